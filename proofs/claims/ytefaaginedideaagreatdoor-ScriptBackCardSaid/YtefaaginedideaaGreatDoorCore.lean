/-
  Script: a configuration in memory, as it is read in, with whatever of it the reading owns: plain facts on worlds.
-/
import Derived.Test.YtefaaginedideaaGreatDoorSN
namespace Go.Proofs.YtefaaginedideaaGreatDoor
set_option linter.unusedSimpArgs false
set_option linter.unusedVariables false
open Go.RowKit Own RegJ
open Go.Lib hiding intOf

/-! ### stretches of one length -/
theorem flat_at {n : Nat} : ∀ (bs : List (List Value)) (i k : Nat) (b : List Value), (∀ x ∈ bs, x.length = n) → bs[i]? = some b → k < n → bs.flatten[i * n + k]? = b[k]?
  | [], i, k, b, _, h, _ => by simp at h
  | x :: r, 0, k, b, hl, h, hk => by
    simp at h; subst h
    rw [List.flatten_cons, Nat.zero_mul, Nat.zero_add, List.getElem?_append_left (by rw [hl x (by simp)]; exact hk)]
  | x :: r, i + 1, k, b, hl, h, hk => by
    have hx := hl x (by simp)
    rw [List.flatten_cons, List.getElem?_append_right (by rw [hx, Nat.add_mul]; omega), hx, show (i + 1) * n + k - n = i * n + k by rw [Nat.add_mul]; omega]
    exact flat_at r i k b (fun y hy => hl y (by simp [hy])) (by simpa using h) hk
theorem flat_len {n : Nat} : ∀ (bs : List (List Value)), (∀ x ∈ bs, x.length = n) → bs.flatten.length = bs.length * n
  | [], _ => by simp
  | x :: r, hl => by
    rw [List.flatten_cons, List.length_append, flat_len r (fun y hy => hl y (by simp [hy])), hl x (by simp), List.length_cons, Nat.add_mul]; omega
theorem flat_set {n : Nat} (v : Value) : ∀ (bs : List (List Value)) (i k : Nat) (b : List Value), (∀ x ∈ bs, x.length = n) → bs[i]? = some b → k < n → bs.flatten.set (i * n + k) v = (bs.set i (b.set k v)).flatten
  | [], i, k, b, _, h, _ => by simp at h
  | x :: r, 0, k, b, hl, h, hk => by
    simp at h; subst h
    rw [List.flatten_cons, Nat.zero_mul, Nat.zero_add, List.set_append_left _ _ (by rw [hl x (by simp)]; exact hk)]
    rfl
  | x :: r, i + 1, k, b, hl, h, hk => by
    have hx := hl x (by simp)
    rw [List.flatten_cons, List.set_append_right _ _ (by rw [hx, Nat.add_mul]; omega), hx, show (i + 1) * n + k - n = i * n + k by rw [Nat.add_mul]; omega]
    rw [flat_set v r i k b (fun y hy => hl y (by simp [hy])) (by simpa using h) hk]
    rfl

structure TQ where
  uv : Value
  pv : Value
  pb : Option Nat
structure EQ where
  pv : Value
  pb : Option Nat
abbrev taskCs (t : TaskV) (q : TQ) : List Value := [.int .i64 t.cl, .int .i64 t.lv, .int .i64 t.pe, .int .i64 t.de, .int .i64 t.bu, .int .i64 t.li, q.uv, q.pv]
abbrev effCs (b : EffV) (q : EQ) : List Value := [.int .i64 b.lv, q.pv]
def tCells (ts : List TaskV) (qs : List TQ) : List Value := (List.zipWith taskCs ts qs).flatten
def eCells (ts : List EffV) (qs : List EQ) : List Value := (List.zipWith effCs ts qs).flatten
def oCells (os : List OpV) : List Value := (os.map opCs).flatten
def mCells (ms : List (Int × Int)) : List Value := (ms.map fun m => [Value.int .i64 m.1, .int .i64 m.2]).flatten
def vCells (es : List EvV) : List Value := (es.map fun e => [Value.int .i64 e.tick, .int .i64 e.line, .int .i64 e.task]).flatten
theorem zip_all8 (ts : List TaskV) (qs : List TQ) : ∀ x ∈ List.zipWith taskCs ts qs, x.length = 8 := fun x hx => by
  obtain ⟨i, hi, rfl⟩ := List.getElem_of_mem hx
  rw [List.getElem_zipWith]
  rfl
theorem zip_all2 (ts : List EffV) (qs : List EQ) : ∀ x ∈ List.zipWith effCs ts qs, x.length = 2 := fun x hx => by
  obtain ⟨i, hi, rfl⟩ := List.getElem_of_mem hx
  rw [List.getElem_zipWith]
  rfl
theorem op_all9 (os : List OpV) : ∀ x ∈ os.map opCs, x.length = 9 := fun x hx => by
  rw [List.mem_map] at hx
  obtain ⟨o, _, rfl⟩ := hx
  rfl
theorem ev_all3 (es : List EvV) : ∀ x ∈ es.map fun e => [Value.int .i64 e.tick, .int .i64 e.line, .int .i64 e.task], x.length = 3 := fun x hx => by
  rw [List.mem_map] at hx
  obtain ⟨o, _, rfl⟩ := hx
  rfl
theorem mx_all2 (ms : List (Int × Int)) : ∀ x ∈ ms.map fun m => [Value.int .i64 m.1, .int .i64 m.2], x.length = 2 := fun x hx => by
  rw [List.mem_map] at hx
  obtain ⟨o, _, rfl⟩ := hx
  rfl
theorem zip_at {α β : Type} {f : α → β → List Value} {ts : List α} {qs : List β} {i : Nat} {t : α} {q : β} (ht : ts[i]? = some t) (hq : qs[i]? = some q) : (List.zipWith f ts qs)[i]? = some (f t q) := by
  rw [List.getElem?_zipWith, ht, hq]
theorem tCells_at {ts : List TaskV} {qs : List TQ} {i k : Nat} {t : TaskV} {q : TQ} (ht : ts[i]? = some t) (hq : qs[i]? = some q) (hk : k < 8) : (tCells ts qs)[i * 8 + k]? = (taskCs t q)[k]? := flat_at _ i k _ (zip_all8 ts qs) (zip_at ht hq) hk
theorem eCells_at {ts : List EffV} {qs : List EQ} {i k : Nat} {t : EffV} {q : EQ} (ht : ts[i]? = some t) (hq : qs[i]? = some q) (hk : k < 2) : (eCells ts qs)[i * 2 + k]? = (effCs t q)[k]? := flat_at _ i k _ (zip_all2 ts qs) (zip_at ht hq) hk
theorem tCells_app {ts : List TaskV} {qs : List TQ} (h : qs.length = ts.length) (t : TaskV) (q : TQ) : tCells ts qs ++ taskCs t q = tCells (ts ++ [t]) (qs ++ [q]) := by
  unfold tCells
  rw [List.zipWith_append h.symm, List.flatten_append]
  rfl
theorem eCells_app {ts : List EffV} {qs : List EQ} (h : qs.length = ts.length) (t : EffV) (q : EQ) : eCells ts qs ++ effCs t q = eCells (ts ++ [t]) (qs ++ [q]) := by
  unfold eCells
  rw [List.zipWith_append h.symm, List.flatten_append]
  rfl
theorem oCells_app (os : List OpV) (o : OpV) : oCells os ++ opCs o = oCells (os ++ [o]) := by unfold oCells; simp
theorem mCells_app (ms : List (Int × Int)) (a b : Int) : mCells ms ++ [.int .i64 a, .int .i64 b] = mCells (ms ++ [(a, b)]) := by unfold mCells; simp
theorem vCells_app (es : List EvV) (e : EvV) : vCells es ++ [.int .i64 e.tick, .int .i64 e.line, .int .i64 e.task] = vCells (es ++ [e]) := by unfold vCells; simp
theorem mapLast_zip {α β : Type} {f : α → β → List Value} (ts : List α) (qs : List β) (i : Nat) (t' : α) (q' : β) (hl : qs.length = ts.length) (hi : i < ts.length) : (List.zipWith f ts qs).set i (f t' q') = List.zipWith f (ts.set i t') (qs.set i q') := by
  apply List.ext_getElem?
  intro k
  rw [List.getElem?_set, List.getElem?_zipWith, List.getElem?_zipWith, List.getElem?_set, List.getElem?_set, List.length_zipWith, hl]
  by_cases hk : i = k
  · subst hk
    simp [hi]
  · simp [hk]
/-- a task's steps stored anew -/
theorem tCells_set {ts : List TaskV} {qs : List TQ} {i : Nat} {t : TaskV} {q : TQ} (hl : qs.length = ts.length) (ht : ts[i]? = some t) (hq : qs[i]? = some q) (prog : List OpV) (v : Value) (pb : Option Nat) :
    (tCells ts qs).set (i * 8 + 7) v = tCells (ts.set i { t with prog := prog }) (qs.set i { q with pv := v, pb := pb }) := by
  unfold tCells
  rw [flat_set v _ i 7 (taskCs t q) (zip_all8 ts qs) (zip_at ht hq) (by omega)]
  rw [← mapLast_zip (f := taskCs) ts qs i { t with prog := prog } { q with pv := v, pb := pb } hl (List.getElem?_eq_some_iff.1 ht).1]
  rfl
theorem eCells_set {ts : List EffV} {qs : List EQ} {i : Nat} {t : EffV} {q : EQ} (hl : qs.length = ts.length) (ht : ts[i]? = some t) (hq : qs[i]? = some q) (prog : List OpV) (v : Value) (pb : Option Nat) :
    (eCells ts qs).set (i * 2 + 1) v = eCells (ts.set i { t with prog := prog }) (qs.set i { q with pv := v, pb := pb }) := by
  unfold eCells
  rw [flat_set v _ i 1 (effCs t q) (zip_all2 ts qs) (zip_at ht hq) (by omega)]
  rw [← mapLast_zip (f := effCs) ts qs i { t with prog := prog } { q with pv := v, pb := pb } hl (List.getElem?_eq_some_iff.1 ht).1]
  rfl

/-- the uses of a task, as they lie: no part of the row gb -/
def UsesOk (w : World) (v : Value) (us : List Int) (gb : Option Nat) : Prop := ∃ a c, v = .slice a us.length c ∧ (us = [] ∨ ∃ g o cs, a = some ⟨g, o, none⟩ ∧ gb ≠ some g ∧ Blk w g cs 3 ∧ ∀ k n, us[k]? = some n → cs[o + k]? = some (.int .i64 n))
def Distinct (l : List (Option Nat)) : Prop := ∀ (i j g : Nat), l[i]? = some (some g) → l[j]? = some (some g) → i = j
/-- the configuration in memory -/
structure Core (w : World) (B : Nat) (c : CfgV) (tv bv mv gv : Value) (tq : List TQ) (eq : List EQ) (tb bb mb gb : Option Nat) : Prop where
  lt : tq.length = c.tasks.length
  le : eq.length = c.best.length
  rt : Rw w 89 8 tv c.tasks.length (tCells c.tasks tq) tb
  re : Rw w 92 2 bv c.best.length (eCells c.best eq) bb
  rm : Rw w 87 2 mv c.mtx.length (mCells c.mtx) mb
  rg : Rw w 3 1 gv c.gaps.length (icells c.gaps) gb
  us : ∀ (i : Nat) (t : TaskV) (q : TQ), c.tasks[i]? = some t → tq[i]? = some q → UsesOk w q.uv t.uses gb
  pt : ∀ (i : Nat) (t : TaskV) (q : TQ), c.tasks[i]? = some t → tq[i]? = some q → Rw w 25 9 q.pv t.prog.length (oCells t.prog) q.pb
  pe : ∀ (i : Nat) (t : EffV) (q : EQ), c.best[i]? = some t → eq[i]? = some q → Rw w 25 9 q.pv t.prog.length (oCells t.prog) q.pb
  pd : Distinct (tq.map (·.pb) ++ eq.map (·.pb))
  lo : ∀ g, (tb = some g ∨ bb = some g ∨ mb = some g ∨ gb = some g ∨ (∃ q ∈ tq, q.pb = some g) ∨ (∃ q ∈ eq, q.pb = some g)) → B ≤ g
theorem UsesOk.upd {F : Nat → Prop} {w w' : World} {v : Value} {us : List Int} {gb : Option Nat} (h : UsesOk w v us gb) (hu : Upd F w w') (hF : ∀ g cs, Blk w g cs 3 → gb ≠ some g → ¬ F g) : UsesOk w' v us gb := by
  obtain ⟨a, c, hv, h⟩ := h
  refine ⟨a, c, hv, ?_⟩
  rcases h with h | ⟨g, o, cs, ha, hg, hB, hc⟩
  · exact .inl h
  · exact .inr ⟨g, o, cs, ha, hg, Blk.upd hu hB (hF g cs hB hg), hc⟩
theorem UsesOk.gb {w : World} {v : Value} {us : List Int} {gb gb' : Option Nat} (h : UsesOk w v us gb) (hg : ∀ g, g < w.heap.size → gb' = some g → gb = some g) : UsesOk w v us gb' := by
  obtain ⟨a, c, hv, h⟩ := h
  refine ⟨a, c, hv, ?_⟩
  rcases h with h | ⟨g, o, cs, ha, hgb, hB, hc⟩
  · exact .inl h
  · exact .inr ⟨g, o, cs, ha, fun e => hgb (hg g hB.lt e), hB, hc⟩
/-- a step that turns blocks of another type alone -/
theorem Core.keep {F : Nat → Prop} {w w' : World} {B : Nat} {c : CfgV} {tv bv mv gv : Value} {tq : List TQ} {eq : List EQ} {tb bb mb gb : Option Nat} (h : Core w B c tv bv mv gv tq eq tb bb mb gb) (hu : Upd F w w')
    (hF : ∀ g cs T, Blk w g cs T → F g → T ≠ 89 ∧ T ≠ 92 ∧ T ≠ 87 ∧ T ≠ 3 ∧ T ≠ 25) : Core w' B c tv bv mv gv tq eq tb bb mb gb := by
  have key : ∀ {T : TypeId} {sz n : Nat} {v : Value} {cs : List Value} {b : Option Nat}, Rw w T sz v n cs b → (T = 89 ∨ T = 92 ∨ T = 87 ∨ T = 3 ∨ T = 25) → Rw w' T sz v n cs b := by
    intro T sz n v cs b hR hT
    refine hR.upd hu fun g hg hf => ?_
    obtain ⟨cap, rest, _, hB, _⟩ := hR.blk g hg
    obtain ⟨h1, h2, h3, h4, h5⟩ := hF g _ T hB hf
    rcases hT with e | e | e | e | e
    · exact h1 e
    · exact h2 e
    · exact h3 e
    · exact h4 e
    · exact h5 e
  refine ⟨h.lt, h.le, key h.rt (.inl rfl), key h.re (.inr (.inl rfl)), key h.rm (.inr (.inr (.inl rfl))), key h.rg (.inr (.inr (.inr (.inl rfl)))), fun i t q ht hq => (h.us i t q ht hq).upd hu (fun g cs hB _ hf => (hF g cs _ hB hf).2.2.2.1 rfl), fun i t q ht hq => key (h.pt i t q ht hq) (.inr (.inr (.inr (.inr rfl)))), fun i t q ht hq => key (h.pe i t q ht hq) (.inr (.inr (.inr (.inr rfl)))), h.pd, h.lo⟩
theorem Core.below {w w' : World} {B : Nat} {c : CfgV} {tv bv mv gv : Value} {tq : List TQ} {eq : List EQ} {tb bb mb gb : Option Nat} (h : Core w B c tv bv mv gv tq eq tb bb mb gb) (hb : Below w.heap.size w w') : Core w' B c tv bv mv gv tq eq tb bb mb gb :=
  h.keep (Upd.of_below (F := fun _ => False) hb) (fun _ _ _ _ hf => hf.elim)
/-- a block of the header's type turned -/
theorem Core.hdr {w : World} {B : Nat} {c : CfgV} {tv bv mv gv : Value} {tq : List TQ} {eq : List EQ} {tb bb mb gb : Option Nat} (h : Core w B c tv bv mv gv tq eq tb bb mb gb) {b : Nat} {cs : Array Value} {T : TypeId} (hB : Blk w b cs T)
    (hT : T ≠ 89 ∧ T ≠ 92 ∧ T ≠ 87 ∧ T ≠ 3 ∧ T ≠ 25) (o : Nat) (u : Value) : Core (w.setCell ⟨b, o, none⟩ u) B c tv bv mv gv tq eq tb bb mb gb := by
  refine h.keep ((Upd.refl (fun k => k = b) w).setCell (p := ⟨b, o, none⟩) (fun _ => rfl) u) fun g ds S hS hg => ?_
  subst hg
  unfold Blk at hB hS
  rw [hB] at hS
  cases hS
  exact hT
/-- one more mutex -/
theorem Core.mtx {w w' : World} {B : Nat} {c : CfgV} {tv bv mv gv : Value} {tq : List TQ} {eq : List EQ} {tb bb mb gb : Option Nat} (h : Core w B c tv bv mv gv tq eq tb bb mb gb) (hBw : B ≤ w.heap.size) {a b : Int} {v : Value}
    (hA : AppR w 87 2 (c.mtx.length + 1) (mCells c.mtx ++ [.int .i64 a, .int .i64 b]) mb v w') : ∃ mb', Core w' B { c with mtx := c.mtx ++ [(a, b)] } tv bv v gv tq eq tb bb mb' gb ∧ Upd (fun k => mb = some k) w w' := by
  obtain ⟨mb', hR, hu, hb⟩ := hA
  rw [mCells_app, show c.mtx.length + 1 = (c.mtx ++ [(a, b)]).length by simp] at hR
  have ne : ∀ {T : TypeId} {sz n : Nat} {v : Value} {cs : List Value} {b : Option Nat}, Rw w T sz v n cs b → T ≠ 87 → Rw w' T sz v n cs b := fun hR hT => hR.upd hu (hR.neR h.rm hT)
  refine ⟨mb', ⟨h.lt, h.le, ne h.rt (by decide), ne h.re (by decide), hR, ne h.rg (by decide), fun i t q ht hq => (h.us i t q ht hq).upd hu (fun g cs hB _ hf => h.rm.neT hB (by decide) hf), fun i t q ht hq => ne (h.pt i t q ht hq) (by decide), fun i t q ht hq => ne (h.pe i t q ht hq) (by decide), h.pd, fun g hg => ?_⟩, hu⟩
  rcases hg with e | e | e | e
  · exact h.lo g (.inl e)
  · exact h.lo g (.inr (.inl e))
  · rcases hb g e with e | e
    · exact h.lo g (.inr (.inr (.inl e)))
    · omega
  · exact h.lo g (.inr (.inr (.inr e)))
/-- one more gap -/
theorem Core.gap {w w' : World} {B : Nat} {c : CfgV} {tv bv mv gv : Value} {tq : List TQ} {eq : List EQ} {tb bb mb gb : Option Nat} (h : Core w B c tv bv mv gv tq eq tb bb mb gb) (hBw : B ≤ w.heap.size) {a : Int} {v : Value}
    (hA : AppR w 3 1 (c.gaps.length + 1) (icells c.gaps ++ [.int .i64 a]) gb v w') : ∃ gb', Core w' B { c with gaps := c.gaps ++ [a] } tv bv mv v tq eq tb bb mb gb' ∧ Upd (fun k => gb = some k) w w' := by
  obtain ⟨gb', hR, hu, hb⟩ := hA
  rw [icells_snoc, show c.gaps.length + 1 = (c.gaps ++ [a]).length by simp] at hR
  have ne : ∀ {T : TypeId} {sz n : Nat} {v : Value} {cs : List Value} {b : Option Nat}, Rw w T sz v n cs b → T ≠ 3 → Rw w' T sz v n cs b := fun hR hT => hR.upd hu (hR.neR h.rg hT)
  refine ⟨gb', ⟨h.lt, h.le, ne h.rt (by decide), ne h.re (by decide), ne h.rm (by decide), hR, fun i t q ht hq => ?_, fun i t q ht hq => ne (h.pt i t q ht hq) (by decide), fun i t q ht hq => ne (h.pe i t q ht hq) (by decide), h.pd, fun g hg => ?_⟩, hu⟩
  · obtain ⟨a', c', hv, h2⟩ := h.us i t q ht hq
    refine ⟨a', c', hv, ?_⟩
    rcases h2 with h2 | ⟨g, o, cs, ha, hg, hB, hc⟩
    · exact .inl h2
    · refine .inr ⟨g, o, cs, ha, fun e => ?_, Blk.upd hu hB hg, hc⟩
      rcases hb g e with e' | e'
      · exact hg e'
      · have := hB.lt; omega
  · rcases hg with e | e | e | e | e
    · exact h.lo g (.inl e)
    · exact h.lo g (.inr (.inl e))
    · exact h.lo g (.inr (.inr (.inl e)))
    · rcases hb g e with e | e
      · exact h.lo g (.inr (.inr (.inr (.inl e))))
      · omega
    · exact h.lo g (.inr (.inr (.inr (.inr e))))
end Go.Proofs.YtefaaginedideaaGreatDoor
