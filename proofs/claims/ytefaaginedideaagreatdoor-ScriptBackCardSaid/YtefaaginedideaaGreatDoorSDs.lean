/-
  Script: the state of the document's reading in memory. Plain facts on worlds.
-/
import Derived.Test.YtefaaginedideaaGreatDoorSPar
namespace Go.Proofs.YtefaaginedideaaGreatDoor
set_option linter.unusedSimpArgs false
set_option linter.unusedVariables false
open Go.RowKit Own RegJ
open Go.Lib hiding intOf

abbrev dsCs (tv bv mv gv : Value) (f d : Int) : Array Value := #[tv, bv, mv, gv, .int .i64 f, .int .i64 d]
def DSC (w : World) (B : Nat) (st : PSt) (cb : Nat) (ev tv bv mv gv : Value) (tq : List TQ) (eq : List EQ) (tb bb mb gb eb : Option Nat) : Prop := B ≤ cb ∧ B ≤ w.heap.size ∧ Blk w cb (dsCs tv bv mv gv st.c.frames st.c.dog) 41 ∧ Core w B st.c tv bv mv gv tq eq tb bb mb gb ∧ Rw w 58 3 ev st.es.length (vCells st.es) eb ∧ (∀ g, eb = some g → B ≤ g) ∧ (st.act = 1 → st.c.tasks ≠ []) ∧ (st.act = 2 → st.c.best ≠ []) ∧ st.act ≤ 2
def DS (w : World) (B : Nat) (st : PSt) (cb : Nat) (ev : Value) : Prop := ∃ tv bv mv gv tq eq tb bb mb gb eb, DSC w B st cb ev tv bv mv gv tq eq tb bb mb gb eb
theorem cT : 41 ≠ 89 ∧ 41 ≠ 92 ∧ 41 ≠ 87 ∧ 41 ≠ 3 ∧ 41 ≠ 25 := by decide
section
variable {w W w1 : World} {B cb : Nat} {st : PSt} {ev tv bv mv gv : Value} {tq : List TQ} {eq : List EQ} {tb bb mb gb eb : Option Nat}
theorem DSC.below (h : DSC w B st cb ev tv bv mv gv tq eq tb bb mb gb eb) (hb : Below w.heap.size w W) : DSC W B st cb ev tv bv mv gv tq eq tb bb mb gb eb := by
  obtain ⟨h1, h2, h3, h4, h5, h6, h7⟩ := h
  exact ⟨h1, Nat.le_trans h2 hb.size, Blk.below hb h3 h3.lt, h4.below hb, h5.below hb, h6, h7⟩
theorem DS.below (h : DS w B st cb ev) (hb : Below w.heap.size w W) : DS W B st cb ev := by
  obtain ⟨_, _, _, _, _, _, _, _, _, _, _, h⟩ := h
  exact ⟨_, _, _, _, _, _, _, _, _, _, _, h.below hb⟩
theorem DSC.ds (h : DSC w B st cb ev tv bv mv gv tq eq tb bb mb gb eb) : DS w B st cb ev := ⟨_, _, _, _, _, _, _, _, _, _, _, h⟩
theorem DSC.frames (h : DSC w B st cb ev tv bv mv gv tq eq tb bb mb gb eb) (x : Int) : DS (w.setCell ⟨cb, 4, none⟩ (.int .i64 x)) B { st with c := { st.c with frames := x } } cb ev ∧ Below B w (w.setCell ⟨cb, 4, none⟩ (.int .i64 x)) := by
  obtain ⟨h1, h2, h3, h4, h5, h6, h7⟩ := h
  have hu : Upd (fun k => k = cb) w (w.setCell ⟨cb, 4, none⟩ (.int .i64 x)) := (Upd.refl (fun k => k = cb) w).setCell (p := ⟨cb, 4, none⟩) (fun _ => rfl) _
  exact ⟨⟨tv, bv, mv, gv, tq, eq, tb, bb, mb, gb, eb, h1, by simpa using h2, Blk.of (h3.set 4 _) rfl, (h4.hdr h3 cT 4 _).fd _ _, h5.upd hu (fun g hg e => by subst e; exact h5.neT h3 (by decide) hg), h6, h7⟩, set_below h1 h2 _⟩
theorem DSC.dog (h : DSC w B st cb ev tv bv mv gv tq eq tb bb mb gb eb) (x : Int) : DS (w.setCell ⟨cb, 5, none⟩ (.int .i64 x)) B { st with c := { st.c with dog := x } } cb ev ∧ Below B w (w.setCell ⟨cb, 5, none⟩ (.int .i64 x)) := by
  obtain ⟨h1, h2, h3, h4, h5, h6, h7⟩ := h
  have hu : Upd (fun k => k = cb) w (w.setCell ⟨cb, 5, none⟩ (.int .i64 x)) := (Upd.refl (fun k => k = cb) w).setCell (p := ⟨cb, 5, none⟩) (fun _ => rfl) _
  exact ⟨⟨tv, bv, mv, gv, tq, eq, tb, bb, mb, gb, eb, h1, by simpa using h2, Blk.of (h3.set 5 _) rfl, (h4.hdr h3 cT 5 _).fd _ _, h5.upd hu (fun g hg e => by subst e; exact h5.neT h3 (by decide) hg), h6, h7⟩, set_below h1 h2 _⟩
theorem DSC.mtx (h : DSC w B st cb ev tv bv mv gv tq eq tb bb mb gb eb) (hbW : Below w.heap.size w W) {x y : Int} {v : Value} (hA : AppR W 87 2 (st.c.mtx.length + 1) (mCells st.c.mtx ++ [.int .i64 x, .int .i64 y]) mb v w1) :
    DS (w1.setCell ⟨cb, 2, none⟩ v) B { st with c := { st.c with mtx := st.c.mtx ++ [(x, y)] } } cb ev ∧ Below B w (w1.setCell ⟨cb, 2, none⟩ v) := by
  obtain ⟨h1, h2, h3, h4, h5, h6, h7⟩ := h
  have h3W := Blk.below hbW h3 h3.lt
  have h4W := h4.below hbW
  have h5W := h5.below hbW
  have h2W : B ≤ W.heap.size := Nat.le_trans h2 hbW.size
  obtain ⟨mb', h4', hu⟩ := h4W.mtx h2W hA
  have h3' := Blk.upd hu h3W (h4W.rm.neT h3W (by decide))
  have h5' := h5W.upd hu (h5W.neR h4W.rm (by decide))
  have hu2 : Upd (fun k => k = cb) w1 (w1.setCell ⟨cb, 2, none⟩ v) := (Upd.refl (fun k => k = cb) w1).setCell (p := ⟨cb, 2, none⟩) (fun _ => rfl) _
  have hb1 : Below B W w1 := hu.below h2W (fun k hk => h4.lo k (.inr (.inr (.inl hk))))
  have hb2 : Below B w w1 := (hbW.mono h2).trans hb1
  have hs1 : B ≤ w1.heap.size := Nat.le_trans h2W hu.size
  exact ⟨⟨tv, bv, v, gv, tq, eq, tb, bb, mb', gb, eb, h1, by simpa using hs1, Blk.of (h3'.set 2 _) rfl, h4'.hdr h3' cT 2 _, h5'.upd hu2 (fun g hg e => by subst e; exact h5'.neT h3' (by decide) hg), h6, h7⟩, hb2.trans (set_below h1 hs1 _)⟩
theorem DSC.gap (h : DSC w B st cb ev tv bv mv gv tq eq tb bb mb gb eb) (hbW : Below w.heap.size w W) {x : Int} {v : Value} (hA : AppR W 3 1 (st.c.gaps.length + 1) (icells st.c.gaps ++ [.int .i64 x]) gb v w1) :
    DS (w1.setCell ⟨cb, 3, none⟩ v) B { st with c := { st.c with gaps := st.c.gaps ++ [x] } } cb ev ∧ Below B w (w1.setCell ⟨cb, 3, none⟩ v) := by
  obtain ⟨h1, h2, h3, h4, h5, h6, h7⟩ := h
  have h3W := Blk.below hbW h3 h3.lt
  have h4W := h4.below hbW
  have h5W := h5.below hbW
  have h2W : B ≤ W.heap.size := Nat.le_trans h2 hbW.size
  obtain ⟨gb', h4', hu⟩ := h4W.gap h2W hA
  have h3' := Blk.upd hu h3W (h4W.rg.neT h3W (by decide))
  have h5' := h5W.upd hu (h5W.neR h4W.rg (by decide))
  have hu2 : Upd (fun k => k = cb) w1 (w1.setCell ⟨cb, 3, none⟩ v) := (Upd.refl (fun k => k = cb) w1).setCell (p := ⟨cb, 3, none⟩) (fun _ => rfl) _
  have hb1 : Below B W w1 := hu.below h2W (fun k hk => h4.lo k (.inr (.inr (.inr (.inl hk)))))
  have hb2 : Below B w w1 := (hbW.mono h2).trans hb1
  have hs1 : B ≤ w1.heap.size := Nat.le_trans h2W hu.size
  exact ⟨⟨tv, bv, mv, v, tq, eq, tb, bb, mb, gb', eb, h1, by simpa using hs1, Blk.of (h3'.set 3 _) rfl, h4'.hdr h3' cT 3 _, h5'.upd hu2 (fun g hg e => by subst e; exact h5'.neT h3' (by decide) hg), h6, h7⟩, hb2.trans (set_below h1 hs1 _)⟩
theorem DSC.at (h : DSC w B st cb ev tv bv mv gv tq eq tb bb mb gb eb) (hbW : Below w.heap.size w W) {x y z : Int} {v : Value} (hA : AppR W 58 3 (st.es.length + 1) (vCells st.es ++ [.int .i64 x, .int .i64 (y - 1), .int .i64 z]) eb v w1) :
    DS w1 B { st with es := st.es ++ [⟨x, y - 1, z⟩] } cb v ∧ Below B w w1 := by
  obtain ⟨h1, h2, h3, h4, h5, h6, h7⟩ := h
  have h3W := Blk.below hbW h3 h3.lt
  have h4W := h4.below hbW
  have h5W := h5.below hbW
  have h2W : B ≤ W.heap.size := Nat.le_trans h2 hbW.size
  obtain ⟨eb', hR, hu, hb⟩ := hA
  have hv := vCells_app st.es ⟨x, y - 1, z⟩
  simp only at hv
  rw [hv, show st.es.length + 1 = (st.es ++ [(⟨x, y - 1, z⟩ : EvV)]).length by simp] at hR
  have h4' := h4W.keep hu (fun g cs T hB hf => (by
    obtain ⟨cap, rest, _, hB', _⟩ := h5W.blk g hf
    unfold Blk at hB hB'
    rw [hB] at hB'
    cases hB'
    decide))
  have h3' := Blk.upd hu h3W (h5W.neT h3W (by decide))
  have hb1 : Below B W w1 := hu.below h2W (fun k hk => h6 k hk)
  have hb2 : Below B w w1 := (hbW.mono h2).trans hb1
  have hs1 : B ≤ w1.heap.size := Nat.le_trans h2W hu.size
  refine ⟨⟨tv, bv, mv, gv, tq, eq, tb, bb, mb, gb, eb', h1, hs1, h3', h4', hR, fun g hg => ?_, h7⟩, hb2⟩
  rcases hb g hg with e | e
  · exact h6 g e
  · omega
theorem DSC.best (h : DSC w B st cb ev tv bv mv gv tq eq tb bb mb gb eb) (hbW : Below w.heap.size w W) {x : Int} {v : Value} (hA : AppR W 92 2 (st.c.best.length + 1) (eCells st.c.best eq ++ [.int .i64 x, .slice none 0 0]) bb v w1) :
    DS (w1.setCell ⟨cb, 1, none⟩ v) B { st with c := { st.c with best := st.c.best ++ [⟨x, []⟩] }, act := 2 } cb ev ∧ Below B w (w1.setCell ⟨cb, 1, none⟩ v) := by
  obtain ⟨h1, h2, h3, h4, h5, h6, h7⟩ := h
  have h3W := Blk.below hbW h3 h3.lt
  have h4W := h4.below hbW
  have h5W := h5.below hbW
  have h2W : B ≤ W.heap.size := Nat.le_trans h2 hbW.size
  obtain ⟨bb', h4', hu, hR⟩ := h4W.eff (t := ⟨x, []⟩) h2W rfl hA
  have h3' := Blk.upd hu h3W (h4W.re.neT h3W (by decide))
  have h5' := h5W.upd hu (h5W.neR h4W.re (by decide))
  have hu2 : Upd (fun k => k = cb) w1 (w1.setCell ⟨cb, 1, none⟩ v) := (Upd.refl (fun k => k = cb) w1).setCell (p := ⟨cb, 1, none⟩) (fun _ => rfl) _
  have hb1 : Below B W w1 := hu.below h2W (fun k hk => h4.lo k (.inr (.inl hk)))
  have hb2 : Below B w w1 := (hbW.mono h2).trans hb1
  have hs1 : B ≤ w1.heap.size := Nat.le_trans h2W hu.size
  exact ⟨⟨tv, v, mv, gv, tq, _, tb, bb', mb, gb, eb, h1, by simpa using hs1, Blk.of (h3'.set 1 _) rfl, h4'.hdr h3' cT 1 _, h5'.upd hu2 (fun g hg e => by subst e; exact h5'.neT h3' (by decide) hg), h6, fun e => (by cases e), fun _ => by simp, by simp⟩, hb2.trans (set_below h1 hs1 _)⟩
theorem DSC.task {w0 : World} (h : DSC w0 B st cb ev tv bv mv gv tq eq tb bb mb gb eb) (hbw : Below w0.heap.size w0 w) (hbW : Below w.heap.size w W) {t : TaskV} (hp : t.prog = []) {uv v : Value} (hU : ∀ gb, (∀ g, gb = some g → g < w0.heap.size) → UsesOk w uv t.uses gb)
    (hA : AppR W 89 8 (st.c.tasks.length + 1) (tCells st.c.tasks tq ++ taskCs t ⟨uv, .slice none 0 0, none⟩) tb v w1) :
    DS (w1.setCell ⟨cb, 0, none⟩ v) B { st with c := { st.c with tasks := st.c.tasks ++ [t] }, act := 1 } cb ev ∧ Below B w (w1.setCell ⟨cb, 0, none⟩ v) := by
  obtain ⟨h1, h2, h3, h4, h5, h6, h7⟩ := h.below hbw
  have hU2 := hU gb (fun g hg => h.2.2.2.1.rg.lt g hg)
  have h3W := Blk.below hbW h3 h3.lt
  have h4W := h4.below hbW
  have h5W := h5.below hbW
  have h2W : B ≤ W.heap.size := Nat.le_trans h2 hbW.size
  have hUW := hU2.upd (Upd.of_below (F := fun _ => False) hbW) (fun _ _ _ _ hf => hf)
  obtain ⟨tb0, _, hu0, _⟩ := id hA
  have hU1 := hUW.upd hu0 (fun g cs hB _ hf => h4W.rt.neT hB (by decide) hf)
  obtain ⟨tb', h4', hu, hR⟩ := h4W.task h2W hp hA hU1
  have h3' := Blk.upd hu h3W (h4W.rt.neT h3W (by decide))
  have h5' := h5W.upd hu (h5W.neR h4W.rt (by decide))
  have hu2 : Upd (fun k => k = cb) w1 (w1.setCell ⟨cb, 0, none⟩ v) := (Upd.refl (fun k => k = cb) w1).setCell (p := ⟨cb, 0, none⟩) (fun _ => rfl) _
  have hb1 : Below B W w1 := hu.below h2W (fun k hk => h4.lo k (.inl hk))
  have hb2 : Below B w w1 := (hbW.mono h2).trans hb1
  have hs1 : B ≤ w1.heap.size := Nat.le_trans h2W hu.size
  exact ⟨⟨v, bv, mv, gv, _, eq, tb', bb, mb, gb, eb, h1, by simpa using hs1, Blk.of (h3'.set 0 _) rfl, h4'.hdr h3' cT 0 _, h5'.upd hu2 (fun g hg e => by subst e; exact h5'.neT h3' (by decide) hg), h6, fun _ => by simp, fun e => (by cases e), by simp⟩, hb2.trans (set_below h1 hs1 _)⟩
/-- a step of the last task -/
theorem DSC.stepT (h : DSC w B st cb ev tv bv mv gv tq eq tb bb mb gb eb) (h0 : st.act = 1) (hbW : Below w.heap.size w W) {n g : Nat} {t : TaskV} {q : TQ} (htb : tb = some g) (hn : st.c.tasks.length = n + 1) (ht : st.c.tasks[n]? = some t) (hq : tq[n]? = some q) {o : OpV} {v : Value}
    (hA : AppR W 25 9 (t.prog.length + 1) (oCells t.prog ++ opCs o) q.pb v w1) : DS (w1.setCell ⟨g, n * 8 + 7, none⟩ v) B (addOp st o) cb ev ∧ Below B w (w1.setCell ⟨g, n * 8 + 7, none⟩ v) := by
  obtain ⟨h1, h2, h3, h4, h5, h6, h7, h8, h9⟩ := h
  have h3W := Blk.below hbW h3 h3.lt
  have h4W := h4.below hbW
  have h5W := h5.below hbW
  have h2W : B ≤ W.heap.size := Nat.le_trans h2 hbW.size
  obtain ⟨q', h4', hu⟩ := h4W.stepT h2W htb ht hq hA
  have hF : ∀ (S : TypeId) (k : Nat) (cs : Array Value), Blk W k cs S → S ≠ 25 → S ≠ 89 → ¬ (q.pb = some k ∨ k = g) := fun S k cs hB hs1 hs2 hk => by
    rcases hk with hk | rfl
    · exact (h4W.pt n t q ht hq).neT hB (fun e => hs1 e.symm) hk
    · exact h4W.rt.neT hB (fun e => hs2 e.symm) htb
  have h3' := Blk.upd hu h3W (hF _ _ _ h3W (by decide) (by decide))
  have h5' := h5W.upd hu (fun k hk => by
    obtain ⟨_, _, _, hB, _⟩ := h5W.blk k hk
    exact hF _ _ _ hB (by decide) (by decide))
  have hlo : ∀ k, (q.pb = some k ∨ k = g) → B ≤ k := fun k hk => by
    rcases hk with hk | rfl
    · exact h4.lo k (.inr (.inr (.inr (.inr (.inl ⟨q, List.mem_of_getElem? hq, hk⟩)))))
    · exact h4.lo _ (.inl htb)
  have hst : addOp st o = { st with c := { st.c with tasks := st.c.tasks.set n { t with prog := t.prog ++ [o] } } } := by
    unfold addOp
    rw [if_pos h0, modLast_set _ _ n t hn ht]
  rw [hst]
  exact ⟨⟨tv, bv, mv, gv, _, eq, tb, bb, mb, gb, eb, h1, Nat.le_trans h2W hu.size, h3', h4', h5', h6, fun _ e => (by have := congrArg List.length e; simp [hn] at this), fun e => h8 e, h9⟩, (hbW.mono h2).trans (hu.below h2W hlo)⟩
/-- a step of the last thread -/
theorem DSC.stepE (h : DSC w B st cb ev tv bv mv gv tq eq tb bb mb gb eb) (h0 : st.act = 2) (hbW : Below w.heap.size w W) {n g : Nat} {t : EffV} {q : EQ} (htb : bb = some g) (hn : st.c.best.length = n + 1) (ht : st.c.best[n]? = some t) (hq : eq[n]? = some q) {o : OpV} {v : Value}
    (hA : AppR W 25 9 (t.prog.length + 1) (oCells t.prog ++ opCs o) q.pb v w1) : DS (w1.setCell ⟨g, n * 2 + 1, none⟩ v) B (addOp st o) cb ev ∧ Below B w (w1.setCell ⟨g, n * 2 + 1, none⟩ v) := by
  obtain ⟨h1, h2, h3, h4, h5, h6, h7, h8, h9⟩ := h
  have h3W := Blk.below hbW h3 h3.lt
  have h4W := h4.below hbW
  have h5W := h5.below hbW
  have h2W : B ≤ W.heap.size := Nat.le_trans h2 hbW.size
  obtain ⟨q', h4', hu⟩ := h4W.stepE h2W htb ht hq hA
  have hF : ∀ (S : TypeId) (k : Nat) (cs : Array Value), Blk W k cs S → S ≠ 25 → S ≠ 92 → ¬ (q.pb = some k ∨ k = g) := fun S k cs hB hs1 hs2 hk => by
    rcases hk with hk | rfl
    · exact (h4W.pe n t q ht hq).neT hB (fun e => hs1 e.symm) hk
    · exact h4W.re.neT hB (fun e => hs2 e.symm) htb
  have h3' := Blk.upd hu h3W (hF _ _ _ h3W (by decide) (by decide))
  have h5' := h5W.upd hu (fun k hk => by
    obtain ⟨_, _, _, hB, _⟩ := h5W.blk k hk
    exact hF _ _ _ hB (by decide) (by decide))
  have hlo : ∀ k, (q.pb = some k ∨ k = g) → B ≤ k := fun k hk => by
    rcases hk with hk | rfl
    · exact h4.lo k (.inr (.inr (.inr (.inr (.inr ⟨q, List.mem_of_getElem? hq, hk⟩)))))
    · exact h4.lo _ (.inr (.inl htb))
  have hst : addOp st o = { st with c := { st.c with best := st.c.best.set n { t with prog := t.prog ++ [o] } } } := by
    unfold addOp
    rw [if_neg (by omega), modLast_set _ _ n t hn ht]
  rw [hst]
  exact ⟨⟨tv, bv, mv, gv, tq, _, tb, bb, mb, gb, eb, h1, Nat.le_trans h2W hu.size, h3', h4', h5', h6, fun e => h7 e, fun _ e => (by have := congrArg List.length e; simp [hn] at this), h9⟩, (hbW.mono h2).trans (hu.below h2W hlo)⟩
end
end Go.Proofs.YtefaaginedideaaGreatDoor
