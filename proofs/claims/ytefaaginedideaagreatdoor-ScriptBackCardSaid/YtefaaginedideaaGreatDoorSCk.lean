/-
  Script: steps of a configuration in memory: one more task, thread or step. Plain facts on worlds.
-/
import Derived.Test.YtefaaginedideaaGreatDoorCore
namespace Go.Proofs.YtefaaginedideaaGreatDoor
set_option linter.unusedSimpArgs false
set_option linter.unusedVariables false
open Go.RowKit Own RegJ
open Go.Lib hiding intOf

theorem Distinct.ins {a b : List (Option Nat)} (h : Distinct (a ++ b)) : Distinct (a ++ [none] ++ b) := by
  have key : ∀ (i g : Nat), (a ++ [none] ++ b)[i]? = some (some g) → (i < a.length ∧ (a ++ b)[i]? = some (some g)) ∨ (a.length < i ∧ (a ++ b)[i - 1]? = some (some g)) := by
    intro i g hi
    rcases Nat.lt_trichotomy i a.length with h1 | h1 | h1
    · rw [List.append_assoc, List.getElem?_append_left h1] at hi
      exact .inl ⟨h1, by rw [List.getElem?_append_left h1]; exact hi⟩
    · subst h1
      rw [List.append_assoc, List.getElem?_append_right (Nat.le_refl _), Nat.sub_self] at hi
      simp at hi
    · rw [List.getElem?_append_right (by simp; omega)] at hi
      refine .inr ⟨h1, ?_⟩
      rw [List.getElem?_append_right (by omega)]
      rw [← hi]; congr 1; simp; omega
  intro i j g hi hj
  rcases key i g hi with ⟨h1, e1⟩ | ⟨h1, e1⟩ <;> rcases key j g hj with ⟨h2, e2⟩ | ⟨h2, e2⟩
  · exact h _ _ _ e1 e2
  · have := h _ _ _ e1 e2; omega
  · have := h _ _ _ e1 e2; omega
  · have := h _ _ _ e1 e2; omega
theorem Distinct.set {l : List (Option Nat)} (h : Distinct l) (k : Nat) (b : Option Nat) (hb : ∀ g, b = some g → l[k]? = some (some g) ∨ ∀ j : Nat, l[j]? ≠ some (some g)) : Distinct (l.set k b) := by
  intro i j g hi hj
  rw [List.getElem?_set] at hi hj
  by_cases h1 : k = i <;> by_cases h2 : k = j
  · omega
  · rw [if_pos h1] at hi
    rw [if_neg h2] at hj
    split at hi
    · have hbg : b = some g := Option.some.inj hi
      rcases hb g hbg with h3 | h3
      · have := h _ _ _ h3 hj; omega
      · exact absurd hj (h3 j)
    · cases hi
  · rw [if_neg h1] at hi
    rw [if_pos h2] at hj
    split at hj
    · have hbg : b = some g := Option.some.inj hj
      rcases hb g hbg with h3 | h3
      · have := h _ _ _ h3 hi; omega
      · exact absurd hi (h3 i)
    · cases hj
  · rw [if_neg h1] at hi
    rw [if_neg h2] at hj
    exact h _ _ _ hi hj
theorem at_snoc {α : Type} {l : List α} {x y : α} {i : Nat} (h : (l ++ [x])[i]? = some y) : l[i]? = some y ∨ (i = l.length ∧ y = x) := by
  rcases Nat.lt_or_ge i l.length with h1 | h1
  · rw [List.getElem?_append_left h1] at h; exact .inl h
  · rw [List.getElem?_append_right h1] at h
    have : i - l.length = 0 := by
      have := (List.getElem?_eq_some_iff.1 h).1
      simp at this; omega
    rw [this] at h
    simp at h
    exact .inr ⟨by omega, h.symm⟩
theorem at_snoc2 {α β : Type} {l : List α} {m : List β} (hl : m.length = l.length) {x y : α} {u v : β} {i : Nat} (h : (l ++ [x])[i]? = some y) (k : (m ++ [u])[i]? = some v) : (l[i]? = some y ∧ m[i]? = some v) ∨ (y = x ∧ v = u) := by
  rcases at_snoc h with h1 | ⟨h1, h2⟩
  · rcases at_snoc k with k1 | ⟨k1, k2⟩
    · exact .inl ⟨h1, k1⟩
    · have := (List.getElem?_eq_some_iff.1 h1).1; omega
  · rcases at_snoc k with k1 | ⟨k1, k2⟩
    · have := (List.getElem?_eq_some_iff.1 k1).1; omega
    · exact .inr ⟨h2, k2⟩
section
variable {w w' : World} {B : Nat} {c : CfgV} {tv bv mv gv : Value} {tq : List TQ} {eq : List EQ} {tb bb mb gb : Option Nat}
/-- one more task -/
theorem Core.task (h : Core w B c tv bv mv gv tq eq tb bb mb gb) (hBw : B ≤ w.heap.size) {t : TaskV} {uv v : Value} (hp : t.prog = [])
    (hA : AppR w 89 8 (c.tasks.length + 1) (tCells c.tasks tq ++ taskCs t ⟨uv, .slice none 0 0, none⟩) tb v w') (hU : UsesOk w' uv t.uses gb) :
    ∃ tb', Core w' B { c with tasks := c.tasks ++ [t] } v bv mv gv (tq ++ [⟨uv, .slice none 0 0, none⟩]) eq tb' bb mb gb ∧ Upd (fun k => tb = some k) w w' ∧ Rw w' 89 8 v (c.tasks.length + 1) (tCells (c.tasks ++ [t]) (tq ++ [⟨uv, .slice none 0 0, none⟩])) tb' := by
  obtain ⟨tb', hR, hu, hb⟩ := hA
  rw [tCells_app h.lt] at hR
  have hR0 := hR
  rw [show c.tasks.length + 1 = (c.tasks ++ [t]).length by simp] at hR
  have ne : ∀ {T : TypeId} {sz n : Nat} {v : Value} {cs : List Value} {b : Option Nat}, Rw w T sz v n cs b → T ≠ 89 → Rw w' T sz v n cs b := fun hR hT => hR.upd hu (hR.neR h.rt hT)
  refine ⟨tb', ⟨by simp [h.lt], h.le, hR, ne h.re (by decide), ne h.rm (by decide), ne h.rg (by decide), fun i t' q' ht hq => ?_, fun i t' q' ht hq => ?_, fun i t' q' ht hq => ne (h.pe i t' q' ht hq) (by decide), ?_, fun g hg => ?_⟩, hu, hR0⟩
  · rcases at_snoc2 h.lt ht hq with ⟨h1, h2⟩ | ⟨rfl, rfl⟩
    · exact (h.us i t' q' h1 h2).upd hu (fun g cs hB _ hf => h.rt.neT hB (by decide) hf)
    · exact hU
  · rcases at_snoc2 h.lt ht hq with ⟨h1, h2⟩ | ⟨rfl, rfl⟩
    · exact ne (h.pt i t' q' h1 h2) (by decide)
    · rw [hp]; exact Rw.nil _ _ _
  · rw [List.map_append]; exact Distinct.ins h.pd
  · rcases hg with e | e | e | e | ⟨q, hq, e⟩ | e
    · rcases hb g e with e | e
      · exact h.lo g (.inl e)
      · omega
    · exact h.lo g (.inr (.inl e))
    · exact h.lo g (.inr (.inr (.inl e)))
    · exact h.lo g (.inr (.inr (.inr (.inl e))))
    · rw [List.mem_append, List.mem_singleton] at hq
      rcases hq with hq | rfl
      · exact h.lo g (.inr (.inr (.inr (.inr (.inl ⟨q, hq, e⟩)))))
      · cases e
    · exact h.lo g (.inr (.inr (.inr (.inr (.inr e)))))
/-- one more thread -/
theorem Core.eff (h : Core w B c tv bv mv gv tq eq tb bb mb gb) (hBw : B ≤ w.heap.size) {t : EffV} {v : Value} (hp : t.prog = [])
    (hA : AppR w 92 2 (c.best.length + 1) (eCells c.best eq ++ effCs t ⟨.slice none 0 0, none⟩) bb v w') :
    ∃ bb', Core w' B { c with best := c.best ++ [t] } tv v mv gv tq (eq ++ [⟨.slice none 0 0, none⟩]) tb bb' mb gb ∧ Upd (fun k => bb = some k) w w' ∧ Rw w' 92 2 v (c.best.length + 1) (eCells (c.best ++ [t]) (eq ++ [⟨.slice none 0 0, none⟩])) bb' := by
  obtain ⟨bb', hR, hu, hb⟩ := hA
  rw [eCells_app h.le] at hR
  have hR0 := hR
  rw [show c.best.length + 1 = (c.best ++ [t]).length by simp] at hR
  have ne : ∀ {T : TypeId} {sz n : Nat} {v : Value} {cs : List Value} {b : Option Nat}, Rw w T sz v n cs b → T ≠ 92 → Rw w' T sz v n cs b := fun hR hT => hR.upd hu (hR.neR h.re hT)
  refine ⟨bb', ⟨h.lt, by simp [h.le], ne h.rt (by decide), hR, ne h.rm (by decide), ne h.rg (by decide), fun i t' q' ht hq => ?_, fun i t' q' ht hq => ne (h.pt i t' q' ht hq) (by decide), fun i t' q' ht hq => ?_, ?_, fun g hg => ?_⟩, hu, hR0⟩
  · exact (h.us i t' q' ht hq).upd hu (fun g cs hB _ hf => h.re.neT hB (by decide) hf)
  · rcases at_snoc2 h.le ht hq with ⟨h1, h2⟩ | ⟨rfl, rfl⟩
    · exact ne (h.pe i t' q' h1 h2) (by decide)
    · rw [hp]; exact Rw.nil _ _ _
  · have h1 : Distinct ((tq.map (·.pb) ++ eq.map (·.pb)) ++ []) := by rw [List.append_nil]; exact h.pd
    have h2 := h1.ins
    rw [List.append_nil, List.append_assoc] at h2
    rw [List.map_append]
    exact h2
  · rcases hg with e | e | e | e | e | ⟨q, hq, e⟩
    · exact h.lo g (.inl e)
    · rcases hb g e with e | e
      · exact h.lo g (.inr (.inl e))
      · omega
    · exact h.lo g (.inr (.inr (.inl e)))
    · exact h.lo g (.inr (.inr (.inr (.inl e))))
    · exact h.lo g (.inr (.inr (.inr (.inr (.inl e)))))
    · rw [List.mem_append, List.mem_singleton] at hq
      rcases hq with hq | rfl
      · exact h.lo g (.inr (.inr (.inr (.inr (.inr ⟨q, hq, e⟩)))))
      · cases e
theorem pb_lt (h : Core w B c tv bv mv gv tq eq tb bb mb gb) {j g : Nat} (hj : (tq.map (·.pb) ++ eq.map (·.pb))[j]? = some (some g)) : g < w.heap.size := by
  rcases Nat.lt_or_ge j (tq.map (·.pb)).length with h1 | h1
  · rw [List.getElem?_append_left h1, List.getElem?_map] at hj
    rw [List.length_map] at h1
    rw [List.getElem?_eq_getElem h1] at hj
    simp at hj
    have hc : j < c.tasks.length := by rw [← h.lt]; exact h1
    exact (h.pt j _ _ (List.getElem?_eq_getElem hc) (List.getElem?_eq_getElem h1)).lt g hj
  · rw [List.getElem?_append_right h1, List.getElem?_map] at hj
    have h2 : j - (tq.map (·.pb)).length < eq.length := by
      apply Classical.byContradiction
      intro hn
      rw [List.getElem?_eq_none (by omega)] at hj
      simp at hj
    rw [List.getElem?_eq_getElem h2] at hj
    simp only [Option.map_some, Option.some.injEq] at hj
    exact (h.pe _ _ _ (List.getElem?_eq_getElem (by rw [← h.le]; exact h2)) (List.getElem?_eq_getElem h2)).lt g hj
/-- one more step of a task -/
theorem Core.stepT (h : Core w B c tv bv mv gv tq eq tb bb mb gb) (hBw : B ≤ w.heap.size) {i g : Nat} {t : TaskV} {q : TQ} (hg : tb = some g) (ht : c.tasks[i]? = some t) (hq : tq[i]? = some q) {o : OpV} {v : Value}
    (hA : AppR w 25 9 (t.prog.length + 1) (oCells t.prog ++ opCs o) q.pb v w') :
    ∃ q', Core (w'.setCell ⟨g, i * 8 + 7, none⟩ v) B { c with tasks := c.tasks.set i { t with prog := t.prog ++ [o] } } tv bv mv gv (tq.set i q') eq tb bb mb gb ∧ Upd (fun k => q.pb = some k ∨ k = g) w (w'.setCell ⟨g, i * 8 + 7, none⟩ v) := by
  obtain ⟨b', hR, hu, hb⟩ := hA
  subst hg
  rw [oCells_app] at hR
  have hi : i < c.tasks.length := (List.getElem?_eq_some_iff.1 ht).1
  have hiq : i < tq.length := (List.getElem?_eq_some_iff.1 hq).1
  have ne : ∀ {T : TypeId} {sz n : Nat} {v : Value} {cs : List Value} {b : Option Nat}, Rw w T sz v n cs b → T ≠ 25 → Rw w' T sz v n cs b := fun hR hT => hR.upd hu (hR.neR (h.pt i t q ht hq) hT)
  have hrt := ne h.rt (by decide)
  have hu2 : Upd (fun k => k = g) w' (w'.setCell ⟨g, i * 8 + 7, none⟩ v) := (Upd.refl (fun k => k = g) w').setCell (p := ⟨g, i * 8 + 7, none⟩) (fun _ => rfl) v
  have nt : ∀ {T : TypeId} {sz n : Nat} {v : Value} {cs : List Value} {b : Option Nat}, Rw w' T sz v n cs b → T ≠ 89 → Rw (w'.setCell ⟨g, i * 8 + 7, none⟩ _) T sz v n cs b := fun hR hT => hR.upd hu2 (fun k hk e => by subst e; exact hR.neR hrt hT k hk rfl)
  have hst := hrt.set (i * 8 + 7) (by rw [hrt.1]; omega) v
  rw [tCells_set h.lt ht hq (t.prog ++ [o]) v b'] at hst
  have dq : (tq.map (·.pb) ++ eq.map (·.pb))[i]? = some q.pb := by
    rw [List.getElem?_append_left (by simpa using hiq), List.getElem?_map, hq]; rfl
  refine ⟨{ q with pv := v, pb := b' }, ⟨by simp [h.lt], h.le, ?_, nt (ne h.re (by decide)) (by decide), nt (ne h.rm (by decide)) (by decide), nt (ne h.rg (by decide)) (by decide), fun j t' q' ht' hq' => ?_, fun j t' q' ht' hq' => ?_, fun j t' q' ht' hq' => ?_, ?_, fun k hk => ?_⟩, ?_⟩
  · simpa using hst
  · have h1 : UsesOk w q'.uv t'.uses gb := by
      rw [List.getElem?_set] at ht' hq'
      by_cases e : i = j
      · rw [if_pos e, if_pos (by omega)] at ht' hq'
        cases ht'; cases hq'
        exact h.us i t q ht hq
      · rw [if_neg e] at ht' hq'
        exact h.us j t' q' ht' hq'
    exact (h1.upd hu (fun k cs hB _ hf => (h.pt i t q ht hq).neT hB (by decide) hf)).upd hu2 (fun k cs hB _ e => by subst e; exact hrt.neT hB (by decide) rfl)
  · rw [List.getElem?_set] at ht' hq'
    by_cases e : i = j
    · rw [if_pos e, if_pos (by omega)] at ht' hq'
      cases ht'; cases hq'
      have := nt (v := v) hR (by decide)
      simpa using this
    · rw [if_neg e] at ht' hq'
      refine nt ((h.pt j t' q' ht' hq').upd hu fun k hk hf => ?_) (by decide)
      have dj : (tq.map (·.pb) ++ eq.map (·.pb))[j]? = some q'.pb := by
        rw [List.getElem?_append_left (by simpa using (List.getElem?_eq_some_iff.1 hq').1), List.getElem?_map, hq']; rfl
      rw [hk] at dj
      rw [hf] at dq
      exact e (h.pd i j k dq dj)
  · refine nt ((h.pe j t' q' ht' hq').upd hu fun k hk hf => ?_) (by decide)
    have dj : (tq.map (·.pb) ++ eq.map (·.pb))[tq.length + j]? = some q'.pb := by
      rw [List.getElem?_append_right (by simp), List.getElem?_map]; simp [hq']
    rw [hk] at dj
    rw [hf] at dq
    have := h.pd i _ k dq dj
    omega
  · have : (tq.set i { q with pv := v, pb := b' }).map (·.pb) ++ eq.map (·.pb) = (tq.map (·.pb) ++ eq.map (·.pb)).set i b' := by
      rw [List.map_set, List.set_append_left _ _ (by simpa using hiq)]
    rw [this]
    refine h.pd.set i b' fun k hk => ?_
    rcases hb k hk with e | e
    · exact .inl (by rw [dq, e])
    · exact .inr fun j hj => by have := pb_lt h hj; omega
  · rcases hk with e | e | e | e | ⟨q2, hq2, e⟩ | e
    · exact h.lo k (.inl e)
    · exact h.lo k (.inr (.inl e))
    · exact h.lo k (.inr (.inr (.inl e)))
    · exact h.lo k (.inr (.inr (.inr (.inl e))))
    · rcases List.mem_or_eq_of_mem_set hq2 with hm | rfl
      · exact h.lo k (.inr (.inr (.inr (.inr (.inl ⟨q2, hm, e⟩)))))
      · rcases hb k e with e | e
        · exact h.lo k (.inr (.inr (.inr (.inr (.inl ⟨q, List.mem_of_getElem? hq, e⟩)))))
        · omega
    · exact h.lo k (.inr (.inr (.inr (.inr (.inr e)))))
  · exact (Upd.mono (G := fun k => q.pb = some k ∨ k = g) hu fun k _ hk => Or.inl hk).trans hu2 fun k _ hk => Or.inr hk
/-- one more step of a thread -/
theorem Core.stepE (h : Core w B c tv bv mv gv tq eq tb bb mb gb) (hBw : B ≤ w.heap.size) {i g : Nat} {t : EffV} {q : EQ} (hg : bb = some g) (ht : c.best[i]? = some t) (hq : eq[i]? = some q) {o : OpV} {v : Value}
    (hA : AppR w 25 9 (t.prog.length + 1) (oCells t.prog ++ opCs o) q.pb v w') :
    ∃ q', Core (w'.setCell ⟨g, i * 2 + 1, none⟩ v) B { c with best := c.best.set i { t with prog := t.prog ++ [o] } } tv bv mv gv tq (eq.set i q') tb bb mb gb ∧ Upd (fun k => q.pb = some k ∨ k = g) w (w'.setCell ⟨g, i * 2 + 1, none⟩ v) := by
  obtain ⟨b', hR, hu, hb⟩ := hA
  subst hg
  rw [oCells_app] at hR
  have hi : i < c.best.length := (List.getElem?_eq_some_iff.1 ht).1
  have hiq : i < eq.length := (List.getElem?_eq_some_iff.1 hq).1
  have ne : ∀ {T : TypeId} {sz n : Nat} {v : Value} {cs : List Value} {b : Option Nat}, Rw w T sz v n cs b → T ≠ 25 → Rw w' T sz v n cs b := fun hR hT => hR.upd hu (hR.neR (h.pe i t q ht hq) hT)
  have hrt := ne h.re (by decide)
  have hu2 : Upd (fun k => k = g) w' (w'.setCell ⟨g, i * 2 + 1, none⟩ v) := (Upd.refl (fun k => k = g) w').setCell (p := ⟨g, i * 2 + 1, none⟩) (fun _ => rfl) v
  have nt : ∀ {T : TypeId} {sz n : Nat} {v : Value} {cs : List Value} {b : Option Nat}, Rw w' T sz v n cs b → T ≠ 92 → Rw (w'.setCell ⟨g, i * 2 + 1, none⟩ _) T sz v n cs b := fun hR hT => hR.upd hu2 (fun k hk e => by subst e; exact hR.neR hrt hT k hk rfl)
  have hst := hrt.set (i * 2 + 1) (by rw [hrt.1]; omega) v
  rw [eCells_set h.le ht hq (t.prog ++ [o]) v b'] at hst
  have dq : (tq.map (·.pb) ++ eq.map (·.pb))[tq.length + i]? = some q.pb := by
    rw [List.getElem?_append_right (by simp), List.getElem?_map]; simp [hq]
  refine ⟨{ q with pv := v, pb := b' }, ⟨h.lt, by simp [h.le], nt (ne h.rt (by decide)) (by decide), ?_, nt (ne h.rm (by decide)) (by decide), nt (ne h.rg (by decide)) (by decide), fun j t' q' ht' hq' => ?_, fun j t' q' ht' hq' => ?_, fun j t' q' ht' hq' => ?_, ?_, fun k hk => ?_⟩, ?_⟩
  · simpa using hst
  · exact ((h.us j t' q' ht' hq').upd hu (fun k cs hB _ hf => (h.pe i t q ht hq).neT hB (by decide) hf)).upd hu2 (fun k cs hB _ e => by subst e; exact hrt.neT hB (by decide) rfl)
  · refine nt ((h.pt j t' q' ht' hq').upd hu fun k hk hf => ?_) (by decide)
    have hjl := (List.getElem?_eq_some_iff.1 hq').1
    have dj : (tq.map (·.pb) ++ eq.map (·.pb))[j]? = some q'.pb := by
      rw [List.getElem?_append_left (by simpa using hjl), List.getElem?_map, hq']; rfl
    rw [hk] at dj
    rw [hf] at dq
    have := h.pd j _ k dj dq
    omega
  · rw [List.getElem?_set] at ht' hq'
    by_cases e : i = j
    · rw [if_pos e, if_pos (by omega)] at ht' hq'
      cases ht'; cases hq'
      have := nt (v := v) hR (by decide)
      simpa using this
    · rw [if_neg e] at ht' hq'
      refine nt ((h.pe j t' q' ht' hq').upd hu fun k hk hf => ?_) (by decide)
      have dj : (tq.map (·.pb) ++ eq.map (·.pb))[tq.length + j]? = some q'.pb := by
        rw [List.getElem?_append_right (by simp), List.getElem?_map]; simp [hq']
      rw [hk] at dj
      rw [hf] at dq
      have := h.pd _ _ k dq dj
      omega
  · have : tq.map (·.pb) ++ (eq.set i { q with pv := v, pb := b' }).map (·.pb) = (tq.map (·.pb) ++ eq.map (·.pb)).set (tq.length + i) b' := by
      rw [List.map_set, List.set_append_right _ _ (by simp)]
      simp
    rw [this]
    refine h.pd.set _ b' fun k hk => ?_
    rcases hb k hk with e | e
    · exact .inl (by rw [dq, e])
    · exact .inr fun j hj => by have := pb_lt h hj; omega
  · rcases hk with e | e | e | e | e | ⟨q2, hq2, e⟩
    · exact h.lo k (.inl e)
    · exact h.lo k (.inr (.inl e))
    · exact h.lo k (.inr (.inr (.inl e)))
    · exact h.lo k (.inr (.inr (.inr (.inl e))))
    · exact h.lo k (.inr (.inr (.inr (.inr (.inl e)))))
    · rcases List.mem_or_eq_of_mem_set hq2 with hm | rfl
      · exact h.lo k (.inr (.inr (.inr (.inr (.inr ⟨q2, hm, e⟩)))))
      · rcases hb k e with e | e
        · exact h.lo k (.inr (.inr (.inr (.inr (.inr ⟨q, List.mem_of_getElem? hq, e⟩)))))
        · omega
  · exact (Upd.mono (G := fun k => q.pb = some k ∨ k = g) hu fun k _ hk => Or.inl hk).trans hu2 fun k _ hk => Or.inr hk
end
end Go.Proofs.YtefaaginedideaaGreatDoor
