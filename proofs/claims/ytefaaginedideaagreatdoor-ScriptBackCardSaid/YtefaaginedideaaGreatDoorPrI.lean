/-
  Scripts, plain: what is read may all be written.
-/
import Derived.Test.YtefaaginedideaaGreatDoorPrP
import Derived.Test.YtefaaginedideaaGreatDoorSPar
namespace Go.Proofs.YtefaaginedideaaGreatDoor
set_option linter.unusedSimpArgs false
set_option linter.unusedVariables false
open Go.RowKit Own RegJ
open Go.Lib hiding intOf

theorem mem_modLast {α : Type} {f : α → α} {l : List α} {y : α} (h : y ∈ modLast f l) : y ∈ l ∨ ∃ x ∈ l, y = f x := by
  unfold modLast at h
  split at h
  · rename_i x hx
    rw [List.mem_append, List.mem_singleton] at h
    rcases h with h | h
    · exact .inl ((List.dropLast_sublist _).subset h)
    · exact .inr ⟨x, List.mem_of_getLast? hx, h⟩
  · cases h
structure OkC (c : CfgV) (es : List EvV) : Prop where
  f : goodB c.frames = true
  d : goodB c.dog = true
  m : ∀ m ∈ c.mtx, goodB m.1 = true ∧ goodB m.2 = true
  g : ∀ g ∈ c.gaps, goodB g = true
  t : ∀ t ∈ c.tasks, okTask t = true
  b : ∀ b ∈ c.best, okEff b = true
  e : ∀ e ∈ es, okEv e = true
  u : ∀ t ∈ c.tasks, t.uses.length ≤ 100000
theorem OkC.ok {c : CfgV} {es : List EvV} (h : OkC c es) : okCfg c es = true := by
  unfold okCfg
  simp only [Bool.and_eq_true, List.all_eq_true]
  exact ⟨⟨⟨⟨⟨⟨h.f, h.d⟩, fun m hm => h.m m hm⟩, h.g⟩, h.t⟩, h.b⟩, h.e⟩
theorem good_of {x : Int} (h : 0 ≤ x ∧ x ≤ 999999) : goodB x = true := by unfold goodB; rw [decide_eq_true h.1, decide_eq_true h.2]; rfl
theorem good_to {x : Int} (h : goodB x = true) : 0 ≤ x ∧ x ≤ 999999 := by unfold goodB at h; simpa using h
theorem stepF_may {ws : List Txt} {o : OpV} (h : stepF ws = some o) : mayO o = true := by
  unfold stepF at h
  split at h
  · split at h
    · split at h
      · split at h
        · rename_i hh; cases h; exact hh.2
        · cases h
      · cases h
    · split at h
      · split at h
        · split at h
          · rename_i hh; cases h; exact hh
          · cases h
        · cases h
      · cases h
  · cases h
theorem OkC.op {st : PSt} (h : OkC st.c st.es) {o : OpV} (ho : mayO o = true) : OkC (addOp st o).c (addOp st o).es := by
  unfold addOp
  split
  · refine ⟨h.f, h.d, h.m, h.g, fun t ht => ?_, h.b, h.e, fun t ht => ?_⟩
    · rcases mem_modLast ht with ht | ⟨x, hx, rfl⟩
      · exact h.t t ht
      · have := h.t x hx
        unfold okTask at this ⊢
        rw [Bool.and_eq_true] at this ⊢
        refine ⟨this.1, ?_⟩
        have h2 := this.2
        unfold okOps at h2 ⊢
        rw [List.all_append, h2]
        simp [ho]
    · rcases mem_modLast ht with ht | ⟨x, hx, rfl⟩
      · exact h.u t ht
      · exact h.u x hx
  · refine ⟨h.f, h.d, h.m, h.g, h.t, fun t ht => ?_, h.e, h.u⟩
    rcases mem_modLast ht with ht | ⟨x, hx, rfl⟩
    · exact h.b t ht
    · have := h.b x hx
      unfold okEff at this ⊢
      rw [Bool.and_eq_true] at this ⊢
      refine ⟨this.1, ?_⟩
      have h2 := this.2
      unfold okOps at h2 ⊢
      rw [List.all_append, h2]
      simp [ho]
theorem mem_snoc {α : Type} {l : List α} {x y : α} (h : y ∈ l ++ [x]) : y ∈ l ∨ y = x := by
  rw [List.mem_append, List.mem_singleton] at h; exact h
theorem OkC.num {st st' : PSt} (h : OkC st.c st.es) {x : Txt} {ns : List Int} (hg : ∀ n ∈ ns, 0 ≤ n ∧ n ≤ 999999) (hl : ns.length ≤ 90000) (hd : doF st x ns = some st') : OkC st'.c st'.es := by
  unfold doF at hd
  split at hd
  · split at hd
    · cases hd; exact ⟨good_of (hg _ (by simp)), h.d, h.m, h.g, h.t, h.b, h.e, h.u⟩
    · cases hd
  split at hd
  · split at hd
    · cases hd; exact ⟨h.f, good_of (hg _ (by simp)), h.m, h.g, h.t, h.b, h.e, h.u⟩
    · cases hd
  split at hd
  · split at hd
    · cases hd
      refine ⟨h.f, h.d, fun m hm => ?_, h.g, h.t, h.b, h.e, h.u⟩
      rcases mem_snoc hm with hm | rfl
      · exact h.m m hm
      · exact ⟨good_of (hg _ (by simp)), good_of (hg _ (by simp))⟩
    · cases hd
  split at hd
  · split at hd
    · cases hd
      refine ⟨h.f, h.d, h.m, fun m hm => ?_, h.t, h.b, h.e, h.u⟩
      rcases mem_snoc hm with hm | rfl
      · exact h.g m hm
      · exact good_of (hg _ (by simp))
    · cases hd
  split at hd
  · split at hd
    · rename_i a b c d e f us
      cases hd
      refine ⟨h.f, h.d, h.m, h.g, fun t ht => ?_, h.b, h.e, fun t ht => ?_⟩
      · rcases mem_snoc ht with ht | rfl
        · exact h.t t ht
        · unfold okTask okOps
          rw [Bool.and_eq_true]
          refine ⟨?_, rfl⟩
          rw [List.all_eq_true]
          intro y hy
          unfold taskNs at hy
          refine good_of ?_
          have e1 : f - 1 + 1 = f := by omega
          rw [e1] at hy
          exact hg y (by simpa using hy)
      · rcases mem_snoc ht with ht | rfl
        · exact h.u t ht
        · simp at hl; show us.length ≤ 100000; omega
    · cases hd
  split at hd
  · split at hd
    · cases hd
      refine ⟨h.f, h.d, h.m, h.g, h.t, fun t ht => ?_, h.e, h.u⟩
      rcases mem_snoc ht with ht | rfl
      · exact h.b t ht
      · unfold okEff okOps
        rw [Bool.and_eq_true]
        exact ⟨good_of (hg _ (by simp)), rfl⟩
    · cases hd
  split at hd
  · split at hd
    · rename_i a b c
      cases hd
      refine ⟨h.f, h.d, h.m, h.g, h.t, h.b, fun e he => ?_, h.u⟩
      rcases mem_snoc he with he | rfl
      · exact h.e e he
      · unfold okEv
        have e1 : b - 1 + 1 = b := by omega
        simp only
        rw [e1, good_of (hg a (by simp)), good_of (hg b (by simp)), good_of (hg c (by simp))]
        rfl
    · cases hd
  · cases hd
theorem OkC.line {st st' : PSt} (h : OkC st.c st.es) {l : Txt} (hl : l.length ≤ 80000) (hd : lineF st l = some st') : OkC st'.c st'.es := by
  have hsl := spc_len 32 l
  unfold lineF at hd
  split at hd
  · cases hd
  · rename_i w r hs
    rw [hs, List.length_cons] at hsl
    split at hd
    · split at hd
      · cases hd
      · rw [Option.map_eq_some_iff] at hd
        obtain ⟨o, ho, rfl⟩ := hd
        exact h.op (stepF_may ho)
    · split at hd
      · rename_i ns hns
        exact h.num (nums_good hns) (by have := nums_len r ns hns; omega) hd
      · cases hd
theorem OkC.nil : OkC pst0.c pst0.es := ⟨by decide, by decide, fun m h => (by cases h), fun m h => (by cases h), fun m h => (by cases h), fun m h => (by cases h), fun m h => (by cases h), fun m h => (by cases h)⟩
theorem read_okC : ∀ (ls : List Txt) (st st' : PSt) (i : Nat), (∀ l ∈ ls, l.length ≤ 80000) → OkC st.c st.es → readF st i ls = .ok st' → OkC st'.c st'.es
  | [], st, st', i, _, h, hr => by cases hr; exact h
  | l :: r, st, st', i, hl, h, hr => by
    rw [readF] at hr
    split at hr
    · rename_i s1 h1
      exact read_okC r s1 st' (i + 1) (fun y hy => hl y (by simp [hy])) (h.line (hl l (by simp)) h1) hr
    · cases hr
theorem lines_mem {s : Txt} {l : Txt} (h : l ∈ linesF s) : l.length ≤ s.length := by
  have h2 := spc_mem 10 s
  unfold linesF at h
  split at h
  · cases h
  · split at h
    · exact (h2 l ((List.dropLast_sublist _).subset h)).2
    · exact (h2 l h).2
theorem parse_okC (s : Txt) : OkC (parseF s).1 (parseF s).2.1 := by
  unfold parseF
  split
  · exact OkC.nil
  · rename_i hl
    split
    · rename_i st hr
      exact read_okC _ _ _ _ (fun l hm => by have := lines_mem hm; omega) OkC.nil hr
    · exact OkC.nil
end Go.Proofs.YtefaaginedideaaGreatDoor
