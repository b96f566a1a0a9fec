/-
  Scripts, plain: of what is read from a text of at most 20,000 bytes all may be printed: how many there are of each, and their numbers.
-/
import Derived.Test.YtefaaginedideaaGreatDoorPrB
import Derived.Test.YtefaaginedideaaGreatDoorPrI
namespace Go.Proofs.YtefaaginedideaaGreatDoor
set_option linter.unusedSimpArgs false
set_option linter.unusedVariables false
open Go.RowKit Own RegJ
open Go.Lib hiding intOf

theorem fm_ge (d : UInt8) : ∀ L : List Txt, L.length ≤ (L.flatMap fun x => d :: x).length
  | [] => Nat.le_refl _
  | x :: r => by
    have := fm_ge d r
    rw [List.flatMap_cons, List.length_append, List.length_cons, List.length_cons]; omega
theorem lines_le (s : Txt) : (linesF s).length ≤ s.length := by
  unfold linesF
  split
  · simp
  · split
    · have := spc_len 10 s
      rw [List.length_dropLast]; omega
    · rename_i hs hl
      rcases List.eq_nil_or_concat (spc 10 s) with h | ⟨r, x, h⟩
      · exact absurd h (spc_ne 10 s)
      · have hf := congrArg List.length (spc_flat 10 s)
        rw [List.concat_eq_append] at h
        have hx : x ≠ [] := fun e => hl (by rw [h, e]; exact List.getLast?_concat)
        have h1 := fm_ge 10 r
        have h2 : 1 ≤ x.length := by cases x with
          | nil => exact absurd rfl hx
          | cons _ _ => simp
        rw [h, List.flatMap_append, List.length_append, List.length_cons] at hf
        simp only [List.flatMap_cons, List.flatMap_nil, List.append_nil, List.length_cons] at hf
        rw [h, List.length_append, List.length_singleton]; omega
theorem uses_num {st st' : PSt} {M : Nat} (h : ∀ t ∈ st.c.tasks, t.uses.length ≤ M) {x : Txt} {ns : List Int} (hl : ns.length ≤ M) (hd : doF st x ns = some st') : ∀ t ∈ st'.c.tasks, t.uses.length ≤ M := by
  unfold doF at hd
  split at hd
  · split at hd
    · cases hd; exact h
    · cases hd
  split at hd
  · split at hd
    · cases hd; exact h
    · cases hd
  split at hd
  · split at hd
    · cases hd; exact h
    · cases hd
  split at hd
  · split at hd
    · cases hd; exact h
    · cases hd
  split at hd
  · split at hd
    · rename_i a b c d e f us
      cases hd
      intro t ht
      rcases mem_snoc ht with ht | rfl
      · exact h t ht
      · simp only [List.length_cons] at hl
        show us.length ≤ M
        omega
    · cases hd
  split at hd
  · split at hd
    · cases hd; exact h
    · cases hd
  split at hd
  · split at hd
    · cases hd; exact h
    · cases hd
  · cases hd
theorem uses_op {st : PSt} {M : Nat} (h : ∀ t ∈ st.c.tasks, t.uses.length ≤ M) (o : OpV) : ∀ t ∈ (addOp st o).c.tasks, t.uses.length ≤ M := by
  unfold addOp
  split
  · intro t ht
    rcases mem_modLast ht with ht | ⟨x, hx, rfl⟩
    · exact h t ht
    · exact h x hx
  · exact h
theorem uses_line {st st' : PSt} {M : Nat} (h : ∀ t ∈ st.c.tasks, t.uses.length ≤ M) {l : Txt} (hl : l.length ≤ M) (hd : lineF st l = some st') : ∀ t ∈ st'.c.tasks, t.uses.length ≤ M := by
  have hsl := spc_len 32 l
  unfold lineF at hd
  split at hd
  · cases hd
  · rename_i w r hs
    rw [hs, List.length_cons] at hsl
    split at hd
    · split at hd
      · cases hd
      · rw [Option.map_eq_some_iff] at hd
        obtain ⟨o, ho, rfl⟩ := hd
        exact uses_op h o
    · split at hd
      · rename_i ns hns
        exact uses_num h (by have := nums_len r ns hns; omega) hd
      · cases hd
theorem read_N : ∀ (ls : List Txt) (st st' : PSt) (i N M : Nat), (∀ l ∈ ls, l.length ≤ M) → Sz st N → (∀ t ∈ st.c.tasks, t.uses.length ≤ M) → readF st i ls = .ok st' → Sz st' (N + ls.length) ∧ ∀ t ∈ st'.c.tasks, t.uses.length ≤ M
  | [], st, st', i, N, M, _, h, hu, hr => by cases hr; exact ⟨h, hu⟩
  | l :: r, st, st', i, N, M, hl, h, hu, hr => by
    rw [readF] at hr
    split at hr
    · rename_i s1 h1
      have := read_N r s1 st' (i + 1) (N + 1) M (fun y hy => hl y (by simp [hy])) (h.line h1) (uses_line hu (hl l (by simp)) h1) hr
      rw [List.length_cons, show N + (r.length + 1) = N + 1 + r.length by omega]
      exact this
    · cases hr
theorem parse_N (s : Txt) (hs : s.length ≤ 20000) : CfgN (parseF s).1 20000 ∧ (parseF s).2.1.length ≤ 20000 := by
  have hz : CfgN cfg0 20000 := ⟨by simp [cfg0], by simp [cfg0], by simp [cfg0], by simp [cfg0], fun t h => (by cases h), fun t h => (by cases h)⟩
  unfold parseF
  split
  · exact ⟨hz, by simp⟩
  · split
    · rename_i st hr
      obtain ⟨h1, h2⟩ := read_N _ _ _ _ 0 20000 (fun l hm => by have := lines_mem hm; omega) ⟨by simp [pst0, cfg0], by simp [pst0, cfg0], by simp [pst0, cfg0], by simp [pst0, cfg0], by simp [pst0, cfg0], fun t ht => (by cases ht), fun t ht => (by cases ht)⟩ (fun t ht => (by cases ht)) hr
      have hl := lines_le s
      have h3 := h1.mono (M := 20000) (by omega)
      unfold Sz at h3
      obtain ⟨z1, z2, z3, z4, z5, z6, z7⟩ := h3
      exact ⟨⟨by assumption, by assumption, by assumption, by assumption, fun t ht => ⟨h2 t ht, z6 t ht⟩, fun b hb => z7 b hb⟩, by assumption⟩
    · exact ⟨hz, by simp⟩
theorem inR_good {x : Int} (h : goodB x = true) : InR x := by have := good_to h; unfold InR; omega
theorem OkC.rng {c : CfgV} {es : List EvV} (h : OkC c es) : CfgR c ∧ EvsR es := by
  refine ⟨⟨inR_good h.f, inR_good h.d, fun m hm => ⟨inR_good (h.m m hm).1, inR_good (h.m m hm).2⟩, fun g hg => inR_good (h.g g hg), fun t ht => ?_, fun b hb => ?_⟩, fun e he => ?_⟩
  · have h1 := (task_goods (h.t t ht)).1
    have h2 := good_to (h1 (t.li + 1) (by unfold taskNs; simp))
    exact ⟨inR_good (h1 _ (by unfold taskNs; simp)), inR_good (h1 _ (by unfold taskNs; simp)), inR_good (h1 _ (by unfold taskNs; simp)), inR_good (h1 _ (by unfold taskNs; simp)), inR_good (h1 _ (by unfold taskNs; simp)), by unfold InR; omega, fun u hu => inR_good (h1 u (by unfold taskNs; simp [hu]))⟩
  · exact inR_good ((eff_goods (h.b b hb)).1 _ (by simp))
  · have h1 := ev_goods (h.e e he)
    have h2 := good_to (h1 (e.line + 1) (by simp))
    exact ⟨inR_good (h1 _ (by simp)), by unfold InR; omega, inR_good (h1 _ (by simp))⟩
theorem OkC.prE {c : CfgV} {es : List EvV} (h : OkC c es) : printE c es = 0 ∨ (printE c es = 3 ∧ printT c es = []) := by
  unfold printT printE
  rw [if_neg (by rw [h.ok]; decide)]
  split
  · exact .inr ⟨rfl, rfl⟩
  · exact .inl rfl
theorem parse_nil : parseF [] = (cfg0, [], 0, 0) := by kernel_rfl
theorem printT_no {c : CfgV} {es : List EvV} (h : printE c es ≠ 0) : printT c es = [] := by unfold printT; rw [if_neg h]
theorem parse_err (s : Txt) : (parseF s).2.2.2 = 0 ∨ (parseF s).2.2.2 ≠ 0 := by omega
end Go.Proofs.YtefaaginedideaaGreatDoor
