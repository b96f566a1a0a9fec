/-
  The queue: New.
-/
import Derived.Test.YtpajebedeacpgaaRx
namespace Go.Proofs.Ytpajebedeacpgaa
set_option linter.unusedSimpArgs false
set_option linter.unusedVariables false
open Go.RowKit Own Sl
open RegJ

def R0 (mb hb : Nat) : Nat → Value := fun j => if j = 0 then .map (some mb) else if j = 131 then .pointer (some ⟨hb, 0, none⟩) else if j = 1 ∨ j = 66 then .int .u64 0 else .slice none 0 0
theorem r0_row (j : Nat) (mb hb : Nat) (h : j ≠ 0 ∧ j ≠ 131 ∧ j ≠ 1 ∧ j ≠ 66) : R0 mb hb j = .slice none 0 0 := by
  unfold R0
  rw [if_neg h.1, if_neg h.2.1, if_neg (by omega)]
def lo0 (s : Nat) : Lo := fun r => match r with | .q => some (s + 2) | .hp => some (s + 1) | .mp => some s | _ => none
theorem r0_cells (mb hb : Nat) : (Try.zeroCells62.setIfInBounds 0 (Value.map (some mb))).setIfInBounds 131 (Value.pointer (some ⟨hb, 0, none⟩)) = rowC (R0 mb hb) := by
  kernel_rfl
theorem qb0 (w : World) (s : Nat) (hs : w.heap.size = s) : QA (((w.alloc (.map #[] 0)).alloc (.cells #[.slice none 0 0] 83)).alloc (.cells (rowC (R0 s (s + 1))) 62)) (s + 2) [] (lo0 s) 0 := by
  subst hs
  have e1 : (w.alloc (.map #[] 0)).heap.size = w.heap.size + 1 := by simp
  have e2 : ((w.alloc (.map #[] 0)).alloc (.cells #[.slice none 0 0] 83)).heap.size = w.heap.size + 2 := by simp
  have hF : ∀ j, FL [] j = [] := fun j => by unfold FL; split <;> rfl
  refine ⟨gd_nil, R0 w.heap.size (w.heap.size + 1), fun _ => 0, ⟨?_, ?_, rfl, ⟨w.heap.size, 0, rfl, rfl, ?_, Nat.le_refl _⟩, ⟨w.heap.size + 1, rfl, rfl, [], List.Perm.refl _, ?_⟩, ?_, ?_, ?_, fun i _ => rfl, fun i => by rw [hF]; simp⟩, ?_⟩
  · intro r r' k h1 h2
    cases r <;> cases r' <;> simp [lo0] at h1 h2 <;> first | rfl | omega
  · intro r k h1
    cases r <;> simp [lo0] at h1 <;> simp <;> omega
  · have h1 := MapI.made w Try.prog 3
    have h2 : MapI (((w.alloc (.map #[] 0)).alloc (.cells #[.slice none 0 0] 83)).alloc (.cells (rowC (R0 w.heap.size (w.heap.size + 1))) 62)) Try.prog 3 w.heap.size 0 0 (fun _ => none) :=
      h1.upd (((Upd.refl (fun _ => False) _).alloc _).alloc _) (fun h => h)
    exact h2
  · have h1 := hp_new (w.alloc (.map #[] 0))
    rw [e1] at h1
    exact h1.upd ((Upd.refl (fun _ => False) _).alloc _) (fun h => h) (fun g hg => by cases hg)
  · exact Blk.new' e2.symm
  · intro r hr
    have : r = 0 ∨ r = 1 := by omega
    rcases this with rfl | rfl <;> rfl
  · intro r i hr hi
    rw [hF, r0_row _ _ _ (by unfold ro; omega)]
    exact Or.inl ⟨rfl, rfl, rfl⟩
  · intro r hr
    refine ⟨by show (0 : Nat) < 18446744073709551616; omega, fun j hj => ?_⟩
    unfold hasL
    rw [hF]
    exact Nat.zero_testBit j
set_option maxRecDepth 100000 in
theorem qnew_is (w : World) : Calls Try.prog 8 #[] w fun e w' => ∃ qb lo, e = .returned (.pointer (some ⟨qb, 0, none⟩)) ∧ QA w' qb [] lo 0 ∧ Below w.heap.size w w' ∧ ∀ r k, lo r = some k → w.heap.size ≤ k := by
  have hmm := @run_makeMap Try.prog
  have hq := qb0 w w.heap.size rfl
  go_enter Try.func8, Try.ntmps8
  go_wp2_with (go_at_call 27; refine (hnew _).mono ?_; rintro e w' ⟨rfl, rfl⟩)
  rw [r0_cells]
  go_returns
  refine ⟨w.heap.size + 2, lo0 w.heap.size, by simp, ?_, ?_, ?_⟩
  · have e1 : (w.alloc (.map #[] 0)).heap.size = w.heap.size + 1 := by simp
    first | exact hq | (rw [e1]; exact hq)
  · exact (((Below.refl _ _).alloc (Nat.le_refl _) _).alloc (by simp) _).alloc (by simp; omega) _
  · intro r k hk
    cases r <;> simp [lo0] at hk <;> omega
end Go.Proofs.Ytpajebedeacpgaa
