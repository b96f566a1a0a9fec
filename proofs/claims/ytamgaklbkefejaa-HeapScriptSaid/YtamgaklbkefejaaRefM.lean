/-
  The document's heap: Has, Min.
-/
import Derived.Test.YtamgaklbkefejaaRefI
namespace Go.Proofs.Ytamgaklbkefejaa
set_option linter.unusedSimpArgs false
set_option linter.unusedVariables false
open Go.RowKit Go.Lib Own
open RegJ hiding Up
open RegF hiding put_size

theorem rat_no {w : World} {bh : Nat} {xs : List It} {b : Option Nat} (h : Rh w bh xs b) (id : Int) (hno : hasB xs id = false) :
    Calls Try.prog 28 #[.pointer (some ⟨bh, 0, none⟩), .int .i64 id] w fun e w' => e = .returned (.int .i64 (-1)) ∧ w = w' := by
  refine (rat_is h id).mono ?_
  rintro e w' ⟨j, rfl, hj, rfl⟩
  rcases hj with ⟨rfl, _⟩ | ⟨m, hm, rfl, hx⟩
  · exact ⟨rfl, rfl⟩
  · rw [(hasB_iff xs id).2 ⟨m, hm, hx⟩] at hno; cases hno
theorem rat_yes {w : World} {bh : Nat} {xs : List It} {b : Option Nat} (h : Rh w bh xs b) (id : Int) (hy : hasB xs id = true) :
    Calls Try.prog 28 #[.pointer (some ⟨bh, 0, none⟩), .int .i64 id] w fun e w' => (∃ m : Nat, e = .returned (.int .i64 m) ∧ m < xs.length ∧ (X xs m).1 = id) ∧ w = w' := by
  refine (rat_is h id).mono ?_
  rintro e w' ⟨j, rfl, hj, rfl⟩
  rcases hj with ⟨rfl, hno⟩ | ⟨m, hm, rfl, hx⟩
  · obtain ⟨c, hc, he⟩ := (hasB_iff xs id).1 hy
    exact absurd he (hno c hc)
  · exact ⟨⟨m, rfl, hm, hx⟩, rfl⟩
theorem rhas_is {w : World} {bh : Nat} {xs : List It} {b : Option Nat} (h : Rh w bh xs b) (id : Int) (r : Bool) (hr : hasB xs id = r) :
    Calls Try.prog 22 #[.pointer (some ⟨bh, 0, none⟩), .int .i64 id] w fun e w' => e = .returned (.bool r) ∧ w = w' := by
  cases r with
  | false =>
    have ha := rat_no h id hr
    clear h hr
    go_enter Try.func22, Try.ntmps22
    go_wp2_with (go_at_call 28; refine ha.mono ?_; rintro e w' ⟨rfl, rfl⟩)
    go_ret
    exact ⟨rfl, rfl⟩
  | true =>
    have ha := rat_yes h id hr
    clear h hr
    go_enter Try.func22, Try.ntmps22
    go_wp2_with (go_at_call 28; refine ha.mono ?_; rintro e w' ⟨⟨m, rfl, hm, hx⟩, rfl⟩)
    go_ret
    exact ⟨by simp, rfl⟩
set_option maxRecDepth 100000 in
theorem rmin_none {w : World} {bh : Nat} {b : Option Nat} (h : Rh w bh [] b) :
    Calls Try.prog 14 #[.pointer (some ⟨bh, 0, none⟩)] w (ValB (IV 0 0 false) w) := by
  have h1 := h.below (Below.alloc (Below.refl w.heap.size w) (Nat.le_refl _) (.cells #[.int .i64 0, .int .i64 0] 44))
  obtain ⟨a, c, hb, hv⟩ := h1.view
  have c1 := hb.rd
  clear h h1 hb hv
  go_enter Try.func14, Try.ntmps14
  go_wp2
  go_returns
  exact ⟨rfl, (Below.refl _ _).alloc (Nat.le_refl _) _⟩
set_option maxRecDepth 100000 in
theorem rmin_some {w : World} {bh : Nat} {xs : List It} {b : Option Nat} (h : Rh w bh xs b) (hne : xs ≠ []) (p q : Int) (hX : X xs 0 = (p, q)) :
    Calls Try.prog 14 #[.pointer (some ⟨bh, 0, none⟩)] w (ValB (IV p q true) w) := by
  have h1 := h.below (Below.alloc (Below.refl w.heap.size w) (Nat.le_refl _) (.cells #[.int .i64 0, .int .i64 0] 44))
  obtain ⟨n, hn⟩ : ∃ n, xs.length = n + 1 := ⟨xs.length - 1, by have := List.length_pos_iff.2 hne; omega⟩
  have hmx := h
  obtain ⟨_, _, _, _, hmax⟩ := hmx
  obtain ⟨a, c, hb, hv⟩ := h1.view
  obtain ⟨g, rfl, k1, k2⟩ := hv 0 (by omega)
  rw [hX] at k1 k2
  rw [hn] at hb hmax
  have c1 := hb.rd
  have i1 : (((n + 1 : Nat) : Int) == 0) = false := by simp; omega
  have i2 : (0 : Int) < ((n : Int) + 1) := by omega
  have i3 : (((n : Int) + 1) == 0) = false := by simp; omega
  simp only [Nat.zero_mul, Nat.zero_add] at k1 k2
  clear h h1 hb hv hX hn hne
  go_enter Try.func14, Try.ntmps14
  go_wp2
  go_returns
  exact ⟨rfl, (Below.refl _ _).alloc (Nat.le_refl _) _⟩
end Go.Proofs.Ytamgaklbkefejaa
