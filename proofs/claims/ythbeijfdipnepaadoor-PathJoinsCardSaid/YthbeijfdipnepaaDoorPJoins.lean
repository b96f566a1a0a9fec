/-
  PathJoins: the walk.
-/
import Derived.Test.YthbeijfdipnepaaDoorPSplits
namespace Go.Proofs.YthbeijfdipnepaaDoor
set_option linter.unusedSimpArgs false
set_option linter.unusedVariables false
open Go.RowKit Own RegJ
open Go.Lib hiding intOf

set_option maxRecDepth 100000 in
theorem joins_long (av : Option Addr) (n c : Nat) (hs : 20 < n) (hm63 : n ≤ maxLen) (w : World) (m : Int) (hm : w.cell? ⟨0, 0, none⟩ = some (.int .i64 m)) :
    Calls Tryd.prog 4 #[.slice av n c] w (ValB (.bool true) w) := by
  have d1 : decide ((n : Int) > 20) = true := by simp; omega
  have ha := awake_any w m hm
  clear hm hs
  go_enter Tryd.func4, Tryd.ntmps4
  go_wp2_with (go_at_call 6; refine ha.mono ?_; rintro e w1 ⟨rfl, hB⟩)
  go_ret
  exact ⟨rfl, hB⟩
set_option maxRecDepth 100000 in
theorem joins_walk (av : Option Addr) (n c : Nat) (xs : List Txt) (hl : n ≤ 20) (hc : n ≤ c) (w : World) (hR : RdT w av xs) (hn : xs.length = n) (hsz : ∀ x ∈ xs, x.length ≤ maxLen) (m : Int) (hm : w.cell? ⟨0, 0, none⟩ = some (.int .i64 m)) :
    Calls Tryd.prog 4 #[.slice av n c] w (ValB (.bool true) w) := by
  have d1 : decide ((n : Int) > 20) = false := by simp; omega
  have HR := Lib.hid (And.intro hR (And.intro hn hsz))
  have haw : ∀ w', Below w.heap.size w w' → Calls Tryd.prog 6 #[] w' (ValB (.bool true) w') := fun w' h => awake_any w' m (max_below h hm)
  have HF : Hid (∀ w', Below w.heap.size w w' → Calls Tryd.prog 16 #[.slice av n c] w' (ValB (.tuple #[.string (B (joinR xs)), .int .i64 (everyE xs)]) w') ∧ Calls Tryd.prog 17 #[.slice av n c] w' (ValB (.tuple #[.string (B (joinR xs)), .int .i64 (everyE xs)]) w')) := Lib.hid (fun w' h => by
    have h1 := hR.below h
    exact ⟨join_is n c h1 hn hc (by unfold maxLen; omega), rjoin_is n c h1 hn (by unfold maxLen; omega)⟩)
  have ha0 := haw w (Below.refl _ _)
  have HA := Lib.hid haw
  clear hm hR hn hsz haw
  generalize B (joinR xs) = J at *
  generalize everyE xs = E at *
  go_enter Tryd.func4, Tryd.ntmps4
  go_wp2_with (fail)
  go_loopw [3] (fun ix wr => ∃ i : Nat, i ≤ n ∧ ix = .int .i64 i ∧ wr = w) (fun ix _ => n - (intOf ix).toNat)
  case atStart => exact ⟨0, Nat.zero_le _, rfl, rfl⟩
  case round =>
    obtain ⟨i, hi, rfl, rfl⟩ := hrel
    by_cases hil : i < n
    · obtain ⟨x, hx⟩ : ∃ x, xs[i]? = some x := ⟨xs[i]'(by rw [HR.out.2.1]; exact hil), List.getElem?_eq_getElem _⟩
      obtain ⟨g, o, rfl, k0⟩ := HR.out.1 i x hx
      have hxl := HR.out.2.2 x (List.mem_of_getElem? hx)
      clear hx
      have d2 : decide ((i : Int) < (n : Int)) = true := by simp; omega
      have i1 : (i : Int) < (n : Int) := by omega
      have i2 : (0 : Int) ≤ i := by omega
      have hbs : (B x).size ≤ maxLen := by rw [B_size]; exact hxl
      clear hxl
      generalize B x = s at *
      by_cases hx2 : 200 < s.size
      · have d3 : decide ((s.size : Int) > 200) = true := by simp; omega
        clear hx2
        go_wp2_with (go_at_call 6; refine ha0.mono ?_; rintro e w1 ⟨rfl, hB⟩)
        go_ret
        exact ⟨rfl, hB⟩
      · have d3 : decide ((s.size : Int) > 200) = false := by simp; omega
        clear hx2
        go_wp2_with (fail)
        go_roundw
        case rel => exact ⟨i + 1, by omega, by go_num, by trivial⟩
        case measure => simp [intOf]; omega
    · have d2 : decide ((i : Int) < (n : Int)) = false := by simp; omega
      have d2n : decide (i < n) = false := by simp; omega
      have hj := (HF.out _ (Below.refl _ _)).1
      clear hil hi
      go_wp2_with (first
        | (go_at_call 16; refine hj.mono ?_; rintro e w1 ⟨rfl, hB⟩; clear hj; have H1 := Lib.hid hB; have hj2 := (HF.out _ hB).2; clear hB)
        | (go_at_call 17; (with_reducible refine hj2.mono ?_); rintro e w2 ⟨rfl, hB⟩; clear hj2; have H2 := Lib.hid (below_two H1.out hB); have haw := HA.out _ H2.out; clear hB)
        | (go_at_call 12; refine (num_is _ _).mono ?_; rintro e w' ⟨rfl, rfl⟩)
        | (go_at_call 6; (with_reducible refine haw.mono ?_); rintro e w9 ⟨rfl, hB⟩))
      go_ret
      exact ⟨rfl, below_two H2.out hB⟩
theorem joins_all (av : Option Addr) (n c : Nat) (xs : List Txt) (w : World) (hm63 : n ≤ maxLen) (hc : n ≤ c) (hR : RdT w av xs) (hn : xs.length = n) (hsz : ∀ x ∈ xs, x.length ≤ maxLen) (m : Int) (hm : w.cell? ⟨0, 0, none⟩ = some (.int .i64 m)) :
    Calls Tryd.prog 4 #[.slice av n c] w fun e w' => e = .returned (.bool true) ∧ Below w.heap.size w w' := by
  by_cases hl : 20 < n
  · exact joins_long av n c hl hm63 w m hm
  · exact joins_walk av n c xs (by omega) hc w hR hn hsz m hm
end Go.Proofs.YthbeijfdipnepaaDoor
