/-
  Priorities: May, Compare.
-/
import Derived.Test.YtpajebedeacpgaaRq
namespace Go.Proofs.Ytpajebedeacpgaa
set_option linter.unusedSimpArgs false
set_option linter.unusedVariables false
open Go.RowKit Own Sl
open RegJ hiding Up
open RegF hiding put_size

theorem blk3 (w : World) (c l d : Int) : Below w.heap.size w (w.alloc (.cells #[.int .i64 c, .int .i64 l, .int .i64 d] 31)) := (Below.refl _ _).alloc (Nat.le_refl _) _
set_option maxRecDepth 100000 in
theorem may_0 (l d : Int) (r : Bool) (hr : may (0, l, d) = r) (w : World) : Calls Try.prog 24 #[.agg #[.int .i64 0, .int .i64 l, .int .i64 d]] w (BoolB r w) := by
  have hB := Lib.hid (blk3 w 0 l d)
  unfold may at hr
  simp only [if_true] at hr
  by_cases h1 : 0 ≤ l
  · have d1 : decide (l ≥ 0) = true := by simpa using h1
    by_cases h2 : l ≤ 15
    · have d2 : decide (l ≤ 15) = true := by simpa using h2
      by_cases h3 : d = 0
      · have d3 : (d == 0) = true := by simpa using h3
        have hR : Hid (true = r) := Lib.hid (by rw [← hr]; simp [h1, h2, h3])
        clear hr h1 h2 h3
        go_enter Try.func24, Try.ntmps24
        go_wp2_with (fail)
        go_ret
        exact ⟨by rw [← hR.out]; simp, hB.out⟩
      · have d3 : (d == 0) = false := by simpa using h3
        have hR : Hid (false = r) := Lib.hid (by rw [← hr]; simp [h1, h2, h3])
        clear hr h1 h2 h3
        go_enter Try.func24, Try.ntmps24
        go_wp2_with (fail)
        go_ret
        exact ⟨by rw [← hR.out]; simp, hB.out⟩
    · have d2 : decide (l ≤ 15) = false := by simpa using h2
      have hR : Hid (false = r) := Lib.hid (by rw [← hr]; simp [h2])
      clear hr h1 h2
      go_enter Try.func24, Try.ntmps24
      go_wp2_with (fail)
      go_ret
      exact ⟨by rw [← hR.out]; simp, hB.out⟩
  · have d1 : decide (l ≥ 0) = false := by simpa using h1
    have hR : Hid (false = r) := Lib.hid (by rw [← hr]; simp [h1])
    clear hr h1
    go_enter Try.func24, Try.ntmps24
    go_wp2_with (fail)
    go_ret
    exact ⟨by rw [← hR.out]; simp, hB.out⟩
set_option maxRecDepth 100000 in
theorem may_1 (l d : Int) (r : Bool) (hr : may (1, l, d) = r) (w : World) : Calls Try.prog 24 #[.agg #[.int .i64 1, .int .i64 l, .int .i64 d]] w (BoolB r w) := by
  have hB := Lib.hid (blk3 w 1 l d)
  unfold may at hr
  rw [if_neg (show ¬ (1 : Int) = 0 by decide), if_pos rfl] at hr
  by_cases h1 : l = 0
  · have d1 : (l == 0) = true := by simpa using h1
    by_cases h2 : 0 ≤ d
    · have d2 : decide (d ≥ 0) = true := by simpa using h2
      by_cases h3 : d ≤ 1099511627776
      · have d3 : decide (d ≤ 1099511627776) = true := by simpa using h3
        have hR : Hid (true = r) := Lib.hid (by rw [← hr]; simp [h1, h2, h3])
        clear hr h1 h2 h3
        go_enter Try.func24, Try.ntmps24
        go_wp2_with (fail)
        go_ret
        exact ⟨by rw [← hR.out]; simp, hB.out⟩
      · have d3 : decide (d ≤ 1099511627776) = false := by simpa using h3
        have hR : Hid (false = r) := Lib.hid (by rw [← hr]; simp [h3])
        clear hr h1 h2 h3
        go_enter Try.func24, Try.ntmps24
        go_wp2_with (fail)
        go_ret
        exact ⟨by rw [← hR.out]; simp, hB.out⟩
    · have d2 : decide (d ≥ 0) = false := by simpa using h2
      have hR : Hid (false = r) := Lib.hid (by rw [← hr]; simp [h2])
      clear hr h1 h2
      go_enter Try.func24, Try.ntmps24
      go_wp2_with (fail)
      go_ret
      exact ⟨by rw [← hR.out]; simp, hB.out⟩
  · have d1 : (l == 0) = false := by simpa using h1
    have hR : Hid (false = r) := Lib.hid (by rw [← hr]; simp [h1])
    clear hr h1
    go_enter Try.func24, Try.ntmps24
    go_wp2_with (fail)
    go_ret
    exact ⟨by rw [← hR.out]; simp, hB.out⟩
set_option maxRecDepth 100000 in
theorem may_2 (l d : Int) (r : Bool) (hr : may (2, l, d) = r) (w : World) : Calls Try.prog 24 #[.agg #[.int .i64 2, .int .i64 l, .int .i64 d]] w (BoolB r w) := by
  have hB := Lib.hid (blk3 w 2 l d)
  unfold may at hr
  rw [if_neg (show ¬ (2 : Int) = 0 by decide), if_neg (show ¬ (2 : Int) = 1 by decide), if_pos rfl] at hr
  by_cases h1 : 0 ≤ l
  · have d1 : decide (l ≥ 0) = true := by simpa using h1
    by_cases h2 : l < 64
    · have d2 : decide (l < 64) = true := by simpa using h2
      by_cases h3 : d = 0
      · have d3 : (d == 0) = true := by simpa using h3
        have hR : Hid (true = r) := Lib.hid (by rw [← hr]; simp [h1, h2, h3])
        clear hr h1 h2 h3
        go_enter Try.func24, Try.ntmps24
        go_wp2_with (fail)
        go_ret
        exact ⟨by rw [← hR.out]; simp, hB.out⟩
      · have d3 : (d == 0) = false := by simpa using h3
        have hR : Hid (false = r) := Lib.hid (by rw [← hr]; simp [h1, h2, h3])
        clear hr h1 h2 h3
        go_enter Try.func24, Try.ntmps24
        go_wp2_with (fail)
        go_ret
        exact ⟨by rw [← hR.out]; simp, hB.out⟩
    · have d2 : decide (l < 64) = false := by simpa using h2
      have hR : Hid (false = r) := Lib.hid (by rw [← hr]; simp [h2])
      clear hr h1 h2
      go_enter Try.func24, Try.ntmps24
      go_wp2_with (fail)
      go_ret
      exact ⟨by rw [← hR.out]; simp, hB.out⟩
  · have d1 : decide (l ≥ 0) = false := by simpa using h1
    have hR : Hid (false = r) := Lib.hid (by rw [← hr]; simp [h1])
    clear hr h1
    go_enter Try.func24, Try.ntmps24
    go_wp2_with (fail)
    go_ret
    exact ⟨by rw [← hR.out]; simp, hB.out⟩
theorem may_is (p : Pr) (w : World) : Calls Try.prog 24 #[prV p] w (BoolB (may p) w) := by
  obtain ⟨c, l, d⟩ := p
  unfold prV
  simp only
  by_cases h0 : c = 0
  · subst h0; exact may_0 l d _ rfl w
  by_cases h1 : c = 1
  · subst h1; exact may_1 l d _ rfl w
  by_cases h2 : c = 2
  · subst h2; exact may_2 l d _ rfl w
  have hB := Lib.hid (blk3 w c l d)
  have hr : may (c, l, d) = false := by unfold may; rw [if_neg h0, if_neg h1, if_neg h2]
  rw [hr]
  have d0 : (c == 0) = false := by simpa using h0
  have d1 : (c == 1) = false := by simpa using h1
  have d2 : (c == 2) = false := by simpa using h2
  clear hr h0 h1 h2
  go_enter Try.func24, Try.ntmps24
  go_wp2_with (fail)
  go_ret
  exact ⟨rfl, hB.out⟩
end Go.Proofs.Ytpajebedeacpgaa
