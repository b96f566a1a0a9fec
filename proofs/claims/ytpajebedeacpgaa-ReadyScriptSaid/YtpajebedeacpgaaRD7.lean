/-
  The document on priorities: May, greater, Compare; ahead.
-/
import Derived.Test.YtpajebedeacpgaaRcmp
namespace Go.Proofs.Ytpajebedeacpgaa
set_option linter.unusedSimpArgs false
set_option linter.unusedVariables false
open Go.RowKit Own Sl
open RegJ hiding Up
open RegF hiding put_size

set_option maxRecDepth 100000 in
theorem rmay_0 (l d : Int) (r : Bool) (hr : may (0, l, d) = r) (w : World) : Calls Try.prog 29 #[.agg #[.int .i64 0, .int .i64 l, .int .i64 d]] w (BoolB r w) := by
  have hB := Lib.hid (blk3 w 0 l d)
  unfold may at hr
  simp only [if_true] at hr
  by_cases h1 : 0 ≤ l
  · have d1 : decide (l ≥ 0) = true := by simpa using h1
    by_cases h2 : l ≤ 15
    · have d2 : decide (l ≤ 15) = true := by simpa using h2
      by_cases h3 : d = 0
      · have d3 : (d == 0) = true := by simpa using h3
        have hR : Hid (true = r) := Lib.hid (by rw [← hr]; simp [h1, h2, h3])
        clear hr h1 h2 h3
        go_enter Try.func29, Try.ntmps29
        go_wp2_with (fail)
        go_ret
        exact ⟨by rw [← hR.out]; simp, hB.out⟩
      · have d3 : (d == 0) = false := by simpa using h3
        have hR : Hid (false = r) := Lib.hid (by rw [← hr]; simp [h1, h2, h3])
        clear hr h1 h2 h3
        go_enter Try.func29, Try.ntmps29
        go_wp2_with (fail)
        go_ret
        exact ⟨by rw [← hR.out]; simp, hB.out⟩
    · have d2 : decide (l ≤ 15) = false := by simpa using h2
      have hR : Hid (false = r) := Lib.hid (by rw [← hr]; simp [h2])
      clear hr h1 h2
      go_enter Try.func29, Try.ntmps29
      go_wp2_with (fail)
      go_ret
      exact ⟨by rw [← hR.out]; simp, hB.out⟩
  · have d1 : decide (l ≥ 0) = false := by simpa using h1
    have hR : Hid (false = r) := Lib.hid (by rw [← hr]; simp [h1])
    clear hr h1
    go_enter Try.func29, Try.ntmps29
    go_wp2_with (fail)
    go_ret
    exact ⟨by rw [← hR.out]; simp, hB.out⟩
set_option maxRecDepth 100000 in
theorem rmay_1 (l d : Int) (r : Bool) (hr : may (1, l, d) = r) (w : World) : Calls Try.prog 29 #[.agg #[.int .i64 1, .int .i64 l, .int .i64 d]] w (BoolB r w) := by
  have hB := Lib.hid (blk3 w 1 l d)
  unfold may at hr
  rw [if_neg (show ¬ (1 : Int) = 0 by decide), if_pos rfl] at hr
  by_cases h1 : l = 0
  · have d1 : (l == 0) = true := by simpa using h1
    by_cases h2 : 0 ≤ d
    · have d2 : decide (d ≥ 0) = true := by simpa using h2
      by_cases h3 : d ≤ 1099511627776
      · have d3 : decide (d ≤ 1099511627776) = true := by simpa using h3
        have hR : Hid (true = r) := Lib.hid (by rw [← hr]; simp [h1, h2, h3])
        clear hr h1 h2 h3
        go_enter Try.func29, Try.ntmps29
        go_wp2_with (fail)
        go_ret
        exact ⟨by rw [← hR.out]; simp, hB.out⟩
      · have d3 : decide (d ≤ 1099511627776) = false := by simpa using h3
        have hR : Hid (false = r) := Lib.hid (by rw [← hr]; simp [h3])
        clear hr h1 h2 h3
        go_enter Try.func29, Try.ntmps29
        go_wp2_with (fail)
        go_ret
        exact ⟨by rw [← hR.out]; simp, hB.out⟩
    · have d2 : decide (d ≥ 0) = false := by simpa using h2
      have hR : Hid (false = r) := Lib.hid (by rw [← hr]; simp [h2])
      clear hr h1 h2
      go_enter Try.func29, Try.ntmps29
      go_wp2_with (fail)
      go_ret
      exact ⟨by rw [← hR.out]; simp, hB.out⟩
  · have d1 : (l == 0) = false := by simpa using h1
    have hR : Hid (false = r) := Lib.hid (by rw [← hr]; simp [h1])
    clear hr h1
    go_enter Try.func29, Try.ntmps29
    go_wp2_with (fail)
    go_ret
    exact ⟨by rw [← hR.out]; simp, hB.out⟩
set_option maxRecDepth 100000 in
theorem rmay_2 (l d : Int) (r : Bool) (hr : may (2, l, d) = r) (w : World) : Calls Try.prog 29 #[.agg #[.int .i64 2, .int .i64 l, .int .i64 d]] w (BoolB r w) := by
  have hB := Lib.hid (blk3 w 2 l d)
  unfold may at hr
  rw [if_neg (show ¬ (2 : Int) = 0 by decide), if_neg (show ¬ (2 : Int) = 1 by decide), if_pos rfl] at hr
  by_cases h1 : 0 ≤ l
  · have d1 : decide (l ≥ 0) = true := by simpa using h1
    by_cases h2 : l < 64
    · have d2 : decide (l ≤ 63) = true := by simp; omega
      by_cases h3 : d = 0
      · have d3 : (d == 0) = true := by simpa using h3
        have hR : Hid (true = r) := Lib.hid (by rw [← hr]; simp [h1, h2, h3])
        clear hr h1 h2 h3
        go_enter Try.func29, Try.ntmps29
        go_wp2_with (fail)
        go_ret
        exact ⟨by rw [← hR.out]; simp, hB.out⟩
      · have d3 : (d == 0) = false := by simpa using h3
        have hR : Hid (false = r) := Lib.hid (by rw [← hr]; simp [h1, h2, h3])
        clear hr h1 h2 h3
        go_enter Try.func29, Try.ntmps29
        go_wp2_with (fail)
        go_ret
        exact ⟨by rw [← hR.out]; simp, hB.out⟩
    · have d2 : decide (l ≤ 63) = false := by simp; omega
      have hR : Hid (false = r) := Lib.hid (by rw [← hr]; simp [h2])
      clear hr h1 h2
      go_enter Try.func29, Try.ntmps29
      go_wp2_with (fail)
      go_ret
      exact ⟨by rw [← hR.out]; simp, hB.out⟩
  · have d1 : decide (l ≥ 0) = false := by simpa using h1
    have hR : Hid (false = r) := Lib.hid (by rw [← hr]; simp [h1])
    clear hr h1
    go_enter Try.func29, Try.ntmps29
    go_wp2_with (fail)
    go_ret
    exact ⟨by rw [← hR.out]; simp, hB.out⟩
theorem rmay_is (p : Pr) (w : World) : Calls Try.prog 29 #[prV p] w (BoolB (may p) w) := by
  obtain ⟨c, l, d⟩ := p
  unfold prV
  simp only
  by_cases h0 : c = 0
  · subst h0; exact rmay_0 l d _ rfl w
  by_cases h1 : c = 1
  · subst h1; exact rmay_1 l d _ rfl w
  by_cases h2 : c = 2
  · subst h2; exact rmay_2 l d _ rfl w
  have hB := Lib.hid (blk3 w c l d)
  have hr : may (c, l, d) = false := by unfold may; rw [if_neg h0, if_neg h1, if_neg h2]
  rw [hr]
  have d0 : (c == 0) = false := by simpa using h0
  have d1 : (c == 1) = false := by simpa using h1
  have d2 : (c == 2) = false := by simpa using h2
  clear hr h0 h1 h2
  go_enter Try.func29, Try.ntmps29
  go_wp2_with (fail)
  go_ret
  exact ⟨rfl, hB.out⟩
set_option maxRecDepth 100000 in
theorem grt_is (p q : Pr) (w : World) : Calls Try.prog 61 #[prV p, prV q] w (BoolB (decide (gtP p q)) w) := by
  obtain ⟨c, l, d⟩ := p
  obtain ⟨c', l', d'⟩ := q
  have hB := Lib.hid (blk33 w c l d c' l' d')
  unfold prV
  simp only
  by_cases h1 : c = c'
  · subst h1
    have d1 : (c != c) = false := by simp
    by_cases h2 : c = 1
    · subst h2
      have e : decide (gtP (1, l, d) (1, l', d')) = decide (d < d') := by unfold gtP; simp
      rw [e]
      clear e d1
      go_enter Try.func61, Try.ntmps61
      go_wp2_with (fail)
      go_ret
      exact ⟨rfl, hB.out⟩
    · have d2 : (c == 1) = false := by simpa using h2
      have e : decide (gtP (c, l, d) (c, l', d')) = decide (l > l') := by unfold gtP; simp [h2]
      rw [e]
      clear e h2
      go_enter Try.func61, Try.ntmps61
      go_wp2_with (fail)
      go_ret
      exact ⟨rfl, hB.out⟩
  · have d1 : (c != c') = true := by simpa using h1
    have e : decide (gtP (c, l, d) (c', l', d')) = decide (c > c') := by unfold gtP; simp [h1]
    rw [e]
    clear e h1
    go_enter Try.func61, Try.ntmps61
    go_wp2_with (fail)
    go_ret
    exact ⟨rfl, hB.out⟩
theorem cmpF_cases (x y : Int) : cmpF x y = -1 ∨ cmpF x y = 0 ∨ cmpF x y = 1 := by
  unfold cmpF
  split
  · exact Or.inl rfl
  · split
    · exact Or.inr (Or.inr rfl)
    · exact Or.inr (Or.inl rfl)
theorem cmpP_cases (p q : Pr) : cmpP p q = -1 ∨ cmpP p q = 0 ∨ cmpP p q = 1 := by
  unfold cmpP
  split
  · exact cmpF_cases _ _
  · split <;> exact cmpF_cases _ _
set_option maxRecDepth 100000 in
theorem rcmp_is (p q : Pr) (w : World) : Calls Try.prog 43 #[prV p, prV q] w (ValB (.int .i64 (cmpP p q)) w) := by
  have h1 := grt_is p q
  have h2 := grt_is q p
  have hB := Lib.hid (blk33 w p.1 p.2.1 p.2.2 q.1 q.2.1 q.2.2)
  have hc := cmpP_cases p q
  have hp : gtP p q ↔ 0 < cmpP p q := cmpP_pos.symm
  have hn : gtP q p ↔ cmpP p q < 0 := cmpP_neg.symm
  have b1 := Blk.new w #[.int .i64 p.1, .int .i64 p.2.1, .int .i64 p.2.2] 31
  have b1' := b1.alloc (.cells #[.int .i64 q.1, .int .i64 q.2.1, .int .i64 q.2.2] 31)
  have b2 : Blk ((w.alloc (.cells #[.int .i64 p.1, .int .i64 p.2.1, .int .i64 p.2.2] 31)).alloc (.cells #[.int .i64 q.1, .int .i64 q.2.1, .int .i64 q.2.2] 31)) (w.heap.size + 1) #[.int .i64 q.1, .int .i64 q.2.1, .int .i64 q.2.2] 31 := Blk.new' (by simp)
  have H := Lib.hid (And.intro b1' b2)
  clear b1 b1' b2
  rcases hc with hc | hc | hc <;> rw [hc] at hp hn ⊢
  · have g1 : decide (gtP p q) = false := by rw [decide_eq_false_iff_not, hp]; omega
    have g2 : decide (gtP q p) = true := by rw [decide_eq_true_iff, hn]; omega
    rw [g1] at h1
    rw [g2] at h2
    unfold prV at *
    clear g1 g2 hp hn hc
    go_enter Try.func43, Try.ntmps43
    go_wp2_with (first
      | (go_at_call 61; (with_reducible refine (h1 _).mono ?_); rintro e w1 ⟨rfl, hB1⟩; have c1 := (Blk.below hB1 H.out.1 H.out.1.lt).rd; have c2 := (Blk.below hB1 H.out.2 H.out.2.lt).rd; have H1 := Lib.hid (hB.out.trans (hB1.mono hB.out.size)); clear hB1 h1)
      | (go_at_call 61; (with_reducible refine (h2 _).mono ?_); rintro e w2 ⟨rfl, hB2⟩; have H2 := Lib.hid (H1.out.trans (hB2.mono H1.out.size)); clear hB2 h2))
    go_returns
    exact ⟨rfl, H2.out⟩
  · have g1 : decide (gtP p q) = false := by rw [decide_eq_false_iff_not, hp]; omega
    have g2 : decide (gtP q p) = false := by rw [decide_eq_false_iff_not, hn]; omega
    rw [g1] at h1
    rw [g2] at h2
    unfold prV at *
    clear g1 g2 hp hn hc
    go_enter Try.func43, Try.ntmps43
    go_wp2_with (first
      | (go_at_call 61; (with_reducible refine (h1 _).mono ?_); rintro e w1 ⟨rfl, hB1⟩; have c1 := (Blk.below hB1 H.out.1 H.out.1.lt).rd; have c2 := (Blk.below hB1 H.out.2 H.out.2.lt).rd; have H1 := Lib.hid (hB.out.trans (hB1.mono hB.out.size)); clear hB1 h1)
      | (go_at_call 61; (with_reducible refine (h2 _).mono ?_); rintro e w2 ⟨rfl, hB2⟩; have H2 := Lib.hid (H1.out.trans (hB2.mono H1.out.size)); clear hB2 h2))
    go_returns
    exact ⟨rfl, H2.out⟩
  · have g1 : decide (gtP p q) = true := by rw [decide_eq_true_iff, hp]; omega
    rw [g1] at h1
    unfold prV at *
    clear g1 hp hn hc h2
    go_enter Try.func43, Try.ntmps43
    go_wp2_with (go_at_call 61; (with_reducible refine (h1 _).mono ?_); rintro e w1 ⟨rfl, hB1⟩; have H1 := Lib.hid (hB.out.trans (hB1.mono hB.out.size)); clear hB1 h1)
    go_returns
    exact ⟨rfl, H1.out⟩
/-! ### ahead -/
def oneV (x : One) : Value := .agg #[.int .i64 x.1, .int .i64 x.2.1, .int .i64 x.2.2.1, .int .i64 x.2.2.2]
theorem blk44 (w : World) (x y : One) : Below w.heap.size w ((w.alloc (.cells #[.int .i64 x.1, .int .i64 x.2.1, .int .i64 x.2.2.1, .int .i64 x.2.2.2] 66)).alloc (.cells #[.int .i64 y.1, .int .i64 y.2.1, .int .i64 y.2.2.1, .int .i64 y.2.2.2] 66)) := ((Below.refl _ _).alloc (Nat.le_refl _) _).alloc (by simp) _
set_option maxRecDepth 100000 in
theorem ahead_is (x y : One) (w : World) : Calls Try.prog 31 #[oneV x, oneV y] w (BoolB (decide (ahd x y)) w) := by
  have hcm := rcmp_is x.2 y.2
  have hB := Lib.hid (blk44 w x y)
  have hp : gtP x.2 y.2 ↔ 0 < cmpP x.2 y.2 := cmpP_pos.symm
  have hn : gtP y.2 x.2 ↔ cmpP x.2 y.2 < 0 := cmpP_neg.symm
  have b1 := Blk.new w #[.int .i64 x.1, .int .i64 x.2.1, .int .i64 x.2.2.1, .int .i64 x.2.2.2] 66
  have b1' := b1.alloc (.cells #[.int .i64 y.1, .int .i64 y.2.1, .int .i64 y.2.2.1, .int .i64 y.2.2.2] 66)
  have b2 : Blk ((w.alloc (.cells #[.int .i64 x.1, .int .i64 x.2.1, .int .i64 x.2.2.1, .int .i64 x.2.2.2] 66)).alloc (.cells #[.int .i64 y.1, .int .i64 y.2.1, .int .i64 y.2.2.1, .int .i64 y.2.2.2] 66)) (w.heap.size + 1) #[.int .i64 y.1, .int .i64 y.2.1, .int .i64 y.2.2.1, .int .i64 y.2.2.2] 66 := Blk.new' (by simp)
  have H := Lib.hid (And.intro b1' b2)
  clear b1 b1' b2
  unfold oneV
  rcases cmpP_cases x.2 y.2 with hc | hc | hc <;> rw [hc] at hp hn hcm
  · have g : decide (ahd x y) = false := by
      rw [decide_eq_false_iff_not]; unfold ahd; rw [hp, hn]; omega
    rw [g]
    unfold prV at *
    clear g hp hn hc
    go_enter Try.func31, Try.ntmps31
    go_wp2_with (go_at_call 43; (with_reducible refine (hcm _).mono ?_); rintro e w1 ⟨rfl, hB1⟩; have H1 := Lib.hid (hB.out.trans (hB1.mono hB.out.size)); clear hB1 hcm)
    go_returns
    exact ⟨rfl, H1.out⟩
  · have g : decide (ahd x y) = decide (x.1 < y.1) := by
      congr 1; unfold ahd; rw [hp, hn]; simp
    rw [g]
    unfold prV at *
    clear g hp hn hc
    go_enter Try.func31, Try.ntmps31
    go_wp2_with (go_at_call 43; (with_reducible refine (hcm _).mono ?_); rintro e w1 ⟨rfl, hB1⟩; have c1 := (Blk.below hB1 H.out.1 H.out.1.lt).rd; have c2 := (Blk.below hB1 H.out.2 H.out.2.lt).rd; have H1 := Lib.hid (hB.out.trans (hB1.mono hB.out.size)); clear hB1 hcm)
    go_returns
    exact ⟨rfl, H1.out⟩
  · have g : decide (ahd x y) = true := by
      rw [decide_eq_true_iff]; unfold ahd; rw [hp]; omega
    rw [g]
    unfold prV at *
    clear g hp hn hc
    go_enter Try.func31, Try.ntmps31
    go_wp2_with (go_at_call 43; (with_reducible refine (hcm _).mono ?_); rintro e w1 ⟨rfl, hB1⟩; have H1 := Lib.hid (hB.out.trans (hB1.mono hB.out.size)); clear hB1 hcm)
    go_returns
    exact ⟨rfl, H1.out⟩
end Go.Proofs.Ytpajebedeacpgaa
