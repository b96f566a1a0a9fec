/-
  Sets of small numbers in a word of sixty-four bits: Top, Set, Clear, All.
-/
import Derived.Test.YtpajebedeacpgaaShelf
import Derived.Test.YtpajebedeacpgaaOwn
import Derived.Lib.BitFns
import Derived.Laws.BitsAllLaws
import Derived.WalkKit
import Derived.Lib.Hide
namespace Go.Proofs.Ytpajebedeacpgaa
set_option linter.unusedSimpArgs false
set_option linter.unusedVariables false
open Go.RowKit Own RegJ

/-- the word of a set -/
def WD (m : Nat) (f : Nat → Bool) : Prop := m < 18446744073709551616 ∧ ∀ i, i < 64 → m.testBit i = f i
theorem bitLen_ex : ∀ x : Nat, x < 18446744073709551616 → x ≠ 0 → ∃ n, Lib.bitLen x = n + 1 ∧ n < 64 ∧ 2 ^ n ≤ x ∧ x < 2 ^ (n + 1) := by
  intro x
  induction x using Nat.strongRecOn with
  | _ x ih =>
    intro hx h0
    have hh := Lib.bitLen_half x h0 hx
    by_cases h1 : x / 2 = 0
    · have : x = 1 := by omega
      subst this
      exact ⟨0, by rw [hh]; rfl, by omega, by decide, by decide⟩
    · obtain ⟨n, e, hn, l1, l2⟩ := ih (x / 2) (by omega) (by omega) h1
      have p1 : 2 ^ (n + 1) = 2 ^ n * 2 := Nat.pow_succ 2 n
      have p2 : 2 ^ (n + 1 + 1) = 2 ^ (n + 1) * 2 := Nat.pow_succ 2 (n + 1)
      refine ⟨n + 1, by rw [hh, e]; omega, ?_, by omega, by omega⟩
      rcases Nat.lt_or_ge (n + 1) 64 with h | h
      · exact h
      · have h64 : (2 : Nat) ^ 64 ≤ 2 ^ (n + 1) := Nat.pow_le_pow_right (by omega) h
        have : (2 : Nat) ^ 64 = 18446744073709551616 := by decide
        omega
theorem wd_zero {f : Nat → Bool} (h : ∀ i, i < 64 → f i = false) : WD 0 f := ⟨by omega, fun i hi => by rw [h i hi]; exact Nat.zero_testBit i⟩
theorem WD.nil {m : Nat} {f : Nat → Bool} (h : WD m f) (hf : ∀ i, i < 64 → f i = false) : m = 0 := by
  by_cases h0 : m = 0
  · exact h0
  · obtain ⟨n, e, hn, l1, l2⟩ := bitLen_ex m h.1 h0
    have := h.2 n hn
    rw [hf n hn, Nat.testBit_of_two_pow_le_and_two_pow_add_one_gt l1 l2] at this
    cases this
/-- the greatest -/
theorem WD.top {m : Nat} {f : Nat → Bool} (h : WD m f) (h0 : m ≠ 0) : ∃ n, Lib.bitLen m = n + 1 ∧ n < 64 ∧ f n = true ∧ ∀ j, n < j → j < 64 → f j = false := by
  obtain ⟨n, e, hn, l1, l2⟩ := bitLen_ex m h.1 h0
  refine ⟨n, e, hn, ?_, fun j hj hj2 => ?_⟩
  · rw [← h.2 n hn]; exact Nat.testBit_of_two_pow_le_and_two_pow_add_one_gt l1 l2
  · rw [← h.2 j hj2]
    exact Nat.testBit_lt_two_pow (Nat.lt_of_lt_of_le l2 (Nat.pow_le_pow_right (by omega) (by omega)))
def wset (m i : Nat) : Nat := m ||| 2 ^ i
def wclr (m i : Nat) : Nat := m &&& (18446744073709551615 - 2 ^ i)
theorem p64 {i : Nat} (hi : i < 64) : 2 ^ i < 18446744073709551616 := by
  have h : (2 : Nat) ^ i < 2 ^ 64 := Nat.pow_lt_pow_right (by omega) hi
  have : (2 : Nat) ^ 64 = 18446744073709551616 := by decide
  omega
theorem WD.set {m : Nat} {f : Nat → Bool} (h : WD m f) {i : Nat} (hi : i < 64) : WD (wset m i) (fun j => if j = i then true else f j) := by
  refine ⟨?_, fun j hj => ?_⟩
  · unfold wset
    have : m ||| 2 ^ i < 2 ^ 64 := Nat.or_lt_two_pow (by have := h.1; have e : (2 : Nat) ^ 64 = 18446744073709551616 := by decide
                                                         omega) (Nat.pow_lt_pow_right (by omega) hi)
    have e : (2 : Nat) ^ 64 = 18446744073709551616 := by decide
    omega
  · unfold wset
    rw [Nat.testBit_or, Nat.testBit_two_pow, h.2 j hj]
    by_cases e : j = i
    · subst e; simp
    · simp only [if_neg e]
      have : decide (i = j) = false := by simp; omega
      rw [this]; simp
theorem WD.clr {m : Nat} {f : Nat → Bool} (h : WD m f) {i : Nat} (hi : i < 64) : WD (wclr m i) (fun j => if j = i then false else f j) := by
  have hp := p64 hi
  refine ⟨?_, fun j hj => ?_⟩
  · unfold wclr
    have := Nat.and_le_left (n := m) (m := 18446744073709551615 - 2 ^ i)
    have := h.1
    omega
  · unfold wclr
    have e : 18446744073709551615 - 2 ^ i = 2 ^ 64 - (2 ^ i + 1) := by
      have : (2 : Nat) ^ 64 = 18446744073709551616 := by decide
      omega
    rw [Nat.testBit_and, h.2 j hj, e, Nat.testBit_two_pow_sub_succ (by have : (2 : Nat) ^ 64 = 18446744073709551616 := by decide
                                                                       omega), Nat.testBit_two_pow]
    by_cases e2 : j = i
    · subst e2; simp
    · simp only [if_neg e2]
      have : decide (i = j) = false := by simp; omega
      rw [this]; simp [hj]
/-- the members below k, falling -/
def levF (f : Nat → Bool) : Nat → List Nat
  | 0 => []
  | k + 1 => if f k then k :: levF f k else levF f k
theorem levF_none {f : Nat → Bool} : ∀ k, (∀ j, j < k → f j = false) → levF f k = []
  | 0, _ => rfl
  | k + 1, h => by unfold levF; rw [h k (by omega)]; exact levF_none k (fun j hj => h j (by omega))
theorem levF_skip {f : Nat → Bool} {t : Nat} : ∀ k, t ≤ k → (∀ j, t ≤ j → j < k → f j = false) → levF f k = levF f t
  | 0, h, _ => by have : t = 0 := by omega
                  rw [this]
  | k + 1, h, hf => by
    by_cases e : t = k + 1
    · rw [e]
    · show (if f k then k :: levF f k else levF f k) = levF f t
      rw [hf k (by omega) (by omega)]
      simp only [Bool.false_eq_true, if_false]
      exact levF_skip k (by omega) (fun j h1 h2 => hf j h1 (by omega))
theorem levF_congr {f g : Nat → Bool} : ∀ k, (∀ j, j < k → f j = g j) → levF f k = levF g k
  | 0, _ => rfl
  | k + 1, h => by unfold levF; rw [h k (by omega), levF_congr k (fun j hj => h j (by omega))]
theorem levF_top {f : Nat → Bool} {n : Nat} (hn : n < 64) (h1 : f n = true) (h2 : ∀ j, n < j → j < 64 → f j = false) : levF f 64 = n :: levF (fun j => if j = n then false else f j) 64 := by
  rw [levF_skip (f := f) (t := n + 1) 64 (by omega) (fun j a b => h2 j (by omega) b)]
  rw [levF_skip (f := fun j => if j = n then false else f j) (t := n) 64 (by omega) (fun j a b => by
    by_cases e : j = n
    · simp [e]
    · simp only [if_neg e]; exact h2 j (by omega) b)]
  show (if f n then n :: levF f n else levF f n) = _
  rw [h1]
  simp only [if_true]
  congr 1
  exact levF_congr n (fun j hj => by rw [if_neg (by omega)])
theorem levF_lt {f : Nat → Bool} : ∀ k, ∀ x ∈ levF f k, x < k ∧ f x = true
  | 0, x, h => by cases h
  | k + 1, x, h => by
    unfold levF at h
    by_cases hf : f k = true
    · rw [if_pos hf, List.mem_cons] at h
      rcases h with rfl | h
      · exact ⟨by omega, hf⟩
      · have := levF_lt k x h; exact ⟨by omega, this.2⟩
    · rw [if_neg hf] at h
      have := levF_lt k x h; exact ⟨by omega, this.2⟩
theorem levF_len {f : Nat → Bool} : ∀ k, (levF f k).length ≤ k
  | 0 => Nat.le_refl _
  | k + 1 => by
    unfold levF
    have := levF_len (f := f) k
    split
    · rw [List.length_cons]; omega
    · omega
theorem top_is (m : Nat) (hm : m < 18446744073709551616) (w : World) :
    Calls Try.prog 36 #[.int .u64 m] w fun e w' => e = .returned (.int .i64 ((Lib.bitLen m : Int) - 1)) ∧ w = w' := by
  have hb : Lib.bitLen m ≤ 64 := by
    by_cases h0 : m = 0
    · subst h0; decide
    · obtain ⟨n, e, hn, _, _⟩ := bitLen_ex m hm h0; omega
  have hlz := Try.bits_LeadingZeros64 m w (by omega) (by omega)
  rw [Int.toNat_natCast] at hlz
  have HE : Hid ((63 : Int) - (64 - (Lib.bitLen m : Int)) = (Lib.bitLen m : Int) - 1) := Lib.hid (by omega)
  generalize Lib.bitLen m = L at *
  clear hm
  go_enter Try.func36, Try.ntmps36
  go_wp2_with (go_at_call 53; refine hlz.mono ?_; rintro e w' ⟨rfl, rfl⟩)
  go_ret
  exact ⟨by rw [HE.out]; rfl, rfl⟩
theorem with_is (a b : Nat) (ha : a < 18446744073709551616) (hb : b < 18446744073709551616) (w : World) :
    Calls Try.prog 77 #[.int .u64 a, .int .u64 b] w fun e w' => e = .returned (.int .u64 (a ||| b : Nat)) ∧ w = w' := by
  have h := Go.u64_or_nat a b ha hb
  clear ha hb
  go_enter Try.func77, Try.ntmps77
  go_wp2
  go_ret
  exact ⟨rfl, rfl⟩
theorem without_is (a b : Nat) (ha : a < 18446744073709551616) (hb : b < 18446744073709551616) (w : World) :
    Calls Try.prog 64 #[.int .u64 a, .int .u64 b] w fun e w' => e = .returned (.int .u64 (a &&& (18446744073709551615 - b) : Nat)) ∧ w = w' := by
  have h := Go.u64_andNot_nat a b ha hb
  clear ha hb
  generalize a &&& (18446744073709551615 - b) = c at *
  go_enter Try.func64, Try.ntmps64
  go_wp2
  go_ret
  exact ⟨rfl, rfl⟩
theorem wrap_pow {i : Nat} (hi : i < 64) : IntKind.u64.wrap ((2 : Int) ^ i) = ((2 ^ i : Nat) : Int) := by
  have h := p64 hi
  have e : ((2 : Int) ^ i) = ((2 ^ i : Nat) : Int) := by simp
  rw [e]
  generalize (2 : Nat) ^ i = P at *
  simp [IntKind.wrap, IntKind.bits, IntKind.signed]
  omega
set_option maxRecDepth 100000 in
theorem turn_set (m i : Nat) (hm : m < 18446744073709551616) (hi : i < 64) (w : World) :
    Calls Try.prog 63 #[.int .u64 m, .int .i64 i, .func (.func 77) #[] #[]] w fun e w' => e = .returned (.int .u64 (wset m i : Nat)) ∧ w = w' := by
  have hw := with_is m (2 ^ i) hm (p64 hi)
  have hwr := wrap_pow hi
  have HR : Hid (wset m i = m ||| 2 ^ i) := Lib.hid rfl
  have d1 : decide ((i : Int) < 0) = false := by simp
  have d2 : decide ((i : Int) > 63) = false := by simp; omega
  have i1 : (i : Int) < 64 := by omega
  have i2 : (0 : Int) ≤ i := by omega
  generalize hP : (2 : Nat) ^ i = P at *
  have HP := Lib.hid hP
  clear hP hm
  generalize wset m i = R at *
  go_enter Try.func63, Try.ntmps63
  go_wp2_with (go_at_call 77; (with_reducible refine (hw _).mono ?_); rintro e w' ⟨rfl, rfl⟩)
  go_ret
  exact ⟨by rw [HR.out]; rfl, rfl⟩
set_option maxRecDepth 100000 in
theorem turn_clr (m i : Nat) (hm : m < 18446744073709551616) (hi : i < 64) (w : World) :
    Calls Try.prog 63 #[.int .u64 m, .int .i64 i, .func (.func 64) #[] #[]] w fun e w' => e = .returned (.int .u64 (wclr m i : Nat)) ∧ w = w' := by
  have hw := without_is m (2 ^ i) hm (p64 hi)
  have hwr := wrap_pow hi
  have HR : Hid (wclr m i = m &&& (18446744073709551615 - 2 ^ i)) := Lib.hid rfl
  have d1 : decide ((i : Int) < 0) = false := by simp
  have d2 : decide ((i : Int) > 63) = false := by simp; omega
  have i1 : (i : Int) < 64 := by omega
  have i2 : (0 : Int) ≤ i := by omega
  generalize hP : (2 : Nat) ^ i = P at *
  have HP := Lib.hid hP
  clear hP hm
  generalize wclr m i = R at *
  go_enter Try.func63, Try.ntmps63
  go_wp2_with (go_at_call 64; (with_reducible refine (hw _).mono ?_); rintro e w' ⟨rfl, rfl⟩)
  go_ret
  exact ⟨by rw [HR.out]; rfl, rfl⟩
set_option maxRecDepth 100000 in
theorem wset_is (m i : Nat) (hm : m < 18446744073709551616) (hi : i < 64) (w : World) :
    Calls Try.prog 58 #[.int .u64 m, .int .i64 i] w fun e w' => e = .returned (.int .u64 (wset m i : Nat)) ∧ w = w' := by
  have ht := turn_set m i hm hi
  clear hm hi
  generalize wset m i = R at *
  go_enter Try.func58, Try.ntmps58
  go_wp2_with (go_at_call 63; (with_reducible refine (ht _).mono ?_); rintro e w' ⟨rfl, rfl⟩)
  go_ret
  exact ⟨rfl, rfl⟩
set_option maxRecDepth 100000 in
theorem wclr_is (m i : Nat) (hm : m < 18446744073709551616) (hi : i < 64) (w : World) :
    Calls Try.prog 46 #[.int .u64 m, .int .i64 i] w fun e w' => e = .returned (.int .u64 (wclr m i : Nat)) ∧ w = w' := by
  have ht := turn_clr m i hm hi
  clear hm hi
  generalize wclr m i = R at *
  go_enter Try.func46, Try.ntmps46
  go_wp2_with (go_at_call 63; (with_reducible refine (ht _).mono ?_); rintro e w' ⟨rfl, rfl⟩)
  go_ret
  exact ⟨rfl, rfl⟩
end Go.Proofs.Ytpajebedeacpgaa
