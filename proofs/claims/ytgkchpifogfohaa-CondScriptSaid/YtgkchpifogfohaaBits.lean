/-
  Bits of a number of sixteen bits, and a region that draws its order and holds one call.
-/
import Derived.Test.YtgkchpifogfohaaCondB
import Derived.Laws.BitsAllLaws
namespace Go.Proofs.Ytgkchpifogfohaa
set_option linter.unusedSimpArgs false
set_option linter.unusedVariables false
open Go.RowKit Own RegJ

theorem bitF_test (x : Int) (hx : 0 ≤ x ∧ x < 65536) (i : Nat) : bitF x i = x.toNat.testBit i := by
  obtain ⟨n, rfl⟩ := Int.eq_ofNat_of_zero_le hx.1
  have hn : n < 65536 := by omega
  have hd : ((n : Int) / 2 ^ i) = ((n / 2 ^ i : Nat) : Int) := by simp
  have hl : n / 2 ^ i < 65536 := Nat.lt_of_le_of_lt (Nat.div_le_self _ _) hn
  unfold bitF
  rw [hd, show (1 : Int) = ((1 : Nat) : Int) from rfl, u16_and_nat _ _ hl (by omega), Nat.and_one_is_mod, Int.toNat_natCast, Nat.testBit_eq_decide_div_mod_eq]
  have := Nat.mod_two_eq_zero_or_one (n / 2 ^ i)
  rcases this with h | h <;> rw [h] <;> rfl
theorem bit_val (x : Int) (hx : 0 ≤ x ∧ x < 65536) (i : Nat) : bits BinOp.and IntKind.u16 (x / 2 ^ i) 1 = if bitF x i then 1 else 0 := by
  obtain ⟨n, rfl⟩ := Int.eq_ofNat_of_zero_le hx.1
  have hn : n < 65536 := by omega
  have hd : ((n : Int) / 2 ^ i) = ((n / 2 ^ i : Nat) : Int) := by simp
  have hl : n / 2 ^ i < 65536 := Nat.lt_of_le_of_lt (Nat.div_le_self _ _) hn
  unfold bitF
  rw [hd, show (1 : Int) = ((1 : Nat) : Int) from rfl, u16_and_nat _ _ hl (by omega), Nat.and_one_is_mod]
  have := Nat.mod_two_eq_zero_or_one (n / 2 ^ i)
  rcases this with h | h <;> rw [h] <;> rfl
/-- the three forms in which a walk asks for a bit -/
theorem bit_eq1 {x : Int} {i : Nat} {b : Bool} (h : bitF x i = b) : (bits BinOp.and IntKind.u16 (x / 2 ^ i) 1 == 1) = b := h
theorem bit_eq0 {x : Int} (hx : 0 ≤ x ∧ x < 65536) {i : Nat} {b : Bool} (h : bitF x i = b) : (bits BinOp.and IntKind.u16 (x / 2 ^ i) 1 == 0) = !b := by
  rw [bit_val x hx, h]; cases b <;> rfl
theorem bit_or (x y : Int) (hx : 0 ≤ x ∧ x < 65536) (hy : 0 ≤ y ∧ y < 65536) (i : Nat) : bitF (bits BinOp.or IntKind.u16 x y) i = (bitF x i || bitF y i) := by
  have hl : x.toNat ||| y.toNat < 2 ^ 16 := Nat.or_lt_two_pow (by omega) (by omega)
  have he := u16_or x y hx.1 hx.2 hy.1 hy.2
  rw [bitF_test x hx, bitF_test y hy, bitF_test _ (by rw [he]; omega), he, Int.toNat_natCast, Nat.testBit_or]
theorem andNot_rng (x y : Int) (hx : 0 ≤ x ∧ x < 65536) (hy : 0 ≤ y ∧ y < 65536) : 0 ≤ bits BinOp.andNot IntKind.u16 x y ∧ bits BinOp.andNot IntKind.u16 x y < 65536 := by
  have hl : x.toNat &&& (65535 - y.toNat) < 2 ^ 16 := Nat.and_lt_two_pow _ (by omega)
  rw [u16_andNot x y hx.1 hx.2 hy.1 hy.2]; omega
theorem or_rng (x y : Int) (hx : 0 ≤ x ∧ x < 65536) (hy : 0 ≤ y ∧ y < 65536) : 0 ≤ bits BinOp.or IntKind.u16 x y ∧ bits BinOp.or IntKind.u16 x y < 65536 := by
  have hl : x.toNat ||| y.toNat < 2 ^ 16 := Nat.or_lt_two_pow (by omega) (by omega)
  rw [u16_or x y hx.1 hx.2 hy.1 hy.2]; omega
theorem bit_andNot (x y : Int) (hx : 0 ≤ x ∧ x < 65536) (hy : 0 ≤ y ∧ y < 65536) (i : Nat) (hi : i < 16) : bitF (bits BinOp.andNot IntKind.u16 x y) i = (bitF x i && !bitF y i) := by
  rw [bitF_test x hx, bitF_test y hy, bitF_test _ (andNot_rng x y hx hy), u16_andNot x y hx.1 hx.2 hy.1 hy.2, Int.toNat_natCast, Nat.testBit_and]
  have e : 65535 - y.toNat = 2 ^ 16 - (y.toNat + 1) := by omega
  rw [e, Nat.testBit_two_pow_sub_succ (by omega)]
  simp [hi]

/-! ### one call in a region that draws its order -/
/-- ahead of operation c the world is as A says, behind it as B says -/
def J1 (c : Nat) (A B : World → Prop) (f : Nat → Bool) (w : World) : Prop := if f c then B w else A w
theorem J1.other {c k : Nat} {A B : World → Prop} {f : Nat → Bool} {w : World} (h : J1 c A B f w) (hk : k ≠ c) : J1 c A B (fset f k) w := by
  unfold J1 at *
  have e : fset f k c = f c := by unfold fset; simp; intro h; exact absurd h.symm hk
  rw [e]; exact h
theorem J1.start {c : Nat} {A B : World → Prop} {w : World} (h : A w) : J1 c A B (fun _ => false) w := by unfold J1; exact h
theorem J1.here {c : Nat} {A B : World → Prop} {f : Nat → Bool} {w : World} (h : J1 c A B f w) (hf : f c = false) : A w := by unfold J1 at h; rw [hf] at h; exact h
theorem J1.fin {c : Nat} {A B : World → Prop} {f : Nat → Bool} {w : World} (h : B w) : J1 c A B (fset f c) w := by
  unfold J1 fset; simp; exact h
theorem J1.over {c : Nat} {A B : World → Prop} {f : Nat → Bool} {w : World} (h : J1 c A B f w) (hf : f c = true) : B w := by unfold J1 at h; rw [hf] at h; exact h
end Go.Proofs.Ytgkchpifogfohaa
