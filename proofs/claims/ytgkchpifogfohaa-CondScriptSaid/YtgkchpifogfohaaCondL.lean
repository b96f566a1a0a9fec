/-
  The conditions: lists, keys.
-/
import Derived.Test.YtgkchpifogfohaaCondC
import Derived.Deep.QuietTactic
import Derived.BigQuiet
namespace Go.Proofs.Ytgkchpifogfohaa
set_option linter.unusedSimpArgs false
set_option linter.unusedVariables false
open Go.RowKit Go.Lib Own Sl
open RegJ hiding Up
open RegF hiding put_size

set_option maxRecDepth 100000 in
theorem list_no {w : World} {n bc bl : Nat} (h : Blk w bc #[.slice (some ⟨bl, 0, none⟩) n n] 57) (hn : n ≤ 64) (i : Int) (hi : i < 0 ∨ n ≤ i) :
    Calls Try.prog 20 #[.pointer (some ⟨bc, 0, none⟩), .int .i64 i] w fun e w' => e = .returned (.slice none 0 0) ∧ w = w' := by
  have hh := has_no h i hi hn
  clear hi
  go_enter Try.func20, Try.ntmps20
  go_wp2_with (go_at_call 26; refine hh.mono ?_; rintro e w' ⟨rfl, rfl⟩)
  go_ret
  exact ⟨rfl, rfl⟩
def Listed (w : World) (xs : List Int) (e : Ending) (w' : World) : Prop := ∃ v' b', e = .returned v' ∧ Ints w' 3 v' xs b' ∧ (∀ g, b' = some g → w.heap.size ≤ g) ∧ Below w.heap.size w w'
set_option maxRecDepth 100000 in
theorem list_yes {w : World} {n bc bl : Nat} {vs : Nat → Value} {bs : Nat → Option Nat} {ls : Nat → List Int} (h : CR w n bc bl vs bs ls) (hn : n ≤ 64) (i : Nat) (hi : i < n) (hs : (ls i).length < 100000) :
    Calls Try.prog 20 #[.pointer (some ⟨bc, 0, none⟩), .int .i64 i] w (Listed w (ls i)) := by
  have hh := has_yes h.hc i hi hn
  have hcl := clone_any (h.row i) (by omega)
  have hd2 : decide ((i : Int) < (n : Int)) = true := by simp; omega
  have c1 := h.hc.rd
  have c2 := h.cell i hi
  clear h
  go_enter Try.func20, Try.ntmps20
  go_wp2_with (first | (go_at_call 26; refine hh.mono ?_; rintro e w' ⟨rfl, rfl⟩) | (go_at_call 31; refine hcl.mono ?_; rintro e w1 ⟨v', b', rfl, h1, h2, h3⟩))
  go_ret
  exact ⟨_, b', rfl, h1, h2, h3⟩

/-! ### keys -/
/-- the keys' object: sixteen cells -/
def KR (w : World) (bk : Nat) (K : Nat → Int) : Prop := Blk w bk ((List.range 16).map fun j => Value.int .i64 (K j)).toArray 30
theorem KR.cell {w : World} {bk : Nat} {K : Nat → Int} (h : KR w bk K) (j : Nat) (hj : j < 16) : w.cell? ⟨bk, j, none⟩ = some (.int .i64 (K j)) := by
  unfold KR at h; rw [h.rd]; simp [hj]
theorem and15 (a : Nat) (h : a < 16) : bits BinOp.and IntKind.i64 (a : Int) 15 = a := by
  have : a = 0 ∨ a = 1 ∨ a = 2 ∨ a = 3 ∨ a = 4 ∨ a = 5 ∨ a = 6 ∨ a = 7 ∨ a = 8 ∨ a = 9 ∨ a = 10 ∨ a = 11 ∨ a = 12 ∨ a = 13 ∨ a = 14 ∨ a = 15 := by omega
  rcases this with rfl | rfl | rfl | rfl | rfl | rfl | rfl | rfl | rfl | rfl | rfl | rfl | rfl | rfl | rfl | rfl <;> decide +kernel
set_option maxRecDepth 100000 in
theorem before_any {w : World} {bk : Nat} {K : Nat → Int} (h : KR w bk K) (a b : Nat) (ha : a < 16) (hb : b < 16) :
    Calls Try.prog 11 #[.pointer (some ⟨bk, 0, none⟩), .int .i64 a, .int .i64 b] w fun e w' => e = .returned (.bool (decide (K b < K a))) ∧ ∃ q, w' = w.drewN q := by
  have e1 := and15 a ha
  have e2 := and15 b hb
  have c1 := h.cell a ha
  have c2 := h.cell b hb
  have i1 : (0 : Int) ≤ a := by omega
  have i2 : (0 : Int) ≤ b := by omega
  have i3 : (a : Int) < 16 := by omega
  have i4 : (b : Int) < 16 := by omega
  clear h
  go_enter Try.func11, Try.ntmps11
  go_wp2
  go_quiet (fail)
  go_wp2
  go_ret
  exact ⟨rfl, _, rfl⟩
end Go.Proofs.Ytgkchpifogfohaa
