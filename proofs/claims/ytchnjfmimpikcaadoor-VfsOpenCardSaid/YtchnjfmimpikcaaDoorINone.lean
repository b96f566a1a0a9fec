/-
  Of no table each call says so.
-/
import Derived.Test.YtchnjfmimpikcaaDoorIClose
namespace Go.Proofs.YtchnjfmimpikcaaDoor
set_option linter.unusedSimpArgs false
set_option linter.unusedVariables false
open Go.RowKit Own RegJ Two
open Go.Lib hiding intOf

section none
variable (w : World)
theorem n_get (id : Int) : Calls Tryd.prog 36 #[.pointer none, .int .i64 id] w fun e w' => e = .returned (.pointer none) ∧ w = w' := by
  go_enter Tryd.func36, Tryd.ntmps36
  go_wp2
  go_ret
  exact ⟨rfl, rfl⟩
theorem n_make (d : Bool) : Calls Tryd.prog 54 #[.pointer none, .bool d] w fun e w' => e = .returned (.tuple #[.int .i64 0, .int .i64 1]) ∧ w = w' := by
  go_enter Tryd.func54, Tryd.ntmps54
  go_wp2
  go_returns
  exact ⟨rfl, rfl⟩
abbrev in0 : Array Value := #[.int .i64 0, .int .i64 0, .bool false, .int .i64 0]
set_option maxRecDepth 100000 in
theorem n_tget (id : Int) : Calls Tryd.prog 42 #[.pointer none, .int .i64 id] w fun e w' => e = .returned (.tuple #[.agg in0, .bool false]) ∧ Below w.heap.size w w' := by
  have hc0 := Blk.new w in0 40
  go_enter Tryd.func42, Tryd.ntmps42
  go_wp2_with (go_at_call 36; refine (n_get _ _).mono ?_; rintro e w1 ⟨rfl, rfl⟩; have c1 := hc0.rd; have f1 := hc0.nf)
  have hf := (((hc0.set 0 (.int .i64 0)).set 1 (.int .i64 0)).set 2 (.bool false)).set 3 (.int .i64 0)
  refine bodyPost_ret (v := .tuple #[.agg in0, .bool false]) (by simp [results, Tryd.results42, go_sem, hf.rd]) rfl ?_
  have hb : Below w.heap.size w (w.alloc (.cells in0 40)) := (Below.refl _ _).alloc (Nat.le_refl _) _
  exact ⟨rfl, hb⟩
theorem n_find (dir : Int) (s : ByteArray) : Calls Tryd.prog 61 #[.pointer none, .int .i64 dir, .string s] w fun e w' => e = .returned (.tuple #[.int .i64 0, .bool false, .int .i64 1]) ∧ w = w' := by
  go_enter Tryd.func61, Tryd.ntmps61
  go_wp2_with (go_at_call 36; refine (n_get _ _).mono ?_; rintro e w' ⟨rfl, rfl⟩)
  go_returns
  exact ⟨rfl, rfl⟩
theorem n_tfind (dir : Int) (s : ByteArray) : Calls Tryd.prog 41 #[.pointer none, .int .i64 dir, .string s] w fun e w' => e = .returned (.tuple #[.int .i64 0, .int .i64 1]) ∧ w = w' := by
  go_enter Tryd.func41, Tryd.ntmps41
  go_wp2_with (go_at_call 61; refine (n_find _ _ _).mono ?_; rintro e w' ⟨rfl, rfl⟩)
  go_returns
  exact ⟨rfl, rfl⟩
theorem n_list (dir : Int) : Calls Tryd.prog 43 #[.pointer none, .int .i64 dir] w fun e w' => e = .returned (.tuple #[.slice none 0 0, .int .i64 1]) ∧ w = w' := by
  go_enter Tryd.func43, Tryd.ntmps43
  go_wp2_with (go_at_call 61; refine (n_find _ _ _).mono ?_; rintro e w' ⟨rfl, rfl⟩)
  go_returns
  exact ⟨rfl, rfl⟩
theorem n_open (id : Int) : Calls Tryd.prog 35 #[.pointer none, .int .i64 id] w fun e w' => e = .returned (.int .i64 1) ∧ w = w' := by
  go_enter Tryd.func35, Tryd.ntmps35
  go_wp2_with (go_at_call 36; refine (n_get _ _).mono ?_; rintro e w' ⟨rfl, rfl⟩)
  go_ret
  exact ⟨rfl, rfl⟩
theorem n_close (id : Int) : Calls Tryd.prog 12 #[.pointer none, .int .i64 id] w fun e w' => e = .returned (.int .i64 1) ∧ w = w' := by
  go_enter Tryd.func12, Tryd.ntmps12
  go_wp2_with (go_at_call 36; refine (n_get _ _).mono ?_; rintro e w' ⟨rfl, rfl⟩)
  go_ret
  exact ⟨rfl, rfl⟩
theorem n_enter (dir id : Int) (s : ByteArray) : Calls Tryd.prog 45 #[.pointer none, .int .i64 dir, .string s, .int .i64 id] w fun e w' => e = .returned (.int .i64 1) ∧ w = w' := by
  go_enter Tryd.func45, Tryd.ntmps45
  go_wp2_with (go_at_call 61; refine (n_find _ _ _).mono ?_; rintro e w' ⟨rfl, rfl⟩)
  go_ret
  exact ⟨rfl, rfl⟩
theorem n_remove (dir : Int) (s : ByteArray) : Calls Tryd.prog 70 #[.pointer none, .int .i64 dir, .string s] w fun e w' => e = .returned (.int .i64 1) ∧ w = w' := by
  go_enter Tryd.func70, Tryd.ntmps70
  go_wp2_with (go_at_call 61; refine (n_find _ _ _).mono ?_; rintro e w' ⟨rfl, rfl⟩)
  go_ret
  exact ⟨rfl, rfl⟩
set_option maxRecDepth 100000 in
theorem n_len : Calls Tryd.prog 15 #[.pointer none] w fun e w' => e = .returned (.int .i64 0) ∧ w = w' := by
  go_enter Tryd.func15, Tryd.ntmps15
  go_wp2
  go_loopw [3, 5] (fun v3 v5 wr => ∃ i : Nat, i ≤ 16 ∧ v5 = .int .i64 i ∧ v3 = .int .i64 0 ∧ wr = w) (fun _ v5 _ => 16 - (intOf v5).toNat)
  case atStart => exact ⟨0, by omega, rfl, rfl, rfl⟩
  case round =>
    obtain ⟨i, hi, rfl, rfl, rfl⟩ := hrel
    by_cases hil : i < 16
    · have d1 : decide ((i : Int) < 16) = true := by simp; omega
      have d1n : decide (i < 16) = true := by simp; omega
      go_wp2_with (go_at_call 36; refine (n_get _ _).mono ?_; rintro e w' ⟨rfl, rfl⟩)
      go_roundw
      case rel => exact ⟨i + 1, by omega, by go_num, by trivial, by trivial⟩
      case measure => simp [intOf]; omega
    · have hie : i = 16 := by omega
      subst hie
      go_wp2_with (fail)
      go_ret
      exact ⟨rfl, rfl⟩
end none
/-- the act beside a law that makes new things only -/
def actC (d id dir : Int) (s : ByteArray) (b : Bool) : Array Value := #[.int .i64 d, .int .i64 id, .int .i64 dir, .string s, .bool b]
end Go.Proofs.YtchnjfmimpikcaaDoor
