/-
  Of no system each call says so; results; what a call's plain answer is.
-/
import Derived.Test.YtjpjafajploiaaaGreatDoorFrR
import Derived.Lib.BufferRead
import Derived.Laws.StructEq
namespace Go.Proofs.YtjpjafajploiaaaGreatDoor
set_option linter.unusedSimpArgs false
set_option linter.unusedVariables false
open Go.RowKit Own RegJ
open Go.Lib

abbrev resV (c v : Int) (s : ByteArray) : Value := .agg #[.int .i64 c, .int .i64 v, .string s]
section
variable {w : World}
set_option maxRecDepth 100000 in
theorem n_do (p : Int) (c : Array Value) (w : World) : Calls Tryz.prog 12 #[.pointer none, .int .i64 p, .agg c] w fun e w' => e = .returned (resV 1 0 ⟨#[]⟩) ∧ Below w.heap.size w w' := by
  go_enter Tryz.func12, Tryz.ntmps12
  go_wp2_with (fail)
  exact bodyPost_ret (v := resV 1 0 ⟨#[]⟩) (by simp [results, Tryz.results12, go_sem]) rfl ⟨rfl, ((Below.refl _ _).alloc (Nat.le_refl _) _).alloc (by simp) _⟩
set_option maxRecDepth 100000 in
theorem n_start (p : Int) (w : World) : Calls Tryz.prog 11 #[.pointer none, .int .i64 p] w fun e w' => e = .returned (.int .i64 1) ∧ w = w' := by
  go_enter Tryz.func11, Tryz.ntmps11
  go_wp2_with (fail)
  go_ret
  exact ⟨rfl, rfl⟩
set_option maxRecDepth 100000 in
theorem n_fork (p q : Int) (w : World) : Calls Tryz.prog 13 #[.pointer none, .int .i64 p, .int .i64 q] w fun e w' => e = .returned (.int .i64 1) ∧ w = w' := by
  go_enter Tryz.func13, Tryz.ntmps13
  go_wp2_with (fail)
  go_ret
  exact ⟨rfl, rfl⟩
set_option maxRecDepth 100000 in
theorem n_exit (p q : Int) (w : World) : Calls Tryz.prog 14 #[.pointer none, .int .i64 p, .int .i64 q] w fun e w' => e = .returned (.int .i64 1) ∧ w = w' := by
  go_enter Tryz.func14, Tryz.ntmps14
  go_wp2_with (fail)
  go_ret
  exact ⟨rfl, rfl⟩
set_option maxRecDepth 100000 in
theorem n_fds (w : World) : Calls Tryz.prog 25 #[.pointer none] w fun e w' => e = .returned (.pointer none) ∧ w = w' := by
  go_enter Tryz.func25, Tryz.ntmps25
  go_wp2_with (fail)
  go_ret
  exact ⟨rfl, rfl⟩
set_option maxRecDepth 100000 in
theorem n_procs (w : World) : Calls Tryz.prog 21 #[.pointer none] w fun e w' => e = .returned (.pointer none) ∧ w = w' := by
  go_enter Tryz.func21, Tryz.ntmps21
  go_wp2_with (fail)
  go_ret
  exact ⟨rfl, rfl⟩
set_option maxRecDepth 100000 in
theorem n_vfs (w : World) : Calls Tryz.prog 28 #[.pointer none] w fun e w' => e = .returned (.pointer none) ∧ w = w' := by
  go_enter Tryz.func28, Tryz.ntmps28
  go_wp2_with (fail)
  go_ret
  exact ⟨rfl, rfl⟩
set_option maxRecDepth 100000 in
theorem n_free (w : World) : Calls Tryz.prog 16 #[.pointer none] w fun e w' => e = .returned (.int .i64 0) ∧ w = w' := by
  go_enter Tryz.func16, Tryz.ntmps16
  go_wp2_with (fail)
  go_ret
  exact ⟨rfl, rfl⟩
set_option maxRecDepth 100000 in
theorem plain_is (v e0 r1 r2 : Int) (hr : (if e0 = 0 then (0, v) else (e0, 0)) = (r1, r2)) (w : World) : Calls Tryz.prog 41 #[.int .i64 v, .int .i64 e0] w fun e w' => e = .returned (resV r1 r2 ⟨#[]⟩) ∧ Below w.heap.size w w' := by
  by_cases h0 : e0 = 0
  · subst h0
    rw [if_pos rfl] at hr
    cases hr
    go_enter Tryz.func41, Tryz.ntmps41
    go_wp2_with (fail)
    exact bodyPost_ret (v := resV 0 v ⟨#[]⟩) (by simp [results, Tryz.results41, go_sem]) rfl ⟨rfl, (Below.refl _ _).alloc (Nat.le_refl _) _⟩
  · rw [if_neg h0] at hr
    cases hr
    have d1 : (e0 == 0) = false := by simpa using h0
    have d2 : (e0 != 0) = true := by simpa using h0
    clear h0
    go_enter Tryz.func41, Tryz.ntmps41
    go_wp2_with (fail)
    exact bodyPost_ret (v := resV e0 0 ⟨#[]⟩) (by simp [results, Tryz.results41, go_sem]) rfl ⟨rfl, (Below.refl _ _).alloc (Nat.le_refl _) _⟩
end
end Go.Proofs.YtjpjafajploiaaaGreatDoor
