/-
  Descriptors' law: of no descriptors each call says so.
-/
import Derived.Test.YtaldahogjlokkaaGreatDoorKa
namespace Go.Proofs.YtaldahogjlokkaaGreatDoor
set_option linter.unusedSimpArgs false
set_option linter.unusedVariables false
open Go.RowKit Own RegJ Two
open Go.Lib hiding intOf

set_option maxRecDepth 100000 in
theorem nproc (p : Int) (w : World) : Calls Tryz.prog 46 #[.pointer none, .int .i64 p] w fun e w' => e = .returned (.tuple #[.pointer none, .int .i64 1]) ∧ w = w' := by
  go_enter Tryz.func46, Tryz.ntmps46
  go_wp2_with (fail)
  go_ret2
  exact ⟨rfl, rfl⟩
set_option maxRecDepth 100000 in
theorem nget (p : Int) (d : Int) (w : World) : Calls Tryz.prog 41 #[.pointer none, .int .i64 p, .int .i64 d] w fun e w' => e = .returned (.tuple #[.pointer none, .int .i64 1]) ∧ w = w' := by
  go_enter Tryz.func41, Tryz.ntmps41
  go_wp2_with ((go_at_call 46; refine (nproc p w).mono ?_; rintro e w1 ⟨rfl, rfl⟩))
  go_ret2
  exact ⟨rfl, rfl⟩
set_option maxRecDepth 100000 in
theorem nfree (p : Int) (n : Int) (w : World) : Calls Tryz.prog 39 #[.pointer none, .int .i64 p, .int .i64 n] w fun e w' => e = .returned (.tuple #[.slice none 0 0, .int .i64 1]) ∧ w = w' := by
  go_enter Tryz.func39, Tryz.ntmps39
  go_wp2_with ((go_at_call 46; refine (nproc p w).mono ?_; rintro e w1 ⟨rfl, rfl⟩))
  go_ret2
  exact ⟨rfl, rfl⟩
set_option maxRecDepth 100000 in
theorem nopen (p : Int) (n : Int) (s : ByteArray) (w : World) : Calls Tryz.prog 13 #[.pointer none, .int .i64 p, .string s, .int .i64 n] w fun e w' => e = .returned (.tuple #[.int .i64 0, .int .i64 1]) ∧ w = w' := by
  go_enter Tryz.func13, Tryz.ntmps13
  go_wp2_with ((go_at_call 39; refine (nfree p 1 w).mono ?_; rintro e w1 ⟨rfl, rfl⟩))
  go_ret2
  exact ⟨rfl, rfl⟩
set_option maxRecDepth 100000 in
theorem npipe (p : Int) (w : World) : Calls Tryz.prog 30 #[.pointer none, .int .i64 p] w fun e w' => e = .returned (.tuple #[.int .i64 0, .int .i64 1]) ∧ w = w' := by
  go_enter Tryz.func30, Tryz.ntmps30
  go_wp2_with ((go_at_call 39; refine (nfree p 2 w).mono ?_; rintro e w1 ⟨rfl, rfl⟩))
  go_ret2
  exact ⟨rfl, rfl⟩
set_option maxRecDepth 100000 in
theorem ndup (p : Int) (d : Int) (w : World) : Calls Tryz.prog 20 #[.pointer none, .int .i64 p, .int .i64 d] w fun e w' => e = .returned (.tuple #[.int .i64 0, .int .i64 1]) ∧ w = w' := by
  go_enter Tryz.func20, Tryz.ntmps20
  go_wp2_with ((go_at_call 41; refine (nget p d w).mono ?_; rintro e w1 ⟨rfl, rfl⟩))
  go_ret2
  exact ⟨rfl, rfl⟩
set_option maxRecDepth 100000 in
theorem nread (p : Int) (d : Int) (n : Int) (w : World) : Calls Tryz.prog 17 #[.pointer none, .int .i64 p, .int .i64 d, .int .i64 n] w fun e w' => e = .returned (.tuple #[.slice none 0 0, .int .i64 1]) ∧ w = w' := by
  go_enter Tryz.func17, Tryz.ntmps17
  go_wp2_with ((go_at_call 41; refine (nget p d w).mono ?_; rintro e w1 ⟨rfl, rfl⟩))
  go_ret2
  exact ⟨rfl, rfl⟩
set_option maxRecDepth 100000 in
theorem nwrite (p : Int) (d : Int) (w : World) : Calls Tryz.prog 16 #[.pointer none, .int .i64 p, .int .i64 d, .slice none 0 0] w fun e w' => e = .returned (.tuple #[.int .i64 0, .int .i64 1]) ∧ w = w' := by
  go_enter Tryz.func16, Tryz.ntmps16
  go_wp2_with ((go_at_call 41; refine (nget p d w).mono ?_; rintro e w1 ⟨rfl, rfl⟩))
  go_ret2
  exact ⟨rfl, rfl⟩
set_option maxRecDepth 100000 in
theorem nstart (p : Int) (w : World) : Calls Tryz.prog 12 #[.pointer none, .int .i64 p] w fun e w' => e = .returned (.int .i64 1) ∧ w = w' := by
  go_enter Tryz.func12, Tryz.ntmps12
  go_wp2_with (fail)
  go_ret
  exact ⟨rfl, rfl⟩
set_option maxRecDepth 100000 in
theorem ncopy (p : Int) (q : Int) (w : World) : Calls Tryz.prog 19 #[.pointer none, .int .i64 p, .int .i64 q] w fun e w' => e = .returned (.int .i64 1) ∧ w = w' := by
  go_enter Tryz.func19, Tryz.ntmps19
  go_wp2_with ((go_at_call 46; refine (nproc p w).mono ?_; rintro e w1 ⟨rfl, rfl⟩))
  go_ret
  exact ⟨rfl, rfl⟩
set_option maxRecDepth 100000 in
theorem nleave (p : Int) (w : World) : Calls Tryz.prog 31 #[.pointer none, .int .i64 p] w fun e w' => e = .returned (.int .i64 1) ∧ w = w' := by
  go_enter Tryz.func31, Tryz.ntmps31
  go_wp2_with ((go_at_call 46; refine (nproc p w).mono ?_; rintro e w1 ⟨rfl, rfl⟩))
  go_ret
  exact ⟨rfl, rfl⟩
set_option maxRecDepth 100000 in
theorem nclose (p : Int) (d : Int) (w : World) : Calls Tryz.prog 22 #[.pointer none, .int .i64 p, .int .i64 d] w fun e w' => e = .returned (.int .i64 1) ∧ w = w' := by
  go_enter Tryz.func22, Tryz.ntmps22
  go_wp2_with ((go_at_call 41; refine (nget p d w).mono ?_; rintro e w1 ⟨rfl, rfl⟩))
  go_ret
  exact ⟨rfl, rfl⟩
set_option maxRecDepth 100000 in
theorem nseek (p : Int) (d : Int) (n : Int) (w : World) : Calls Tryz.prog 14 #[.pointer none, .int .i64 p, .int .i64 d, .int .i64 n] w fun e w' => e = .returned (.int .i64 1) ∧ w = w' := by
  go_enter Tryz.func14, Tryz.ntmps14
  go_wp2_with ((go_at_call 41; refine (nget p d w).mono ?_; rintro e w1 ⟨rfl, rfl⟩))
  go_ret
  exact ⟨rfl, rfl⟩
set_option maxRecDepth 100000 in
theorem nused (p : Int) (w : World) : Calls Tryz.prog 23 #[.pointer none, .int .i64 p] w fun e w' => e = .returned (.slice none 0 0) ∧ w = w' := by
  go_enter Tryz.func23, Tryz.ntmps23
  go_wp2_with ((go_at_call 46; refine (nproc p w).mono ?_; rintro e w1 ⟨rfl, rfl⟩))
  go_ret
  exact ⟨rfl, rfl⟩
set_option maxRecDepth 100000 in
set_option maxHeartbeats 2000000 in
theorem none_v (k p d n : Int) (s : ByteArray) (bv : Value) (w : World) (m : Int) (hm : w.cell? ⟨0, 0, none⟩ = some (.int .i64 m)) :
    Calls Tryz.prog 9 #[.agg #[.int .i64 k, .int .i64 p, .int .i64 d, .int .i64 n, .string s, bv]] w fun e w' => e = .returned (.bool true) ∧ Below w.heap.size w w' := by
  letI : Inhabited CapT := capOf 10
  have hB0 := Blk.new w #[.int .i64 k, .int .i64 p, .int .i64 d, .int .i64 n, .string s, bv] 50
  have hW0 : Below w.heap.size w (w.alloc (.cells #[.int .i64 k, .int .i64 p, .int .i64 d, .int .i64 n, .string s, bv] 50)) := (Below.refl _ _).alloc (Nat.le_refl _) _
  have r0 := hB0.rd
  have haw := k_awake (w.alloc (.cells #[.int .i64 k, .int .i64 p, .int .i64 d, .int .i64 n, .string s, bv] 50)) (MC.below ⟨m, hm⟩ hW0) rfl
  have HW := Lib.hid hW0
  clear hB0 hW0 hm
  by_cases hbig : (s.size : Int) > 200
  · go_enter Tryz.func9, Tryz.ntmps9
    go_wp2_with (go_at_call 10; refine haw.mono ?_; rintro e w2 ⟨rfl, hb2⟩; have H2 := Lib.hid hb2; clear hb2)
    go_ret
    exact ⟨rfl, HW.out.trans (H2.out.mono HW.out.size)⟩
  · have d1 : decide ((s.size : Int) > 200) = false := decide_eq_false hbig
    clear hbig
    go_enter Tryz.func9, Tryz.ntmps9
    go_wp2_with (first
    | (go_at_call 13; refine (nopen _ _ _ _).mono ?_; rintro e w1 ⟨rfl, rfl⟩)
    | (go_at_call 30; refine (npipe _ _).mono ?_; rintro e w1 ⟨rfl, rfl⟩)
    | (go_at_call 20; refine (ndup _ _ _).mono ?_; rintro e w1 ⟨rfl, rfl⟩)
    | (go_at_call 17; refine (nread _ _ _ _).mono ?_; rintro e w1 ⟨rfl, rfl⟩)
    | (go_at_call 16; refine (nwrite _ _ _).mono ?_; rintro e w1 ⟨rfl, rfl⟩)
    | (go_at_call 12; refine (nstart _ _).mono ?_; rintro e w1 ⟨rfl, rfl⟩)
    | (go_at_call 19; refine (ncopy _ _ _).mono ?_; rintro e w1 ⟨rfl, rfl⟩)
    | (go_at_call 31; refine (nleave _ _).mono ?_; rintro e w1 ⟨rfl, rfl⟩)
    | (go_at_call 22; refine (nclose _ _ _).mono ?_; rintro e w1 ⟨rfl, rfl⟩)
    | (go_at_call 14; refine (nseek _ _ _ _).mono ?_; rintro e w1 ⟨rfl, rfl⟩)
    | (go_at_call 23; refine (nused _ _).mono ?_; rintro e w1 ⟨rfl, rfl⟩)
    | (go_at_call 10; refine haw.mono ?_; rintro e w2 ⟨rfl, hb2⟩; have H2 := Lib.hid hb2; clear hb2))
    go_ret
    exact ⟨rfl, HW.out.trans (H2.out.mono HW.out.size)⟩
end Go.Proofs.YtaldahogjlokkaaGreatDoor
