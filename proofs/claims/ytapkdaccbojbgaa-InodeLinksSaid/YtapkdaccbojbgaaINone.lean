/-
  Of no table each call says so.
-/
import Derived.Test.YtapkdaccbojbgaaIAwake
namespace Go.Proofs.Ytapkdaccbojbgaa
set_option linter.unusedSimpArgs false
set_option linter.unusedVariables false
open Go.RowKit Own RegJ Two
open Go.Lib hiding intOf

section none
variable (w : World)
theorem n_get (id : Int) : Calls Try.prog 32 #[.pointer none, .int .i64 id] w fun e w' => e = .returned (.pointer none) ∧ w = w' := by
  go_enter Try.func32, Try.ntmps32
  go_wp2
  go_ret
  exact ⟨rfl, rfl⟩
theorem n_make (d : Bool) : Calls Try.prog 9 #[.pointer none, .bool d] w fun e w' => e = .returned (.tuple #[.int .i64 0, .int .i64 1]) ∧ w = w' := by
  go_enter Try.func9, Try.ntmps9
  go_wp2
  go_returns
  exact ⟨rfl, rfl⟩
abbrev in0 : Array Value := #[.int .i64 0, .int .i64 0, .bool false, .int .i64 0]
set_option maxRecDepth 100000 in
theorem n_tget (id : Int) : Calls Try.prog 15 #[.pointer none, .int .i64 id] w fun e w' => e = .returned (.tuple #[.agg in0, .bool false]) ∧ Below w.heap.size w w' := by
  have hc0 := Blk.new w in0 41
  go_enter Try.func15, Try.ntmps15
  go_wp2_with (go_at_call 32; refine (n_get _ _).mono ?_; rintro e w1 ⟨rfl, rfl⟩; have c1 := hc0.rd; have f1 := hc0.nf)
  have hf := (((hc0.set 0 (.int .i64 0)).set 1 (.int .i64 0)).set 2 (.bool false)).set 3 (.int .i64 0)
  refine bodyPost_ret (v := .tuple #[.agg in0, .bool false]) (by simp [results, Try.results15, go_sem, hf.rd]) rfl ?_
  have hb : Below w.heap.size w (w.alloc (.cells in0 41)) := (Below.refl _ _).alloc (Nat.le_refl _) _
  exact ⟨rfl, hb⟩
theorem n_find (dir : Int) (s : ByteArray) : Calls Try.prog 30 #[.pointer none, .int .i64 dir, .string s] w fun e w' => e = .returned (.tuple #[.int .i64 0, .bool false, .int .i64 1]) ∧ w = w' := by
  go_enter Try.func30, Try.ntmps30
  go_wp2_with (go_at_call 32; refine (n_get _ _).mono ?_; rintro e w' ⟨rfl, rfl⟩)
  go_returns
  exact ⟨rfl, rfl⟩
theorem n_tfind (dir : Int) (s : ByteArray) : Calls Try.prog 12 #[.pointer none, .int .i64 dir, .string s] w fun e w' => e = .returned (.tuple #[.int .i64 0, .int .i64 1]) ∧ w = w' := by
  go_enter Try.func12, Try.ntmps12
  go_wp2_with (go_at_call 30; refine (n_find _ _ _).mono ?_; rintro e w' ⟨rfl, rfl⟩)
  go_returns
  exact ⟨rfl, rfl⟩
theorem n_list (dir : Int) : Calls Try.prog 11 #[.pointer none, .int .i64 dir] w fun e w' => e = .returned (.tuple #[.slice none 0 0, .int .i64 1]) ∧ w = w' := by
  go_enter Try.func11, Try.ntmps11
  go_wp2_with (go_at_call 30; refine (n_find _ _ _).mono ?_; rintro e w' ⟨rfl, rfl⟩)
  go_returns
  exact ⟨rfl, rfl⟩
theorem n_open (id : Int) : Calls Try.prog 20 #[.pointer none, .int .i64 id] w fun e w' => e = .returned (.int .i64 1) ∧ w = w' := by
  go_enter Try.func20, Try.ntmps20
  go_wp2_with (go_at_call 32; refine (n_get _ _).mono ?_; rintro e w' ⟨rfl, rfl⟩)
  go_ret
  exact ⟨rfl, rfl⟩
theorem n_close (id : Int) : Calls Try.prog 21 #[.pointer none, .int .i64 id] w fun e w' => e = .returned (.int .i64 1) ∧ w = w' := by
  go_enter Try.func21, Try.ntmps21
  go_wp2_with (go_at_call 32; refine (n_get _ _).mono ?_; rintro e w' ⟨rfl, rfl⟩)
  go_ret
  exact ⟨rfl, rfl⟩
theorem n_enter (dir id : Int) (s : ByteArray) : Calls Try.prog 10 #[.pointer none, .int .i64 dir, .string s, .int .i64 id] w fun e w' => e = .returned (.int .i64 1) ∧ w = w' := by
  go_enter Try.func10, Try.ntmps10
  go_wp2_with (go_at_call 30; refine (n_find _ _ _).mono ?_; rintro e w' ⟨rfl, rfl⟩)
  go_ret
  exact ⟨rfl, rfl⟩
theorem n_remove (dir : Int) (s : ByteArray) : Calls Try.prog 14 #[.pointer none, .int .i64 dir, .string s] w fun e w' => e = .returned (.int .i64 1) ∧ w = w' := by
  go_enter Try.func14, Try.ntmps14
  go_wp2_with (go_at_call 30; refine (n_find _ _ _).mono ?_; rintro e w' ⟨rfl, rfl⟩)
  go_ret
  exact ⟨rfl, rfl⟩
theorem n_opens (id : Int) : Calls Try.prog 19 #[.pointer none, .int .i64 id] w fun e w' => e = .returned (.int .i64 0) ∧ w = w' := by
  go_enter Try.func19, Try.ntmps19
  go_wp2_with (go_at_call 32; refine (n_get _ _).mono ?_; rintro e w' ⟨rfl, rfl⟩)
  go_ret
  exact ⟨rfl, rfl⟩
set_option maxRecDepth 100000 in
theorem n_len : Calls Try.prog 22 #[.pointer none] w fun e w' => e = .returned (.int .i64 0) ∧ w = w' := by
  go_enter Try.func22, Try.ntmps22
  go_wp2
  go_loopw [3, 5] (fun v3 v5 wr => ∃ i : Nat, i ≤ 16 ∧ v5 = .int .i64 i ∧ v3 = .int .i64 0 ∧ wr = w) (fun _ v5 _ => 16 - (intOf v5).toNat)
  case atStart => exact ⟨0, by omega, rfl, rfl, rfl⟩
  case round =>
    obtain ⟨i, hi, rfl, rfl, rfl⟩ := hrel
    by_cases hil : i < 16
    · have d1 : decide ((i : Int) < 16) = true := by simp; omega
      have d1n : decide (i < 16) = true := by simp; omega
      go_wp2_with (go_at_call 32; refine (n_get _ _).mono ?_; rintro e w' ⟨rfl, rfl⟩)
      go_roundw
      case rel => exact ⟨i + 1, by omega, by go_num, by trivial, by trivial⟩
      case measure => simp [intOf]; omega
    · have hie : i = 16 := by omega
      subst hie
      go_wp2_with (fail)
      go_ret
      exact ⟨rfl, rfl⟩
end none
/-- the act beside a law that makes new things only -/
def actC (d id dir : Int) (s : ByteArray) (b : Bool) : Array Value := #[.int .i64 d, .int .i64 id, .int .i64 dir, .string s, .bool b]
def NS (w : World) (d id dir : Int) (s : ByteArray) (b : Bool) (w' : World) : Prop := Below w.heap.size w w' ∧ Blk w' w.heap.size #[.int .i64 d, .int .i64 id, .int .i64 dir, .string s, .bool b] 49
theorem NS.step {w w1 w2 : World} {d id dir : Int} {s : ByteArray} {b : Bool} (h : NS w d id dir s b w1) (hb : Below w1.heap.size w1 w2) : NS w d id dir s b w2 := ⟨h.1.trans (hb.mono h.1.size), Blk.below hb h.2 h.2.lt⟩
set_option maxRecDepth 100000 in
set_option maxHeartbeats 1000000 in
theorem none_walk (d id dir : Int) (s : ByteArray) (b : Bool) (w : World) : Calls Try.prog 6 #[.agg #[.int .i64 d, .int .i64 id, .int .i64 dir, .string s, .bool b]] w fun e w' => e = .returned (.bool true) ∧ Below w.heap.size w w' := by
  have hx := Blk.new w #[.int .i64 d, .int .i64 id, .int .i64 dir, .string s, .bool b] 49
  have hx0 : NS w d id dir s b (w.alloc (.cells #[.int .i64 d, .int .i64 id, .int .i64 dir, .string s, .bool b] 49)) := ⟨(Below.refl _ _).alloc (Nat.le_refl _) _, hx⟩
  by_cases hl : 100 < s.size
  · have HX := Lib.hid hx0
    have c1 := hx.rd
    have d1 : decide ((s.size : Int) > 100) = true := by simp; omega
    have d1n : decide (s.size > 100) = true := by simp; omega
    clear hx hx0 hl
    go_enter Try.func6, Try.ntmps6
    go_wp2_with (go_at_call 7; refine (awake_any _).mono ?_; rintro e w1 ⟨rfl, hB⟩; have H1 := Lib.hid hB; clear hB)
    go_ret
    exact ⟨rfl, HX.out.1.trans (H1.out.mono HX.out.1.size)⟩
  · have HX := Lib.hid hx0
    have c1 := hx.rd
    have d1 : decide ((s.size : Int) > 100) = false := by simp; omega
    have d1n : decide (s.size > 100) = false := by simp; omega
    clear hx hx0 hl
    go_enter Try.func6, Try.ntmps6
    go_wp2_with (first
      | (go_at_call 9; refine (n_make _ _).mono ?_; rintro e w1 ⟨rfl, rfl⟩)
      | (go_at_call 15; refine (n_tget _ _).mono ?_; rintro e w1 ⟨rfl, hB⟩; clear c1; have h1 := ((HX.out.step hB).step ((Below.refl _ _).alloc (Nat.le_refl _) (.cells in0 41))); have hn := Blk.new w1 in0 41; have HY := Lib.hid h1; have c1 := h1.2.rd; have HN := Lib.hid hn; have hsz := Lib.hid (show w.heap.size < w1.heap.size by have := (HX.out.step hB).2.lt; omega); clear hB h1 hn)
      | (go_at_call 12; refine (n_tfind _ _ _).mono ?_; rintro e w2 ⟨rfl, rfl⟩)
      | (go_at_call 11; refine (n_list _ _).mono ?_; rintro e w3 ⟨rfl, rfl⟩)
      | (go_at_call 20; refine (n_open _ _).mono ?_; rintro e w4 ⟨rfl, rfl⟩)
      | (go_at_call 21; refine (n_close _ _).mono ?_; rintro e w4 ⟨rfl, rfl⟩)
      | (go_at_call 10; refine (n_enter _ _ _ _).mono ?_; rintro e w4 ⟨rfl, rfl⟩)
      | (go_at_call 14; refine (n_remove _ _ _).mono ?_; rintro e w4 ⟨rfl, rfl⟩)
      | (go_at_call 19; refine (n_opens _ _).mono ?_; rintro e w4 ⟨rfl, rfl⟩)
      | (go_at_call 22; refine (n_len _).mono ?_; rintro e w4 ⟨rfl, rfl⟩)
      | (go_at_call 7; refine (awake_any _).mono ?_; rintro e w8 ⟨rfl, hB⟩; have HZ := Lib.hid (HY.out.step hB); clear hB))
    go_ret
    exact ⟨rfl, HZ.out.1⟩
end Go.Proofs.Ytapkdaccbojbgaa
