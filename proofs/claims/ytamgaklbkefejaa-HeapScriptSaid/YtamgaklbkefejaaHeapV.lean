/-
  awake; of no heap.
-/
import Derived.Test.YtamgaklbkefejaaHeapU
import Derived.Laws.StructEq
namespace Go.Proofs.Ytamgaklbkefejaa
set_option linter.unusedSimpArgs false
set_option linter.unusedVariables false
open Go.RowKit Go.Lib Own
open RegJ hiding Up
open RegF hiding put_size

theorem hasB_perm {xs ys : List It} (h : ys.Perm xs) (id : Int) : hasB ys id = hasB xs id := by
  unfold hasB
  rw [Bool.eq_iff_iff, List.any_eq_true, List.any_eq_true]
  exact ⟨fun ⟨p, hp, he⟩ => ⟨p, h.mem_iff.1 hp, he⟩, fun ⟨p, hp, he⟩ => ⟨p, h.mem_iff.2 hp, he⟩⟩
theorem X0_mem {xs : List It} (h : xs ≠ []) : X xs 0 ∈ xs := by
  cases xs with
  | nil => exact absurd rfl h
  | cons a r => unfold X; simp
/-- the first one of a heap in order is the least -/
theorem first_le {xs : List It} (h : HeapOk xs xs.length) : ∀ p ∈ xs, le (X xs 0) p := by
  intro p hp
  obtain ⟨c, hc, rfl⟩ := List.getElem_of_mem hp
  have := heap_min h c hc
  rw [show X xs c = xs[c] by unfold X; simp [hc]] at this
  exact this
theorem three_first {ys y1 y2 : List It} (h1 : y1.Perm ([] ++ [(1, 9)])) (h2 : y2.Perm (y1 ++ [(2, 4)])) (h3 : ys.Perm (y2 ++ [(3, 4)])) (ho : HeapOk ys ys.length) : ys ≠ [] ∧ X ys 0 = (2, 4) ∧ ys.length = 3 := by
  have hp : ys.Perm [(1, 9), (2, 4), (3, 4)] := h3.trans ((h2.trans (h1.append_right _)).append_right _)
  have hl := hp.length_eq
  have hne : ys ≠ [] := by intro h; rw [h] at hl; simp at hl
  have hm := hp.mem_iff.1 (X0_mem hne)
  have hle := first_le ho (2, 4) (hp.mem_iff.2 (by simp))
  refine ⟨hne, ?_, by simpa using hl⟩
  simp at hm
  rcases hm with h | h | h
  · rw [h] at hle; unfold le lt at hle; omega
  · exact h
  · rw [h] at hle; unfold le lt at hle; omega
theorem hfr_below {w w' : World} {o : Obj} {b : Option Nat} (h : HFr w.heap.size none b (w.alloc o) w') : Below w.heap.size w w' :=
  ((Below.refl _ _).alloc (Nat.le_refl _) o).trans (h.1.below (by simp) (fun k hk => by rcases hk with hk | hk; omega; cases hk))
/-- the act beside a law that makes new things only -/
def NS (w : World) (id k d : Int) (w' : World) : Prop := Below w.heap.size w w' ∧ Blk w' w.heap.size #[.int .i64 d, .int .i64 id, .int .i64 k] 41
theorem NS.step {w w1 w2 : World} {id k d : Int} (h : NS w id k d w1) (hb : Below w1.heap.size w1 w2) : NS w id k d w2 := ⟨h.1.trans (hb.mono h.1.size), Blk.below hb h.2 h.2.lt⟩
set_option maxRecDepth 100000 in
theorem awake_any (w : World) : Calls Try.prog 7 #[] w fun e w' => e = .returned (.bool true) ∧ Below w.heap.size w w' := by
  have hp1 := push_ok (hp_new w) (by simp) 1 9 (by omega) rfl
  go_enter Try.func7, Try.ntmps7
  go_wp2_with (first
    | (go_at_call 8; refine (hnew _).mono ?_; rintro e w' ⟨rfl, rfl⟩)
    | (go_at_call 9; (with_reducible refine hp1.mono ?_); rintro e w1 ⟨rfl, y1, b1, hm1, hh1, hf1⟩; clear hp1; have hp2 := push_ok hh1 (by rw [hm1.length_eq]; simp) 2 4 (by omega) (by rw [hasB_perm hm1]; rfl); have H1 := Lib.hid (And.intro hm1 hf1); clear hm1 hh1 hf1)
    | (go_at_call 9; (with_reducible refine hp2.mono ?_); rintro e w2 ⟨rfl, y2, b2, hm2, hh2, hf2⟩; clear hp2; have hp3 := push_ok hh2 (by rw [hm2.length_eq, List.length_append, H1.out.1.length_eq]; simp) 3 4 (by omega) (by rw [hasB_perm (hm2.trans (H1.out.1.append_right _))]; rfl); have H2 := Lib.hid (And.intro hm2 hf2); clear hm2 hh2 hf2)
    | (go_at_call 9; (with_reducible refine hp3.mono ?_); rintro e w3 ⟨rfl, y3, b3, hm3, hh3, hf3⟩; clear hp3; obtain ⟨hne, hX, hlen⟩ := three_first H1.out.1 H2.out.1 hm3 hh3.2; have hpp := pop_some hh3 hne 2 4 hX; have H3 := Lib.hid (And.intro hlen hf3); clear hm3 hh3 hf3 hX hne hlen)
    | (go_at_call 10; (with_reducible refine hpp.mono ?_); rintro e w4 ⟨rfl, y4, hm4, hh4, hf4⟩; clear hpp; have hl4 : y4.length = 2 := (by have := hm4.length_eq; rw [H3.out.1] at this; simpa using this); have hb4 := hh4.1.below (Below.alloc (Below.refl w4.heap.size w4) (Nat.le_refl _) (.cells #[.int .i64 2, .int .i64 4] 30)); have hll := len_is hb4 2 hl4; have H4 := Lib.hid hf4; clear hm4 hh4 hf4 hl4 hb4)
    | (go_at_call 11; refine hll.mono ?_; rintro e w5 ⟨rfl, rfl⟩))
  go_ret
  exact ⟨rfl, (hfr_below (((H1.out.2.trans H2.out.2).trans H3.out.2).trans H4.out)).alloc (by have := (hfr_below (((H1.out.2.trans H2.out.2).trans H3.out.2).trans H4.out)).size; omega) _⟩

/-! ### of none -/
section none
variable (w : World)
theorem n_len : Calls Try.prog 11 #[.pointer none] w fun e w' => e = .returned (.int .i64 0) ∧ w = w' := by
  go_enter Try.func11, Try.ntmps11
  go_wp2
  go_ret
  exact ⟨rfl, rfl⟩
theorem n_at (id : Int) : Calls Try.prog 30 #[.pointer none, .int .i64 id] w fun e w' => e = .returned (.int .i64 (-1)) ∧ Below w.heap.size w w' := by
  go_enter Try.func30, Try.ntmps30
  go_wp2
  go_ret
  exact ⟨rfl, (Below.refl _ _).alloc (Nat.le_refl _) _⟩
theorem n_has (id : Int) : Calls Try.prog 21 #[.pointer none, .int .i64 id] w fun e w' => e = .returned (.bool false) ∧ Below w.heap.size w w' := by
  go_enter Try.func21, Try.ntmps21
  go_wp2_with (go_at_call 30; refine (n_at _ _).mono ?_; rintro e w' ⟨rfl, hB⟩)
  go_ret
  exact ⟨rfl, hB⟩
theorem n_push (id k : Int) : Calls Try.prog 9 #[.pointer none, .int .i64 id, .int .i64 k] w fun e w' => e = .returned (.int .i64 1) ∧ w = w' := by
  go_enter Try.func9, Try.ntmps9
  go_wp2
  go_ret
  exact ⟨rfl, rfl⟩
theorem n_drop (id : Int) : Calls Try.prog 16 #[.pointer none, .int .i64 id] w fun e w' => e = .returned (.bool false) ∧ Below w.heap.size w w' := by
  go_enter Try.func16, Try.ntmps16
  go_wp2_with (go_at_call 30; refine (n_at _ _).mono ?_; rintro e w' ⟨rfl, hB⟩)
  go_ret
  exact ⟨rfl, hB⟩
theorem n_move (id k : Int) : Calls Try.prog 17 #[.pointer none, .int .i64 id, .int .i64 k] w fun e w' => e = .returned (.bool false) ∧ Below w.heap.size w w' := by
  go_enter Try.func17, Try.ntmps17
  go_wp2_with (go_at_call 30; refine (n_at _ _).mono ?_; rintro e w' ⟨rfl, hB⟩)
  go_ret
  exact ⟨rfl, hB⟩
theorem n_all : Calls Try.prog 20 #[.pointer none] w fun e w' => e = .returned (.slice none 0 0) ∧ Below w.heap.size w w' := by
  go_enter Try.func20, Try.ntmps20
  go_wp2
  go_ret
  exact ⟨rfl, Below.refl _ _⟩
set_option maxRecDepth 100000 in
theorem n_min : Calls Try.prog 19 #[.pointer none] w (ValB (IV 0 0 false) w) := by
  go_enter Try.func19, Try.ntmps19
  go_wp2_with (go_at_call 11; refine (n_len _).mono ?_; rintro e w1 ⟨rfl, rfl⟩)
  go_returns
  exact ⟨rfl, (Below.refl _ _).alloc (Nat.le_refl _) _⟩
set_option maxRecDepth 100000 in
theorem n_pop : Calls Try.prog 10 #[.pointer none] w (ValB (IV 0 0 false) w) := by
  have hc0 := Blk.new w #[.int .i64 0, .int .i64 0] 30
  go_enter Try.func10, Try.ntmps10
  go_wp2_with (go_at_call 19; refine (n_min _).mono ?_; rintro e w1 ⟨rfl, hB⟩; have h0 := Blk.below hB hc0 (by simp); have c1 := h0.rd; have f1 := h0.nf; have hsz := h0.lt; have HB := Lib.hid hB; clear hB h0)
  have hf := ((((Blk.below HB.out hc0 (by simp)).set 0 (.int .i64 0)).set 1 (.int .i64 0)).alloc (.cells #[.int .i64 0, .int .i64 0] 30))
  refine bodyPost_ret (v := IV 0 0 false) (by simp [results, Try.results10, go_sem, hf.rd]) rfl ?_
  have hb : Below w.heap.size w w1 := ((Below.refl _ _).alloc (Nat.le_refl _) _).trans (HB.out.mono (by simp))
  exact ⟨rfl, ((hb.setCell (p := ⟨w.heap.size, 0, none⟩) (Nat.le_refl _) _).setCell (p := ⟨w.heap.size, 1, none⟩) (Nat.le_refl _) _).alloc (by simpa [World.setCell] using Nat.le_of_lt hsz) _⟩
end none
set_option maxRecDepth 100000 in
set_option maxHeartbeats 1000000 in
theorem none_walk (d id k : Int) (w : World) : Calls Try.prog 5 #[.agg #[.int .i64 d, .int .i64 id, .int .i64 k]] w fun e w' => e = .returned (.bool true) ∧ Below w.heap.size w w' := by
  have hx := Blk.new w #[.int .i64 d, .int .i64 id, .int .i64 k] 41
  have hpp := n_pop
  go_enter Try.func5, Try.ntmps5
  go_wp2_with (first
    | (go_at_call 10; refine (hpp _).mono ?_; rintro e w1 ⟨rfl, hB⟩; clear hpp; have h0 := (Blk.below hB hx (by simp)).alloc (.cells #[.int .i64 0, .int .i64 0] 30); have hb1 : Below w.heap.size w (w1.alloc (.cells #[.int .i64 0, .int .i64 0] 30)) := (((Below.refl _ _).alloc (Nat.le_refl _) _).trans (hB.mono (by simp))).alloc (by have := hB.size; simp at this; omega) _; have hn := Blk.new w1 #[.int .i64 0, .int .i64 0] 30; have HB := Lib.hid (And.intro hb1 (And.intro h0 hn)); have c1 := h0.rd; clear hb1 h0 hn hB hx)
    | (go_at_call 19; refine (n_min _).mono ?_; rintro e w2 ⟨rfl, hB⟩; have h1 := (Blk.below hB HB.out.2.1 HB.out.2.1.lt).alloc (.cells #[.int .i64 0, .int .i64 0] 30); have h2 := (Blk.below hB HB.out.2.2 HB.out.2.2.lt).alloc (.cells #[.int .i64 0, .int .i64 0] 30); have hb2 := (HB.out.1.trans (hB.mono HB.out.1.size)).alloc (by have := HB.out.1.size; have := hB.size; omega) (.cells #[.int .i64 0, .int .i64 0] 30); have HB2 := Lib.hid (And.intro hb2 h1); have c1 := h1.rd; have c2 := h2.rd; clear hb2 h1 h2 hB)
    | (go_at_call 9; refine (n_push _ _ _).mono ?_; rintro e w3 ⟨rfl, rfl⟩; have HS := Lib.hid (show NS w id k d _ from ⟨HB2.out.1, HB2.out.2⟩))
    | (go_at_call 16; refine (n_drop _ _).mono ?_; rintro e w3 ⟨rfl, hB⟩; have HT := Lib.hid (HS.out.step hB); have c1 := HT.out.2.rd; clear hB)
    | (go_at_call 17; refine (n_move _ _ _).mono ?_; rintro e w4 ⟨rfl, hB⟩; have HU := Lib.hid (HT.out.step hB); have c1 := HU.out.2.rd; clear hB)
    | (go_at_call 21; refine (n_has _ _).mono ?_; rintro e w5 ⟨rfl, hB⟩; have HV := Lib.hid (HU.out.step hB); have c1 := HV.out.2.rd; clear hB)
    | (go_at_call 11; refine (n_len _).mono ?_; rintro e w6 ⟨rfl, rfl⟩)
    | (go_at_call 20; refine (n_all _).mono ?_; rintro e w7 ⟨rfl, hB⟩; have HW := Lib.hid (HV.out.step hB); clear hB)
    | (go_at_call 7; refine (awake_any _).mono ?_; rintro e w8 ⟨rfl, hB⟩; have HX := Lib.hid (HW.out.step hB); clear hB))
  go_ret
  exact ⟨rfl, HX.out.1⟩
end Go.Proofs.Ytamgaklbkefejaa
