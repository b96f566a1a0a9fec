/-
  CostRises: its walk.
-/
import Derived.Test.YtifhcnkadieboaaRises
namespace Go.Proofs.Ytifhcnkadieboaa
set_option linter.unusedSimpArgs false
set_option linter.unusedVariables false
open Go.RowKit RegJ RegE

theorem low_is {x n v : Int} (h : lowF x n = v) (hn : 0 < n) (hm : n ≤ 4294967296) (w : World) :
    Calls Try.prog 16 #[.int .i64 x, .int .i64 n] w fun e w' => e = .returned (.int .i64 v) ∧ w = w' := h ▸ low_any x n hn hm w
set_option maxRecDepth 100000 in
set_option maxHeartbeats 1000000 in
theorem rises_rn (a0 a1 : Int) (X Y : Nat) (ha : Hid (lowF a0 513 = X)) (hb : Hid (lowF a1 513 = Y)) (hle : X ≤ Y) (hX : X < 513) (hY : Y < 513) (w : World) :
    Calls Try.prog 5 #[.int .i64 a0, .int .i64 a1, .bool false] w fun e w' => e = .returned (.bool true) ∧ Below w.heap.size w w' := by
  obtain ⟨p, hp⟩ : ∃ p, p = gM X (pM X) := ⟨_, rfl⟩
  obtain ⟨q, hq⟩ : ∃ q, q = gM Y (pM Y) := ⟨_, rfl⟩
  obtain ⟨px, hpx0⟩ : ∃ p, p = pM X := ⟨_, rfl⟩
  obtain ⟨py, hpy0⟩ : ∃ p, p = pM Y := ⟨_, rfl⟩
  have hbx := Lib.hid (show boundF 3 0 X ⟨#[]⟩ ⟨#[]⟩ (partsF 3 0 X ⟨#[]⟩ ⟨#[]⟩).toNat = p by rw [hp]; exact (moves_read X hX).all)
  have hby := Lib.hid (show boundF 3 0 Y ⟨#[]⟩ ⟨#[]⟩ (partsF 3 0 Y ⟨#[]⟩ ⟨#[]⟩).toNat = q by rw [hq]; exact (moves_read Y hY).all)
  have hpx := Lib.hid (show partsF 3 0 X ⟨#[]⟩ ⟨#[]⟩ = px by rw [hpx0]; exact (moves_read X hX).parts)
  have hpy := Lib.hid (show partsF 3 0 Y ⟨#[]⟩ ⟨#[]⟩ = py by rw [hpy0]; exact (moves_read Y hY).parts)
  have hm := gM_mono X (Y - X) (by omega)
  rw [show X + (Y - X) = Y by omega, ← hp, ← hq, ← hpx0, ← hpy0] at hm
  obtain ⟨hm1, hm2⟩ := hm
  have hg1 : 2 ≤ p := by rw [hp]; exact gM_ge X hX
  have hg2 : q ≤ 6 * ((Y + 63) / 64) + 2 := by rw [hq]; exact gM_le Y hY
  have hg3 : (q : Int) ≤ 6 * (((Y : Int) + 63) / 64) + 2 := by omega
  clear hp hq hpx0 hpy0
  have f1 : decide ((2 : Int) ≤ (p : Int)) = true := by simp; omega
  have f2 : decide (p ≤ q) = true := by simp; omega
  have f2i : decide ((p : Int) ≤ (q : Int)) = true := by simp; omega
  have f3 : decide ((q : Int) ≤ 6 * (((Y : Int) + 63) / 64) + 2) = true := by simp; omega
  have f4 : decide (px ≤ py) = true := by simp; omega
  have f4i : decide ((px : Int) ≤ (py : Int)) = true := by simp; omega
  have hd1 : decide (Y < X) = false := by simpa using hle
  have hd2 : decide ((Y : Int) < (X : Int)) = false := by simpa using hle
  go_enter Try.func5, Try.ntmps5
  go_wp2_with (first | (go_at_call 16; (with_reducible refine (low_is ha.out (by decide) (by decide) _).mono ?_); rintro e w' ⟨rfl, rfl⟩) | (go_at_call 16; (with_reducible refine (low_is hb.out (by decide) (by decide) _).mono ?_); rintro e w' ⟨rfl, rfl⟩))
  refine region_J (fun _ w' => Below w.heap.size w w' ∧ Blk w' w.heap.size #[.int .i64 3, .int .i64 0, .int .i64 X, .string ⟨#[]⟩, .string ⟨#[]⟩] 23 ∧ Blk w' (w.heap.size + 1) #[.int .i64 3, .int .i64 0, .int .i64 Y, .string ⟨#[]⟩, .string ⟨#[]⟩] 23) (by kernel_rfl) (by kernel_rfl) ?_ ?_
  · exact ⟨(((Below.refl _ _).alloc (Nat.le_refl _) _).alloc (by simp) _).drew, ((Blk.new _ _ _).alloc _).drew, (Blk.new' (by simp)).drew⟩
  · iterate 6
      apply wpJ_op rfl (by rfl)
      · intro f w' hf hJ Q1 hQ
        obtain ⟨hb, h1, h2⟩ := hJ
        have c1 := h1.rd
        have c2 := h2.rd
        simp only [Act.put, List.setIfInBounds_toArray, List.set_cons_zero, List.set_cons_succ] at hQ
        go_wp2_with (first | (go_at_call 13; (with_reducible refine (bound_is hbx.out _).mono ?_); rintro e w2 ⟨rfl, hb2⟩; have h1 := Blk.below hb2 h1 h1.lt; have h2 := Blk.below hb2 h2 h2.lt; have hb := hb.trans (hb2.mono hb.size)) | (go_at_call 13; (with_reducible refine (bound_is hby.out _).mono ?_); rintro e w2 ⟨rfl, hb2⟩; have h1 := Blk.below hb2 h1 h1.lt; have h2 := Blk.below hb2 h2 h2.lt; have hb := hb.trans (hb2.mono hb.size)))
        exact hQ _ _ rfl ⟨hb, h1, h2⟩
      simp only [Act.put, List.setIfInBounds_toArray, List.set_cons_zero, List.set_cons_succ]
    refine wpJ_nil ?_
    intro w3 hJ
    obtain ⟨hb, h1, h2⟩ := hJ
    go_wp2
    refine region_J (fun _ w' => Below w.heap.size w w' ∧ Blk w' w.heap.size #[.int .i64 3, .int .i64 0, .int .i64 X, .string ⟨#[]⟩, .string ⟨#[]⟩] 23 ∧ Blk w' (w.heap.size + 1) #[.int .i64 3, .int .i64 0, .int .i64 Y, .string ⟨#[]⟩, .string ⟨#[]⟩] 23) (by kernel_rfl) (by kernel_rfl) ?_ ?_
    · exact ⟨hb.drew, h1.drew, h2.drew⟩
    · clear h1 h2 hb
      iterate 27
        apply wpJ_op rfl (by rfl)
        · intro f w' hf hJ Q1 hQ
          obtain ⟨hb, h1, h2⟩ := hJ
          have c1 := h1.rd
          have c2 := h2.rd
          simp only [Act.put, List.setIfInBounds_toArray, List.set_cons_zero, List.set_cons_succ] at hQ
          go_wp2_with (first | (go_at_call 7; (with_reducible refine (parts_is hpx.out _).mono ?_); rintro e w2 ⟨rfl, hb2⟩; have h1 := Blk.below hb2 h1 h1.lt; have h2 := Blk.below hb2 h2 h2.lt; have hb := hb.trans (hb2.mono hb.size)) | (go_at_call 7; (with_reducible refine (parts_is hpy.out _).mono ?_); rintro e w2 ⟨rfl, hb2⟩; have h1 := Blk.below hb2 h1 h1.lt; have h2 := Blk.below hb2 h2 h2.lt; have hb := hb.trans (hb2.mono hb.size)) | (go_at_call 6; (with_reducible refine (awake_any _).mono ?_); rintro e w2 ⟨rfl, hb2⟩; have h1 := Blk.below hb2 h1 h1.lt; have h2 := Blk.below hb2 h2 h2.lt; have hb := hb.trans (hb2.mono hb.size)))
          exact hQ _ _ rfl ⟨hb, h1, h2⟩
        simp only [Act.put, List.setIfInBounds_toArray, List.set_cons_zero, List.set_cons_succ]
      refine wpJ_nil ?_
      intro w4 hJ
      obtain ⟨hb, h1, h2⟩ := hJ
      go_wp2
      go_ret
      exact ⟨rfl, hb⟩

set_option maxRecDepth 100000 in
set_option maxHeartbeats 1000000 in
theorem rises_rs (a0 a1 : Int) (X Y : Nat) (ha : Hid (lowF a0 513 = Y)) (hb : Hid (lowF a1 513 = X)) (hlt : X < Y) (hX : X < 513) (hY : Y < 513) (w : World) :
    Calls Try.prog 5 #[.int .i64 a0, .int .i64 a1, .bool false] w fun e w' => e = .returned (.bool true) ∧ Below w.heap.size w w' := by
  obtain ⟨p, hp⟩ : ∃ p, p = gM X (pM X) := ⟨_, rfl⟩
  obtain ⟨q, hq⟩ : ∃ q, q = gM Y (pM Y) := ⟨_, rfl⟩
  obtain ⟨px, hpx0⟩ : ∃ p, p = pM X := ⟨_, rfl⟩
  obtain ⟨py, hpy0⟩ : ∃ p, p = pM Y := ⟨_, rfl⟩
  have hbx := Lib.hid (show boundF 3 0 X ⟨#[]⟩ ⟨#[]⟩ (partsF 3 0 X ⟨#[]⟩ ⟨#[]⟩).toNat = p by rw [hp]; exact (moves_read X hX).all)
  have hby := Lib.hid (show boundF 3 0 Y ⟨#[]⟩ ⟨#[]⟩ (partsF 3 0 Y ⟨#[]⟩ ⟨#[]⟩).toNat = q by rw [hq]; exact (moves_read Y hY).all)
  have hpx := Lib.hid (show partsF 3 0 X ⟨#[]⟩ ⟨#[]⟩ = px by rw [hpx0]; exact (moves_read X hX).parts)
  have hpy := Lib.hid (show partsF 3 0 Y ⟨#[]⟩ ⟨#[]⟩ = py by rw [hpy0]; exact (moves_read Y hY).parts)
  have hm := gM_mono X (Y - X) (by omega)
  rw [show X + (Y - X) = Y by omega, ← hp, ← hq, ← hpx0, ← hpy0] at hm
  obtain ⟨hm1, hm2⟩ := hm
  have hg1 : 2 ≤ p := by rw [hp]; exact gM_ge X hX
  have hg2 : q ≤ 6 * ((Y + 63) / 64) + 2 := by rw [hq]; exact gM_le Y hY
  have hg3 : (q : Int) ≤ 6 * (((Y : Int) + 63) / 64) + 2 := by omega
  clear hp hq hpx0 hpy0
  have f1 : decide ((2 : Int) ≤ (p : Int)) = true := by simp; omega
  have f2 : decide (p ≤ q) = true := by simp; omega
  have f2i : decide ((p : Int) ≤ (q : Int)) = true := by simp; omega
  have f3 : decide ((q : Int) ≤ 6 * (((Y : Int) + 63) / 64) + 2) = true := by simp; omega
  have f4 : decide (px ≤ py) = true := by simp; omega
  have f4i : decide ((px : Int) ≤ (py : Int)) = true := by simp; omega
  have hd1 : decide (X < Y) = true := by simpa using hlt
  have hd2 : decide ((X : Int) < (Y : Int)) = true := by simpa using hlt
  go_enter Try.func5, Try.ntmps5
  go_wp2_with (first | (go_at_call 16; (with_reducible refine (low_is ha.out (by decide) (by decide) _).mono ?_); rintro e w' ⟨rfl, rfl⟩) | (go_at_call 16; (with_reducible refine (low_is hb.out (by decide) (by decide) _).mono ?_); rintro e w' ⟨rfl, rfl⟩))
  refine region_J (fun _ w' => Below w.heap.size w w' ∧ Blk w' w.heap.size #[.int .i64 3, .int .i64 0, .int .i64 X, .string ⟨#[]⟩, .string ⟨#[]⟩] 23 ∧ Blk w' (w.heap.size + 1) #[.int .i64 3, .int .i64 0, .int .i64 Y, .string ⟨#[]⟩, .string ⟨#[]⟩] 23) (by kernel_rfl) (by kernel_rfl) ?_ ?_
  · exact ⟨(((Below.refl _ _).alloc (Nat.le_refl _) _).alloc (by simp) _).drew, ((Blk.new _ _ _).alloc _).drew, (Blk.new' (by simp)).drew⟩
  · iterate 6
      apply wpJ_op rfl (by rfl)
      · intro f w' hf hJ Q1 hQ
        obtain ⟨hb, h1, h2⟩ := hJ
        have c1 := h1.rd
        have c2 := h2.rd
        simp only [Act.put, List.setIfInBounds_toArray, List.set_cons_zero, List.set_cons_succ] at hQ
        go_wp2_with (first | (go_at_call 13; (with_reducible refine (bound_is hbx.out _).mono ?_); rintro e w2 ⟨rfl, hb2⟩; have h1 := Blk.below hb2 h1 h1.lt; have h2 := Blk.below hb2 h2 h2.lt; have hb := hb.trans (hb2.mono hb.size)) | (go_at_call 13; (with_reducible refine (bound_is hby.out _).mono ?_); rintro e w2 ⟨rfl, hb2⟩; have h1 := Blk.below hb2 h1 h1.lt; have h2 := Blk.below hb2 h2 h2.lt; have hb := hb.trans (hb2.mono hb.size)))
        exact hQ _ _ rfl ⟨hb, h1, h2⟩
      simp only [Act.put, List.setIfInBounds_toArray, List.set_cons_zero, List.set_cons_succ]
    refine wpJ_nil ?_
    intro w3 hJ
    obtain ⟨hb, h1, h2⟩ := hJ
    go_wp2
    refine region_J (fun _ w' => Below w.heap.size w w' ∧ Blk w' w.heap.size #[.int .i64 3, .int .i64 0, .int .i64 X, .string ⟨#[]⟩, .string ⟨#[]⟩] 23 ∧ Blk w' (w.heap.size + 1) #[.int .i64 3, .int .i64 0, .int .i64 Y, .string ⟨#[]⟩, .string ⟨#[]⟩] 23) (by kernel_rfl) (by kernel_rfl) ?_ ?_
    · exact ⟨hb.drew, h1.drew, h2.drew⟩
    · clear h1 h2 hb
      iterate 27
        apply wpJ_op rfl (by rfl)
        · intro f w' hf hJ Q1 hQ
          obtain ⟨hb, h1, h2⟩ := hJ
          have c1 := h1.rd
          have c2 := h2.rd
          simp only [Act.put, List.setIfInBounds_toArray, List.set_cons_zero, List.set_cons_succ] at hQ
          go_wp2_with (first | (go_at_call 7; (with_reducible refine (parts_is hpx.out _).mono ?_); rintro e w2 ⟨rfl, hb2⟩; have h1 := Blk.below hb2 h1 h1.lt; have h2 := Blk.below hb2 h2 h2.lt; have hb := hb.trans (hb2.mono hb.size)) | (go_at_call 7; (with_reducible refine (parts_is hpy.out _).mono ?_); rintro e w2 ⟨rfl, hb2⟩; have h1 := Blk.below hb2 h1 h1.lt; have h2 := Blk.below hb2 h2 h2.lt; have hb := hb.trans (hb2.mono hb.size)) | (go_at_call 6; (with_reducible refine (awake_any _).mono ?_); rintro e w2 ⟨rfl, hb2⟩; have h1 := Blk.below hb2 h1 h1.lt; have h2 := Blk.below hb2 h2 h2.lt; have hb := hb.trans (hb2.mono hb.size)))
          exact hQ _ _ rfl ⟨hb, h1, h2⟩
        simp only [Act.put, List.setIfInBounds_toArray, List.set_cons_zero, List.set_cons_succ]
      refine wpJ_nil ?_
      intro w4 hJ
      obtain ⟨hb, h1, h2⟩ := hJ
      go_wp2
      go_ret
      exact ⟨rfl, hb⟩

set_option maxRecDepth 100000 in
set_option maxHeartbeats 1000000 in
theorem rises_wn (a0 a1 : Int) (X Y : Nat) (ha : Hid (lowF a0 513 = X)) (hb : Hid (lowF a1 513 = Y)) (hle : X ≤ Y) (hX : X < 513) (hY : Y < 513) (w : World) :
    Calls Try.prog 5 #[.int .i64 a0, .int .i64 a1, .bool true] w fun e w' => e = .returned (.bool true) ∧ Below w.heap.size w w' := by
  obtain ⟨p, hp⟩ : ∃ p, p = gM X (pM X) := ⟨_, rfl⟩
  obtain ⟨q, hq⟩ : ∃ q, q = gM Y (pM Y) := ⟨_, rfl⟩
  obtain ⟨px, hpx0⟩ : ∃ p, p = pM X := ⟨_, rfl⟩
  obtain ⟨py, hpy0⟩ : ∃ p, p = pM Y := ⟨_, rfl⟩
  have hbx := Lib.hid (show boundF 4 0 0 (zstr X) ⟨#[]⟩ (partsF 4 0 0 (zstr X) ⟨#[]⟩).toNat = p by rw [hp]; exact (moves_write X hX (zstr X) (zstr_size X)).all)
  have hby := Lib.hid (show boundF 4 0 0 (zstr Y) ⟨#[]⟩ (partsF 4 0 0 (zstr Y) ⟨#[]⟩).toNat = q by rw [hq]; exact (moves_write Y hY (zstr Y) (zstr_size Y)).all)
  have hpx := Lib.hid (show partsF 4 0 0 (zstr X) ⟨#[]⟩ = px by rw [hpx0]; exact (moves_write X hX (zstr X) (zstr_size X)).parts)
  have hpy := Lib.hid (show partsF 4 0 0 (zstr Y) ⟨#[]⟩ = py by rw [hpy0]; exact (moves_write Y hY (zstr Y) (zstr_size Y)).parts)
  have hm := gM_mono X (Y - X) (by omega)
  rw [show X + (Y - X) = Y by omega, ← hp, ← hq, ← hpx0, ← hpy0] at hm
  obtain ⟨hm1, hm2⟩ := hm
  have hg1 : 2 ≤ p := by rw [hp]; exact gM_ge X hX
  have hg2 : q ≤ 6 * ((Y + 63) / 64) + 2 := by rw [hq]; exact gM_le Y hY
  have hg3 : (q : Int) ≤ 6 * (((Y : Int) + 63) / 64) + 2 := by omega
  clear hp hq hpx0 hpy0
  have f1 : decide ((2 : Int) ≤ (p : Int)) = true := by simp; omega
  have f2 : decide (p ≤ q) = true := by simp; omega
  have f2i : decide ((p : Int) ≤ (q : Int)) = true := by simp; omega
  have f3 : decide ((q : Int) ≤ 6 * (((Y : Int) + 63) / 64) + 2) = true := by simp; omega
  have f4 : decide (px ≤ py) = true := by simp; omega
  have f4i : decide ((px : Int) ≤ (py : Int)) = true := by simp; omega
  have hd1 : decide (Y < X) = false := by simpa using hle
  have hd2 : decide ((Y : Int) < (X : Int)) = false := by simpa using hle
  go_enter Try.func5, Try.ntmps5
  go_wp2_with (first | (go_at_call 16; (with_reducible refine (low_is ha.out (by decide) (by decide) _).mono ?_); rintro e w' ⟨rfl, rfl⟩) | (go_at_call 16; (with_reducible refine (low_is hb.out (by decide) (by decide) _).mono ?_); rintro e w' ⟨rfl, rfl⟩))
  refine region_E (fun f a' w' => Below w.heap.size w w' ∧ Blk w' w.heap.size (Sel (f 8) #[.int .i64 4, .int .i64 0, .int .i64 0, .string (zstr X), .string ⟨#[]⟩] #[.int .i64 3, .int .i64 0, .int .i64 X, .string ⟨#[]⟩, .string ⟨#[]⟩]) 23 ∧ Blk w' (w.heap.size + 1) (Sel (f 9) #[.int .i64 4, .int .i64 0, .int .i64 0, .string (zstr Y), .string ⟨#[]⟩] #[.int .i64 3, .int .i64 0, .int .i64 Y, .string ⟨#[]⟩, .string ⟨#[]⟩]) 23 ∧ (f 1 = true → ∃ b, slot a' 26 = .slice (some ⟨b, 0, none⟩) X X ∧ Blk w' b ((zs X).map (Value.int .u8)).toArray 5 ∧ w.heap.size + 2 ≤ b) ∧ (f 5 = true → ∃ b, slot a' 30 = .slice (some ⟨b, 0, none⟩) Y Y ∧ Blk w' b ((zs Y).map (Value.int .u8)).toArray 5 ∧ w.heap.size + 2 ≤ b)) [Is 63 (some 25) (.int .i64 X), (fun u => ∃ b, u = .slice (some ⟨b, 0, none⟩) X X), Is 63 (some 27) (.string (zstr X)), Is 63 (some 28) (.agg #[.int .i64 4, .int .i64 0, .int .i64 0, .string (zstr X), .string ⟨#[]⟩]), Is 63 (some 29) (.int .i64 Y), (fun u => ∃ b, u = .slice (some ⟨b, 0, none⟩) Y Y), Is 63 (some 31) (.string (zstr Y)), Is 63 (some 32) (.agg #[.int .i64 4, .int .i64 0, .int .i64 0, .string (zstr Y), .string ⟨#[]⟩]), Is 63 none undef, Is 63 none undef] (by kernel_rfl) (by kernel_rfl) ?_ ?_
  · exact ⟨(((Below.refl _ _).alloc (Nat.le_refl _) _).alloc (by simp) _).drew, ((Blk.new _ _ _).alloc _).drew, (Blk.new' (by simp)).drew, fun h => (by cases h), fun h => (by cases h)⟩
  · apply wpE_op (by rfl) (by rfl) (by rfl)
    · intro f a' w' ha hf hJ Q1 hQ
      obtain ⟨hb, h1, h2, hs1, hs2⟩ := hJ
      simp only [Act.put, List.setIfInBounds_toArray, List.set_cons_zero, List.set_cons_succ] at hQ
      go_wp2
      refine hQ _ _ rfl ⟨hb, h1, h2, fun h5 => ?_, fun h5 => ?_⟩
      · obtain ⟨b, h6, h7, h8⟩ := hs1 h5
        exact ⟨b, (slot_put_ne (a := a') (by decide) _).trans h6, h7, h8⟩
      · obtain ⟨b, h6, h7, h8⟩ := hs2 h5
        exact ⟨b, (slot_put_ne (a := a') (by decide) _).trans h6, h7, h8⟩
    simp only [Act.put, List.setIfInBounds_toArray, List.set_cons_zero, List.set_cons_succ]
    apply wpE_any (d := 26) rfl (by simp) ⟨_, 0, rfl⟩ (by rfl)
    · intro f a' w' ha hf hJ Q1 hQ
      obtain ⟨hb, h1, h2, hs1, hs2⟩ := hJ
      have hsz : 26 < a'.tmps.size := by rw [ha.1]; simp
      have hmk := made_run w' X (by omega)
      simp only [Act.put, List.setIfInBounds_toArray, List.set_cons_zero, List.set_cons_succ] at hQ
      go_wp2
      refine hQ _ _ _ rfl ⟨_, rfl⟩ ⟨hb.alloc hb.size _, h1.alloc _, h2.alloc _, ?_, ?_⟩
      · intro _
        exact ⟨_, slot_put (a := a') hsz _, Blk.new _ _ _, h2.lt⟩
      · intro h5
        obtain ⟨b, h6, h7, h8⟩ := hs2 h5
        exact ⟨b, (slot_put_ne (a := a') (by decide) _).trans h6, h7.alloc _, h8⟩
    rintro _ ⟨b1, rfl⟩
    simp only [Act.put, List.setIfInBounds_toArray, List.set_cons_zero, List.set_cons_succ]
    apply wpE_op (by rfl) (by rfl) (by rfl)
    · intro f a' w' ha hf hJ Q1 hQ
      obtain ⟨hb, h1, h2, hs1, hs2⟩ := hJ
      obtain ⟨b, h6, h7, h8⟩ := hs1 (hf.2 _ (List.mem_toArray.2 (List.mem_cons_self ..)) rfl)
      have e1 : slot a' 26 = .slice (some ⟨b1, 0, none⟩) X X := by
        have := ha.2 26 (by decide)
        simp only [slot, Array.getD_eq_getD_getElem?, this]; rfl
      rw [e1] at h6
      simp only [Value.slice.injEq, Option.some.injEq, Addr.mk.injEq, and_true] at h6
      subst h6
      have hcv := conv_zero (c := X) h7
      simp only [Act.put, List.setIfInBounds_toArray, List.set_cons_zero, List.set_cons_succ] at hQ
      go_wp2
      refine hQ _ _ rfl ⟨hb, h1, h2, fun h5 => ?_, fun h5 => ?_⟩
      · obtain ⟨b, h6, h7, h8⟩ := hs1 h5
        exact ⟨b, (slot_put_ne (a := a') (by decide) _).trans h6, h7, h8⟩
      · obtain ⟨b, h6, h7, h8⟩ := hs2 h5
        exact ⟨b, (slot_put_ne (a := a') (by decide) _).trans h6, h7, h8⟩
    simp only [Act.put, List.setIfInBounds_toArray, List.set_cons_zero, List.set_cons_succ]
    apply wpE_op (by rfl) (by rfl) (by rfl)
    · intro f a' w' ha hf hJ Q1 hQ
      obtain ⟨hb, h1, h2, hs1, hs2⟩ := hJ
      simp only [Act.put, List.setIfInBounds_toArray, List.set_cons_zero, List.set_cons_succ] at hQ
      go_wp2
      refine hQ _ _ rfl ⟨hb, h1, h2, fun h5 => ?_, fun h5 => ?_⟩
      · obtain ⟨b, h6, h7, h8⟩ := hs1 h5
        exact ⟨b, (slot_put_ne (a := a') (by decide) _).trans h6, h7, h8⟩
      · obtain ⟨b, h6, h7, h8⟩ := hs2 h5
        exact ⟨b, (slot_put_ne (a := a') (by decide) _).trans h6, h7, h8⟩
    simp only [Act.put, List.setIfInBounds_toArray, List.set_cons_zero, List.set_cons_succ]
    apply wpE_op (by rfl) (by rfl) (by rfl)
    · intro f a' w' ha hf hJ Q1 hQ
      obtain ⟨hb, h1, h2, hs1, hs2⟩ := hJ
      simp only [Act.put, List.setIfInBounds_toArray, List.set_cons_zero, List.set_cons_succ] at hQ
      go_wp2
      refine hQ _ _ rfl ⟨hb, h1, h2, fun h5 => ?_, fun h5 => ?_⟩
      · obtain ⟨b, h6, h7, h8⟩ := hs1 h5
        exact ⟨b, (slot_put_ne (a := a') (by decide) _).trans h6, h7, h8⟩
      · obtain ⟨b, h6, h7, h8⟩ := hs2 h5
        exact ⟨b, (slot_put_ne (a := a') (by decide) _).trans h6, h7, h8⟩
    simp only [Act.put, List.setIfInBounds_toArray, List.set_cons_zero, List.set_cons_succ]
    apply wpE_any (d := 30) rfl (by simp) ⟨_, 0, rfl⟩ (by rfl)
    · intro f a' w' ha hf hJ Q1 hQ
      obtain ⟨hb, h1, h2, hs1, hs2⟩ := hJ
      have hsz : 30 < a'.tmps.size := by rw [ha.1]; simp
      have hmk := made_run w' Y (by omega)
      simp only [Act.put, List.setIfInBounds_toArray, List.set_cons_zero, List.set_cons_succ] at hQ
      go_wp2
      refine hQ _ _ _ rfl ⟨_, rfl⟩ ⟨hb.alloc hb.size _, h1.alloc _, h2.alloc _, ?_, ?_⟩
      · intro h5
        obtain ⟨b, h6, h7, h8⟩ := hs1 h5
        exact ⟨b, (slot_put_ne (a := a') (by decide) _).trans h6, h7.alloc _, h8⟩
      · intro _
        exact ⟨_, slot_put (a := a') hsz _, Blk.new _ _ _, h2.lt⟩
    rintro _ ⟨b2, rfl⟩
    simp only [Act.put, List.setIfInBounds_toArray, List.set_cons_zero, List.set_cons_succ]
    apply wpE_op (by rfl) (by rfl) (by rfl)
    · intro f a' w' ha hf hJ Q1 hQ
      obtain ⟨hb, h1, h2, hs1, hs2⟩ := hJ
      obtain ⟨b, h6, h7, h8⟩ := hs2 (hf.2 _ (List.mem_toArray.2 (List.mem_cons_self ..)) rfl)
      have e1 : slot a' 30 = .slice (some ⟨b2, 0, none⟩) Y Y := by
        have := ha.2 30 (by decide)
        simp only [slot, Array.getD_eq_getD_getElem?, this]; rfl
      rw [e1] at h6
      simp only [Value.slice.injEq, Option.some.injEq, Addr.mk.injEq, and_true] at h6
      subst h6
      have hcv := conv_zero (c := Y) h7
      simp only [Act.put, List.setIfInBounds_toArray, List.set_cons_zero, List.set_cons_succ] at hQ
      go_wp2
      refine hQ _ _ rfl ⟨hb, h1, h2, fun h5 => ?_, fun h5 => ?_⟩
      · obtain ⟨b, h6, h7, h8⟩ := hs1 h5
        exact ⟨b, (slot_put_ne (a := a') (by decide) _).trans h6, h7, h8⟩
      · obtain ⟨b, h6, h7, h8⟩ := hs2 h5
        exact ⟨b, (slot_put_ne (a := a') (by decide) _).trans h6, h7, h8⟩
    simp only [Act.put, List.setIfInBounds_toArray, List.set_cons_zero, List.set_cons_succ]
    apply wpE_op (by rfl) (by rfl) (by rfl)
    · intro f a' w' ha hf hJ Q1 hQ
      obtain ⟨hb, h1, h2, hs1, hs2⟩ := hJ
      simp only [Act.put, List.setIfInBounds_toArray, List.set_cons_zero, List.set_cons_succ] at hQ
      go_wp2
      refine hQ _ _ rfl ⟨hb, h1, h2, fun h5 => ?_, fun h5 => ?_⟩
      · obtain ⟨b, h6, h7, h8⟩ := hs1 h5
        exact ⟨b, (slot_put_ne (a := a') (by decide) _).trans h6, h7, h8⟩
      · obtain ⟨b, h6, h7, h8⟩ := hs2 h5
        exact ⟨b, (slot_put_ne (a := a') (by decide) _).trans h6, h7, h8⟩
    simp only [Act.put, List.setIfInBounds_toArray, List.set_cons_zero, List.set_cons_succ]
    apply wpE_op (v := undef) (by rfl) (by rfl) (by rfl)
    · intro f a' w' ha hf hJ Q1 hQ
      obtain ⟨hb, h1, h2, hs1, hs2⟩ := hJ
      have hff : f 8 = false := hf.1
      rw [hff, Sel_false] at h1
      have c1 := h1.rd
      have f1 := h1.nf
      simp only [Act.put, List.setIfInBounds_toArray, List.set_cons_zero, List.set_cons_succ] at hQ
      go_wp2
      refine hQ _ _ rfl ⟨(((((hb.setCell (by simp) _).setCell (by simp) _).setCell (by simp) _).setCell (by simp) _).setCell (by simp) _), Blk.of (((((h1.set 0 _).set 1 _).set 2 _).set 3 _).set 4 _) rfl, (((((h2.set_ne (by simp; try omega) _).set_ne (by simp; try omega) _).set_ne (by simp; try omega) _).set_ne (by simp; try omega) _).set_ne (by simp; try omega) _), fun h5 => ?_, fun h5 => ?_⟩
      · obtain ⟨b, h6, h7, h8⟩ := hs1 h5
        exact ⟨b, h6, (((((h7.set_ne (by simp; try omega) _).set_ne (by simp; try omega) _).set_ne (by simp; try omega) _).set_ne (by simp; try omega) _).set_ne (by simp; try omega) _), h8⟩
      · obtain ⟨b, h6, h7, h8⟩ := hs2 h5
        exact ⟨b, h6, (((((h7.set_ne (by simp; try omega) _).set_ne (by simp; try omega) _).set_ne (by simp; try omega) _).set_ne (by simp; try omega) _).set_ne (by simp; try omega) _), h8⟩
    simp only [Act.put, List.setIfInBounds_toArray, List.set_cons_zero, List.set_cons_succ]
    apply wpE_op (v := undef) (by rfl) (by rfl) (by rfl)
    · intro f a' w' ha hf hJ Q1 hQ
      obtain ⟨hb, h1, h2, hs1, hs2⟩ := hJ
      have hff : f 9 = false := hf.1
      rw [hff, Sel_false] at h2
      have c1 := h2.rd
      have f1 := h2.nf
      simp only [Act.put, List.setIfInBounds_toArray, List.set_cons_zero, List.set_cons_succ] at hQ
      go_wp2
      refine hQ _ _ rfl ⟨(((((hb.setCell (by simp) _).setCell (by simp) _).setCell (by simp) _).setCell (by simp) _).setCell (by simp) _), (((((h1.set_ne (by simp; try omega) _).set_ne (by simp; try omega) _).set_ne (by simp; try omega) _).set_ne (by simp; try omega) _).set_ne (by simp; try omega) _), Blk.of (((((h2.set 0 _).set 1 _).set 2 _).set 3 _).set 4 _) rfl, fun h5 => ?_, fun h5 => ?_⟩
      · obtain ⟨b, h6, h7, h8⟩ := hs1 h5
        exact ⟨b, h6, (((((h7.set_ne (by simp; try omega) _).set_ne (by simp; try omega) _).set_ne (by simp; try omega) _).set_ne (by simp; try omega) _).set_ne (by simp; try omega) _), h8⟩
      · obtain ⟨b, h6, h7, h8⟩ := hs2 h5
        exact ⟨b, h6, (((((h7.set_ne (by simp; try omega) _).set_ne (by simp; try omega) _).set_ne (by simp; try omega) _).set_ne (by simp; try omega) _).set_ne (by simp; try omega) _), h8⟩
    simp only [Act.put, List.setIfInBounds_toArray, List.set_cons_zero, List.set_cons_succ]
    refine wpE_nil ?_
    intro w2 hJ
    obtain ⟨hbQ, g1, g2, -, -⟩ := hJ
    replace g1 : Blk w2 w.heap.size #[.int .i64 4, .int .i64 0, .int .i64 0, .string (zstr X), .string ⟨#[]⟩] 23 := g1
    replace g2 : Blk w2 (w.heap.size + 1) #[.int .i64 4, .int .i64 0, .int .i64 0, .string (zstr Y), .string ⟨#[]⟩] 23 := g2
    go_wp2
    refine region_J (fun _ w' => Below w.heap.size w w' ∧ Blk w' w.heap.size #[.int .i64 4, .int .i64 0, .int .i64 0, .string (zstr X), .string ⟨#[]⟩] 23 ∧ Blk w' (w.heap.size + 1) #[.int .i64 4, .int .i64 0, .int .i64 0, .string (zstr Y), .string ⟨#[]⟩] 23) (by kernel_rfl) (by kernel_rfl) ?_ ?_
    · exact ⟨hbQ.drew, g1.drew, g2.drew⟩
    · iterate 6
        apply wpJ_op rfl (by rfl)
        · intro f w' hf hJ Q1 hQ
          obtain ⟨hb, h1, h2⟩ := hJ
          have c1 := h1.rd
          have c2 := h2.rd
          simp only [Act.put, List.setIfInBounds_toArray, List.set_cons_zero, List.set_cons_succ] at hQ
          go_wp2_with (first | (go_at_call 13; (with_reducible refine (bound_is hbx.out _).mono ?_); rintro e w2 ⟨rfl, hb2⟩; have h1 := Blk.below hb2 h1 h1.lt; have h2 := Blk.below hb2 h2 h2.lt; have hb := hb.trans (hb2.mono hb.size)) | (go_at_call 13; (with_reducible refine (bound_is hby.out _).mono ?_); rintro e w2 ⟨rfl, hb2⟩; have h1 := Blk.below hb2 h1 h1.lt; have h2 := Blk.below hb2 h2 h2.lt; have hb := hb.trans (hb2.mono hb.size)))
          exact hQ _ _ rfl ⟨hb, h1, h2⟩
        simp only [Act.put, List.setIfInBounds_toArray, List.set_cons_zero, List.set_cons_succ]
      refine wpJ_nil ?_
      intro w3 hJ
      obtain ⟨hb, h1, h2⟩ := hJ
      go_wp2
      refine region_J (fun _ w' => Below w.heap.size w w' ∧ Blk w' w.heap.size #[.int .i64 4, .int .i64 0, .int .i64 0, .string (zstr X), .string ⟨#[]⟩] 23 ∧ Blk w' (w.heap.size + 1) #[.int .i64 4, .int .i64 0, .int .i64 0, .string (zstr Y), .string ⟨#[]⟩] 23) (by kernel_rfl) (by kernel_rfl) ?_ ?_
      · exact ⟨hb.drew, h1.drew, h2.drew⟩
      · clear h1 h2 hb
        iterate 27
          apply wpJ_op rfl (by rfl)
          · intro f w' hf hJ Q1 hQ
            obtain ⟨hb, h1, h2⟩ := hJ
            have c1 := h1.rd
            have c2 := h2.rd
            simp only [Act.put, List.setIfInBounds_toArray, List.set_cons_zero, List.set_cons_succ] at hQ
            go_wp2_with (first | (go_at_call 7; (with_reducible refine (parts_is hpx.out _).mono ?_); rintro e w2 ⟨rfl, hb2⟩; have h1 := Blk.below hb2 h1 h1.lt; have h2 := Blk.below hb2 h2 h2.lt; have hb := hb.trans (hb2.mono hb.size)) | (go_at_call 7; (with_reducible refine (parts_is hpy.out _).mono ?_); rintro e w2 ⟨rfl, hb2⟩; have h1 := Blk.below hb2 h1 h1.lt; have h2 := Blk.below hb2 h2 h2.lt; have hb := hb.trans (hb2.mono hb.size)) | (go_at_call 6; (with_reducible refine (awake_any _).mono ?_); rintro e w2 ⟨rfl, hb2⟩; have h1 := Blk.below hb2 h1 h1.lt; have h2 := Blk.below hb2 h2 h2.lt; have hb := hb.trans (hb2.mono hb.size)))
            exact hQ _ _ rfl ⟨hb, h1, h2⟩
          simp only [Act.put, List.setIfInBounds_toArray, List.set_cons_zero, List.set_cons_succ]
        refine wpJ_nil ?_
        intro w4 hJ
        obtain ⟨hb, h1, h2⟩ := hJ
        go_wp2
        go_ret
        exact ⟨rfl, hb⟩

set_option maxRecDepth 100000 in
set_option maxHeartbeats 1000000 in
theorem rises_ws (a0 a1 : Int) (X Y : Nat) (ha : Hid (lowF a0 513 = Y)) (hb : Hid (lowF a1 513 = X)) (hlt : X < Y) (hX : X < 513) (hY : Y < 513) (w : World) :
    Calls Try.prog 5 #[.int .i64 a0, .int .i64 a1, .bool true] w fun e w' => e = .returned (.bool true) ∧ Below w.heap.size w w' := by
  obtain ⟨p, hp⟩ : ∃ p, p = gM X (pM X) := ⟨_, rfl⟩
  obtain ⟨q, hq⟩ : ∃ q, q = gM Y (pM Y) := ⟨_, rfl⟩
  obtain ⟨px, hpx0⟩ : ∃ p, p = pM X := ⟨_, rfl⟩
  obtain ⟨py, hpy0⟩ : ∃ p, p = pM Y := ⟨_, rfl⟩
  have hbx := Lib.hid (show boundF 4 0 0 (zstr X) ⟨#[]⟩ (partsF 4 0 0 (zstr X) ⟨#[]⟩).toNat = p by rw [hp]; exact (moves_write X hX (zstr X) (zstr_size X)).all)
  have hby := Lib.hid (show boundF 4 0 0 (zstr Y) ⟨#[]⟩ (partsF 4 0 0 (zstr Y) ⟨#[]⟩).toNat = q by rw [hq]; exact (moves_write Y hY (zstr Y) (zstr_size Y)).all)
  have hpx := Lib.hid (show partsF 4 0 0 (zstr X) ⟨#[]⟩ = px by rw [hpx0]; exact (moves_write X hX (zstr X) (zstr_size X)).parts)
  have hpy := Lib.hid (show partsF 4 0 0 (zstr Y) ⟨#[]⟩ = py by rw [hpy0]; exact (moves_write Y hY (zstr Y) (zstr_size Y)).parts)
  have hm := gM_mono X (Y - X) (by omega)
  rw [show X + (Y - X) = Y by omega, ← hp, ← hq, ← hpx0, ← hpy0] at hm
  obtain ⟨hm1, hm2⟩ := hm
  have hg1 : 2 ≤ p := by rw [hp]; exact gM_ge X hX
  have hg2 : q ≤ 6 * ((Y + 63) / 64) + 2 := by rw [hq]; exact gM_le Y hY
  have hg3 : (q : Int) ≤ 6 * (((Y : Int) + 63) / 64) + 2 := by omega
  clear hp hq hpx0 hpy0
  have f1 : decide ((2 : Int) ≤ (p : Int)) = true := by simp; omega
  have f2 : decide (p ≤ q) = true := by simp; omega
  have f2i : decide ((p : Int) ≤ (q : Int)) = true := by simp; omega
  have f3 : decide ((q : Int) ≤ 6 * (((Y : Int) + 63) / 64) + 2) = true := by simp; omega
  have f4 : decide (px ≤ py) = true := by simp; omega
  have f4i : decide ((px : Int) ≤ (py : Int)) = true := by simp; omega
  have hd1 : decide (X < Y) = true := by simpa using hlt
  have hd2 : decide ((X : Int) < (Y : Int)) = true := by simpa using hlt
  go_enter Try.func5, Try.ntmps5
  go_wp2_with (first | (go_at_call 16; (with_reducible refine (low_is ha.out (by decide) (by decide) _).mono ?_); rintro e w' ⟨rfl, rfl⟩) | (go_at_call 16; (with_reducible refine (low_is hb.out (by decide) (by decide) _).mono ?_); rintro e w' ⟨rfl, rfl⟩))
  refine region_E (fun f a' w' => Below w.heap.size w w' ∧ Blk w' w.heap.size (Sel (f 8) #[.int .i64 4, .int .i64 0, .int .i64 0, .string (zstr X), .string ⟨#[]⟩] #[.int .i64 3, .int .i64 0, .int .i64 X, .string ⟨#[]⟩, .string ⟨#[]⟩]) 23 ∧ Blk w' (w.heap.size + 1) (Sel (f 9) #[.int .i64 4, .int .i64 0, .int .i64 0, .string (zstr Y), .string ⟨#[]⟩] #[.int .i64 3, .int .i64 0, .int .i64 Y, .string ⟨#[]⟩, .string ⟨#[]⟩]) 23 ∧ (f 1 = true → ∃ b, slot a' 26 = .slice (some ⟨b, 0, none⟩) X X ∧ Blk w' b ((zs X).map (Value.int .u8)).toArray 5 ∧ w.heap.size + 2 ≤ b) ∧ (f 5 = true → ∃ b, slot a' 30 = .slice (some ⟨b, 0, none⟩) Y Y ∧ Blk w' b ((zs Y).map (Value.int .u8)).toArray 5 ∧ w.heap.size + 2 ≤ b)) [Is 63 (some 25) (.int .i64 X), (fun u => ∃ b, u = .slice (some ⟨b, 0, none⟩) X X), Is 63 (some 27) (.string (zstr X)), Is 63 (some 28) (.agg #[.int .i64 4, .int .i64 0, .int .i64 0, .string (zstr X), .string ⟨#[]⟩]), Is 63 (some 29) (.int .i64 Y), (fun u => ∃ b, u = .slice (some ⟨b, 0, none⟩) Y Y), Is 63 (some 31) (.string (zstr Y)), Is 63 (some 32) (.agg #[.int .i64 4, .int .i64 0, .int .i64 0, .string (zstr Y), .string ⟨#[]⟩]), Is 63 none undef, Is 63 none undef] (by kernel_rfl) (by kernel_rfl) ?_ ?_
  · exact ⟨(((Below.refl _ _).alloc (Nat.le_refl _) _).alloc (by simp) _).drew, ((Blk.new _ _ _).alloc _).drew, (Blk.new' (by simp)).drew, fun h => (by cases h), fun h => (by cases h)⟩
  · apply wpE_op (by rfl) (by rfl) (by rfl)
    · intro f a' w' ha hf hJ Q1 hQ
      obtain ⟨hb, h1, h2, hs1, hs2⟩ := hJ
      simp only [Act.put, List.setIfInBounds_toArray, List.set_cons_zero, List.set_cons_succ] at hQ
      go_wp2
      refine hQ _ _ rfl ⟨hb, h1, h2, fun h5 => ?_, fun h5 => ?_⟩
      · obtain ⟨b, h6, h7, h8⟩ := hs1 h5
        exact ⟨b, (slot_put_ne (a := a') (by decide) _).trans h6, h7, h8⟩
      · obtain ⟨b, h6, h7, h8⟩ := hs2 h5
        exact ⟨b, (slot_put_ne (a := a') (by decide) _).trans h6, h7, h8⟩
    simp only [Act.put, List.setIfInBounds_toArray, List.set_cons_zero, List.set_cons_succ]
    apply wpE_any (d := 26) rfl (by simp) ⟨_, 0, rfl⟩ (by rfl)
    · intro f a' w' ha hf hJ Q1 hQ
      obtain ⟨hb, h1, h2, hs1, hs2⟩ := hJ
      have hsz : 26 < a'.tmps.size := by rw [ha.1]; simp
      have hmk := made_run w' X (by omega)
      simp only [Act.put, List.setIfInBounds_toArray, List.set_cons_zero, List.set_cons_succ] at hQ
      go_wp2
      refine hQ _ _ _ rfl ⟨_, rfl⟩ ⟨hb.alloc hb.size _, h1.alloc _, h2.alloc _, ?_, ?_⟩
      · intro _
        exact ⟨_, slot_put (a := a') hsz _, Blk.new _ _ _, h2.lt⟩
      · intro h5
        obtain ⟨b, h6, h7, h8⟩ := hs2 h5
        exact ⟨b, (slot_put_ne (a := a') (by decide) _).trans h6, h7.alloc _, h8⟩
    rintro _ ⟨b1, rfl⟩
    simp only [Act.put, List.setIfInBounds_toArray, List.set_cons_zero, List.set_cons_succ]
    apply wpE_op (by rfl) (by rfl) (by rfl)
    · intro f a' w' ha hf hJ Q1 hQ
      obtain ⟨hb, h1, h2, hs1, hs2⟩ := hJ
      obtain ⟨b, h6, h7, h8⟩ := hs1 (hf.2 _ (List.mem_toArray.2 (List.mem_cons_self ..)) rfl)
      have e1 : slot a' 26 = .slice (some ⟨b1, 0, none⟩) X X := by
        have := ha.2 26 (by decide)
        simp only [slot, Array.getD_eq_getD_getElem?, this]; rfl
      rw [e1] at h6
      simp only [Value.slice.injEq, Option.some.injEq, Addr.mk.injEq, and_true] at h6
      subst h6
      have hcv := conv_zero (c := X) h7
      simp only [Act.put, List.setIfInBounds_toArray, List.set_cons_zero, List.set_cons_succ] at hQ
      go_wp2
      refine hQ _ _ rfl ⟨hb, h1, h2, fun h5 => ?_, fun h5 => ?_⟩
      · obtain ⟨b, h6, h7, h8⟩ := hs1 h5
        exact ⟨b, (slot_put_ne (a := a') (by decide) _).trans h6, h7, h8⟩
      · obtain ⟨b, h6, h7, h8⟩ := hs2 h5
        exact ⟨b, (slot_put_ne (a := a') (by decide) _).trans h6, h7, h8⟩
    simp only [Act.put, List.setIfInBounds_toArray, List.set_cons_zero, List.set_cons_succ]
    apply wpE_op (by rfl) (by rfl) (by rfl)
    · intro f a' w' ha hf hJ Q1 hQ
      obtain ⟨hb, h1, h2, hs1, hs2⟩ := hJ
      simp only [Act.put, List.setIfInBounds_toArray, List.set_cons_zero, List.set_cons_succ] at hQ
      go_wp2
      refine hQ _ _ rfl ⟨hb, h1, h2, fun h5 => ?_, fun h5 => ?_⟩
      · obtain ⟨b, h6, h7, h8⟩ := hs1 h5
        exact ⟨b, (slot_put_ne (a := a') (by decide) _).trans h6, h7, h8⟩
      · obtain ⟨b, h6, h7, h8⟩ := hs2 h5
        exact ⟨b, (slot_put_ne (a := a') (by decide) _).trans h6, h7, h8⟩
    simp only [Act.put, List.setIfInBounds_toArray, List.set_cons_zero, List.set_cons_succ]
    apply wpE_op (by rfl) (by rfl) (by rfl)
    · intro f a' w' ha hf hJ Q1 hQ
      obtain ⟨hb, h1, h2, hs1, hs2⟩ := hJ
      simp only [Act.put, List.setIfInBounds_toArray, List.set_cons_zero, List.set_cons_succ] at hQ
      go_wp2
      refine hQ _ _ rfl ⟨hb, h1, h2, fun h5 => ?_, fun h5 => ?_⟩
      · obtain ⟨b, h6, h7, h8⟩ := hs1 h5
        exact ⟨b, (slot_put_ne (a := a') (by decide) _).trans h6, h7, h8⟩
      · obtain ⟨b, h6, h7, h8⟩ := hs2 h5
        exact ⟨b, (slot_put_ne (a := a') (by decide) _).trans h6, h7, h8⟩
    simp only [Act.put, List.setIfInBounds_toArray, List.set_cons_zero, List.set_cons_succ]
    apply wpE_any (d := 30) rfl (by simp) ⟨_, 0, rfl⟩ (by rfl)
    · intro f a' w' ha hf hJ Q1 hQ
      obtain ⟨hb, h1, h2, hs1, hs2⟩ := hJ
      have hsz : 30 < a'.tmps.size := by rw [ha.1]; simp
      have hmk := made_run w' Y (by omega)
      simp only [Act.put, List.setIfInBounds_toArray, List.set_cons_zero, List.set_cons_succ] at hQ
      go_wp2
      refine hQ _ _ _ rfl ⟨_, rfl⟩ ⟨hb.alloc hb.size _, h1.alloc _, h2.alloc _, ?_, ?_⟩
      · intro h5
        obtain ⟨b, h6, h7, h8⟩ := hs1 h5
        exact ⟨b, (slot_put_ne (a := a') (by decide) _).trans h6, h7.alloc _, h8⟩
      · intro _
        exact ⟨_, slot_put (a := a') hsz _, Blk.new _ _ _, h2.lt⟩
    rintro _ ⟨b2, rfl⟩
    simp only [Act.put, List.setIfInBounds_toArray, List.set_cons_zero, List.set_cons_succ]
    apply wpE_op (by rfl) (by rfl) (by rfl)
    · intro f a' w' ha hf hJ Q1 hQ
      obtain ⟨hb, h1, h2, hs1, hs2⟩ := hJ
      obtain ⟨b, h6, h7, h8⟩ := hs2 (hf.2 _ (List.mem_toArray.2 (List.mem_cons_self ..)) rfl)
      have e1 : slot a' 30 = .slice (some ⟨b2, 0, none⟩) Y Y := by
        have := ha.2 30 (by decide)
        simp only [slot, Array.getD_eq_getD_getElem?, this]; rfl
      rw [e1] at h6
      simp only [Value.slice.injEq, Option.some.injEq, Addr.mk.injEq, and_true] at h6
      subst h6
      have hcv := conv_zero (c := Y) h7
      simp only [Act.put, List.setIfInBounds_toArray, List.set_cons_zero, List.set_cons_succ] at hQ
      go_wp2
      refine hQ _ _ rfl ⟨hb, h1, h2, fun h5 => ?_, fun h5 => ?_⟩
      · obtain ⟨b, h6, h7, h8⟩ := hs1 h5
        exact ⟨b, (slot_put_ne (a := a') (by decide) _).trans h6, h7, h8⟩
      · obtain ⟨b, h6, h7, h8⟩ := hs2 h5
        exact ⟨b, (slot_put_ne (a := a') (by decide) _).trans h6, h7, h8⟩
    simp only [Act.put, List.setIfInBounds_toArray, List.set_cons_zero, List.set_cons_succ]
    apply wpE_op (by rfl) (by rfl) (by rfl)
    · intro f a' w' ha hf hJ Q1 hQ
      obtain ⟨hb, h1, h2, hs1, hs2⟩ := hJ
      simp only [Act.put, List.setIfInBounds_toArray, List.set_cons_zero, List.set_cons_succ] at hQ
      go_wp2
      refine hQ _ _ rfl ⟨hb, h1, h2, fun h5 => ?_, fun h5 => ?_⟩
      · obtain ⟨b, h6, h7, h8⟩ := hs1 h5
        exact ⟨b, (slot_put_ne (a := a') (by decide) _).trans h6, h7, h8⟩
      · obtain ⟨b, h6, h7, h8⟩ := hs2 h5
        exact ⟨b, (slot_put_ne (a := a') (by decide) _).trans h6, h7, h8⟩
    simp only [Act.put, List.setIfInBounds_toArray, List.set_cons_zero, List.set_cons_succ]
    apply wpE_op (v := undef) (by rfl) (by rfl) (by rfl)
    · intro f a' w' ha hf hJ Q1 hQ
      obtain ⟨hb, h1, h2, hs1, hs2⟩ := hJ
      have hff : f 8 = false := hf.1
      rw [hff, Sel_false] at h1
      have c1 := h1.rd
      have f1 := h1.nf
      simp only [Act.put, List.setIfInBounds_toArray, List.set_cons_zero, List.set_cons_succ] at hQ
      go_wp2
      refine hQ _ _ rfl ⟨(((((hb.setCell (by simp) _).setCell (by simp) _).setCell (by simp) _).setCell (by simp) _).setCell (by simp) _), Blk.of (((((h1.set 0 _).set 1 _).set 2 _).set 3 _).set 4 _) rfl, (((((h2.set_ne (by simp; try omega) _).set_ne (by simp; try omega) _).set_ne (by simp; try omega) _).set_ne (by simp; try omega) _).set_ne (by simp; try omega) _), fun h5 => ?_, fun h5 => ?_⟩
      · obtain ⟨b, h6, h7, h8⟩ := hs1 h5
        exact ⟨b, h6, (((((h7.set_ne (by simp; try omega) _).set_ne (by simp; try omega) _).set_ne (by simp; try omega) _).set_ne (by simp; try omega) _).set_ne (by simp; try omega) _), h8⟩
      · obtain ⟨b, h6, h7, h8⟩ := hs2 h5
        exact ⟨b, h6, (((((h7.set_ne (by simp; try omega) _).set_ne (by simp; try omega) _).set_ne (by simp; try omega) _).set_ne (by simp; try omega) _).set_ne (by simp; try omega) _), h8⟩
    simp only [Act.put, List.setIfInBounds_toArray, List.set_cons_zero, List.set_cons_succ]
    apply wpE_op (v := undef) (by rfl) (by rfl) (by rfl)
    · intro f a' w' ha hf hJ Q1 hQ
      obtain ⟨hb, h1, h2, hs1, hs2⟩ := hJ
      have hff : f 9 = false := hf.1
      rw [hff, Sel_false] at h2
      have c1 := h2.rd
      have f1 := h2.nf
      simp only [Act.put, List.setIfInBounds_toArray, List.set_cons_zero, List.set_cons_succ] at hQ
      go_wp2
      refine hQ _ _ rfl ⟨(((((hb.setCell (by simp) _).setCell (by simp) _).setCell (by simp) _).setCell (by simp) _).setCell (by simp) _), (((((h1.set_ne (by simp; try omega) _).set_ne (by simp; try omega) _).set_ne (by simp; try omega) _).set_ne (by simp; try omega) _).set_ne (by simp; try omega) _), Blk.of (((((h2.set 0 _).set 1 _).set 2 _).set 3 _).set 4 _) rfl, fun h5 => ?_, fun h5 => ?_⟩
      · obtain ⟨b, h6, h7, h8⟩ := hs1 h5
        exact ⟨b, h6, (((((h7.set_ne (by simp; try omega) _).set_ne (by simp; try omega) _).set_ne (by simp; try omega) _).set_ne (by simp; try omega) _).set_ne (by simp; try omega) _), h8⟩
      · obtain ⟨b, h6, h7, h8⟩ := hs2 h5
        exact ⟨b, h6, (((((h7.set_ne (by simp; try omega) _).set_ne (by simp; try omega) _).set_ne (by simp; try omega) _).set_ne (by simp; try omega) _).set_ne (by simp; try omega) _), h8⟩
    simp only [Act.put, List.setIfInBounds_toArray, List.set_cons_zero, List.set_cons_succ]
    refine wpE_nil ?_
    intro w2 hJ
    obtain ⟨hbQ, g1, g2, -, -⟩ := hJ
    replace g1 : Blk w2 w.heap.size #[.int .i64 4, .int .i64 0, .int .i64 0, .string (zstr X), .string ⟨#[]⟩] 23 := g1
    replace g2 : Blk w2 (w.heap.size + 1) #[.int .i64 4, .int .i64 0, .int .i64 0, .string (zstr Y), .string ⟨#[]⟩] 23 := g2
    go_wp2
    refine region_J (fun _ w' => Below w.heap.size w w' ∧ Blk w' w.heap.size #[.int .i64 4, .int .i64 0, .int .i64 0, .string (zstr X), .string ⟨#[]⟩] 23 ∧ Blk w' (w.heap.size + 1) #[.int .i64 4, .int .i64 0, .int .i64 0, .string (zstr Y), .string ⟨#[]⟩] 23) (by kernel_rfl) (by kernel_rfl) ?_ ?_
    · exact ⟨hbQ.drew, g1.drew, g2.drew⟩
    · iterate 6
        apply wpJ_op rfl (by rfl)
        · intro f w' hf hJ Q1 hQ
          obtain ⟨hb, h1, h2⟩ := hJ
          have c1 := h1.rd
          have c2 := h2.rd
          simp only [Act.put, List.setIfInBounds_toArray, List.set_cons_zero, List.set_cons_succ] at hQ
          go_wp2_with (first | (go_at_call 13; (with_reducible refine (bound_is hbx.out _).mono ?_); rintro e w2 ⟨rfl, hb2⟩; have h1 := Blk.below hb2 h1 h1.lt; have h2 := Blk.below hb2 h2 h2.lt; have hb := hb.trans (hb2.mono hb.size)) | (go_at_call 13; (with_reducible refine (bound_is hby.out _).mono ?_); rintro e w2 ⟨rfl, hb2⟩; have h1 := Blk.below hb2 h1 h1.lt; have h2 := Blk.below hb2 h2 h2.lt; have hb := hb.trans (hb2.mono hb.size)))
          exact hQ _ _ rfl ⟨hb, h1, h2⟩
        simp only [Act.put, List.setIfInBounds_toArray, List.set_cons_zero, List.set_cons_succ]
      refine wpJ_nil ?_
      intro w3 hJ
      obtain ⟨hb, h1, h2⟩ := hJ
      go_wp2
      refine region_J (fun _ w' => Below w.heap.size w w' ∧ Blk w' w.heap.size #[.int .i64 4, .int .i64 0, .int .i64 0, .string (zstr X), .string ⟨#[]⟩] 23 ∧ Blk w' (w.heap.size + 1) #[.int .i64 4, .int .i64 0, .int .i64 0, .string (zstr Y), .string ⟨#[]⟩] 23) (by kernel_rfl) (by kernel_rfl) ?_ ?_
      · exact ⟨hb.drew, h1.drew, h2.drew⟩
      · clear h1 h2 hb
        iterate 27
          apply wpJ_op rfl (by rfl)
          · intro f w' hf hJ Q1 hQ
            obtain ⟨hb, h1, h2⟩ := hJ
            have c1 := h1.rd
            have c2 := h2.rd
            simp only [Act.put, List.setIfInBounds_toArray, List.set_cons_zero, List.set_cons_succ] at hQ
            go_wp2_with (first | (go_at_call 7; (with_reducible refine (parts_is hpx.out _).mono ?_); rintro e w2 ⟨rfl, hb2⟩; have h1 := Blk.below hb2 h1 h1.lt; have h2 := Blk.below hb2 h2 h2.lt; have hb := hb.trans (hb2.mono hb.size)) | (go_at_call 7; (with_reducible refine (parts_is hpy.out _).mono ?_); rintro e w2 ⟨rfl, hb2⟩; have h1 := Blk.below hb2 h1 h1.lt; have h2 := Blk.below hb2 h2 h2.lt; have hb := hb.trans (hb2.mono hb.size)) | (go_at_call 6; (with_reducible refine (awake_any _).mono ?_); rintro e w2 ⟨rfl, hb2⟩; have h1 := Blk.below hb2 h1 h1.lt; have h2 := Blk.below hb2 h2 h2.lt; have hb := hb.trans (hb2.mono hb.size)))
            exact hQ _ _ rfl ⟨hb, h1, h2⟩
          simp only [Act.put, List.setIfInBounds_toArray, List.set_cons_zero, List.set_cons_succ]
        refine wpJ_nil ?_
        intro w4 hJ
        obtain ⟨hb, h1, h2⟩ := hJ
        go_wp2
        go_ret
        exact ⟨rfl, hb⟩

theorem rises_walk (a0 a1 : Int) (wr : Bool) (_ : (Lit.int .i64 a0).wf = true) (_ : (Lit.int .i64 a1).wf = true) (w : World) :
    Calls Try.prog 5 #[.int .i64 a0, .int .i64 a1, .bool wr] w fun e w' => e = .returned (.bool true) ∧ Below w.heap.size w w' := by
  have h0 := low_bd a0 513 (by decide)
  have h1 := low_bd a1 513 (by decide)
  obtain ⟨A, hA⟩ : ∃ A : Nat, lowF a0 513 = A := ⟨(lowF a0 513).toNat, by omega⟩
  obtain ⟨B, hB⟩ : ∃ B : Nat, lowF a1 513 = B := ⟨(lowF a1 513).toNat, by omega⟩
  by_cases hlt : B < A
  · cases wr
    · exact rises_rs a0 a1 B A (Lib.hid hA) (Lib.hid hB) hlt (by omega) (by omega) w
    · exact rises_ws a0 a1 B A (Lib.hid hA) (Lib.hid hB) hlt (by omega) (by omega) w
  · cases wr
    · exact rises_rn a0 a1 A B (Lib.hid hA) (Lib.hid hB) (by omega) (by omega) (by omega) w
    · exact rises_wn a0 a1 A B (Lib.hid hA) (Lib.hid hB) (by omega) (by omega) (by omega) w
end Go.Proofs.Ytifhcnkadieboaa
