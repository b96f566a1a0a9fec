/-
  The document's frames: Take, Give.
-/
import Derived.Test.YtchnjfmimpikcaaGreatDoorQF0
namespace Go.Proofs.YtchnjfmimpikcaaGreatDoor
set_option linter.unusedSimpArgs false
set_option linter.unusedVariables false
open Go.RowKit Own RegC
open RegJ hiding Up
open RegF hiding put_size

theorem infoI : (Tryz.prog.info? 3).map (fun i => (i.zero, i.size, i.bytes)) = some (some (.int .i64 0), 1, 8) := by kernel_rfl
theorem underI : Tryz.prog.underlying 79 = some (.slice 3) := Tryz.underlying79
theorem one_i (xs : List Int) : ∀ u ∈ icells xs, u.oneCell' = true := by
  intro u hu
  obtain ⟨x, _, rfl⟩ := List.mem_map.1 hu
  rfl
theorem RowV.sl {w : World} {E : TypeId} {v : Value} {xs : List Value} {b : Option Nat} (h : RowV w E v xs b) : ∃ a l c, v = .slice a l c := by
  obtain ⟨a, c, h, _⟩ := h.slice
  exact ⟨_, _, _, h⟩
def RTakeP (w : World) (O : Nat → Prop) (fb tb bb n : Nat) (tk : List Bool) (back : List Int) (fr i : Nat) (e : Ending) (w' : World) : Prop := e = .returned (.tuple #[.int .i64 i, .int .i64 0]) ∧ FD w' (nx w w' O) fb tb bb n (tk.set i true) back fr ∧ Upd (FF fb tb bb) w w'
section
variable {w w' : World} {O O' F : Nat → Prop} {fb tb bb n fr : Nat} {tk : List Bool} {back : List Int}
theorem rtake_fin {W wm : World} {b0 : List Int} {i fr' : Nat} {vb : Value} {bk : Option Nat} {cs : Array Value} {back0 : List Int} (h : FD w O fb tb bb n tk back0 fr) (hN : fb ≠ tb ∧ fb ≠ bb ∧ tb ≠ bb) (hi : i < n) (hW : Upd (FF fb tb bb) w W)
    (h1 : Blk wm fb #[.slice (some ⟨tb, 0, none⟩) n n, .slice (some ⟨bb, 0, none⟩) n n, vb, .int .i64 fr'] 143) (h2 : Blk wm tb ((tk.set i true).map Value.bool).toArray 4) (h3 : Blk wm bb cs 23) (hcs : cs.size = n)
    (h4 : RowV wm 3 vb (icells b0) bk) (h5 : Upd (FF fb tb bb) W wm) (hfr : fr' ≤ n ∧ b0.length ≤ n ∧ ∀ x ∈ b0, 0 ≤ x ∧ x < n) (hbk : ∀ g, bk = some g → O g ∧ g ≠ bb ∨ w.heap.size ≤ g) (Z : Array Value) (v : Value) :
    RTakeP w O fb tb bb n tk b0 fr' i (.returned (.tuple #[.int .i64 i, .int .i64 0])) ((wm.alloc (.cells Z 5)).setCell ⟨bb, i, none⟩ v).drew := by
  have hU : Upd (FF fb tb bb) w wm := hW.trans h5 (fun _ _ h => h)
  have hU2 : Upd (fun k => k = bb) wm ((wm.alloc (.cells Z 5)).setCell ⟨bb, i, none⟩ v).drew := (((Upd.refl (fun k => k = bb) wm).alloc _).setCell (p := ⟨bb, i, none⟩) (fun _ => rfl) _).drew
  have g1 := Blk.upd hU2 h1 hN.2.1
  have g2 := Blk.upd hU2 h2 hN.2.2
  have g3 := ((h3.alloc (.cells Z 5)).set i v).drew
  have hs := hU.size
  obtain ⟨vb0, bk0, p1, p2, p3⟩ := h.blk
  have hbb := h3.lt
  have g4 := h4.upd hU2 (fun g hg e => by
    rcases hbk g hg with h0 | h0
    · exact h0.2 e
    · obtain ⟨cs0, q1, _⟩ := h.row
      have := q1.lt; omega)
  exact ⟨rfl, ⟨⟨vb, bk, g1, g4, fun g hg => ⟨(hbk g hg).imp (fun h => h.1) id, g4.lt g hg⟩⟩, g2, ⟨_, g3, by simp [hcs]⟩, by simp [h.len], h.n64, hfr.1, hfr.2.1, hfr.2.2, nx_old h.of.1 g1.lt, nx_old h.of.2.1 g2.lt, nx_old h.of.2.2 g3.lt⟩, hU.trans hU2 (fun k _ e => Or.inr (Or.inr e))⟩
set_option maxRecDepth 100000 in
set_option maxHeartbeats 1000000 in
theorem rtake_back {b0 : List Int} {i : Nat} (h : FD w O fb tb bb n tk (b0 ++ [(i : Int)]) fr) : Calls Tryz.prog 100 #[.pointer (some ⟨fb, 0, none⟩)] w (RTakeP w O fb tb bb n tk b0 fr i) := by
  have H := Lib.hid h
  have HN := Lib.hid h.ne
  obtain ⟨vb, bk, h1, h2, h3⟩ := h.blk
  obtain ⟨cs, h4, h5⟩ := h.row
  have hi : i < n := by have := h.bkr i (by simp); omega
  rcases h2 with ⟨_, h0, _⟩ | ⟨g, cap, rest, rfl, rfl, hBg, hc, hm⟩
  · simp at h0
  have hll : (icells (b0 ++ [(i : Int)])).length = b0.length + 1 := by simp
  have hbn := h.bkn
  have hfn := h.frn
  have hn64 := h.n64
  rw [List.length_append, List.length_singleton] at hbn
  have r0 : w.cell? ⟨g, b0.length, none⟩ = some (.int .i64 i) := by
    rw [hBg.rd, List.getElem?_toArray, List.getElem?_append_left (by rw [hll]; omega)]
    simp
  have HRD : Hid (∀ w', Blk w' g (icells (b0 ++ [(i : Int)]) ++ rest).toArray 3 → ∀ (j : Nat) (u : Value), (icells b0)[j]? = some u → w'.cell? ((⟨g, 0, none⟩ : Addr).add j) = some u) := Lib.hid (fun w' hB j u hj => by
    have hjl := (List.getElem?_eq_some_iff.1 hj).1
    rw [add_off, hB.rd, List.getElem?_toArray, List.getElem?_append_left (by rw [hll]; simp at hjl; omega)]
    simp only [icells, List.map_append]
    rw [List.getElem?_append_left hjl]
    exact hj)
  rw [hll] at h1
  have hcap : b0.length + 1 ≤ cap := by rw [hc, List.length_append, hll]; omega
  have c1 := h1.rd
  obtain ⟨M, hM⟩ : ∃ M, b0.length = M := ⟨_, rfl⟩
  obtain ⟨L, hL⟩ : ∃ L, M + 1 = L := ⟨_, rfl⟩
  rw [hM] at r0 hbn hcap
  rw [hM, hL] at h1 c1
  rw [hL] at hbn hcap
  have e1 : (L : Int) - 1 = (M : Int) := by omega
  have e0 : (0 : Int) ≤ M := by omega
  have e2 : (M : Int) < L := by omega
  have e3 : (M : Int) ≤ cap := by omega
  have e4 : M ≤ cap := by omega
  have i1 : (i : Int) < n := by omega
  have i2 : (0 : Int) ≤ i := by omega
  have d1 : decide ((L : Int) > 0) = true := by simp; omega
  have d1n : decide (L > 0) = true := by simp; omega
  have HL := Lib.hid (And.intro hM (And.intro hL (And.intro hbn (And.intro hi hn64))))
  have HH := Lib.hid (And.intro h1 (And.intro hBg (And.intro h4 (And.intro h5 h3))))
  clear h h1 h4 hBg hc hm h3 h5 hM hL hll
  go_enter Tryz.func100, Tryz.ntmps100
  go_wp2
  go_quiet (fail)
  go_upto_region 4 with (fail)
  obtain ⟨W, hW⟩ : ∃ W, W = (w.drewN nq).drew := ⟨_, rfl⟩
  have hWu : Upd (fun _ => False) w W := by rw [hW]; exact ((Upd.refl _ w).drewN nq).drew
  have HB := Lib.hid (And.intro (Blk.upd hWu HH.out.1 (fun h => h)) (Blk.upd hWu HH.out.2.1 (fun h => h)))
  have HT := Lib.hid (And.intro (Blk.upd hWu H.out.tak (fun h => h)) (And.intro (Blk.upd hWu HH.out.2.2.1 (fun h => h)) (And.intro (fun e => HN.out.1 e.symm : ¬ tb = fb) (fun e => HN.out.2.1 e.symm : ¬ bb = fb))))
  have HW := Lib.hid (And.intro hWu hW)
  clear hWu hW r0 c1
  refine region_E (EvJ W 12 39 (fun _ _ => True) 12 39 (fun _ _ => True) 12 39 (fun v w => ∃ b, RowV w 3 v (icells b0) b ∧ ∀ g, b = some g → W.heap.size ≤ g) 15 ⟨fb, 2, none⟩) [Is 73 (some 27) (.pointer (some ⟨fb, 0, none⟩)), Is 73 (some 28) (.pointer (some ⟨fb, 0, none⟩)), Is 73 (some 29) (.pointer (some ⟨fb, 0, none⟩)), Is 73 (some 30) (.pointer (some ⟨fb, 2, none⟩)), Is 73 (some 31) (.slice (some ⟨g, 0, none⟩) L cap), Is 73 (some 32) (.pointer (some ⟨fb, 0, none⟩)), Is 73 (some 33) (.pointer (some ⟨fb, 0, none⟩)), Is 73 (some 34) (.pointer (some ⟨fb, 2, none⟩)), Is 73 (some 35) (.slice (some ⟨g, 0, none⟩) L cap), Is 73 (some 36) (.int .i64 (L : Nat)), Is 73 (some 37) (.int .i64 (M : Nat)), Is 73 (some 38) (.slice (some ⟨g, 0, none⟩) M cap), (fun u => ∃ a l c, u = .slice a l c), Is 73 (some 40) (.pointer (some ⟨fb, 0, none⟩)), Is 73 (some 41) (.pointer (some ⟨fb, 2, none⟩)), Is 73 (none) (undef)] (by kernel_rfl) (by kernel_rfl) ?_ ?_
  · exact EvJ.start _ HW.out.2.symm
  · apply wpE_op (by rfl) (by rfl) (by rfl)
    · intro f a' w' ha hf hJ Q1 hQ
      simp only [Act.put, List.setIfInBounds_toArray, List.set_cons_zero, List.set_cons_succ] at hQ
      go_wp2
      exact hQ _ _ rfl (hJ.put rfl rfl rfl rfl (slot_put_ne (a := a') (by decide) _) (slot_put_ne (a := a') (by decide) _) (slot_put_ne (a := a') (by decide) _))
    simp only [Act.put, List.setIfInBounds_toArray, List.set_cons_zero, List.set_cons_succ]
    apply wpE_op (by rfl) (by rfl) (by rfl)
    · intro f a' w' ha hf hJ Q1 hQ
      simp only [Act.put, List.setIfInBounds_toArray, List.set_cons_zero, List.set_cons_succ] at hQ
      go_wp2
      exact hQ _ _ rfl (hJ.put rfl rfl rfl rfl (slot_put_ne (a := a') (by decide) _) (slot_put_ne (a := a') (by decide) _) (slot_put_ne (a := a') (by decide) _))
    simp only [Act.put, List.setIfInBounds_toArray, List.set_cons_zero, List.set_cons_succ]
    apply wpE_op (by rfl) (by rfl) (by rfl)
    · intro f a' w' ha hf hJ Q1 hQ
      simp only [Act.put, List.setIfInBounds_toArray, List.set_cons_zero, List.set_cons_succ] at hQ
      go_wp2
      exact hQ _ _ rfl (hJ.put rfl rfl rfl rfl (slot_put_ne (a := a') (by decide) _) (slot_put_ne (a := a') (by decide) _) (slot_put_ne (a := a') (by decide) _))
    simp only [Act.put, List.setIfInBounds_toArray, List.set_cons_zero, List.set_cons_succ]
    apply wpE_op (by rfl) (by rfl) (by rfl)
    · intro f a' w' ha hf hJ Q1 hQ
      simp only [Act.put, List.setIfInBounds_toArray, List.set_cons_zero, List.set_cons_succ] at hQ
      go_wp2
      exact hQ _ _ rfl (hJ.put rfl rfl rfl rfl (slot_put_ne (a := a') (by decide) _) (slot_put_ne (a := a') (by decide) _) (slot_put_ne (a := a') (by decide) _))
    simp only [Act.put, List.setIfInBounds_toArray, List.set_cons_zero, List.set_cons_succ]
    apply wpE_op (by rfl) (by rfl) (by rfl)
    · intro f a' w' ha hf hJ Q1 hQ
      have o11 : f 11 = false := by
        cases h5 : f 11 with
        | false => rfl
        | true => exact absurd ((hf.1.1).symm.trans (hf.2.step 11 4 rfl (by kernel_rfl) h5)) (by decide)
      have o12 : f 12 = false := by
        cases h5 : f 12 with
        | false => rfl
        | true => exact absurd ((o11).symm.trans (hf.2.step 12 11 rfl (by kernel_rfl) h5)) (by decide)
      have o15 : f 15 = false := by
        cases h5 : f 15 with
        | false => rfl
        | true => exact absurd ((o12).symm.trans (hf.2.step 15 12 rfl (by kernel_rfl) h5)) (by decide)
      have hbw := hJ.bel o15
      have c5 := (Blk.below hbw HB.out.1 HB.out.1.lt).rd
      simp only [Act.put, List.setIfInBounds_toArray, List.set_cons_zero, List.set_cons_succ] at hQ
      go_wp2
      exact hQ _ _ rfl (hJ.put rfl rfl rfl rfl (slot_put_ne (a := a') (by decide) _) (slot_put_ne (a := a') (by decide) _) (slot_put_ne (a := a') (by decide) _))
    simp only [Act.put, List.setIfInBounds_toArray, List.set_cons_zero, List.set_cons_succ]
    apply wpE_op (by rfl) (by rfl) (by rfl)
    · intro f a' w' ha hf hJ Q1 hQ
      simp only [Act.put, List.setIfInBounds_toArray, List.set_cons_zero, List.set_cons_succ] at hQ
      go_wp2
      exact hQ _ _ rfl (hJ.put rfl rfl rfl rfl (slot_put_ne (a := a') (by decide) _) (slot_put_ne (a := a') (by decide) _) (slot_put_ne (a := a') (by decide) _))
    simp only [Act.put, List.setIfInBounds_toArray, List.set_cons_zero, List.set_cons_succ]
    apply wpE_op (by rfl) (by rfl) (by rfl)
    · intro f a' w' ha hf hJ Q1 hQ
      simp only [Act.put, List.setIfInBounds_toArray, List.set_cons_zero, List.set_cons_succ] at hQ
      go_wp2
      exact hQ _ _ rfl (hJ.put rfl rfl rfl rfl (slot_put_ne (a := a') (by decide) _) (slot_put_ne (a := a') (by decide) _) (slot_put_ne (a := a') (by decide) _))
    simp only [Act.put, List.setIfInBounds_toArray, List.set_cons_zero, List.set_cons_succ]
    apply wpE_op (by rfl) (by rfl) (by rfl)
    · intro f a' w' ha hf hJ Q1 hQ
      simp only [Act.put, List.setIfInBounds_toArray, List.set_cons_zero, List.set_cons_succ] at hQ
      go_wp2
      exact hQ _ _ rfl (hJ.put rfl rfl rfl rfl (slot_put_ne (a := a') (by decide) _) (slot_put_ne (a := a') (by decide) _) (slot_put_ne (a := a') (by decide) _))
    simp only [Act.put, List.setIfInBounds_toArray, List.set_cons_zero, List.set_cons_succ]
    apply wpE_op (by rfl) (by rfl) (by rfl)
    · intro f a' w' ha hf hJ Q1 hQ
      have o9 : f 9 = false := by
        cases h5 : f 9 with
        | false => rfl
        | true => exact absurd ((hf.1.1).symm.trans (hf.2.step 9 8 rfl (by kernel_rfl) h5)) (by decide)
      have o10 : f 10 = false := by
        cases h5 : f 10 with
        | false => rfl
        | true => exact absurd ((o9).symm.trans (hf.2.step 10 9 rfl (by kernel_rfl) h5)) (by decide)
      have o11 : f 11 = false := by
        cases h5 : f 11 with
        | false => rfl
        | true => exact absurd ((o10).symm.trans (hf.2.step 11 10 rfl (by kernel_rfl) h5)) (by decide)
      have o12 : f 12 = false := by
        cases h5 : f 12 with
        | false => rfl
        | true => exact absurd ((o11).symm.trans (hf.2.step 12 11 rfl (by kernel_rfl) h5)) (by decide)
      have o15 : f 15 = false := by
        cases h5 : f 15 with
        | false => rfl
        | true => exact absurd ((o12).symm.trans (hf.2.step 15 12 rfl (by kernel_rfl) h5)) (by decide)
      have hbw := hJ.bel o15
      have c5 := (Blk.below hbw HB.out.1 HB.out.1.lt).rd
      simp only [Act.put, List.setIfInBounds_toArray, List.set_cons_zero, List.set_cons_succ] at hQ
      go_wp2
      exact hQ _ _ rfl (hJ.put rfl rfl rfl rfl (slot_put_ne (a := a') (by decide) _) (slot_put_ne (a := a') (by decide) _) (slot_put_ne (a := a') (by decide) _))
    simp only [Act.put, List.setIfInBounds_toArray, List.set_cons_zero, List.set_cons_succ]
    apply wpE_op (by rfl) (by rfl) (by rfl)
    · intro f a' w' ha hf hJ Q1 hQ
      simp only [Act.put, List.setIfInBounds_toArray, List.set_cons_zero, List.set_cons_succ] at hQ
      go_wp2
      exact hQ _ _ rfl (hJ.put rfl rfl rfl rfl (slot_put_ne (a := a') (by decide) _) (slot_put_ne (a := a') (by decide) _) (slot_put_ne (a := a') (by decide) _))
    simp only [Act.put, List.setIfInBounds_toArray, List.set_cons_zero, List.set_cons_succ]
    apply wpE_op (by rfl) (by rfl) (by rfl)
    · intro f a' w' ha hf hJ Q1 hQ
      simp only [Act.put, List.setIfInBounds_toArray, List.set_cons_zero, List.set_cons_succ] at hQ
      go_wp2
      exact hQ _ _ rfl (hJ.put rfl rfl rfl rfl (slot_put_ne (a := a') (by decide) _) (slot_put_ne (a := a') (by decide) _) (slot_put_ne (a := a') (by decide) _))
    simp only [Act.put, List.setIfInBounds_toArray, List.set_cons_zero, List.set_cons_succ]
    apply wpE_op (by rfl) (by rfl) (by rfl)
    · intro f a' w' ha hf hJ Q1 hQ
      simp only [Act.put, List.setIfInBounds_toArray, List.set_cons_zero, List.set_cons_succ] at hQ
      go_wp2
      exact hQ _ _ rfl (hJ.put rfl rfl rfl rfl (slot_put_ne (a := a') (by decide) _) (slot_put_ne (a := a') (by decide) _) (slot_put_ne (a := a') (by decide) _))
    simp only [Act.put, List.setIfInBounds_toArray, List.set_cons_zero, List.set_cons_succ]
    apply wpE_any (d := 39) rfl (by simp) ⟨_, none, 0, 0, rfl⟩ (by rfl)
    · intro f a' w' ha hf hJ Q1 hQ
      have o15 : f 15 = false := by
        cases h5 : f 15 with
        | false => rfl
        | true => exact absurd ((hf.1.1).symm.trans (hf.2.step 15 12 rfl (by kernel_rfl) h5)) (by decide)
      have hbw := hJ.bel o15
      have hsz : 39 < a'.tmps.size := by rw [ha.1]; simp
      have hw' : w' = W := (hJ.1 o15).2.1 hf.1.1 hf.1.1 hf.1.1
      subst hw'
      simp only [Act.put, List.setIfInBounds_toArray, List.set_cons_zero, List.set_cons_succ] at hQ
      go_wp2_with (at_builtin; refine wp_appV rfl _ _ 79 3 _ 8 infoI rfl (by decide) underI rfl _ [] none rfl (Or.inl ⟨rfl, rfl, rfl⟩) (some ⟨g, 0, none⟩) M cap (icells b0) (by rw [List.length_map]; exact HL.out.1) rfl (fun _ => ⟨_, rfl, HRD.out _ HB.out.2⟩) (one_i b0) (by rw [List.length_map]; simp; have := HL.out; omega) ?_; intro v3 w3 B3 hI3 hB3 hU3; rw [List.nil_append] at hI3)
      have hz : Below w'.heap.size w' w3 := hU3.below (Nat.le_refl _) (fun k hk => by cases hk)
      exact hQ _ _ _ rfl (RowV.sl hI3) (hJ.ev3 o15 (by decide) (slot_put (a := a') hsz _) hz ⟨B3, hI3, fun g hg => (hB3 g hg).elim (fun h => by cases h) id⟩)
    rintro _ ⟨va, vl, vc, rfl⟩
    simp only [Act.put, List.setIfInBounds_toArray, List.set_cons_zero, List.set_cons_succ]
    apply wpE_op (by rfl) (by rfl) (by rfl)
    · intro f a' w' ha hf hJ Q1 hQ
      simp only [Act.put, List.setIfInBounds_toArray, List.set_cons_zero, List.set_cons_succ] at hQ
      go_wp2
      exact hQ _ _ rfl (hJ.put rfl rfl rfl rfl (slot_put_ne (a := a') (by decide) _) (slot_put_ne (a := a') (by decide) _) (slot_put_ne (a := a') (by decide) _))
    simp only [Act.put, List.setIfInBounds_toArray, List.set_cons_zero, List.set_cons_succ]
    apply wpE_op (by rfl) (by rfl) (by rfl)
    · intro f a' w' ha hf hJ Q1 hQ
      simp only [Act.put, List.setIfInBounds_toArray, List.set_cons_zero, List.set_cons_succ] at hQ
      go_wp2
      exact hQ _ _ rfl (hJ.put rfl rfl rfl rfl (slot_put_ne (a := a') (by decide) _) (slot_put_ne (a := a') (by decide) _) (slot_put_ne (a := a') (by decide) _))
    simp only [Act.put, List.setIfInBounds_toArray, List.set_cons_zero, List.set_cons_succ]
    apply wpE_op (v := undef) (by rfl) (by rfl) (by rfl)
    · intro f a' w' ha hf hJ Q1 hQ
      have hbw := hJ.bel hf.1.1
      have on3 : f 12 = true := hf.1.2 ⟨12, .data⟩ (by simp) rfl
      have e3 : slot a' 39 = .slice va vl vc := by
        have := ha.2 39 (by decide)
        simp only [slot, Array.getD_eq_getD_getElem?, this]; rfl
      have c5 := (Blk.below hbw HB.out.1 HB.out.1.lt).rd
      have f5 := (Blk.below hbw HB.out.1 HB.out.1.lt).nf
      simp only [Act.put, List.setIfInBounds_toArray, List.set_cons_zero, List.set_cons_succ] at hQ
      go_wp2
      exact hQ _ _ rfl (hJ.store hf.1.1 on3 rfl e3)
    simp only [Act.put, List.setIfInBounds_toArray, List.set_cons_zero, List.set_cons_succ]
    refine wpE_nil ?_
    intro w4 hJ
    obtain ⟨w3, hb3, hq3, rfl⟩ := hJ.fin rfl (v := .slice va vl vc) rfl
    obtain ⟨B3, hI3, hB3⟩ := hq3
    have hs3 := hb3.size
    have q1 : Blk (w3.setCell ⟨fb, 2, none⟩ (.slice va vl vc)) fb #[.slice (some ⟨tb, 0, none⟩) n n, .slice (some ⟨bb, 0, none⟩) n n, .slice va vl vc, .int .i64 fr] 143 := Blk.of ((Blk.below hb3 HB.out.1 HB.out.1.lt).set 2 _) rfl
    have hu : Upd (FF fb tb bb) W (w3.setCell ⟨fb, 2, none⟩ (.slice va vl vc)) := (Upd.of_below (F := fun _ => False) hb3).mono (fun _ _ h => h.elim) |>.setCell (p := ⟨fb, 2, none⟩) (fun _ => Or.inl rfl) _
    have hu3 : Upd (fun k => k = fb) w3 (w3.setCell ⟨fb, 2, none⟩ (.slice va vl vc)) := (Upd.refl (fun k => k = fb) w3).setCell (p := ⟨fb, 2, none⟩) (fun _ => rfl) _
    have hI4 := hI3.upd hu3 (fun g hg e => by have := hB3 g hg; have := HB.out.1.lt; omega)
    have q2 := Blk.upd hu3 (Blk.below hb3 HT.out.1 HT.out.1.lt) HT.out.2.2.1
    have q3 := Blk.upd hu3 (Blk.below hb3 HT.out.2.1 HT.out.2.1.lt) HT.out.2.2.2
    have HK := Lib.hid (And.intro q1 (And.intro hu (And.intro hI4 (And.intro hB3 (And.intro q2 q3)))))
    clear q1 hu hu3 hI4 hB3 q2 q3 hI3 hb3 hs3
    generalize w3.setCell ⟨fb, 2, none⟩ (.slice va vl vc) = wk at HK ⊢
    have c1 := HK.out.1.rd
    obtain ⟨u2, hu2⟩ : ∃ u, tk[i]? = some u := ⟨_, List.getElem?_eq_getElem (by rw [H.out.len]; exact HL.out.2.2.2.1)⟩
    have c2 : wk.cell? ⟨tb, i, none⟩ = some (.bool u2) := by rw [HK.out.2.2.2.2.1.rd, List.getElem?_toArray, List.getElem?_map, hu2]; rfl
    obtain ⟨u3, hu3⟩ : ∃ u, cs[i]? = some u := ⟨_, Array.getElem?_eq_getElem (by rw [HH.out.2.2.2.1]; exact HL.out.2.2.2.1)⟩
    have c3 : wk.cell? ⟨bb, i, none⟩ = some u3 := by rw [HK.out.2.2.2.2.2.rd]; exact hu3
    clear hu2 hu3
    have f2 := HK.out.2.2.2.2.1.nf
    have f3 := HK.out.2.2.2.2.2.nf
    have hne := HN.out
    go_upto_region 9 with (fail)
    have ht2 := Blk.of (HK.out.2.2.2.2.1.set i (.bool true)) (show (tk.map Value.bool).toArray.setIfInBounds i (.bool true) = ((tk.set i true).map Value.bool).toArray by simp [List.map_set])
    have hu3 : Upd (fun k => k = tb) wk (wk.setCell ⟨tb, i, none⟩ (.bool true)) := (Upd.refl (fun k => k = tb) wk).setCell (p := ⟨tb, i, none⟩) (fun _ => rfl) _
    have HM := Lib.hid (And.intro (Blk.upd hu3 HK.out.1 HN.out.1) (And.intro ht2 (And.intro (Blk.upd hu3 HK.out.2.2.2.2.2 (fun e => HN.out.2.2 e.symm)) (And.intro (HK.out.2.2.1.upd hu3 (fun g hg e => by have := HK.out.2.2.2.1 g hg; have := HT.out.1.lt; omega)) (HK.out.2.1.trans hu3 (fun k _ e => Or.inr (Or.inl e)))))))
    clear ht2 hu3 c1 c2 c3 f2 f3
    generalize wk.setCell ⟨tb, i, none⟩ (.bool true) = wm at HM ⊢
    have c1 := HM.out.1.rd
    obtain ⟨u3, hu3⟩ : ∃ u, cs[i]? = some u := ⟨_, Array.getElem?_eq_getElem (by rw [HH.out.2.2.2.1]; exact HL.out.2.2.2.1)⟩
    have c3 : wm.cell? ⟨bb, i, none⟩ = some u3 := by rw [HM.out.2.2.1.rd]; exact hu3
    clear hu3
    have f3 := HM.out.2.2.1.nf
    have m1 : ∀ w', (Instr.makeSlice 23 (.int .i64 64) (.int .i64 64)).run Tryz.prog w' = .ok (.slice (some ⟨w'.heap.size, 0, none⟩) 64 64) (w'.alloc (.cells (madeCells (Value.int .u8 0).cells (64 * 1)) 5)) := make_of' 23 5 (.int .u8 0) 1 1 64 Tryz.underlying23 (by kernel_rfl) (by omega) (by omega)
    generalize madeCells (Value.int .u8 0).cells (64 * 1) = Z at m1
    have c1a := (HM.out.1.alloc (.cells Z 5)).rd
    have c3a : (wm.alloc (.cells Z 5)).cell? ⟨bb, i, none⟩ = some u3 := by rw [(HM.out.2.2.1.alloc (.cells Z 5)).rd]; rw [HM.out.2.2.1.rd] at c3; exact c3
    have f3a := (HM.out.2.2.1.alloc (.cells Z 5)).nf
    go_region
    all_goals go_wp2
    all_goals go_returns
    exact rtake_fin H.out HN.out HL.out.2.2.2.1 (HW.out.1.mono (fun _ _ h => h.elim)) HM.out.1 HM.out.2.1 HM.out.2.2.1 HH.out.2.2.2.1 HM.out.2.2.2.1 HM.out.2.2.2.2 ⟨H.out.frn, by have := H.out.bkn; simp at this; omega, fun x hx => H.out.bkr x (by simp [hx])⟩ (fun g hg => Or.inr (by have := HK.out.2.2.2.1 g hg; have := HW.out.1.size; omega)) _ _
end
end Go.Proofs.YtchnjfmimpikcaaGreatDoor
