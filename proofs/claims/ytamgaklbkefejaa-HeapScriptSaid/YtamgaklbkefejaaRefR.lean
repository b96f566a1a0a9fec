/-
  The document's heap: Push, the walk.
-/
import Derived.Test.YtamgaklbkefejaaRefQ
namespace Go.Proofs.Ytamgaklbkefejaa
set_option linter.unusedSimpArgs false
set_option linter.unusedVariables false
open Go.RowKit Go.Lib Own
open RegJ hiding Up
open RegF hiding put_size

set_option maxRecDepth 100000 in
theorem rpush_arg {w : World} (bh : Nat) (id k : Int) (hid : id < 0) : Calls Try.prog 13 #[.pointer (some ⟨bh, 0, none⟩), .int .i64 id, .int .i64 k] w fun e w' => e = .returned (.int .i64 2) ∧ w = w' := by
  go_enter Try.func13, Try.ntmps13
  go_wp2
  go_ret
  exact ⟨rfl, rfl⟩
set_option maxRecDepth 100000 in
theorem rpush_busy {w : World} {bh : Nat} {xs : List It} {b : Option Nat} (h : Rh w bh xs b) (id k : Int) (hid : 0 ≤ id) (hy : hasB xs id = true) : Calls Try.prog 13 #[.pointer (some ⟨bh, 0, none⟩), .int .i64 id, .int .i64 k] w fun e w' => e = .returned (.int .i64 5) ∧ w = w' := by
  have ha := rat_yes h id hy
  clear h hy
  go_enter Try.func13, Try.ntmps13
  go_wp2_with (go_at_call 28; refine ha.mono ?_; rintro e w' ⟨⟨m, rfl, hm, hx⟩, rfl⟩; have d1 : decide ((m : Int) ≥ 0) = true := (by simp))
  go_ret
  exact ⟨rfl, rfl⟩
/-- what is known in a round -/
def RpI (w wr : World) (bh : Nat) (xs : List It) (b : Option Nat) (x : It) (C k : Nat) (v : Value) : Prop := Rh wr bh xs b ∧ Blk wr w.heap.size #[.int .i64 x.1, .int .i64 x.2] 44 ∧ (∃ B, ItR wr v (colP xs x C k) B ∧ ∀ g, B = some g → w.heap.size < g) ∧ Below w.heap.size w wr
def RpV (w wr : World) (bh : Nat) (xs : List It) (b : Option Nat) (x : It) (l : List It) (v : Value) : Prop := Rh wr bh xs b ∧ Blk wr w.heap.size #[.int .i64 x.1, .int .i64 x.2] 44 ∧ (∃ B, ItR wr v l B ∧ ∀ g, B = some g → w.heap.size < g) ∧ Below w.heap.size w wr
theorem RpV.below {w wr w' : World} {bh : Nat} {xs l : List It} {b : Option Nat} {x : It} {v : Value} (h : RpV w wr bh xs b x l v) (hB : Below wr.heap.size wr w') : RpV w w' bh xs b x l v := by
  obtain ⟨h1, h2, ⟨B, h3, h4⟩, h5⟩ := h
  exact ⟨h1.below hB, Blk.below hB h2 h2.lt, ⟨B, h3.upd (Upd.of_below (F := fun _ => False) hB) (fun _ _ h => h), h4⟩, h5.trans (hB.mono h5.size)⟩
/-- one more behind -/
theorem RpV.app {w wr : World} {bh : Nat} {xs l : List It} {b : Option Nat} {x y : It} {v v' : Value} (hbx : bh < w.heap.size ∧ ∀ g, b = some g → g < w.heap.size) (h : RpV w wr bh xs b x l v) {B B' : Option Nat} {w' : World} (hI0 : ItR wr v l B) (h0 : ∀ g, B = some g → w.heap.size < g) (hI : ItR w' v' (l ++ [y]) B') (hf : ∀ g, B' = some g → B = some g ∨ (wr.alloc (.cells #[.int .i64 y.1, .int .i64 y.2] 44)).heap.size ≤ g) (hu : Upd (fun k => B = some k) (wr.alloc (.cells #[.int .i64 y.1, .int .i64 y.2] 44)) w') : RpV w w' bh xs b x (l ++ [y]) v' := by
  obtain ⟨h1, h2, _, h5⟩ := h
  have hu1 : Upd (fun k => B = some k) wr w' := ((Upd.refl (fun k => B = some k) wr).alloc _).trans hu (fun _ _ h => h)
  have hsz := h5.size
  refine ⟨h1.upd hu1 (fun e => by have := h0 _ e; omega) (fun g hg e => by have := h0 _ e; have := hbx.2 g hg; omega), Blk.upd hu1 h2 (fun e => by have := h0 _ e; omega), ⟨B', hI, fun g hg => ?_⟩, h5.trans (hu1.below hsz (fun k hk => by have := h0 k hk; omega))⟩
  rcases hf g hg with e | e
  · exact h0 g e
  · have := h2.lt; simp at e; omega
theorem RpV.slice {w wr : World} {bh : Nat} {xs l : List It} {b : Option Nat} {x : It} {v : Value} (h : RpV w wr bh xs b x l v) : ∃ a l c, v = Value.slice a l c := by
  obtain ⟨_, _, ⟨B, h3, _⟩, _⟩ := h
  obtain ⟨a, c, e⟩ := h3.slice
  exact ⟨a, _, c, e⟩
def RPushP (bh : Nat) (b : Option Nat) (w : World) (l : List It) (e : Ending) (w' : World) : Prop := e = .returned (.int .i64 0) ∧ ∃ b', Rh w' bh l b' ∧ HFr bh b b' w w'
theorem RpV.fin {w wr : World} {bh : Nat} {xs l : List It} {b : Option Nat} {x : It} {v : Value} (hbx : bh < w.heap.size ∧ ∀ g, b = some g → g < w.heap.size) (h : RpV w wr bh xs b x l v) (hl : l.length ≤ 1000) : RPushP bh b w l (.returned (.int .i64 0)) (wr.setCell ⟨bh, 0, none⟩ v) := by
  obtain ⟨h1, h2, ⟨B, h3, h4⟩, h5⟩ := h
  obtain ⟨v0, hb, _⟩ := h1
  have hu : Upd (fun k => k = bh) wr (wr.setCell ⟨bh, 0, none⟩ v) := (Upd.refl (fun k => k = bh) wr).setCell (p := ⟨bh, 0, none⟩) (fun _ => rfl) _
  refine ⟨rfl, B, ⟨v, Blk.of (hb.set 0 v) rfl, h3.upd hu (fun g hg e => by have := h4 g hg; omega), fun g hg e => by have := h4 g hg; omega, hl⟩, ?_, fun g hg => Or.inr (by have := h4 g hg; omega)⟩
  exact (show Upd (fun k => k = bh ∨ b = some k) w wr from ⟨h5.os, h5.tape, h5.output, h5.size, fun k hk _ => h5.block k hk⟩).trans hu (fun _ _ e => Or.inl e)
set_option maxRecDepth 100000 in
set_option maxHeartbeats 2000000 in
theorem rpush_ok {w : World} {bh : Nat} {xs : List It} {b : Option Nat} (h : Rh w bh xs b) (hlen : xs.length ≤ 900) (id k : Int) (hid : 0 ≤ id) (hno : hasB xs id = false) (C : Nat) (hC : C ≤ xs.length) (hlo : ∀ j, j < C → ¬ lt (id, k) (X xs j)) (hhi : ∀ j, C ≤ j → j < xs.length → lt (id, k) (X xs j)) :
    Calls Try.prog 13 #[.pointer (some ⟨bh, 0, none⟩), .int .i64 id, .int .i64 k] w (RPushP bh b w (xs.take C ++ (id, k) :: xs.drop C)) := by
  have ha := rat_no h id hno
  have hbx : bh < w.heap.size ∧ ∀ g, b = some g → g < w.heap.size := by
    obtain ⟨v, h1, h2, _⟩ := h
    exact ⟨h1.lt, h2.lt⟩
  have H := Lib.hid h
  have HO := Lib.hid (And.intro hlo hhi)
  have HBX := Lib.hid hbx
  have hBh := hbx.1
  clear h hno hlo hhi hbx
  go_enter Try.func13, Try.ntmps13
  go_wp2_with (go_at_call 28; refine ha.mono ?_; rintro e w' ⟨rfl, rfl⟩)
  clear ha
  go_loopw [8, 9, 10] (fun v fl kx wr => ∃ k' : Nat, k' ≤ xs.length ∧ kx = .int .i64 k' ∧ fl = .bool (decide (C < k')) ∧ RpV w wr bh xs b (id, k) (colP xs (id, k) C k') v) (fun _ _ kx _ => xs.length - (intOf kx).toNat)
  case atStart => exact ⟨0, Nat.zero_le _, rfl, by simp, H.out.below ((Below.refl _ _).alloc (Nat.le_refl _) _), Blk.new _ _ _, ⟨none, by rw [colP_zero]; exact Or.inl ⟨rfl, rfl, rfl⟩, (fun g hg => by cases hg)⟩, (Below.refl _ _).alloc (Nat.le_refl _) _⟩
  case round =>
    obtain ⟨k', hk, rfl, rfl, hV⟩ := hrel
    obtain ⟨a, c, hb1, hv⟩ := hV.1.view
    have c1 := hb1.rd
    have c2 := hV.2.1.rd
    have HV := Lib.hid hV
    have hcl := colP_len xs (id, k) C k'
    by_cases hkl : k' < xs.length
    · obtain ⟨g, rfl, k1, k2⟩ := hv k' hkl
      obtain ⟨p, q, hpq⟩ : ∃ p q, X xs k' = (p, q) := ⟨_, _, rfl⟩
      rw [hpq] at k1 k2
      have d1 : decide ((k' : Int) < (xs.length : Int)) = true := by simp; omega
      have i1 : (k' : Int) < (xs.length : Int) := by omega
      have HB1 := Lib.hid hb1
      have K1 := Lib.hid k1
      have K2 := Lib.hid k2
      have HP := Lib.hid hpq
      clear hV hv hb1 hpq
      by_cases hkC : k' < C
      · have hd : decide (C < k') = false := by simp; omega
        have HL := Lib.hid (show decide (lt (id, k) (p, q)) = false by have := HO.out.1 k' hkC; rw [HP.out] at this; simpa using this)
        rw [hd]
        clear hd
        go_wp2
        refine region_J (fun _ w' => Below wr.heap.size wr w') (by kernel_rfl) (by kernel_rfl) ?_ ?_
        · exact (Below.refl _ _).drew
        · iterate 13
            apply wpJ_op rfl (by rfl)
            · intro f w' hf hJ Q1 hQ
              have hW := HV.out.below hJ
              have c1 := (Blk.below hJ HB1.out HB1.out.lt).rd
              have c2 := hW.2.1.rd
              have k1 := below_cell hJ (Nat.le_refl _) K1.out
              have k2 := below_cell hJ (Nat.le_refl _) K2.out
              simp only [Act.put, List.setIfInBounds_toArray, List.set_cons_zero, List.set_cons_succ] at hQ
              go_wp2_with (go_at_call 29; refine (rless_is id k p q w' false HL.out).mono ?_; rintro e w2 ⟨rfl, hb2⟩)
              first | exact hQ _ _ rfl hJ | exact hQ _ _ rfl (hJ.trans (hb2.mono hJ.size))
            simp only [Act.put, List.setIfInBounds_toArray, List.set_cons_zero, List.set_cons_succ]
          refine wpJ_nil ?_
          intro w3 hJ3
          have HV3 := Lib.hid (HV.out.below hJ3)
          have c1 := (Blk.below hJ3 HB1.out HB1.out.lt).rd
          have c2 := HV3.out.2.1.rd
          have k1 := below_cell hJ3 (Nat.le_refl _) K1.out
          have k2 := below_cell hJ3 (Nat.le_refl _) K2.out
          clear hJ3
          obtain ⟨B0, hI0, hB0⟩ := HV3.out.2.2.1
          have HI0 := Lib.hid (And.intro hI0 hB0)
          clear hI0 hB0
          go_wp2_with (at_builtin; refine wp_appR rfl _ _ rfl _ (colP xs (id, k) C k') B0 rfl (HI0.out.1.upd ((Upd.refl (fun _ => False) w3).alloc (.cells #[.int .i64 p, .int .i64 q] 44)) (fun _ _ h => h)) w3.heap.size (p, q) rfl (Blk.new _ _ _) (by first | omega | (simp; omega)) ?_; intro v1 w1a B1 hI1 hf1 hu1; have HV1a := Lib.hid (RpV.app HBX.out HV3.out HI0.out.1 HI0.out.2 hI1 hf1 hu1); clear hI1 hf1 hu1)
          go_roundw
          case rel => exact ⟨k' + 1, by omega, by go_num, by simp; try omega, by rw [colP_low hkl hkC, HP.out]; exact HV1a.out⟩
          case measure => simp [intOf]; omega
      · by_cases hkE : k' = C
        · subst hkE
          have hd : decide (k' < k') = false := by simp
          have HL := Lib.hid (show decide (lt (id, k) (p, q)) = true by have := HO.out.2 k' (Nat.le_refl _) hkl; rw [HP.out] at this; simpa using this)
          rw [hd]
          clear hd
          go_wp2
          refine region_J (fun _ w' => Below wr.heap.size wr w') (by kernel_rfl) (by kernel_rfl) ?_ ?_
          · exact (Below.refl _ _).drew
          · iterate 13
              apply wpJ_op rfl (by rfl)
              · intro f w' hf hJ Q1 hQ
                have hW := HV.out.below hJ
                have c1 := (Blk.below hJ HB1.out HB1.out.lt).rd
                have c2 := hW.2.1.rd
                have k1 := below_cell hJ (Nat.le_refl _) K1.out
                have k2 := below_cell hJ (Nat.le_refl _) K2.out
                simp only [Act.put, List.setIfInBounds_toArray, List.set_cons_zero, List.set_cons_succ] at hQ
                go_wp2_with (go_at_call 29; refine (rless_is id k p q w' true HL.out).mono ?_; rintro e w2 ⟨rfl, hb2⟩)
                first | exact hQ _ _ rfl hJ | exact hQ _ _ rfl (hJ.trans (hb2.mono hJ.size))
              simp only [Act.put, List.setIfInBounds_toArray, List.set_cons_zero, List.set_cons_succ]
            refine wpJ_nil ?_
            intro w3 hJ3
            have HV3 := Lib.hid (HV.out.below hJ3)
            have c1 := (Blk.below hJ3 HB1.out HB1.out.lt).rd
            have c2 := HV3.out.2.1.rd
            have k1 := below_cell hJ3 (Nat.le_refl _) K1.out
            have k2 := below_cell hJ3 (Nat.le_refl _) K2.out
            clear hJ3
            obtain ⟨B0, hI0, hB0⟩ := HV3.out.2.2.1
            have HI0 := Lib.hid (And.intro hI0 hB0)
            clear hI0 hB0
            go_wp2_with (first
              | (at_builtin; refine wp_appR rfl _ _ rfl _ (colP xs (id, k) k' k') B0 rfl (HI0.out.1.upd ((Upd.refl (fun _ => False) w3).alloc (.cells #[.int .i64 id, .int .i64 k] 44)) (fun _ _ h => h)) w3.heap.size (id, k) rfl (Blk.new _ _ _) (by first | omega | (simp; omega)) ?_; intro v1 w1a B1 hI1 hf1 hu1; have HV1a := Lib.hid (RpV.app HBX.out HV3.out HI0.out.1 HI0.out.2 hI1 hf1 hu1); have HI1a := Lib.hid (show ItR w1a v1 _ B1 ∧ ∀ g, B1 = some g → w.heap.size < g from ⟨hI1, fun g hg => (by rcases hf1 g hg with e | e; exact HI0.out.2 g e; have := HV3.out.2.1.lt; simp at e; omega)⟩); obtain ⟨a1, c1x, hb1a, hv1a⟩ := HV1a.out.1.view; obtain ⟨g1, rfl, k1, k2⟩ := hv1a k' hkl; rw [HP.out] at k1 k2; have c1 := hb1a.rd; clear hb1a hv1a; clear hI1 hf1 hu1)
              | (at_builtin; refine wp_appR rfl _ _ rfl _ (colP xs (id, k) k' k' ++ [(id, k)]) B1 rfl (HI1a.out.1.upd ((Upd.refl (fun _ => False) w1a).alloc (.cells #[.int .i64 p, .int .i64 q] 44)) (fun _ _ h => h)) w1a.heap.size (p, q) rfl (Blk.new _ _ _) (by first | omega | (simp; omega)) ?_; intro v2 w2a B2 hI2 hf2 hu2; have HV2a := Lib.hid (RpV.app HBX.out HV1a.out HI1a.out.1 HI1a.out.2 hI2 hf2 hu2); clear hI2 hf2 hu2))
            go_roundw
            case rel => exact ⟨k' + 1, by omega, by go_num, by simp; try omega, by rw [colP_at hkl, HP.out]; exact HV2a.out⟩
            case measure => simp [intOf]; omega
        · have hd : decide (C < k') = true := by simp; omega
          rw [hd]
          clear hd
          go_wp2
          go_quiet (fail)
          have HV3 := Lib.hid (HV.out.below (below_drewN' (Below.refl _ _) nq))
          obtain ⟨B0, hI0, hB0⟩ := HV3.out.2.2.1
          have HI0 := Lib.hid (And.intro hI0 hB0)
          clear hI0 hB0
          go_wp2_with (at_builtin; refine wp_appR rfl _ _ rfl _ (colP xs (id, k) C k') B0 rfl (HI0.out.1.upd ((Upd.refl (fun _ => False) (wr.drewN nq)).alloc (.cells #[.int .i64 p, .int .i64 q] 44)) (fun _ _ h => h)) (wr.drewN nq).heap.size (p, q) rfl (Blk.new _ _ _) (by first | omega | (simp; omega)) ?_; intro v1 w1a B1 hI1 hf1 hu1; have HV1a := Lib.hid (RpV.app HBX.out HV3.out HI0.out.1 HI0.out.2 hI1 hf1 hu1); clear hI1 hf1 hu1)
          go_roundw
          case rel => exact ⟨k' + 1, by omega, by go_num, by simp; try omega, by rw [colP_high hkl (by omega), HP.out]; exact HV1a.out⟩
          case measure => simp [intOf]; omega
    · have hkL : k' = xs.length := by omega
      subst hkL
      have d1 : decide ((xs.length : Int) < (xs.length : Int)) = false := by simp
      have nf := hb1.nf
      obtain ⟨B0, hI0, hB0⟩ := hV.2.2.1
      have HI0 := Lib.hid (And.intro hI0 hB0)
      by_cases hCk : C < xs.length
      · have hd : decide (C < xs.length) = true := by simpa using hCk
        rw [hd]
        have e := colP_fin (x := (id, k)) hCk
        obtain ⟨va, vl, vc, rfl⟩ := RpV.slice hV
        have HF := Lib.hid (RpV.fin HBX.out hV (by omega))
        have HE := Lib.hid e
        clear hV hv hI0 hB0 hd e hb1
        go_wp2
        go_ret
        have hf := HF.out
        rw [HE.out] at hf
        exact ⟨rfl, hf.2⟩
      · have hE : C = xs.length := by omega
        subst hE
        have hd : decide (xs.length < xs.length) = false := by simp
        rw [hd]
        have HE := Lib.hid (colP_end (xs := xs) (x := (id, k)))
        clear hV hv hI0 hB0 hd hb1
        go_wp2_with (at_builtin; refine wp_appR rfl _ _ rfl _ (colP xs (id, k) xs.length xs.length) B0 rfl (HI0.out.1.upd ((Upd.refl (fun _ => False) wr).alloc (.cells #[.int .i64 id, .int .i64 k] 44)) (fun _ _ h => h)) wr.heap.size (id, k) rfl (Blk.new _ _ _) (by first | omega | (simp; omega)) ?_; intro v1 w1a B1 hI1 hf1 hu1; have HV1a := Lib.hid (RpV.app HBX.out HV.out HI0.out.1 HI0.out.2 hI1 hf1 hu1); obtain ⟨va, vl, vc, rfl⟩ := RpV.slice HV1a.out; have hva := HV1a.out; rw [HE.out] at hva; obtain ⟨a1, c1x, hb1a, hv1a⟩ := hva.1.view; have c1 := hb1a.rd; have nf := hb1a.nf; have HF := Lib.hid (RpV.fin HBX.out hva (by have h9 := (ins_perm xs (id, k) xs.length).length_eq; rw [List.length_append (bs := [(id, k)]), List.length_singleton] at h9; omega)); clear hb1a hv1a hva; clear hI1 hf1 hu1)
        go_ret
        have hf := HF.out
        simp only [List.take_length, List.drop_length] at hf
        exact ⟨rfl, hf.2⟩
end Go.Proofs.Ytamgaklbkefejaa
