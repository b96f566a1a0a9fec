/-
  VfsDeep: the walk.
-/
import Derived.Test.YtchnjfmimpikcaaDoorVDeep
namespace Go.Proofs.YtchnjfmimpikcaaDoor
set_option linter.unusedSimpArgs false
set_option linter.unusedVariables false
open Go.RowKit Own RegJ Two
open Go.Lib hiding intOf

theorem pth_at (i : Nat) (a : Txt) (s : ByteArray) (ha : s = B a) : B (pth i) ++ s = B (pth i ++ a) := by subst ha; exact B_app _ _
theorem n_le {x : Int} : 0 ≤ lowF x 4 ∧ lowF x 4 < 4 := low_bd x 4 (by decide)
theorem nd_len : ∀ i, i < 5 → (lenN (dN i) 16 : Int) = i + 1 := by decide +kernel
set_option maxRecDepth 100000 in
set_option maxHeartbeats 1000000 in
theorem deep_walk (n0 : Int) (file : Bool) (w : World) (m0 : Int) (hm0 : w.cell? ⟨0, 0, none⟩ = some (.int .i64 m0)) : Calls Tryd.prog 3 #[.int .i64 n0, .bool file] w (AwP w) := by
  have HM := Lib.hid (show MC w from ⟨m0, hm0⟩)
  clear hm0
  obtain ⟨k, hk⟩ : ∃ k : Nat, lowF n0 4 = k := ⟨(lowF n0 4).toNat, by have := @n_le n0; omega⟩
  have hk4 : k < 4 := by have := @n_le n0; omega
  have hlow := fun w => low_any n0 4 (by decide) (by decide) w
  rw [hk] at hlow
  have HK := Lib.hid hk4
  clear hk
  go_enter Tryd.func3, Tryd.ntmps3
  go_wp2_with (first
    | (go_at_call 6; refine (frames_new _).mono ?_; rintro e w1 ⟨⟨fb, rfl⟩, hB⟩; have hn := d_vnew hB fb HM.out; clear hB)
    | (go_at_call 7; (with_reducible refine hn.mono ?_); rintro e w2 ⟨vb, tb, rfl, hV⟩; have H2 := Lib.hid hV; clear hn hV)
    | (go_at_call 8; refine (hlow _).mono ?_; rintro e w3 ⟨rfl, rfl⟩))
  go_loopw [8, 9] (fun v8 v9 wr => ∃ i : Nat, i ≤ k + 1 ∧ v9 = .int .i64 i ∧ v8 = .string (B (pth i)) ∧ DV w vb tb (dN i) (8 * i) wr) (fun _ v9 _ => k + 1 - (intOf v9).toNat)
  case atStart => exact ⟨0, Nat.zero_le _, rfl, rfl, H2.out⟩
  case round =>
    obtain ⟨N, hi, rfl, rfl, hD⟩ := hrel
    have HD := Lib.hid hD
    have hsz : (pth N).length ≤ 10 := by rw [pth_len]; omega
    clear hD
    by_cases hlt : N < k + 1
    · have hmk := d_mk HD.out (by omega) (pth (N + 1)) (by rw [pth_len]; omega) 0 (p_mk N (by omega)) (dN_far _ (by omega)) (B (pth N) ++ ⟨#[47, 100]⟩) (pth_at N [47, 100] _ rfl)
      have hmk2 := fun wr (h : DV w vb tb (dN (N + 1)) (8 * N + 4) wr) => d_mk h (by omega) (pth (N + 1)) (by rw [pth_len]; omega) 10 (p_mk2 N (by omega)) (dN_far _ (by omega)) (B (pth N) ++ ⟨#[47, 100]⟩) (pth_at N [47, 100] _ rfl)
      have d1 : decide ((N : Int) < 1 + (k : Int)) = true := by simp; omega
      have HX := Lib.hid hmk2
      clear hmk2
      go_wp2_with (first
        | (go_at_call 9; (with_reducible refine hmk.mono ?_); rintro e w3 ⟨rfl, hD⟩; have hmk2 := HX.out w3 hD; clear hD hmk)
        | (go_at_call 9; (with_reducible refine hmk2.mono ?_); rintro e w4 ⟨rfl, hD⟩; have H4 := Lib.hid hD; clear hD hmk2))
      go_roundw
      case rel => exact ⟨N + 1, by omega, by go_num, by rw [pth_at N [47, 100] _ rfl]; rfl, H4.out.le (by omega)⟩
      case measure => simp [intOf] <;> omega
    · have hNk : N = k + 1 := by omega
      have d1 : decide ((N : Int) < 1 + (k : Int)) = false := by simp; omega
      have HN := Lib.hid (show N = k + 1 ∧ N ≤ 4 by omega)
      clear hk4 hi hlt hNk
      cases file
      · have HD2 := Lib.hid HD.out
        obtain ⟨S, hS⟩ : ∃ S, S = B (pth N) := ⟨_, rfl⟩
        rw [← hS]
        have HS := Lib.hid hS
        clear hS
        go_wp2_with fail
        go_loopw [12] (fun v12 wr => ∃ i : Nat, i ≤ N ∧ v12 = .int .i64 i ∧ DV w vb tb (dN i) (100 - 4 * i) wr) (fun v12 _ => (intOf v12).toNat)
        case atStart => exact ⟨N, Nat.le_refl _, by rw [HN.out.1]; go_num, HD2.out.le (by have := HN.out; omega)⟩
        case round =>
          obtain ⟨i, hi, rfl, hD⟩ := hrel
          have HE := Lib.hid hD
          have hk3 := HN.out.2
          clear hD
          by_cases hi0 : i = 0
          · subst hi0
            have hln := d_len HE.out 1 (nd_len 0 (by decide))
            have haw := d_aw HE.out
            have hnd := d_nodes HE.out
            clear hi hk3
            go_wp2_with (first
              | (go_at_call 11; (with_reducible refine hnd.mono ?_); rintro e w4 ⟨rfl, rfl⟩)
              | (go_at_call 15; (with_reducible refine hln.mono ?_); rintro e w4 ⟨rfl, rfl⟩)
              | (go_at_call 16; (with_reducible refine haw.mono ?_); rintro e w4 ⟨rfl, hB⟩; have H4 := Lib.hid hB; clear hB))
            go_ret
            exact ⟨rfl, H4.out⟩
          · obtain ⟨j, rfl⟩ : ∃ j, i = j + 1 := ⟨i - 1, by omega⟩
            have hss : 2 * (j + 1) ≤ S.size := by rw [HS.out, B_size, pth_len]; omega
            have hx1 : S.extract 0 (2 * (j + 1)) = B (pth (j + 1)) := by rw [HS.out, ext_pc, pth_take (j + 1) N hi]
            have hx2 : S.extract 0 (2 * (j + 1) - 2) = B (pth j) := by rw [HS.out, ext_pc, show 2 * (j + 1) - 2 = 2 * j from by omega, pth_take j N (by omega)]
            have hc1 : 100 - 4 * (j + 1) = 96 - 4 * j := by omega
            have HE1 := Lib.hid (HE.out.le (d := 96 - 4 * j) (by omega))
            have HU := Lib.hid (fun c wr (hc : c ≤ 98) (h : DV w vb tb (dN (j + 1)) c wr) => d_un h (by omega) (pth (j + 1)) (by rw [pth_len]; omega) 12 (p_un j (by omega)) (dN_far _ (by omega)) (B (pth (j + 1))) rfl)
            have HR := Lib.hid (fun c wr (hc : c ≤ 98) (h : DV w vb tb (dN (j + 1)) c wr) => d_rm h (by omega) (pth (j + 1)) (by rw [pth_len]; omega) 0 (p_rm j (by omega)) (dN_far _ (by omega)) (B (pth (j + 1))) rfl)
            clear hc1
            have hj5 : j ≤ 4 := by omega
            by_cases hj0 : j = 0
            · have hj1 : j < 1 := by omega
              have hun := HU.out _ wr (by omega) HE1.out
              have d1 : decide (((j + 1 : Nat) : Int) > 1) = false := by simp; omega
              clear hk3 hi0 hx2 hj0
              go_wp2_with (first
                | (go_at_call 14; (with_reducible refine hun.mono ?_); rintro e w9 ⟨rfl, hD⟩; have hrm3 := HR.out _ w9 (by omega) hD; clear hD hun)
                | (go_at_call 13; (with_reducible refine hrm3.mono ?_); rintro e w10 ⟨rfl, hD⟩; have H10 := Lib.hid hD; clear hD hrm3))
              go_roundw
              case rel => exact ⟨j, by omega, by go_num, H10.out.le (by omega)⟩
              case measure => simp [intOf] <;> omega
            · have d1 : decide (((j + 1 : Nat) : Int) > 1) = true := by simp; omega
              have hrm4 := d_rm (ns2 := dN (j + 1)) HE1.out (by omega) (pth j) (by rw [pth_len]; omega) 13 (by obtain ⟨m, rfl⟩ : ∃ m, j = m + 1 := ⟨j - 1, by clear hx1 hx2; omega⟩; exact p_rm2 m (by have := HN.out; omega)) (dN_far _ (by omega)) (B (pth j)) rfl
              have hj2 : 1 ≤ j := by omega
              clear hk3 hi0
              go_wp2_with (first
                | (go_at_call 13; (with_reducible refine hrm4.mono ?_); rintro e w8 ⟨rfl, hD⟩; have hun := HU.out _ w8 (by omega) hD; clear hD hrm4)
                | (go_at_call 14; (with_reducible refine hun.mono ?_); rintro e w9 ⟨rfl, hD⟩; have hrm3 := HR.out _ w9 (by omega) hD; clear hD hun)
                | (go_at_call 13; (with_reducible refine hrm3.mono ?_); rintro e w10 ⟨rfl, hD⟩; have H10 := Lib.hid hD; clear hD hrm3))
              go_roundw
              case rel => exact ⟨j, by omega, by go_num, H10.out.le (by omega)⟩
              case measure => simp [intOf] <;> omega
      · obtain ⟨id, hid⟩ : ∃ id : Int, id = ((N + 1 : Nat) : Int) := ⟨_, rfl⟩
        have h5 : N < 5 := by have := HN.out; omega
        have hop := d_new HD.out (by omega) (pth N ++ sF) (by rw [List.length_append, pth_len]; simp; omega) (p_wk N h5) id 0 (by rw [hid]; exact p_op N h5) (fN_far 1 _ (by omega)) (B (pth N) ++ ⟨#[47, 102]⟩) (pth_at N sF _ rfl)
        have HF := Lib.hid (fun wr (h : DV w vb tb (fN 1 N) (8 * N + 3) wr) => And.intro (d_nodes h) (d_cl h (by omega) id 0 (by rw [hid]; exact p_cl N h5) (fN_far 0 _ (by omega))))
        have HG := Lib.hid (fun wr (h : DV w vb tb (fN 0 N) (8 * N + 3 + 1) wr) => d_rm (ns2 := fN 0 N) h (by omega) (pth N) (by rw [pth_len]; omega) 13 (by have := HN.out.1; rw [this]; exact p_rf k HK.out) (fN_far 0 _ (by omega)) (B (pth N)) rfl)
        have HH := Lib.hid (fun wr (h : DV w vb tb (fN 0 N) (8 * N + 3 + 1 + 1) wr) => d_mk h (by omega) (pth N ++ sFX) (by rw [List.length_append, pth_len]; simp; omega) 11 (p_mx N h5) (fN_far 0 _ (by omega)) (B (pth N) ++ ⟨#[47, 102, 47, 120]⟩) (pth_at N sFX _ rfl))
        have HI := Lib.hid (fun wr (h : DV w vb tb (fN 0 N) (8 * N + 3 + 1 + 1 + 4) wr) => d_rm h (by omega) (pth N ++ sF) (by rw [List.length_append, pth_len]; simp; omega) 11 (p_rx N h5) (fN_far 0 _ (by omega)) (B (pth N) ++ ⟨#[47, 102]⟩) (pth_at N sF _ rfl))
        have HJ := Lib.hid (fun wr (h : DV w vb tb (fN 0 N) (8 * N + 3 + 1 + 1 + 4 + 1) wr) => d_un h (by omega) (pth N ++ sF) (by rw [List.length_append, pth_len]; simp; omega) 0 (p_ux N h5) (dN_far _ (by omega)) (B (pth N) ++ ⟨#[47, 102]⟩) (pth_at N sF _ rfl))
        obtain ⟨S, hS⟩ : ∃ S, S = B (pth N) := ⟨_, rfl⟩
        rw [← hS] at hop HG HH HI HJ ⊢
        have HS := Lib.hid hS
        have hss : S.size ≤ 100 := by rw [hS, B_size, pth_len]; omega
        clear hid h5 hS hsz
        go_wp2_with (first
          | (go_at_call 10; (with_reducible refine hop.mono ?_); rintro e w3 ⟨rfl, hD⟩; obtain ⟨hnd, hcl⟩ := HF.out w3 hD; clear hD hop)
          | (go_at_call 11; (with_reducible refine hnd.mono ?_); rintro e w4 ⟨rfl, rfl⟩; clear hnd)
          | (go_at_call 12; (with_reducible refine hcl.mono ?_); rintro e w4 ⟨rfl, hD⟩; have hrm := HG.out w4 hD; clear hD hcl)
          | (go_at_call 13; (with_reducible refine hrm.mono ?_); rintro e w5 ⟨rfl, hD⟩; have hmk := HH.out w5 hD; clear hD hrm)
          | (go_at_call 9; (with_reducible refine hmk.mono ?_); rintro e w6 ⟨rfl, hD⟩; have hrm2 := HI.out w6 hD; clear hD hmk)
          | (go_at_call 13; (with_reducible refine hrm2.mono ?_); rintro e w7 ⟨rfl, hD⟩; have hun := HJ.out w7 hD; clear hD hrm2)
          | (go_at_call 14; (with_reducible refine hun.mono ?_); rintro e w8 ⟨rfl, hD⟩; have HD2 := Lib.hid hD; clear hD hun))
        go_loopw [12] (fun v12 wr => ∃ i : Nat, i ≤ N ∧ v12 = .int .i64 i ∧ DV w vb tb (dN i) (100 - 4 * i) wr) (fun v12 _ => (intOf v12).toNat)
        case atStart => exact ⟨N, Nat.le_refl _, by rw [HN.out.1]; go_num, HD2.out.le (by have := HN.out; omega)⟩
        case round =>
          obtain ⟨i, hi, rfl, hD⟩ := hrel
          have HE := Lib.hid hD
          have hk3 := HN.out.2
          clear hD
          by_cases hi0 : i = 0
          · subst hi0
            have hln := d_len HE.out 1 (nd_len 0 (by decide))
            have haw := d_aw HE.out
            have hnd := d_nodes HE.out
            clear hi hk3
            go_wp2_with (first
              | (go_at_call 11; (with_reducible refine hnd.mono ?_); rintro e w4 ⟨rfl, rfl⟩)
              | (go_at_call 15; (with_reducible refine hln.mono ?_); rintro e w4 ⟨rfl, rfl⟩)
              | (go_at_call 16; (with_reducible refine haw.mono ?_); rintro e w4 ⟨rfl, hB⟩; have H4 := Lib.hid hB; clear hB))
            go_ret
            exact ⟨rfl, H4.out⟩
          · obtain ⟨j, rfl⟩ : ∃ j, i = j + 1 := ⟨i - 1, by omega⟩
            have hss : 2 * (j + 1) ≤ S.size := by rw [HS.out, B_size, pth_len]; omega
            have hx1 : S.extract 0 (2 * (j + 1)) = B (pth (j + 1)) := by rw [HS.out, ext_pc, pth_take (j + 1) N hi]
            have hx2 : S.extract 0 (2 * (j + 1) - 2) = B (pth j) := by rw [HS.out, ext_pc, show 2 * (j + 1) - 2 = 2 * j from by omega, pth_take j N (by omega)]
            have hc1 : 100 - 4 * (j + 1) = 96 - 4 * j := by omega
            have HE1 := Lib.hid (HE.out.le (d := 96 - 4 * j) (by omega))
            have HU := Lib.hid (fun c wr (hc : c ≤ 98) (h : DV w vb tb (dN (j + 1)) c wr) => d_un h (by omega) (pth (j + 1)) (by rw [pth_len]; omega) 12 (p_un j (by omega)) (dN_far _ (by omega)) (B (pth (j + 1))) rfl)
            have HR := Lib.hid (fun c wr (hc : c ≤ 98) (h : DV w vb tb (dN (j + 1)) c wr) => d_rm h (by omega) (pth (j + 1)) (by rw [pth_len]; omega) 0 (p_rm j (by omega)) (dN_far _ (by omega)) (B (pth (j + 1))) rfl)
            clear hc1
            have hj5 : j ≤ 4 := by omega
            by_cases hj0 : j = 0
            · have hj1 : j < 1 := by omega
              have hun := HU.out _ wr (by omega) HE1.out
              have d1 : decide (((j + 1 : Nat) : Int) > 1) = false := by simp; omega
              clear hk3 hi0 hx2 hj0
              go_wp2_with (first
                | (go_at_call 14; (with_reducible refine hun.mono ?_); rintro e w9 ⟨rfl, hD⟩; have hrm3 := HR.out _ w9 (by omega) hD; clear hD hun)
                | (go_at_call 13; (with_reducible refine hrm3.mono ?_); rintro e w10 ⟨rfl, hD⟩; have H10 := Lib.hid hD; clear hD hrm3))
              go_roundw
              case rel => exact ⟨j, by omega, by go_num, H10.out.le (by omega)⟩
              case measure => simp [intOf] <;> omega
            · have d1 : decide (((j + 1 : Nat) : Int) > 1) = true := by simp; omega
              have hrm4 := d_rm (ns2 := dN (j + 1)) HE1.out (by omega) (pth j) (by rw [pth_len]; omega) 13 (by obtain ⟨m, rfl⟩ : ∃ m, j = m + 1 := ⟨j - 1, by clear hx1 hx2; omega⟩; exact p_rm2 m (by have := HN.out; omega)) (dN_far _ (by omega)) (B (pth j)) rfl
              have hj2 : 1 ≤ j := by omega
              clear hk3 hi0
              go_wp2_with (first
                | (go_at_call 13; (with_reducible refine hrm4.mono ?_); rintro e w8 ⟨rfl, hD⟩; have hun := HU.out _ w8 (by omega) hD; clear hD hrm4)
                | (go_at_call 14; (with_reducible refine hun.mono ?_); rintro e w9 ⟨rfl, hD⟩; have hrm3 := HR.out _ w9 (by omega) hD; clear hD hun)
                | (go_at_call 13; (with_reducible refine hrm3.mono ?_); rintro e w10 ⟨rfl, hD⟩; have H10 := Lib.hid hD; clear hD hrm3))
              go_roundw
              case rel => exact ⟨j, by omega, by go_num, H10.out.le (by omega)⟩
              case measure => simp [intOf] <;> omega
end Go.Proofs.YtchnjfmimpikcaaDoor
