/-
  Script's law: two configurations that are one.
-/
import Derived.Test.YtefaaginedideaaGreatDoorCfg
import Derived.Test.YtefaaginedideaaGreatDoorReg2
import Derived.Deep.CutRange
namespace Go.Proofs.YtefaaginedideaaGreatDoor
set_option linter.unusedSimpArgs false
set_option linter.unusedVariables false
open Go.RowKit Own RegJ RegE
open Go.Lib hiding intOf

theorem bel_drewN (w : World) (q : Nat) : Below w.heap.size w (w.drewN q) := ((Upd.refl (fun _ => False) w).drewN q).below (Nat.le_refl _) (fun _ h => h.elim)
def SameP (w : World) (e : Ending) (w' : World) : Prop := e = .returned (.bool true) ∧ Below w.heap.size w w'
/-- where a row of records lies in a world behind -/
theorem RdC.lt {w : World} {a : Option Addr} {cs : List Value} (h : RdC w a cs) {i : Nat} {v : Value} (hi : cs[i]? = some v) : ∃ g o, a = some ⟨g, o, none⟩ ∧ g < w.heap.size := by
  obtain ⟨g, o, ha, hc⟩ := h i v hi
  exact ⟨g, o, ha, World.block_lt_of_cell? _ _ hc⟩
theorem infoTkS : (Tryz.prog.info? 89).map (·.size) = some 8 := by kernel_rfl
set_option maxRecDepth 100000 in
set_option maxHeartbeats 8000000 in
theorem sameC_is {w : World} {c : CfgV} {tv bv mv gv tv' bv' mv' gv' : Value} {tq tq' : List TQ} {eq eq' : List EQ} (h1 : RdCfg w c tv bv mv gv tq eq) (h2 : RdCfg w c tv' bv' mv' gv' tq' eq') :
    Calls Tryz.prog 16 #[.agg #[tv, bv, mv, gv, .int .i64 c.frames, .int .i64 c.dog], .agg #[tv', bv', mv', gv', .int .i64 c.frames, .int .i64 c.dog]] w (SameP w) := by
  have hb0 : Below w.heap.size w ((w.alloc (.cells #[tv, bv, mv, gv, .int .i64 c.frames, .int .i64 c.dog] 41)).alloc (.cells #[tv', bv', mv', gv', .int .i64 c.frames, .int .i64 c.dog] 41)) := ((Below.refl _ _).alloc (Nat.le_refl _) _).alloc (by simp) _
  have hB1 := (Blk.new w #[tv, bv, mv, gv, .int .i64 c.frames, .int .i64 c.dog] 41).alloc (.cells #[tv', bv', mv', gv', .int .i64 c.frames, .int .i64 c.dog] 41)
  have hB2 := Blk.new (w.alloc (.cells #[tv, bv, mv, gv, .int .i64 c.frames, .int .i64 c.dog] 41)) #[tv', bv', mv', gv', .int .i64 c.frames, .int .i64 c.dog] 41
  rw [show (w.alloc (.cells #[tv, bv, mv, gv, .int .i64 c.frames, .int .i64 c.dog] 41)).heap.size = w.heap.size + 1 by simp] at hB2
  obtain ⟨a0, c0, rfl, hT⟩ := h1.rt
  obtain ⟨a1, c1, rfl, hE⟩ := h1.re
  obtain ⟨a2, c2, rfl, hM⟩ := h1.rm
  obtain ⟨a3, c3, rfl, hG⟩ := h1.rg
  obtain ⟨a4, c4, rfl, hT'⟩ := h2.rt
  obtain ⟨a5, c5, rfl, hE'⟩ := h2.re
  obtain ⟨a6, c6, rfl, hM'⟩ := h2.rm
  obtain ⟨a7, c7, rfl, hG'⟩ := h2.rg
  obtain ⟨m0, m1, m2, m3⟩ := h1.mx
  unfold maxLen at m0 m1 m2 m3
  obtain ⟨n0, e0⟩ : ∃ n, c.tasks.length = n := ⟨_, rfl⟩
  obtain ⟨n1, e1⟩ : ∃ n, c.best.length = n := ⟨_, rfl⟩
  obtain ⟨n2, e2⟩ : ∃ n, c.mtx.length = n := ⟨_, rfl⟩
  obtain ⟨n3, e3⟩ : ∃ n, c.gaps.length = n := ⟨_, rfl⟩
  rw [e0] at hB1 hB2 hb0 m0 ⊢
  rw [e1] at hB1 hB2 hb0 m1 ⊢
  rw [e2] at hB1 hB2 hb0 m2 ⊢
  rw [e3] at hB1 hB2 hb0 m3 ⊢
  have HR := Lib.hid (And.intro h1 (And.intro h2 (And.intro e0 (And.intro e1 (And.intro e2 e3)))))
  have HT := Lib.hid (And.intro hT hT')
  have HE := Lib.hid (And.intro hE hE')
  have HM := Lib.hid (And.intro hM hM')
  have HG := Lib.hid (And.intro hG hG')
  have r1 := hB1.rd
  have r2 := hB2.rd
  have HB := Lib.hid (And.intro hb0 (And.intro hB1 hB2))
  generalize c.frames = fr at *
  generalize c.dog = dg at *
  clear h1 h2 e0 e1 e2 e3 hT hT' hE hE' hM hM' hG hG' hb0 hB1 hB2
  go_enter Tryz.func16, Tryz.ntmps16
  go_wp2_with (go_at_call 34; refine (sameI_is n3 c3 c7 (HG.out.1.below HB.out.1) (HG.out.2.below HB.out.1) HR.out.2.2.2.2.2 (by unfold maxLen; omega)).mono ?_; rintro e w1 ⟨rfl, q, rfl⟩)
  obtain ⟨W0, hW0⟩ : ∃ W0, ((w.alloc (.cells #[.slice a0 n0 c0, .slice a1 n1 c1, .slice a2 n2 c2, .slice a3 n3 c3, .int .i64 fr, .int .i64 dg] 41)).alloc (.cells #[.slice a4 n0 c4, .slice a5 n1 c5, .slice a6 n2 c6, .slice a7 n3 c7, .int .i64 fr, .int .i64 dg] 41)) = W0 := ⟨_, rfl⟩
  rw [hW0] at r1 r2 HB ⊢
  clear hW0
  go_loopw [5] (fun ix wr => ∃ i q : Nat, i ≤ n2 ∧ ix = .int .i64 i ∧ wr = W0.drewN q) (fun ix _ => n2 - (intOf ix).toNat)
  case atStart => exact ⟨0, q, Nat.zero_le _, rfl, rfl⟩
  case round =>
    obtain ⟨i, q, hi, rfl, rfl⟩ := hrel
    by_cases hil : i < n2
    · obtain ⟨x, hx⟩ : ∃ x, c.mtx[i]? = some x := ⟨c.mtx[i]'(by rw [HR.out.2.2.2.2.1]; exact hil), List.getElem?_eq_getElem _⟩
      obtain ⟨g, o, rfl, ka⟩ := (HM.out.1.below HB.out.1).at (mCells_at hx (by omega : 0 < 2))
      obtain ⟨g2, o2, rfl, kb⟩ := (HM.out.2.below HB.out.1).at (mCells_at hx (by omega : 0 < 2))
      have k0 := ka _ _ (mCells_at hx (by omega : 0 < 2))
      have k1 := ka _ _ (mCells_at hx (by omega : 1 < 2))
      have k3 := kb _ _ (mCells_at hx (by omega : 0 < 2))
      have k4 := kb _ _ (mCells_at hx (by omega : 1 < 2))
      rw [← Nat.add_assoc] at k1 k4
      rw [Nat.add_zero] at k0 k3
      clear hx ka kb
      have d1 : decide ((i : Int) < (n2 : Int)) = true := by simp; omega
      have i1 : (i : Int) < (n2 : Int) := by omega
      have i2 : (0 : Int) ≤ i := by omega
      generalize x.1 = y0 at *
      generalize x.2 = y1 at *
      go_wp2_with (fail)
      go_quiet (fail)
      go_wp2_with (fail)
      go_roundw
      case rel => exact ⟨i + 1, q + nq, by omega, by go_num, by first | rfl | rw [World.drewN_drewN]⟩
      case measure => simp [intOf]; omega
    · have d1 : decide ((i : Int) < (n2 : Int)) = false := by simp; omega
      have d2 : decide (i < n2) = false := by simp; omega
      clear hil hi
      go_wp2_with (fail)
      have H0 := Lib.hid (bel_drewN W0 q)
      clear r1 r2
      go_loopw [6] (fun ix wr => ∃ i : Nat, i ≤ n0 ∧ ix = .int .i64 i ∧ Hid (Below W0.heap.size W0 wr)) (fun ix _ => n0 - (intOf ix).toNat)
      case atStart => exact ⟨0, Nat.zero_le _, rfl, H0⟩
      case round =>
        obtain ⟨i, hi, rfl, H⟩ := hrel
        clear H0
        have r1 := (Blk.below H.out HB.out.2.1 HB.out.2.1.lt).rd
        have r2 := (Blk.below H.out HB.out.2.2 HB.out.2.2.lt).rd
        by_cases hil : i < n0
        · have hil2 : i < c.tasks.length := by rw [HR.out.2.2.1]; exact hil
          have hx := List.getElem?_eq_getElem hil2
          have hq1 := List.getElem?_eq_getElem (show i < tq.length by rw [HR.out.1.lt]; exact hil2)
          have hq2 := List.getElem?_eq_getElem (show i < tq'.length by rw [HR.out.2.1.lt]; exact hil2)
          generalize c.tasks[i] = x at hx
          generalize tq[i]'_ = q1 at hq1
          generalize tq'[i]'_ = q2 at hq2
          have hbw := HB.out.1.trans (H.out.mono HB.out.1.size)
          obtain ⟨ua, uc, hu1, hu2, hu3⟩ := HR.out.1.us i x q1 hx hq1
          obtain ⟨ua', uc', hv1, hv2, _⟩ := HR.out.2.1.us i x q2 hx hq2
          obtain ⟨pa, pc, hp1, hp2, hp3⟩ := HR.out.1.pt i x q1 hx hq1
          obtain ⟨pa', pc', hs1, hs2, _⟩ := HR.out.2.1.pt i x q2 hx hq2
          obtain ⟨g, o, rfl, ka⟩ := (HT.out.1.below hbw).at (tCells_at hx hq1 (by omega : 0 < 8))
          obtain ⟨g2, o2, rfl, kb⟩ := (HT.out.2.below hbw).at (tCells_at hx hq2 (by omega : 0 < 8))
          have p0 := ka _ _ (tCells_at hx hq1 (by omega : 0 < 8))
          have z0 := kb _ _ (tCells_at hx hq2 (by omega : 0 < 8))
          have p1 := ka _ _ (tCells_at hx hq1 (by omega : 1 < 8))
          have z1 := kb _ _ (tCells_at hx hq2 (by omega : 1 < 8))
          have p2 := ka _ _ (tCells_at hx hq1 (by omega : 2 < 8))
          have z2 := kb _ _ (tCells_at hx hq2 (by omega : 2 < 8))
          have p3 := ka _ _ (tCells_at hx hq1 (by omega : 3 < 8))
          have z3 := kb _ _ (tCells_at hx hq2 (by omega : 3 < 8))
          have p4 := ka _ _ (tCells_at hx hq1 (by omega : 4 < 8))
          have z4 := kb _ _ (tCells_at hx hq2 (by omega : 4 < 8))
          have p5 := ka _ _ (tCells_at hx hq1 (by omega : 5 < 8))
          have z5 := kb _ _ (tCells_at hx hq2 (by omega : 5 < 8))
          have p6 := ka _ _ (tCells_at hx hq1 (by omega : 6 < 8))
          have z6 := kb _ _ (tCells_at hx hq2 (by omega : 6 < 8))
          have p7 := ka _ _ (tCells_at hx hq1 (by omega : 7 < 8))
          have z7 := kb _ _ (tCells_at hx hq2 (by omega : 7 < 8))
          rw [Nat.add_zero] at p0 z0
          rw [← Nat.add_assoc] at p1 z1 p2 z2 p3 z3 p4 z4 p5 z5 p6 z6 p7 z7
          rw [hu1] at p6
          rw [hp1] at p7
          rw [hv1] at z6
          rw [hs1] at z7
          have HU := Lib.hid (And.intro hu2 (And.intro hv2 hu3))
          have HP := Lib.hid (And.intro hp2 (And.intro hs2 hp3))
          have gl := World.block_lt_of_cell? _ _ p0
          have gl2 := World.block_lt_of_cell? _ _ z0
          have bl1 := (Blk.below H.out HB.out.2.1 HB.out.2.1.lt).lt
          have bl2 := (Blk.below H.out HB.out.2.2 HB.out.2.2.lt).lt
          have HC := Lib.hid (And.intro p0 (And.intro p1 (And.intro p2 (And.intro p3 (And.intro p4 (And.intro p5 (And.intro p6 (And.intro p7 (And.intro z0 (And.intro z1 (And.intro z2 (And.intro z3 (And.intro z4 (And.intro z5 (And.intro z6 (And.intro z7 (And.intro gl (And.intro gl2 (And.intro r1 (And.intro r2 (And.intro bl1 bl2)))))))))))))))))))))
          obtain ⟨nu, hnu⟩ : ∃ nu, x.uses.length = nu := ⟨_, rfl⟩
          obtain ⟨np, hnp⟩ : ∃ np, x.prog.length = np := ⟨_, rfl⟩
          rw [hnu, hnp] at HC
          have HN := Lib.hid (And.intro hnu hnp)
          have d1 : decide ((i : Int) < (n0 : Int)) = true := by simp; omega
          have i1 : (i : Int) < (n0 : Int) := by omega
          have i2 : (0 : Int) ≤ i := by omega
          clear hx ka kb hq1 hq2 hil2 hu1 hu2 hu3 hv1 hv2 hp1 hp2 hp3 hs1 hs2 hnu hnp p0 p1 p2 p3 p4 p5 p6 p7 z0 z1 z2 z3 z4 z5 z6 z7 hbw gl gl2 bl1 bl2
          generalize x.cl = y0 at *
          generalize x.lv = y1 at *
          generalize x.pe = y2 at *
          generalize x.de = y3 at *
          generalize x.bu = y4 at *
          generalize x.li = y5 at *
          go_upto_region 11 with (fail)
          clear r1 r2
          refine region_T ⟨89, #[Value.int .i64 0, .int .i64 0, .int .i64 0, .int .i64 0, .int .i64 0, .int .i64 0, .slice none 0 0, .slice none 0 0], #[.int .i64 y0, .int .i64 y1, .int .i64 y2, .int .i64 y3, .int .i64 y4, .int .i64 y5, .slice ua nu uc, .slice pa np pc], #[.int .i64 y0, .int .i64 y1, .int .i64 y2, .int .i64 y3, .int .i64 y4, .int .i64 y5, .slice ua' nu uc', .slice pa' np pc'], 10, 11, 12, 13, 7, 8⟩ [Is 184 (some 82) (.pointer (some ⟨w.heap.size, 0, none⟩)), Is 184 (some 83) (.slice (some ⟨g, o, none⟩) n0 c0), Is 184 (some 84) (.int .i64 i), Is 184 (some 85) (.pointer (some ⟨g, o + i * 8, none⟩)), Is 184 (some 86) (.agg #[.int .i64 y0, .int .i64 y1, .int .i64 y2, .int .i64 y3, .int .i64 y4, .int .i64 y5, .slice ua nu uc, .slice pa np pc]), Is 184 (some 87) (.pointer (some ⟨w.heap.size + 1, 0, none⟩)), Is 184 (some 88) (.slice (some ⟨g2, o2, none⟩) n0 c4), Is 184 (some 89) (.int .i64 i), Is 184 (some 90) (.pointer (some ⟨g2, o2 + i * 8, none⟩)), Is 184 (some 91) (.agg #[.int .i64 y0, .int .i64 y1, .int .i64 y2, .int .i64 y3, .int .i64 y4, .int .i64 y5, .slice ua' nu uc', .slice pa' np pc']), (fun u => ∃ b : Nat, u = .pointer (some ⟨b, 0, none⟩)), (fun u => ∃ b : Nat, u = .pointer (some ⟨b, 0, none⟩)), Is 184 none undef, Is 184 none undef] (by kernel_rfl) (by kernel_rfl) ?_
          apply wpE_op (by rfl) (by rfl) (by rfl)
          · intro f a' w1 ha hf hJ Q1 hQ
            simp only [Act.put, List.setIfInBounds_toArray, List.set_cons_zero, List.set_cons_succ] at hQ
            go_wp2_with (fail)
            exact hQ _ _ rfl (hJ.other rfl hf (show 0 ≠ 10 by decide) (show 0 ≠ 11 by decide) (show 0 ≠ 12 by decide) (show 0 ≠ 13 by decide) (show 82 ≠ 7 by decide) (show 82 ≠ 8 by decide) _)
          simp only [Act.put, List.setIfInBounds_toArray, List.set_cons_zero, List.set_cons_succ]
          apply wpE_op (by rfl) (by rfl) (by rfl)
          · intro f a' w1 ha hf hJ Q1 hQ
            have g1 := (hJ.2.1.cell (p := ⟨w.heap.size, 0, none⟩) HC.out.2.2.2.2.2.2.2.2.2.2.2.2.2.2.2.2.2.2.2.2.1).trans (HC.out.2.2.2.2.2.2.2.2.2.2.2.2.2.2.2.2.2.2.1 0)
            simp only [Act.put, List.setIfInBounds_toArray, List.set_cons_zero, List.set_cons_succ] at hQ
            go_wp2_with (fail)
            exact hQ _ _ rfl (hJ.other rfl hf (show 1 ≠ 10 by decide) (show 1 ≠ 11 by decide) (show 1 ≠ 12 by decide) (show 1 ≠ 13 by decide) (show 83 ≠ 7 by decide) (show 83 ≠ 8 by decide) _)
          simp only [Act.put, List.setIfInBounds_toArray, List.set_cons_zero, List.set_cons_succ]
          apply wpE_op (by rfl) (by rfl) (by rfl)
          · intro f a' w1 ha hf hJ Q1 hQ
            simp only [Act.put, List.setIfInBounds_toArray, List.set_cons_zero, List.set_cons_succ] at hQ
            go_wp2_with (fail)
            exact hQ _ _ rfl (hJ.other rfl hf (show 2 ≠ 10 by decide) (show 2 ≠ 11 by decide) (show 2 ≠ 12 by decide) (show 2 ≠ 13 by decide) (show 84 ≠ 7 by decide) (show 84 ≠ 8 by decide) _)
          simp only [Act.put, List.setIfInBounds_toArray, List.set_cons_zero, List.set_cons_succ]
          apply wpE_op (by rfl) (by rfl) (by rfl)
          · intro f a' w1 ha hf hJ Q1 hQ
            simp only [Act.put, List.setIfInBounds_toArray, List.set_cons_zero, List.set_cons_succ] at hQ
            go_wp2_with (fail)
            exact hQ _ _ rfl (hJ.other rfl hf (show 3 ≠ 10 by decide) (show 3 ≠ 11 by decide) (show 3 ≠ 12 by decide) (show 3 ≠ 13 by decide) (show 85 ≠ 7 by decide) (show 85 ≠ 8 by decide) _)
          simp only [Act.put, List.setIfInBounds_toArray, List.set_cons_zero, List.set_cons_succ]
          apply wpE_op (by rfl) (by rfl) (by rfl)
          · intro f a' w1 ha hf hJ Q1 hQ
            have qq1 := (hJ.2.1.cell (p := ⟨g, o + i * 8, none⟩) HC.out.2.2.2.2.2.2.2.2.2.2.2.2.2.2.2.2.1).trans HC.out.1
            have qq2 := (hJ.2.1.cell (p := ⟨g, o + i * 8 + 1, none⟩) HC.out.2.2.2.2.2.2.2.2.2.2.2.2.2.2.2.2.1).trans HC.out.2.1
            have qq3 := (hJ.2.1.cell (p := ⟨g, o + i * 8 + 2, none⟩) HC.out.2.2.2.2.2.2.2.2.2.2.2.2.2.2.2.2.1).trans HC.out.2.2.1
            have qq4 := (hJ.2.1.cell (p := ⟨g, o + i * 8 + 3, none⟩) HC.out.2.2.2.2.2.2.2.2.2.2.2.2.2.2.2.2.1).trans HC.out.2.2.2.1
            have qq5 := (hJ.2.1.cell (p := ⟨g, o + i * 8 + 4, none⟩) HC.out.2.2.2.2.2.2.2.2.2.2.2.2.2.2.2.2.1).trans HC.out.2.2.2.2.1
            have qq6 := (hJ.2.1.cell (p := ⟨g, o + i * 8 + 5, none⟩) HC.out.2.2.2.2.2.2.2.2.2.2.2.2.2.2.2.2.1).trans HC.out.2.2.2.2.2.1
            have qq7 := (hJ.2.1.cell (p := ⟨g, o + i * 8 + 6, none⟩) HC.out.2.2.2.2.2.2.2.2.2.2.2.2.2.2.2.2.1).trans HC.out.2.2.2.2.2.2.1
            have qq8 := (hJ.2.1.cell (p := ⟨g, o + i * 8 + 7, none⟩) HC.out.2.2.2.2.2.2.2.2.2.2.2.2.2.2.2.2.1).trans HC.out.2.2.2.2.2.2.2.1
            simp only [Act.put, List.setIfInBounds_toArray, List.set_cons_zero, List.set_cons_succ] at hQ
            go_wp2_with (fail)
            exact hQ _ _ rfl (hJ.other rfl hf (show 4 ≠ 10 by decide) (show 4 ≠ 11 by decide) (show 4 ≠ 12 by decide) (show 4 ≠ 13 by decide) (show 86 ≠ 7 by decide) (show 86 ≠ 8 by decide) _)
          simp only [Act.put, List.setIfInBounds_toArray, List.set_cons_zero, List.set_cons_succ]
          apply wpE_op (by rfl) (by rfl) (by rfl)
          · intro f a' w1 ha hf hJ Q1 hQ
            simp only [Act.put, List.setIfInBounds_toArray, List.set_cons_zero, List.set_cons_succ] at hQ
            go_wp2_with (fail)
            exact hQ _ _ rfl (hJ.other rfl hf (show 5 ≠ 10 by decide) (show 5 ≠ 11 by decide) (show 5 ≠ 12 by decide) (show 5 ≠ 13 by decide) (show 87 ≠ 7 by decide) (show 87 ≠ 8 by decide) _)
          simp only [Act.put, List.setIfInBounds_toArray, List.set_cons_zero, List.set_cons_succ]
          apply wpE_op (by rfl) (by rfl) (by rfl)
          · intro f a' w1 ha hf hJ Q1 hQ
            have g1 := (hJ.2.1.cell (p := ⟨w.heap.size + 1, 0, none⟩) HC.out.2.2.2.2.2.2.2.2.2.2.2.2.2.2.2.2.2.2.2.2.2).trans (HC.out.2.2.2.2.2.2.2.2.2.2.2.2.2.2.2.2.2.2.2.1 0)
            simp only [Act.put, List.setIfInBounds_toArray, List.set_cons_zero, List.set_cons_succ] at hQ
            go_wp2_with (fail)
            exact hQ _ _ rfl (hJ.other rfl hf (show 6 ≠ 10 by decide) (show 6 ≠ 11 by decide) (show 6 ≠ 12 by decide) (show 6 ≠ 13 by decide) (show 88 ≠ 7 by decide) (show 88 ≠ 8 by decide) _)
          simp only [Act.put, List.setIfInBounds_toArray, List.set_cons_zero, List.set_cons_succ]
          apply wpE_op (by rfl) (by rfl) (by rfl)
          · intro f a' w1 ha hf hJ Q1 hQ
            simp only [Act.put, List.setIfInBounds_toArray, List.set_cons_zero, List.set_cons_succ] at hQ
            go_wp2_with (fail)
            exact hQ _ _ rfl (hJ.other rfl hf (show 7 ≠ 10 by decide) (show 7 ≠ 11 by decide) (show 7 ≠ 12 by decide) (show 7 ≠ 13 by decide) (show 89 ≠ 7 by decide) (show 89 ≠ 8 by decide) _)
          simp only [Act.put, List.setIfInBounds_toArray, List.set_cons_zero, List.set_cons_succ]
          apply wpE_op (by rfl) (by rfl) (by rfl)
          · intro f a' w1 ha hf hJ Q1 hQ
            simp only [Act.put, List.setIfInBounds_toArray, List.set_cons_zero, List.set_cons_succ] at hQ
            go_wp2_with (fail)
            exact hQ _ _ rfl (hJ.other rfl hf (show 8 ≠ 10 by decide) (show 8 ≠ 11 by decide) (show 8 ≠ 12 by decide) (show 8 ≠ 13 by decide) (show 90 ≠ 7 by decide) (show 90 ≠ 8 by decide) _)
          simp only [Act.put, List.setIfInBounds_toArray, List.set_cons_zero, List.set_cons_succ]
          apply wpE_op (by rfl) (by rfl) (by rfl)
          · intro f a' w1 ha hf hJ Q1 hQ
            have qq1 := (hJ.2.1.cell (p := ⟨g2, o2 + i * 8, none⟩) HC.out.2.2.2.2.2.2.2.2.2.2.2.2.2.2.2.2.2.1).trans HC.out.2.2.2.2.2.2.2.2.1
            have qq2 := (hJ.2.1.cell (p := ⟨g2, o2 + i * 8 + 1, none⟩) HC.out.2.2.2.2.2.2.2.2.2.2.2.2.2.2.2.2.2.1).trans HC.out.2.2.2.2.2.2.2.2.2.1
            have qq3 := (hJ.2.1.cell (p := ⟨g2, o2 + i * 8 + 2, none⟩) HC.out.2.2.2.2.2.2.2.2.2.2.2.2.2.2.2.2.2.1).trans HC.out.2.2.2.2.2.2.2.2.2.2.1
            have qq4 := (hJ.2.1.cell (p := ⟨g2, o2 + i * 8 + 3, none⟩) HC.out.2.2.2.2.2.2.2.2.2.2.2.2.2.2.2.2.2.1).trans HC.out.2.2.2.2.2.2.2.2.2.2.2.1
            have qq5 := (hJ.2.1.cell (p := ⟨g2, o2 + i * 8 + 4, none⟩) HC.out.2.2.2.2.2.2.2.2.2.2.2.2.2.2.2.2.2.1).trans HC.out.2.2.2.2.2.2.2.2.2.2.2.2.1
            have qq6 := (hJ.2.1.cell (p := ⟨g2, o2 + i * 8 + 5, none⟩) HC.out.2.2.2.2.2.2.2.2.2.2.2.2.2.2.2.2.2.1).trans HC.out.2.2.2.2.2.2.2.2.2.2.2.2.2.1
            have qq7 := (hJ.2.1.cell (p := ⟨g2, o2 + i * 8 + 6, none⟩) HC.out.2.2.2.2.2.2.2.2.2.2.2.2.2.2.2.2.2.1).trans HC.out.2.2.2.2.2.2.2.2.2.2.2.2.2.2.1
            have qq8 := (hJ.2.1.cell (p := ⟨g2, o2 + i * 8 + 7, none⟩) HC.out.2.2.2.2.2.2.2.2.2.2.2.2.2.2.2.2.2.1).trans HC.out.2.2.2.2.2.2.2.2.2.2.2.2.2.2.2.1
            simp only [Act.put, List.setIfInBounds_toArray, List.set_cons_zero, List.set_cons_succ] at hQ
            go_wp2_with (fail)
            exact hQ _ _ rfl (hJ.other rfl hf (show 9 ≠ 10 by decide) (show 9 ≠ 11 by decide) (show 9 ≠ 12 by decide) (show 9 ≠ 13 by decide) (show 91 ≠ 7 by decide) (show 91 ≠ 8 by decide) _)
          simp only [Act.put, List.setIfInBounds_toArray, List.set_cons_zero, List.set_cons_succ]
          apply wpE_any (d := 7) rfl (by simp) ⟨_, 0, rfl⟩ (by rfl)
          · intro f a' w1 ha hf hJ Q1 hQ
            have hS : f 12 = false := path_no hJ.1 [10] (by kernel_rfl) (by decide) hf.1
            have hsz : 7 < a'.tmps.size := by rw [ha.1]; simp
            simp only [Act.put, List.setIfInBounds_toArray, List.set_cons_zero, List.set_cons_succ] at hQ
            go_wp2_with (fail)
            exact hQ _ _ _ rfl ⟨_, rfl⟩ (hJ.mk1 rfl hf hS hsz (show 8 ≠ 7 by decide) (show 10 ≠ 11 by decide) (show 10 ≠ 12 by decide) (show 10 ≠ 13 by decide))
          rintro _ ⟨b1, rfl⟩
          simp only [Act.put, List.setIfInBounds_toArray, List.set_cons_zero, List.set_cons_succ]
          apply wpE_any (d := 8) rfl (by simp) ⟨_, 0, rfl⟩ (by rfl)
          · intro f a' w1 ha hf hJ Q1 hQ
            have hS : f 13 = false := path_no hJ.1 [11] (by kernel_rfl) (by decide) hf.1
            have hsz : 8 < a'.tmps.size := by rw [ha.1]; simp
            simp only [Act.put, List.setIfInBounds_toArray, List.set_cons_zero, List.set_cons_succ] at hQ
            go_wp2_with (fail)
            exact hQ _ _ _ rfl ⟨_, rfl⟩ (hJ.mk2 rfl hf hS hsz (show 7 ≠ 8 by decide) (show 11 ≠ 10 by decide) (show 11 ≠ 13 by decide) (show 11 ≠ 12 by decide))
          rintro _ ⟨b2, rfl⟩
          simp only [Act.put, List.setIfInBounds_toArray, List.set_cons_zero, List.set_cons_succ]
          apply wpE_op (v := undef) (by rfl) (by rfl) (by rfl)
          · intro f a' w1 ha hf hJ Q1 hQ
            have hA : f 10 = true := up_dep hf 10 (by kernel_rfl)
            have e1 : slot a' 7 = .pointer (some ⟨b1, 0, none⟩) := by
              have := ha.2 7 (by decide)
              simp only [slot, Array.getD_eq_getD_getElem?, this]; rfl
            have hz := hJ.at1 hA hf.1 e1
            simp only [Act.put, List.setIfInBounds_toArray, List.set_cons_zero, List.set_cons_succ] at hQ
            go_wp2_with (refine wpList_store_row rfl 89 (.tmp 7) (.tmp 86) rfl b1 #[.int .i64 y0, .int .i64 y1, .int .i64 y2, .int .i64 y3, .int .i64 y4, .int .i64 y5, .slice ua nu uc, .slice pa np pc] rfl rfl 89 #[Value.int .i64 0, .int .i64 0, .int .i64 0, .int .i64 0, .int .i64 0, .int .i64 0, .slice none 0 0, .slice none 0 0] hz infoTkS rfl (by simp [Value.oneCell']) ?_)
            exact hQ _ _ rfl (hJ.st1 rfl hf hA e1 undef (show 12 ≠ 10 by decide) (show 12 ≠ 11 by decide) (show 12 ≠ 13 by decide))
          simp only [Act.put, List.setIfInBounds_toArray, List.set_cons_zero, List.set_cons_succ]
          apply wpE_op (v := undef) (by rfl) (by rfl) (by rfl)
          · intro f a' w1 ha hf hJ Q1 hQ
            have hA : f 11 = true := up_dep hf 11 (by kernel_rfl)
            have e1 : slot a' 8 = .pointer (some ⟨b2, 0, none⟩) := by
              have := ha.2 8 (by decide)
              simp only [slot, Array.getD_eq_getD_getElem?, this]; rfl
            have hz := hJ.at2 hA hf.1 e1
            simp only [Act.put, List.setIfInBounds_toArray, List.set_cons_zero, List.set_cons_succ] at hQ
            go_wp2_with (refine wpList_store_row rfl 89 (.tmp 8) (.tmp 91) rfl b2 #[.int .i64 y0, .int .i64 y1, .int .i64 y2, .int .i64 y3, .int .i64 y4, .int .i64 y5, .slice ua' nu uc', .slice pa' np pc'] rfl rfl 89 #[Value.int .i64 0, .int .i64 0, .int .i64 0, .int .i64 0, .int .i64 0, .int .i64 0, .slice none 0 0, .slice none 0 0] hz infoTkS rfl (by simp [Value.oneCell']) ?_)
            exact hQ _ _ rfl (hJ.st2 rfl hf hA e1 undef (show 13 ≠ 11 by decide) (show 13 ≠ 10 by decide) (show 13 ≠ 12 by decide))
          simp only [Act.put, List.setIfInBounds_toArray, List.set_cons_zero, List.set_cons_succ]
          refine wpE_nil ?_
          intro w4 hJ
          have hj9 := hJ.fin rfl rfl rfl rfl (g1 := b1) (g2 := b2) rfl rfl
          clear hJ
          have HZ := Lib.hid (And.intro hj9.1 (And.intro hj9.2.1 hj9.2.2))
          have t1 := HZ.out.2.1.rd
          have t2 := HZ.out.2.2.rd
          clear hj9
          have hsu := fun q => sameI_is (w := w4.drewN q) (us := x.uses) nu uc uc' (((HU.out.1.below HB.out.1).below (H.out.trans (HZ.out.1.mono H.out.size))).drewN q) (((HU.out.2.1.below HB.out.1).below (H.out.trans (HZ.out.1.mono H.out.size))).drewN q) HN.out.1 (by rw [← HN.out.1]; exact HU.out.2.2)
          have hso := fun q => sameO_is (w := w4.drewN q) (os := x.prog) np pc pc' (((HP.out.1.below HB.out.1).below (H.out.trans (HZ.out.1.mono H.out.size))).drewN q) (((HP.out.2.1.below HB.out.1).below (H.out.trans (HZ.out.1.mono H.out.size))).drewN q) HN.out.2 (by rw [← HN.out.2]; exact HP.out.2.2)
          have hsu0 := hsu 0
          rw [World.drewN_zero] at hsu0
          go_wp2_with (first
            | (go_at_call 34; refine hsu0.mono ?_; rintro e w5 ⟨rfl, qa, rfl⟩)
            | (go_at_call 35; refine (hso _).mono ?_; rintro e w6 ⟨rfl, qb, rfl⟩))
          go_roundw
          case rel => exact ⟨i + 1, by omega, by go_num, Lib.hid ((H.out.trans (HZ.out.1.mono H.out.size)).trans ((bel_drewN w4 (qa + qb)).mono (by have h1 := H.out.size; have h2 := HZ.out.1.size; omega)))⟩
          case measure => simp [intOf]; omega
        · have d1 : decide ((i : Int) < (n0 : Int)) = false := by simp; omega
          have d2 : decide (i < n0) = false := by simp; omega
          clear hil hi
          go_wp2_with (fail)
          have H0 := H
          clear r1 r2 H
          go_loopw [9] (fun ix wr => ∃ i : Nat, i ≤ n1 ∧ ix = .int .i64 i ∧ Hid (Below W0.heap.size W0 wr)) (fun ix _ => n1 - (intOf ix).toNat)
          case atStart => exact ⟨0, Nat.zero_le _, rfl, H0⟩
          case round =>
            obtain ⟨i, hi, rfl, H⟩ := hrel
            clear H0
            have r1 := (Blk.below H.out HB.out.2.1 HB.out.2.1.lt).rd
            have r2 := (Blk.below H.out HB.out.2.2 HB.out.2.2.lt).rd
            by_cases hil : i < n1
            · have hil2 : i < c.best.length := by rw [HR.out.2.2.2.1]; exact hil
              have hx := List.getElem?_eq_getElem hil2
              have hq1 := List.getElem?_eq_getElem (show i < eq.length by rw [HR.out.1.le]; exact hil2)
              have hq2 := List.getElem?_eq_getElem (show i < eq'.length by rw [HR.out.2.1.le]; exact hil2)
              generalize c.best[i] = x at hx
              generalize eq[i]'_ = q1 at hq1
              generalize eq'[i]'_ = q2 at hq2
              have hbw := HB.out.1.trans (H.out.mono HB.out.1.size)
              obtain ⟨pa, pc, hp1, hp2, hp3⟩ := HR.out.1.pe i x q1 hx hq1
              obtain ⟨pa', pc', hs1, hs2, _⟩ := HR.out.2.1.pe i x q2 hx hq2
              obtain ⟨g, o, rfl, ka⟩ := (HE.out.1.below hbw).at (eCells_at hx hq1 (by omega : 0 < 2))
              obtain ⟨g2, o2, rfl, kb⟩ := (HE.out.2.below hbw).at (eCells_at hx hq2 (by omega : 0 < 2))
              have k0 := ka _ _ (eCells_at hx hq1 (by omega : 0 < 2))
              have k1 := ka _ _ (eCells_at hx hq1 (by omega : 1 < 2))
              have k3 := kb _ _ (eCells_at hx hq2 (by omega : 0 < 2))
              have k4 := kb _ _ (eCells_at hx hq2 (by omega : 1 < 2))
              rw [← Nat.add_assoc] at k1 k4
              rw [Nat.add_zero] at k0 k3
              rw [hp1] at k1
              rw [hs1] at k4
              obtain ⟨np, hnp⟩ : ∃ np, x.prog.length = np := ⟨_, rfl⟩
              rw [hnp] at k1 k4
              have hso := fun q => sameO_is (w := wr.drewN q) (os := x.prog) np pc pc' ((hp2.below hbw).drewN q) ((hs2.below hbw).drewN q) hnp (by rw [← hnp]; exact hp3)
              have d1 : decide ((i : Int) < (n1 : Int)) = true := by simp; omega
              have i1 : (i : Int) < (n1 : Int) := by omega
              have i2 : (0 : Int) ≤ i := by omega
              clear hx ka kb hq1 hq2 hil2 hp1 hp2 hp3 hs1 hs2 hnp hbw
              generalize x.lv = y0 at *
              go_wp2_with (fail)
              go_quiet ((go_at_call 35; exact Calls.quiet_of ((hso _).mono fun e w2 ⟨h1, h2⟩ => ⟨h1, h2⟩)))
              clear hso
              go_wp2_with (fail)
              go_roundw
              case rel => exact ⟨i + 1, by omega, by go_num, Lib.hid (H.out.trans ((bel_drewN wr nq).mono H.out.size))⟩
              case measure => simp [intOf]; omega
            · have d1 : decide ((i : Int) < (n1 : Int)) = false := by simp; omega
              have d2 : decide (i < n1) = false := by simp; omega
              clear hil hi
              go_wp2_with (fail)
              go_ret
              exact ⟨rfl, HB.out.1.trans (H.out.mono HB.out.1.size)⟩
end Go.Proofs.YtefaaginedideaaGreatDoor
