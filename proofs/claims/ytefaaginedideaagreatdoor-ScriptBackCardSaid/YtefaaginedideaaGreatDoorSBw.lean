/-
  Script's law: what is printed is read again; what is read is printed, and read, again the same.
-/
import Derived.Test.YtefaaginedideaaGreatDoorPrG
import Derived.Test.YtefaaginedideaaGreatDoorGrt
import Derived.Test.YtefaaginedideaaGreatDoorCrd
import Derived.Test.YtefaaginedideaaGreatDoorBkP
namespace Go.Proofs.YtefaaginedideaaGreatDoor
set_option linter.unusedSimpArgs false
set_option linter.unusedVariables false
open Go.RowKit Own RegJ
open Go.Lib hiding intOf

set_option maxRecDepth 100000 in
set_option maxHeartbeats 8000000 in
theorem back_v (c : CfgV) (tv bv mv gv : Value) (tq : List TQ) (eq : List EQ) (es : List EvV) (ea : Option Addr) (ec : Nat) (s : ByteArray) (w : World) (h : RdCfg w c tv bv mv gv tq eq) (hR : CfgR c) (he : RdC w ea (vCells es)) (hm : es.length ≤ maxLen) (hRe : EvsR es) (hs : s.size ≤ maxLen) (hE : Env w) :
    Calls Tryz.prog 7 #[.agg #[tv, bv, mv, gv, .int .i64 c.frames, .int .i64 c.dog], .slice ea es.length ec, .string s] w (AwP w) := by
  unfold maxLen at hs
  obtain ⟨a0, c0, rfl, -⟩ := h.rt
  obtain ⟨a1, c1, rfl, -⟩ := h.re
  obtain ⟨a2, c2, rfl, -⟩ := h.rm
  obtain ⟨a3, c3, rfl, -⟩ := h.rg
  obtain ⟨ne, hne⟩ : ∃ n, es.length = n := ⟨_, rfl⟩
  have hB0 := Blk.new w #[.slice a0 c.tasks.length c0, .slice a1 c.best.length c1, .slice a2 c.mtx.length c2, .slice a3 c.gaps.length c3, .int .i64 c.frames, .int .i64 c.dog] 41
  have hW0 : Below w.heap.size w (w.alloc (.cells #[.slice a0 c.tasks.length c0, .slice a1 c.best.length c1, .slice a2 c.mtx.length c2, .slice a3 c.gaps.length c3, .int .i64 c.frames, .int .i64 c.dog] 41)) := (Below.refl _ _).alloc (Nat.le_refl _) _
  have r0 := hB0.rd
  have HB := Lib.hid (And.intro hB0 hW0)
  have HE := Lib.hid hE
  have hgr := fun w0 (h0 : Below w.heap.size w w0) => gcfg_is (b := greatC c) rfl (h.below h0)
  have hpr := fun w0 (h0 : Below w.heap.size w w0) (h1 : greatC c = false) (h2 : ne ≤ 100) => pprint_go ne (ec := ec) (h.below h0) (he.below h0) hne hR hRe (greatC_N h1) (by omega) (hE.bel h0)
  have HA := Lib.hid (And.intro h (And.intro he (And.intro hne hm)))
  have hsz : (s.data.toList).length = s.size := by rw [Array.length_toList]; rfl
  have hp1 := fun w0 (h0 : Env w0) => parse_is s.data.toList w0 h0
  rw [B_data] at hp1
  obtain ⟨d, fs, at', er, hpf⟩ : ∃ d fs at' er, parseF s.data.toList = (d, fs, at', er) := ⟨_, _, _, _, rfl⟩
  have hok := parse_okC s.data.toList
  have hct := parse_N s.data.toList
  rw [hpf] at hok hct
  rw [hsz] at hct
  have HP := Lib.hid (And.intro hpf (And.intro hok hct))
  rw [hne] at hm ⊢
  unfold maxLen at hm
  clear hB0 hW0 h hR he hRe hE hne hsz hpf hok hct
  by_cases hbig : greatC c = true ∨ 100 < ne ∨ 20000 < s.size
  · have key : ∃ b, greatC c = b ∧ (b = true ∨ (b = false ∧ (ne : Int) > 100) ∨ (b = false ∧ decide ((ne : Int) > 100) = false ∧ (s.size : Int) > 20000)) := by
      cases hg : greatC c
      · refine ⟨false, rfl, .inr ?_⟩
        by_cases h1 : (ne : Int) > 100
        · exact .inl ⟨rfl, h1⟩
        · refine .inr ⟨rfl, decide_eq_false h1, ?_⟩
          rcases hbig with h | h | h
          · rw [hg] at h; cases h
          · omega
          · omega
      · exact ⟨true, rfl, .inl rfl⟩
    obtain ⟨b, hb, key⟩ := key
    rw [hb] at hgr
    clear hb hbig hpr hp1
    rcases key with rfl | ⟨rfl, d1⟩ | ⟨rfl, d1, d2⟩
    all_goals
      go_enter Tryz.func7, Tryz.ntmps7
      go_wp2_with (first
        | (go_at_call 19; refine (hgr _ HB.out.2).mono ?_; rintro e w1 ⟨rfl, hb1⟩; have H1 := Lib.hid (HB.out.2.trans (hb1.mono HB.out.2.size)); clear hb1 hgr)
        | (go_at_call 9; refine (awake_is _ (HE.out.bel H1.out)).mono ?_; rintro e w2 ⟨rfl, hb2⟩; have H2 := Lib.hid hb2; clear hb2))
      go_ret
      exact ⟨rfl, H1.out.trans (H2.out.mono H1.out.size)⟩
  · have hg : greatC c = false := by
      cases hg : greatC c
      · rfl
      · exact absurd (.inl hg) hbig
    have hne2 : ne ≤ 100 := by
      rcases Nat.lt_or_ge 100 ne with h | h
      · exact absurd (.inr (.inl h)) hbig
      · exact h
    have hs2 : s.size ≤ 20000 := by
      rcases Nat.lt_or_ge 20000 s.size with h | h
      · exact absurd (.inr (.inr h)) hbig
      · exact h
    rw [hg] at hgr
    have hpr2 := fun w0 h0 => hpr w0 h0 hg hne2
    have d1 : decide ((ne : Int) > 100) = false := by simp; omega
    have d2 : decide ((s.size : Int) > 20000) = false := by simp; omega
    have HN := Lib.hid (HP.out.2.2 hs2)
    have hp3 := fun w0 (h0 : Env w0) => parse_is (printT c es) w0 h0
    clear hpr hbig hg hs2
    by_cases hpe : printE c es = 0
    · have hpb := print_back hpe
      rw [hpe] at hpr2
      generalize printT c es = pt at *
      obtain ⟨tt, htt⟩ : ∃ tt, B pt = tt := ⟨_, rfl⟩
      rw [htt] at hpr2 hp3
      have HT := Lib.hid hpb
      clear hpe hpb htt
      go_enter Tryz.func7, Tryz.ntmps7
      go_upto_region 6 with (first
        | (go_at_call 19; refine (hgr _ HB.out.2).mono ?_; rintro e w1 ⟨rfl, hb1⟩; have H1 := Lib.hid (And.intro (Blk.below hb1 HB.out.1 HB.out.1.lt) (HB.out.2.trans (hb1.mono HB.out.2.size))); have r1 := H1.out.1.rd; clear hb1 hgr r0)
        | (go_at_call 20; refine (hpr2 _ H1.out.2).mono ?_; rintro e w2 ⟨rfl, hb2⟩; have H2 := Lib.hid (And.intro (Blk.below hb2 H1.out.1 H1.out.1.lt) (H1.out.2.trans (hb2.mono H1.out.2.size))); have r2 := H2.out.1.rd; clear hb2 hpr2 r1)
        | (go_at_call 14; refine (hp3 _ (HE.out.bel H2.out.2)).mono ?_; intro e w3 hP; obtain ⟨b1, x1, b2, x2, b3, x3, b4, x4, b5, x5, rfl, hC, hR, hb3⟩ := hP.op HT.out; have H3 := Lib.hid (And.intro hb3 (And.intro hC hR)); clear hP hC hR hb3 hp3 r2)
        | (refine wpList_store_row rfl 41 (.tmp 9) (.tmp 47) rfl w3.heap.size #[.slice b1 c.tasks.length x1, .slice b2 c.best.length x2, .slice b3 c.mtx.length x3, .slice b4 c.gaps.length x4, .int .i64 c.frames, .int .i64 c.dog] rfl rfl 41 zCfg (Blk.new w3 _ _) infoCfg rfl (by simp [Value.oneCell']) ?_))
      obtain ⟨⟨tq3, eq3, tb3, bb3, mb3, gb3, hC3⟩, ⟨eb3, hR3, hlo3⟩⟩ := H3.out.2
      have hbl3 := new_row_bel w3 zCfg #[.slice b1 c.tasks.length x1, .slice b2 c.best.length x2, .slice b3 c.mtx.length x3, .slice b4 c.gaps.length x4, .int .i64 c.frames, .int .i64 c.dog] 41
      have hk3 := cfg_lay (w := w3) #[.slice b1 c.tasks.length x1, .slice b2 c.best.length x2, .slice b3 c.mtx.length x3, .slice b4 c.gaps.length x4, .int .i64 c.frames, .int .i64 c.dog]
      generalize (w3.alloc (.cells zCfg 41)).setRow w3.heap.size #[.slice b1 c.tasks.length x1, .slice b2 c.best.length x2, .slice b3 c.mtx.length x3, .slice b4 c.gaps.length x4, .int .i64 c.frames, .int .i64 c.dog] = W3 at *
      have hb23 : Below w2.heap.size w2 W3 := H3.out.1.trans (hbl3.mono H3.out.1.size)
      have hbW : Below w.heap.size w W3 := H2.out.2.trans (hb23.mono H2.out.2.size)
      have r2 := (Blk.below hb23 H2.out.1 H2.out.1.lt).rd
      have r3 := hk3.rd
      have hU := parse_okC pt
      rw [HT.out] at hU
      have hg3 := (hC3.rd hU.u).below hbl3
      obtain ⟨x11, x12, hv3, he3⟩ := (hR3.below hbl3).rdc
      simp only [Value.slice.injEq, true_and] at hv3
      obtain ⟨rfl, rfl⟩ := hv3
      have hsc := sameC_is (HA.out.1.below hbW) hg3
      have HW := Lib.hid (And.intro hbW (And.intro (HA.out.2.1.below hbW) he3))
      rw [HA.out.2.2.1]
      clear hC3 hR3 hlo3 hbl3 hk3 hb23 hbW hU hg3 he3
      go_upto_region 10 with (first
        | (go_at_call 16; refine hsc.mono ?_; rintro e w5 ⟨rfl, hb5⟩; have H5 := Lib.hid (And.intro (HW.out.1.trans (hb5.mono HW.out.1.size)) (And.intro (HW.out.2.1.below hb5) (HW.out.2.2.below hb5))); clear hb5 hsc r2 r3)
        | (go_at_call 17; refine (sameE_is (es := es) ne ec x5 H5.out.2.1 H5.out.2.2 HA.out.2.2.1 (by unfold maxLen; omega)).mono ?_; rintro e w6 ⟨rfl, q, rfl⟩))
      have HX := Lib.hid (show Below w.heap.size w (w5.drewN q) from H5.out.1.trans ((bel_drewN w5 q).mono H5.out.1.size))
      generalize w5.drewN q = wX at *
      go_upto_region 11 with (first
        | (go_at_call 14; refine (hp1 _ (HE.out.bel HX.out)).mono ?_; intro e w7 hP; obtain ⟨b1, x1, b2, x2, b3, x3, b4, x4, b5, x5, rfl, hC, hR, hb7⟩ := hP.op HP.out.1; have H7 := Lib.hid (And.intro hb7 (And.intro hC hR)); clear hP hC hR hb7 hp1)
        | (refine wpList_store_row rfl 41 (.tmp 13) (.tmp 74) rfl w7.heap.size #[.slice b1 d.tasks.length x1, .slice b2 d.best.length x2, .slice b3 d.mtx.length x3, .slice b4 d.gaps.length x4, .int .i64 d.frames, .int .i64 d.dog] rfl rfl 41 zCfg (Blk.new w7 _ _) infoCfg rfl (by simp [Value.oneCell']) ?_))
      obtain ⟨⟨tq7, eq7, tb7, bb7, mb7, gb7, hC7⟩, ⟨eb7, hR7, hlo7⟩⟩ := H7.out.2
      have hbl7 := new_row_bel w7 zCfg #[.slice b1 d.tasks.length x1, .slice b2 d.best.length x2, .slice b3 d.mtx.length x3, .slice b4 d.gaps.length x4, .int .i64 d.frames, .int .i64 d.dog] 41
      have hk7 := cfg_lay (w := w7) #[.slice b1 d.tasks.length x1, .slice b2 d.best.length x2, .slice b3 d.mtx.length x3, .slice b4 d.gaps.length x4, .int .i64 d.frames, .int .i64 d.dog]
      generalize (w7.alloc (.cells zCfg 41)).setRow w7.heap.size #[.slice b1 d.tasks.length x1, .slice b2 d.best.length x2, .slice b3 d.mtx.length x3, .slice b4 d.gaps.length x4, .int .i64 d.frames, .int .i64 d.dog] = W7 at *
      have hg7 := (hC7.rd HP.out.2.1.u).below hbl7
      obtain ⟨x11, x12, hv7, he7⟩ := (hR7.below hbl7).rdc
      simp only [Value.slice.injEq, true_and] at hv7
      obtain ⟨rfl, rfl⟩ := hv7
      have hbX : Below w.heap.size w W7 := HX.out.trans ((H7.out.1.trans (hbl7.mono H7.out.1.size)).mono HX.out.size)
      have r7 := hk7.rd
      have HY := Lib.hid (And.intro hbX (And.intro hk7 (And.intro hg7 he7)))
      clear hC7 hR7 hlo7 hbl7 hk7 hg7 he7 hbX
      by_cases her : er = 0
      · have hpp := pprint_go fs.length (ec := x5) HY.out.2.2.1 HY.out.2.2.2 rfl HP.out.2.1.rng.1 HP.out.2.1.rng.2 HN.out.1 HN.out.2 (HE.out.bel HY.out.1)
        have hp4 := fun w0 (h0 : Env w0) => parse_is (printT d fs) w0 h0
        subst her
        rcases HP.out.2.1.prE with hge | ⟨hge, hgt⟩
        · have hpb := print_back hge
          rw [hge] at hpp
          generalize printT d fs = pu at *
          obtain ⟨uu, huu⟩ : ∃ uu, B pu = uu := ⟨_, rfl⟩
          rw [huu] at hpp hp4
          have HT2 := Lib.hid hpb
          clear hge hpb huu
          go_upto_region 15 with (first
            | (go_at_call 20; refine hpp.mono ?_; rintro e w8 ⟨rfl, hb8⟩; have H8 := Lib.hid (And.intro (HY.out.1.trans (hb8.mono HY.out.1.size)) hb8); clear hb8 hpp r7)
            | (go_at_call 14; refine (hp4 _ (HE.out.bel H8.out.1)).mono ?_; intro e w9 hP; obtain ⟨p1, y1, p2, y2, p3, y3, p4, y4, p5, y5, rfl, hC, hR, hb9⟩ := hP.op HT2.out; have H9 := Lib.hid (And.intro hb9 (And.intro hC hR)); clear hP hC hR hb9 hp4)
            | (refine wpList_store_row rfl 41 (.tmp 19) (.tmp 90) rfl w9.heap.size #[.slice p1 d.tasks.length y1, .slice p2 d.best.length y2, .slice p3 d.mtx.length y3, .slice p4 d.gaps.length y4, .int .i64 d.frames, .int .i64 d.dog] rfl rfl 41 zCfg (Blk.new w9 _ _) infoCfg rfl (by simp [Value.oneCell']) ?_))
          obtain ⟨⟨tq9, eq9, tb9, bb9, mb9, gb9, hC9⟩, ⟨eb9, hR9, hlo9⟩⟩ := H9.out.2
          have hbl9 := new_row_bel w9 zCfg #[.slice p1 d.tasks.length y1, .slice p2 d.best.length y2, .slice p3 d.mtx.length y3, .slice p4 d.gaps.length y4, .int .i64 d.frames, .int .i64 d.dog] 41
          have hk9 := cfg_lay (w := w9) #[.slice p1 d.tasks.length y1, .slice p2 d.best.length y2, .slice p3 d.mtx.length y3, .slice p4 d.gaps.length y4, .int .i64 d.frames, .int .i64 d.dog]
          generalize (w9.alloc (.cells zCfg 41)).setRow w9.heap.size #[.slice p1 d.tasks.length y1, .slice p2 d.best.length y2, .slice p3 d.mtx.length y3, .slice p4 d.gaps.length y4, .int .i64 d.frames, .int .i64 d.dog] = W9 at *
          have hg9 := (hC9.rd HP.out.2.1.u).below hbl9
          obtain ⟨x11, x12, hv9, he9⟩ := (hR9.below hbl9).rdc
          simp only [Value.slice.injEq, true_and] at hv9
          obtain ⟨rfl, rfl⟩ := hv9
          have hb79 : Below W7.heap.size W7 W9 := H8.out.2.trans ((H9.out.1.trans (hbl9.mono H9.out.1.size)).mono H8.out.2.size)
          have hb9 : Below w.heap.size w W9 := HY.out.1.trans (hb79.mono HY.out.1.size)
          have r9 := hk9.rd
          have r7 := (Blk.below hb79 HY.out.2.1 HY.out.2.1.lt).rd
          have hsc := sameC_is hg9 (HY.out.2.2.1.below hb79)
          have HV := Lib.hid (And.intro hb9 (And.intro he9 (HY.out.2.2.2.below hb79)))
          clear hC9 hR9 hlo9 hbl9 hk9 hg9 he9 hb79 hb9
          go_wp2_with (first
            | (go_at_call 16; refine hsc.mono ?_; rintro e wA ⟨rfl, hbA⟩; have HZ := Lib.hid (And.intro (HV.out.1.trans (hbA.mono HV.out.1.size)) (And.intro (HV.out.2.1.below hbA) (HV.out.2.2.below hbA))); clear hbA hsc r9 r7)
            | (go_at_call 17; refine (sameE_is (es := fs) fs.length y5 x5 HZ.out.2.1 HZ.out.2.2 rfl (by have := HN.out.2; unfold maxLen; omega)).mono ?_; rintro e wB ⟨rfl, qb, rfl⟩; have HS := Lib.hid (HZ.out.1.trans ((bel_drewN wA qb).mono HZ.out.1.size)))
            | (go_at_call 9; refine (awake_is _ (HE.out.bel HS.out)).mono ?_; rintro e wC ⟨rfl, hbC⟩; have HF := Lib.hid hbC; clear hbC))
          go_ret
          exact ⟨rfl, HS.out.trans (HF.out.mono HS.out.size)⟩
        · rw [hge, hgt, show B [] = ⟨#[]⟩ from rfl] at hpp
          rw [hgt, show B [] = ⟨#[]⟩ from rfl] at hp4
          clear hge hgt
          go_upto_region 15 with (first
            | (go_at_call 20; refine hpp.mono ?_; rintro e w8 ⟨rfl, hb8⟩; have H8 := Lib.hid (HY.out.1.trans (hb8.mono HY.out.1.size)); clear hb8 hpp r7)
            | (go_at_call 14; refine (hp4 _ (HE.out.bel H8.out)).mono ?_; intro e w9 hP; obtain ⟨p1, y1, p2, y2, p3, y3, p4, y4, p5, y5, rfl, hC, hR, hb9⟩ := hP.op parse_nil; have H9 := Lib.hid (H8.out.trans (hb9.mono H8.out.size)); clear hP hC hR hb9 hp4)
            | (refine wpList_store_row rfl 41 (.tmp 19) (.tmp 90) rfl w9.heap.size #[.slice p1 0 y1, .slice p2 0 y2, .slice p3 0 y3, .slice p4 0 y4, .int .i64 0, .int .i64 0] rfl rfl 41 zCfg (Blk.new w9 _ _) infoCfg rfl (by simp [Value.oneCell']) ?_))
          have hS := H9.out.trans ((new_row_bel w9 zCfg #[.slice p1 0 y1, .slice p2 0 y2, .slice p3 0 y3, .slice p4 0 y4, .int .i64 0, .int .i64 0] 41).mono H9.out.size)
          generalize (w9.alloc (.cells zCfg 41)).setRow w9.heap.size #[.slice p1 0 y1, .slice p2 0 y2, .slice p3 0 y3, .slice p4 0 y4, .int .i64 0, .int .i64 0] = W9 at *
          have HS := Lib.hid hS
          clear hS
          go_wp2_with (go_at_call 9; refine (awake_is _ (HE.out.bel HS.out)).mono ?_; rintro e wC ⟨rfl, hbC⟩; have HF := Lib.hid hbC; clear hbC)
          go_ret
          exact ⟨rfl, HS.out.trans (HF.out.mono HS.out.size)⟩
      · have e3 : (er == 0) = false := by simpa using her
        have e4 : (er != 0) = true := by simpa using her
        clear her r7
        go_wp2_with (go_at_call 9; refine (awake_is _ (HE.out.bel HY.out.1)).mono ?_; rintro e wC ⟨rfl, hbC⟩; have HF := Lib.hid hbC; clear hbC)
        go_ret
        exact ⟨rfl, HY.out.1.trans (HF.out.mono HY.out.1.size)⟩
    · have hpt := printT_no hpe
      rw [hpt, show B [] = ⟨#[]⟩ from rfl] at hpr2
      clear hp3 hpt
      generalize printE c es = te at *
      have e1 : (te == 0) = false := by simpa using hpe
      have e2 : (te != 0) = true := by simpa using hpe
      clear hpe
      go_enter Tryz.func7, Tryz.ntmps7
      go_upto_region 10 with (first
        | (go_at_call 19; refine (hgr _ HB.out.2).mono ?_; rintro e w1 ⟨rfl, hb1⟩; have H1 := Lib.hid (And.intro (Blk.below hb1 HB.out.1 HB.out.1.lt) (HB.out.2.trans (hb1.mono HB.out.2.size))); have r1 := H1.out.1.rd; clear hb1 hgr r0)
        | (go_at_call 20; refine (hpr2 _ H1.out.2).mono ?_; rintro e w2 ⟨rfl, hb2⟩; have H2 := Lib.hid (And.intro (Blk.below hb2 H1.out.1 H1.out.1.lt) (H1.out.2.trans (hb2.mono H1.out.2.size))); have r2 := H2.out.1.rd; clear hb2 hpr2 r1))
      clear r2
      have HX := Lib.hid (show Below w.heap.size w w2 from H2.out.2)
      generalize w2 = wX at *
      go_upto_region 11 with (first
        | (go_at_call 14; refine (hp1 _ (HE.out.bel HX.out)).mono ?_; intro e w7 hP; obtain ⟨b1, x1, b2, x2, b3, x3, b4, x4, b5, x5, rfl, hC, hR, hb7⟩ := hP.op HP.out.1; have H7 := Lib.hid (And.intro hb7 (And.intro hC hR)); clear hP hC hR hb7 hp1)
        | (refine wpList_store_row rfl 41 (.tmp 13) (.tmp 74) rfl w7.heap.size #[.slice b1 d.tasks.length x1, .slice b2 d.best.length x2, .slice b3 d.mtx.length x3, .slice b4 d.gaps.length x4, .int .i64 d.frames, .int .i64 d.dog] rfl rfl 41 zCfg (Blk.new w7 _ _) infoCfg rfl (by simp [Value.oneCell']) ?_))
      obtain ⟨⟨tq7, eq7, tb7, bb7, mb7, gb7, hC7⟩, ⟨eb7, hR7, hlo7⟩⟩ := H7.out.2
      have hbl7 := new_row_bel w7 zCfg #[.slice b1 d.tasks.length x1, .slice b2 d.best.length x2, .slice b3 d.mtx.length x3, .slice b4 d.gaps.length x4, .int .i64 d.frames, .int .i64 d.dog] 41
      have hk7 := cfg_lay (w := w7) #[.slice b1 d.tasks.length x1, .slice b2 d.best.length x2, .slice b3 d.mtx.length x3, .slice b4 d.gaps.length x4, .int .i64 d.frames, .int .i64 d.dog]
      generalize (w7.alloc (.cells zCfg 41)).setRow w7.heap.size #[.slice b1 d.tasks.length x1, .slice b2 d.best.length x2, .slice b3 d.mtx.length x3, .slice b4 d.gaps.length x4, .int .i64 d.frames, .int .i64 d.dog] = W7 at *
      have hg7 := (hC7.rd HP.out.2.1.u).below hbl7
      obtain ⟨x11, x12, hv7, he7⟩ := (hR7.below hbl7).rdc
      simp only [Value.slice.injEq, true_and] at hv7
      obtain ⟨rfl, rfl⟩ := hv7
      have hbX : Below w.heap.size w W7 := HX.out.trans ((H7.out.1.trans (hbl7.mono H7.out.1.size)).mono HX.out.size)
      have r7 := hk7.rd
      have HY := Lib.hid (And.intro hbX (And.intro hk7 (And.intro hg7 he7)))
      clear hC7 hR7 hlo7 hbl7 hk7 hg7 he7 hbX
      by_cases her : er = 0
      · have hpp := pprint_go fs.length (ec := x5) HY.out.2.2.1 HY.out.2.2.2 rfl HP.out.2.1.rng.1 HP.out.2.1.rng.2 HN.out.1 HN.out.2 (HE.out.bel HY.out.1)
        have hp4 := fun w0 (h0 : Env w0) => parse_is (printT d fs) w0 h0
        subst her
        rcases HP.out.2.1.prE with hge | ⟨hge, hgt⟩
        · have hpb := print_back hge
          rw [hge] at hpp
          generalize printT d fs = pu at *
          obtain ⟨uu, huu⟩ : ∃ uu, B pu = uu := ⟨_, rfl⟩
          rw [huu] at hpp hp4
          have HT2 := Lib.hid hpb
          clear hge hpb huu
          go_upto_region 15 with (first
            | (go_at_call 20; refine hpp.mono ?_; rintro e w8 ⟨rfl, hb8⟩; have H8 := Lib.hid (And.intro (HY.out.1.trans (hb8.mono HY.out.1.size)) hb8); clear hb8 hpp r7)
            | (go_at_call 14; refine (hp4 _ (HE.out.bel H8.out.1)).mono ?_; intro e w9 hP; obtain ⟨p1, y1, p2, y2, p3, y3, p4, y4, p5, y5, rfl, hC, hR, hb9⟩ := hP.op HT2.out; have H9 := Lib.hid (And.intro hb9 (And.intro hC hR)); clear hP hC hR hb9 hp4)
            | (refine wpList_store_row rfl 41 (.tmp 19) (.tmp 90) rfl w9.heap.size #[.slice p1 d.tasks.length y1, .slice p2 d.best.length y2, .slice p3 d.mtx.length y3, .slice p4 d.gaps.length y4, .int .i64 d.frames, .int .i64 d.dog] rfl rfl 41 zCfg (Blk.new w9 _ _) infoCfg rfl (by simp [Value.oneCell']) ?_))
          obtain ⟨⟨tq9, eq9, tb9, bb9, mb9, gb9, hC9⟩, ⟨eb9, hR9, hlo9⟩⟩ := H9.out.2
          have hbl9 := new_row_bel w9 zCfg #[.slice p1 d.tasks.length y1, .slice p2 d.best.length y2, .slice p3 d.mtx.length y3, .slice p4 d.gaps.length y4, .int .i64 d.frames, .int .i64 d.dog] 41
          have hk9 := cfg_lay (w := w9) #[.slice p1 d.tasks.length y1, .slice p2 d.best.length y2, .slice p3 d.mtx.length y3, .slice p4 d.gaps.length y4, .int .i64 d.frames, .int .i64 d.dog]
          generalize (w9.alloc (.cells zCfg 41)).setRow w9.heap.size #[.slice p1 d.tasks.length y1, .slice p2 d.best.length y2, .slice p3 d.mtx.length y3, .slice p4 d.gaps.length y4, .int .i64 d.frames, .int .i64 d.dog] = W9 at *
          have hg9 := (hC9.rd HP.out.2.1.u).below hbl9
          obtain ⟨x11, x12, hv9, he9⟩ := (hR9.below hbl9).rdc
          simp only [Value.slice.injEq, true_and] at hv9
          obtain ⟨rfl, rfl⟩ := hv9
          have hb79 : Below W7.heap.size W7 W9 := H8.out.2.trans ((H9.out.1.trans (hbl9.mono H9.out.1.size)).mono H8.out.2.size)
          have hb9 : Below w.heap.size w W9 := HY.out.1.trans (hb79.mono HY.out.1.size)
          have r9 := hk9.rd
          have r7 := (Blk.below hb79 HY.out.2.1 HY.out.2.1.lt).rd
          have hsc := sameC_is hg9 (HY.out.2.2.1.below hb79)
          have HV := Lib.hid (And.intro hb9 (And.intro he9 (HY.out.2.2.2.below hb79)))
          clear hC9 hR9 hlo9 hbl9 hk9 hg9 he9 hb79 hb9
          go_wp2_with (first
            | (go_at_call 16; refine hsc.mono ?_; rintro e wA ⟨rfl, hbA⟩; have HZ := Lib.hid (And.intro (HV.out.1.trans (hbA.mono HV.out.1.size)) (And.intro (HV.out.2.1.below hbA) (HV.out.2.2.below hbA))); clear hbA hsc r9 r7)
            | (go_at_call 17; refine (sameE_is (es := fs) fs.length y5 x5 HZ.out.2.1 HZ.out.2.2 rfl (by have := HN.out.2; unfold maxLen; omega)).mono ?_; rintro e wB ⟨rfl, qb, rfl⟩; have HS := Lib.hid (HZ.out.1.trans ((bel_drewN wA qb).mono HZ.out.1.size)))
            | (go_at_call 9; refine (awake_is _ (HE.out.bel HS.out)).mono ?_; rintro e wC ⟨rfl, hbC⟩; have HF := Lib.hid hbC; clear hbC))
          go_ret
          exact ⟨rfl, HS.out.trans (HF.out.mono HS.out.size)⟩
        · rw [hge, hgt, show B [] = ⟨#[]⟩ from rfl] at hpp
          rw [hgt, show B [] = ⟨#[]⟩ from rfl] at hp4
          clear hge hgt
          go_upto_region 15 with (first
            | (go_at_call 20; refine hpp.mono ?_; rintro e w8 ⟨rfl, hb8⟩; have H8 := Lib.hid (HY.out.1.trans (hb8.mono HY.out.1.size)); clear hb8 hpp r7)
            | (go_at_call 14; refine (hp4 _ (HE.out.bel H8.out)).mono ?_; intro e w9 hP; obtain ⟨p1, y1, p2, y2, p3, y3, p4, y4, p5, y5, rfl, hC, hR, hb9⟩ := hP.op parse_nil; have H9 := Lib.hid (H8.out.trans (hb9.mono H8.out.size)); clear hP hC hR hb9 hp4)
            | (refine wpList_store_row rfl 41 (.tmp 19) (.tmp 90) rfl w9.heap.size #[.slice p1 0 y1, .slice p2 0 y2, .slice p3 0 y3, .slice p4 0 y4, .int .i64 0, .int .i64 0] rfl rfl 41 zCfg (Blk.new w9 _ _) infoCfg rfl (by simp [Value.oneCell']) ?_))
          have hS := H9.out.trans ((new_row_bel w9 zCfg #[.slice p1 0 y1, .slice p2 0 y2, .slice p3 0 y3, .slice p4 0 y4, .int .i64 0, .int .i64 0] 41).mono H9.out.size)
          generalize (w9.alloc (.cells zCfg 41)).setRow w9.heap.size #[.slice p1 0 y1, .slice p2 0 y2, .slice p3 0 y3, .slice p4 0 y4, .int .i64 0, .int .i64 0] = W9 at *
          have HS := Lib.hid hS
          clear hS
          go_wp2_with (go_at_call 9; refine (awake_is _ (HE.out.bel HS.out)).mono ?_; rintro e wC ⟨rfl, hbC⟩; have HF := Lib.hid hbC; clear hbC)
          go_ret
          exact ⟨rfl, HS.out.trans (HF.out.mono HS.out.size)⟩
      · have e3 : (er == 0) = false := by simpa using her
        have e4 : (er != 0) = true := by simpa using her
        clear her r7
        go_wp2_with (go_at_call 9; refine (awake_is _ (HE.out.bel HY.out.1)).mono ?_; rintro e wC ⟨rfl, hbC⟩; have HF := Lib.hid hbC; clear hbC)
        go_ret
        exact ⟨rfl, HY.out.1.trans (HF.out.mono HY.out.1.size)⟩
end Go.Proofs.YtefaaginedideaaGreatDoor
