/-
  Script's law: any configuration and events have the document's text, or are refused.
-/
import Derived.Test.YtefaaginedideaaGreatDoorPrD
import Derived.Test.YtefaaginedideaaGreatDoorGrt
import Derived.Test.YtefaaginedideaaGreatDoorSAwk
namespace Go.Proofs.YtefaaginedideaaGreatDoor
set_option linter.unusedSimpArgs false
set_option linter.unusedVariables false
open Go.RowKit Own RegJ
open Go.Lib hiding intOf

set_option maxRecDepth 100000 in
set_option maxHeartbeats 4000000 in
theorem prints_v (c : CfgV) (tv bv mv gv : Value) (tq : List TQ) (eq : List EQ) (es : List EvV) (ea : Option Addr) (ec : Nat) (w : World) (h : RdCfg w c tv bv mv gv tq eq) (hR : CfgR c) (he : RdC w ea (vCells es)) (hm : es.length ≤ maxLen) (hRe : EvsR es) (hE : Env w) :
    Calls Tryz.prog 6 #[.agg #[tv, bv, mv, gv, .int .i64 c.frames, .int .i64 c.dog], .slice ea es.length ec] w (AwP w) := by
  obtain ⟨a0, c0, rfl, -⟩ := h.rt
  obtain ⟨a1, c1, rfl, -⟩ := h.re
  obtain ⟨a2, c2, rfl, -⟩ := h.rm
  obtain ⟨a3, c3, rfl, -⟩ := h.rg
  obtain ⟨ne, hne⟩ : ∃ n, es.length = n := ⟨_, rfl⟩
  have hB0 := Blk.new w #[.slice a0 c.tasks.length c0, .slice a1 c.best.length c1, .slice a2 c.mtx.length c2, .slice a3 c.gaps.length c3, .int .i64 c.frames, .int .i64 c.dog] 41
  have hW0 : Below w.heap.size w (w.alloc (.cells #[.slice a0 c.tasks.length c0, .slice a1 c.best.length c1, .slice a2 c.mtx.length c2, .slice a3 c.gaps.length c3, .int .i64 c.frames, .int .i64 c.dog] 41)) := (Below.refl _ _).alloc (Nat.le_refl _) _
  have r0 := hB0.rd
  have HB := Lib.hid (And.intro hB0 hW0)
  have HE := Lib.hid hE
  have hgr := fun w0 (h0 : Below w.heap.size w w0) => gcfg_is (b := greatC c) rfl (h.below h0)
  have hpr := fun w0 (h0 : Below w.heap.size w w0) (h1 : greatC c = false) (h2 : ne ≤ 100) => pprint_go ne (ec := ec) (h.below h0) (he.below h0) hne hR hRe (greatC_N h1) (by omega) (hE.bel h0)
  have hrp := fun w0 (h0 : Below w.heap.size w w0) (h1 : greatC c = false) (h2 : ne ≤ 100) => rprint_go ne (ec := ec) (h.below h0) (he.below h0) hne hR hRe (greatC_N h1) (by omega)
  rw [hne] at hm ⊢
  unfold maxLen at hm
  clear hB0 hW0 h hR he hRe hE hne
  cases hg : greatC c
  · rw [hg] at hgr
    by_cases h100 : (ne : Int) > 100
    · clear hpr hrp
      go_enter Tryz.func6, Tryz.ntmps6
      go_wp2_with (first
        | (go_at_call 19; refine (hgr _ HB.out.2).mono ?_; rintro e w1 ⟨rfl, hb1⟩; have H1 := Lib.hid (HB.out.2.trans (hb1.mono HB.out.2.size)); clear hb1 hgr)
        | (go_at_call 9; refine (awake_is _ (HE.out.bel H1.out)).mono ?_; rintro e w2 ⟨rfl, hb2⟩; have H2 := Lib.hid hb2; clear hb2))
      go_ret
      exact ⟨rfl, H1.out.trans (H2.out.mono H1.out.size)⟩
    · have d1 : decide ((ne : Int) > 100) = false := decide_eq_false h100
      have hpr2 := fun w0 h0 => hpr w0 h0 hg (by omega)
      have hrp2 := fun w0 h0 => hrp w0 h0 hg (by omega)
      clear hpr hrp h100 hg
      generalize B (printT c es) = tt at *
      generalize printE c es = te at *
      go_enter Tryz.func6, Tryz.ntmps6
      go_wp2_with (first
        | (go_at_call 19; refine (hgr _ HB.out.2).mono ?_; rintro e w1 ⟨rfl, hb1⟩; have H1 := Lib.hid (And.intro (Blk.below hb1 HB.out.1 HB.out.1.lt) (HB.out.2.trans (hb1.mono HB.out.2.size))); have r1 := H1.out.1.rd; clear hb1 hgr r0)
        | (go_at_call 20; refine (hpr2 _ H1.out.2).mono ?_; rintro e w2 ⟨rfl, hb2⟩; have H2 := Lib.hid (And.intro (Blk.below hb2 H1.out.1 H1.out.1.lt) (H1.out.2.trans (hb2.mono H1.out.2.size))); have r2 := H2.out.1.rd; clear hb2 hpr2 r1)
        | (go_at_call 21; refine (hrp2 _ H2.out.2).mono ?_; rintro e w3 ⟨rfl, hb3⟩; have H3 := Lib.hid (H2.out.2.trans (hb3.mono H2.out.2.size)); clear hb3 hrp2 r2)
        | (go_at_call 12; refine (num_is _ _).mono ?_; rintro e w4 ⟨rfl, rfl⟩)
        | (go_at_call 9; refine (awake_is _ (HE.out.bel H3.out)).mono ?_; rintro e w5 ⟨rfl, hb5⟩; have H5 := Lib.hid hb5; clear hb5))
      go_ret
      exact ⟨rfl, H3.out.trans (H5.out.mono H3.out.size)⟩
  · rw [hg] at hgr
    clear hpr hrp hg
    go_enter Tryz.func6, Tryz.ntmps6
    go_wp2_with (first
      | (go_at_call 19; refine (hgr _ HB.out.2).mono ?_; rintro e w1 ⟨rfl, hb1⟩; have H1 := Lib.hid (HB.out.2.trans (hb1.mono HB.out.2.size)); clear hb1 hgr)
      | (go_at_call 9; refine (awake_is _ (HE.out.bel H1.out)).mono ?_; rintro e w2 ⟨rfl, hb2⟩; have H2 := Lib.hid hb2; clear hb2))
    go_ret
    exact ⟨rfl, H1.out.trans (H2.out.mono H1.out.size)⟩
end Go.Proofs.YtefaaginedideaaGreatDoor
