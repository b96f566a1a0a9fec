/-
  ReadyScript: the walk.
-/
import Derived.Deep.CutBlock
import Derived.Test.YtpajebedeacpgaaRDs
namespace Go.Proofs.Ytpajebedeacpgaa
set_option linter.unusedSimpArgs false
set_option linter.unusedVariables false
open Go.RowKit Own Sl Pair Four
open RegJ hiding Up
open RegF hiding put_size

/-- the acts, as they lie -/
def RActs (w : World) (av : Option Addr) (len : Nat) : Prop := ∀ i, i < len → ∃ g o d id c l p, av = some ⟨g, o, none⟩ ∧ w.cell? ⟨g, o + i * 5, none⟩ = some (.int .i64 d) ∧ w.cell? ⟨g, o + i * 5 + 1, none⟩ = some (.int .i64 id) ∧ w.cell? ⟨g, o + i * 5 + 2, none⟩ = some (.int .i64 c) ∧ w.cell? ⟨g, o + i * 5 + 3, none⟩ = some (.int .i64 l) ∧ w.cell? ⟨g, o + i * 5 + 4, none⟩ = some (.int .i64 p) ∧ (Lit.int .i64 id).wf = true
def RScP (w : World) (e : Ending) (w' : World) : Prop := e = .returned (.bool true) ∧ Below w.heap.size w w'
set_option maxRecDepth 100000 in
theorem rscr_long (av : Option Addr) (len cap : Nat) (hm : len ≤ maxLen) (hl : 100 < len) (w : World) :
    Calls Try.prog 3 #[.slice av len cap] w (RScP w) := by
  unfold maxLen at hm
  have d1 : decide ((len : Int) > 100) = true := by simp; omega
  have haw := awake_any
  go_enter Try.func3, Try.ntmps3
  go_wp2_with (go_at_call 7; refine (haw _).mono ?_; rintro e w' ⟨rfl, hB⟩)
  go_ret
  exact ⟨rfl, hB⟩
/-- what the switch leaves -/
def CutQ (W : World) (qb rb bx i : Nat) (x : Array Value) (s : Value) (w : World) : Prop := s = .bool true ∧ ∃ n L, n ≤ i + 1 ∧ S3 W qb rb bx x L L n n w
theorem RdI.keep' {w w' : World} {v : Value} {xs : List Int} (h : RdI w v xs) (hB : Below w.heap.size w w') : RdI w' v xs := by
  obtain ⟨a, c, rfl, hm, h⟩ := h
  refine ⟨a, c, rfl, hm, fun j hj => ?_⟩
  obtain ⟨g, o, h1, h2⟩ := h j hj
  exact ⟨g, o, h1, below_cell hB (Nat.le_refl _) h2⟩
set_option maxRecDepth 100000 in
set_option maxHeartbeats 16000000 in
theorem rscr_walk (av : Option Addr) (len cap : Nat) (hl : len ≤ 100) (w : World) (hA : RActs w av len) :
    Calls Try.prog 3 #[.slice av len cap] w (RScP w) := by
  have d1 : decide ((len : Int) > 100) = false := by simp; omega
  have hn := qnew_is w
  have HAC := Lib.hid hA
  have HL := Lib.hid hl
  clear hA
  go_enter Try.func3, Try.ntmps3
  go_wp2_with (go_at_call 8; (with_reducible refine hn.mono ?_); rintro e w1 ⟨qb, lo, rfl, hq, hB, hlo⟩; have H1 := Lib.hid (two0 hq hB hlo); clear hn hq hB hlo)
  generalize w1.heap.size = rb at *
  go_loopw [5] (fun v5 wr => ∃ (i n : Nat) (L : List One), i ≤ len ∧ n ≤ i ∧ v5 = .int .i64 i ∧ Hid (Two w wr (QPa qb L n) (DPa rb L n) (fun _ => False))) (fun v5 _ => len - (intOf v5).toNat)
  case atStart => exact ⟨0, 0, [], Nat.zero_le _, Nat.le_refl _, rfl, Lib.hid H1.out⟩
  case round =>
    obtain ⟨i, n, L, hi, hni, rfl, HT⟩ := hrel
    clear H1
    by_cases hil : i < len
    · obtain ⟨g, o, d, id, c, l, p, rfl, k0, k1, k2, k3, k4, hwf⟩ := HAC.out i hil
      have d2 : decide ((i : Int) < (len : Int)) = true := by simp; omega
      have i1 : (i : Int) < (len : Int) := by omega
      have i2 : (0 : Int) ≤ i := by omega
      replace k0 := HT.out.cell k0
      replace k1 := HT.out.cell k1
      replace k2 := HT.out.cell k2
      replace k3 := HT.out.cell k3
      replace k4 := HT.out.cell k4
      obtain ⟨O1, hO1⟩ := HT.out.atl
      have hgd := p_gd hO1
      have h3 : S3 w qb rb wr.heap.size #[.int .i64 d, .int .i64 id, .int .i64 c, .int .i64 l, .int .i64 p] L L n n (wr.alloc (.cells #[.int .i64 d, .int .i64 id, .int .i64 c, .int .i64 l, .int .i64 p] 33)) := ⟨(HT.out.new _).less (fun k hk => Or.inr hk), Blk.new _ _ _⟩
      have HM := Lib.hid (And.intro h3 (And.intro hgd (And.intro hni (show i < 100 by omega))))
      have HW := Lib.hid hwf
      clear h3 hgd hwf hO1
      go_upto_block 2 with (fail)
      clear k0 k1 k2 k3 k4
      have c1 := HM.out.1.2.rd
      generalize wr.alloc (.cells #[.int .i64 d, .int .i64 id, .int .i64 c, .int .i64 l, .int .i64 p] 33) = wx at HM c1 ⊢
      generalize wr.heap.size = bx at HM c1 ⊢
      try clear wr
      go_cut [7, 8, 9, 10, 11, 12] from 22 to 131 (fun s7 _ _ _ _ _ wx => CutQ w qb rb bx i #[.int .i64 d, .int .i64 id, .int .i64 c, .int .i64 l, .int .i64 p] s7 wx)
      case first =>
        by_cases hd0 : d = 0
        · subst hd0
          clear c1
          go_wp2_with (fail)
          refine region_J (JJ 5 12 (fun a b w1 => S3 w qb rb bx #[.int .i64 0, .int .i64 id, .int .i64 c, .int .i64 l, .int .i64 p] (Sel a (addL L (id, c, l, p)) L) (Sel b (addL L (id, c, l, p)) L) (Sel a (n + 1) n) (Sel b (n + 1) n) w1)) (by kernel_rfl) (by kernel_rfl) ?_ ?_
          · first | exact HM.out.1.drewN 1 | exact HM.out.1.drew
          · iterate 15
              apply wpJ_op rfl (by rfl)
              · intro f w1 hf hJ Q1 hQ
                have c1 := (show S3 w qb rb bx #[.int .i64 0, .int .i64 id, .int .i64 c, .int .i64 l, .int .i64 p] (Sel (f 5) (addL L (id, c, l, p)) L) (Sel (f 12) (addL L (id, c, l, p)) L) (Sel (f 5) (n + 1) n) (Sel (f 12) (n + 1) n) w1 from hJ).2.rd
                simp only [Act.put, List.setIfInBounds_toArray, List.set_cons_zero, List.set_cons_succ] at hQ
                go_wp2_with (first
                  | (go_at_call 10; refine (s_add (L1 := L) (n1 := n) (JJ.one hJ hf.1) id c l p HW.out (by have := HM.out.2.2.1; have := HM.out.2.2.2; omega)).mono ?_; rintro e w3 ⟨rfl, hM3⟩)
                  | (go_at_call 11; refine (s_radd (L2 := L) (n2 := n) (JJ.two hJ hf.1) id c l p (by have := HM.out.2.2.1; have := HM.out.2.2.2; omega)).mono ?_; rintro e w3 ⟨rfl, hM3⟩)
                  | (go_at_call 9; refine (num_is _ _).mono ?_; rintro e w3 ⟨rfl, rfl⟩))
                first
                  | exact hQ _ _ rfl (JJ.other hJ (by decide) (by decide))
                  | exact hQ _ _ rfl (JJ.fin1 hM3 (by decide))
                  | exact hQ _ _ rfl (JJ.fin2 hM3 (by decide))
              simp only [Act.put, List.setIfInBounds_toArray, List.set_cons_zero, List.set_cons_succ]
            refine wpJ_nil ?_
            intro w3 hJ3
            have hM3 : S3 w qb rb bx #[.int .i64 0, .int .i64 id, .int .i64 c, .int .i64 l, .int .i64 p] (addL L (id, c, l, p)) (addL L (id, c, l, p)) (n + 1) (n + 1) w3 := JJ.over hJ3 rfl rfl
            clear hJ3
            go_wp2_with (fail)
            go_meet
            exact ⟨by simp, _, _, by have := HM.out.2.2.1; omega, hM3⟩
        · by_cases hd1 : d = 1
          · subst hd1
            clear hd0 c1
            go_wp2_with (fail)
            refine region_J (JJ 3 7 (fun a b w1 => S3 w qb rb bx #[.int .i64 1, .int .i64 id, .int .i64 c, .int .i64 l, .int .i64 p] (Sel a (dropL L id) L) (Sel b (dropL L id) L) (Sel a (n) n) (Sel b (n) n) w1)) (by kernel_rfl) (by kernel_rfl) ?_ ?_
            · first | exact HM.out.1.drewN 1 | exact HM.out.1.drew
            · iterate 10
                apply wpJ_op rfl (by rfl)
                · intro f w1 hf hJ Q1 hQ
                  have c1 := (show S3 w qb rb bx #[.int .i64 1, .int .i64 id, .int .i64 c, .int .i64 l, .int .i64 p] (Sel (f 3) (dropL L id) L) (Sel (f 7) (dropL L id) L) (Sel (f 3) (n) n) (Sel (f 7) (n) n) w1 from hJ).2.rd
                  simp only [Act.put, List.setIfInBounds_toArray, List.set_cons_zero, List.set_cons_succ] at hQ
                  go_wp2_with (first
                    | (go_at_call 12; refine (s_drop (L1 := L) (n1 := n) (JJ.one hJ hf.1) id HW.out (by have := HM.out.2.2.1; have := HM.out.2.2.2; omega)).mono ?_; rintro e w3 ⟨rfl, hM3⟩)
                    | (go_at_call 13; refine (s_rdrop (L2 := L) (n2 := n) (JJ.two hJ hf.1) HM.out.2.1 id (by have := HM.out.2.2.1; have := HM.out.2.2.2; omega)).mono ?_; rintro e w3 ⟨rfl, hM3⟩))
                  first
                    | exact hQ _ _ rfl (JJ.other hJ (by decide) (by decide))
                    | exact hQ _ _ rfl (JJ.fin1 hM3 (by decide))
                    | exact hQ _ _ rfl (JJ.fin2 hM3 (by decide))
                simp only [Act.put, List.setIfInBounds_toArray, List.set_cons_zero, List.set_cons_succ]
              refine wpJ_nil ?_
              intro w3 hJ3
              have hM3 : S3 w qb rb bx #[.int .i64 1, .int .i64 id, .int .i64 c, .int .i64 l, .int .i64 p] (dropL L id) (dropL L id) (n) (n) w3 := JJ.over hJ3 rfl rfl
              clear hJ3
              go_wp2_with (fail)
              go_meet
              exact ⟨by simp, _, _, by have := HM.out.2.2.1; omega, hM3⟩
          · by_cases hd2 : d = 2
            · subst hd2
              clear hd0 hd1 c1
              go_wp2_with (fail)
              refine region_J (JJ 5 12 (fun a b w1 => S3 w qb rb bx #[.int .i64 2, .int .i64 id, .int .i64 c, .int .i64 l, .int .i64 p] (Sel a (chgL L (id, c, l, p)) L) (Sel b (chgL L (id, c, l, p)) L) (Sel a (n + 1) n) (Sel b (n + 1) n) w1)) (by kernel_rfl) (by kernel_rfl) ?_ ?_
              · first | exact HM.out.1.drewN 1 | exact HM.out.1.drew
              · iterate 15
                  apply wpJ_op rfl (by rfl)
                  · intro f w1 hf hJ Q1 hQ
                    have c1 := (show S3 w qb rb bx #[.int .i64 2, .int .i64 id, .int .i64 c, .int .i64 l, .int .i64 p] (Sel (f 5) (chgL L (id, c, l, p)) L) (Sel (f 12) (chgL L (id, c, l, p)) L) (Sel (f 5) (n + 1) n) (Sel (f 12) (n + 1) n) w1 from hJ).2.rd
                    simp only [Act.put, List.setIfInBounds_toArray, List.set_cons_zero, List.set_cons_succ] at hQ
                    go_wp2_with (first
                      | (go_at_call 14; refine (s_chg (L1 := L) (n1 := n) (JJ.one hJ hf.1) id c l p HW.out (by have := HM.out.2.2.1; have := HM.out.2.2.2; omega)).mono ?_; rintro e w3 ⟨rfl, hM3⟩)
                      | (go_at_call 15; refine (s_rchg (L2 := L) (n2 := n) (JJ.two hJ hf.1) HM.out.2.1 id c l p (by have := HM.out.2.2.1; have := HM.out.2.2.2; omega)).mono ?_; rintro e w3 ⟨rfl, hM3⟩)
                      | (go_at_call 9; refine (num_is _ _).mono ?_; rintro e w3 ⟨rfl, rfl⟩))
                    first
                      | exact hQ _ _ rfl (JJ.other hJ (by decide) (by decide))
                      | exact hQ _ _ rfl (JJ.fin1 hM3 (by decide))
                      | exact hQ _ _ rfl (JJ.fin2 hM3 (by decide))
                  simp only [Act.put, List.setIfInBounds_toArray, List.set_cons_zero, List.set_cons_succ]
                refine wpJ_nil ?_
                intro w3 hJ3
                have hM3 : S3 w qb rb bx #[.int .i64 2, .int .i64 id, .int .i64 c, .int .i64 l, .int .i64 p] (chgL L (id, c, l, p)) (chgL L (id, c, l, p)) (n + 1) (n + 1) w3 := JJ.over hJ3 rfl rfl
                clear hJ3
                go_wp2_with (fail)
                go_meet
                exact ⟨by simp, _, _, by have := HM.out.2.2.1; omega, hM3⟩
            · have e0 : (d == 0) = false := by simpa using hd0
              have e1 : (d == 1) = false := by simpa using hd1
              have e2 : (d == 2) = false := by simpa using hd2
              clear hd0 hd1 hd2
              go_wp2_with (fail)
              go_meet
              exact ⟨rfl, n, L, by have := HM.out.2.2.1; omega, HM.out.1⟩
      case rest =>
        obtain ⟨rfl, n2, L2, hn2, hM⟩ := hcut
        clear c1 HM
        obtain ⟨O1, hO1⟩ := hM.1.atl
        obtain ⟨O2, hO2⟩ := hM.1.atr
        have hln := hO1.1
        obtain ⟨m, hm⟩ : ∃ m, L2.length = m := ⟨_, rfl⟩
        obtain ⟨z, hz⟩ : ∃ z, hasO L2 id = z := ⟨_, rfl⟩
        have HN := Lib.hid (And.intro hm (And.intro (show n2 ≤ 1000 by omega) (show m ≤ 101 by omega)))
        have HZ := Lib.hid hz
        have HC := Lib.hid (And.intro hn2 hM)
        have hal := p_all hO1 (by omega)
        clear hm hz hM hO1 hO2 hn2 hln
        by_cases hm0 : m = 0
        · subst hm0
          have hfi := firO_no HN.out.1
          go_upto_region 19 with (first
            | (go_at_call 16; (with_reducible refine hal.mono ?_); rintro e w3 ⟨v1, rfl, hq1⟩; have hm3 := HC.out.2.below (iq_below hq1); have hal2 := d_all hm3.1.atr.choose_spec HN.out.2.1; have hmd := two_made HC.out.2.1 (iq_below hq1); have H3 := Lib.hid (And.intro hq1 (And.intro hm3 hmd)); clear hal hq1 hm3 hmd)
            | (go_at_call 17; (with_reducible refine hal2.mono ?_); rintro e w4 ⟨v2, rfl, hq2⟩; have H4 := Lib.hid hq2; clear hal2 hq2))
          obtain ⟨a1, c1v, e1⟩ := H3.out.1.slice
          obtain ⟨a2, c2v, e2⟩ := H4.out.slice
          rw [List.length_map, HN.out.1] at e1 e2
          subst e1 e2
          have hm4 := H3.out.2.1.below (iq_below H4.out)
          have hfr := p_first hm4.1.atl.choose_spec _ _ hfi
          go_upto_region 23 with (go_at_call 18; (with_reducible refine hfr.mono ?_); rintro e w5 ⟨rfl, hB5⟩; clear hfr; have b43 := iq_below H4.out; have b53 := b43.trans (hB5.mono b43.size); have hm5 := hm4.below hB5; have H5 := Lib.hid (And.intro hm5 (And.intro (iq_rd H3.out.1 b53) (iq_rd H4.out hB5))); obtain ⟨bA, hbA, hbB, hbC⟩ := H3.out.1; have HA := Lib.hid (And.intro b53 (And.intro hbA (And.intro (H3.out.2.2.less (E' := fun k => False ∨ (wc.heap.size ≤ k ∧ k < w3.heap.size)) (fun k hk => hk.elim False.elim Or.inr)) hbB))); clear hm4 hm5 hB5 b43 b53 hbA hbB hbC)
          clear hfi
          refine region_J (fun _ w6 => Below w5.heap.size w5 w6) (by kernel_rfl) (by kernel_rfl) ?_ ?_
          · first | exact (Below.refl _ _).drew | exact drewN_below _ _
          · iterate 38
              apply wpJ_op rfl (by rfl)
              · intro f w6 hf hJ Q1 hQ
                have hM6 := H5.out.1.below hJ
                have c1 := hM6.2.rd
                have hph := p_has hM6.1.atl.choose_spec id HW.out
                have hdh := d_has hM6.1.atr.choose_spec HN.out.2.1 id
                have hpl := p_len hM6.1.atl.choose_spec 0 HN.out.1
                have hsm := same_any (H5.out.2.1.keep' hJ) (H5.out.2.2.keep' hJ) true (by simp)
                rw [HZ.out] at hph hdh
                have HM6 := Lib.hid hM6
                clear hM6
                simp only [Act.put, List.setIfInBounds_toArray, List.set_cons_zero, List.set_cons_succ] at hQ
                go_wp2_with (first
                  | (go_at_call 19; (with_reducible refine hph.mono ?_); rintro e w7 ⟨rfl, hB⟩)
                  | (go_at_call 20; (with_reducible refine hdh.mono ?_); rintro e w7 ⟨rfl, rfl⟩)
                  | (go_at_call 21; (with_reducible refine hpl.mono ?_); rintro e w7 ⟨rfl, hB⟩)
                  | (go_at_call 22; (with_reducible refine hsm.mono ?_); rintro e w7 ⟨rfl, q7, rfl⟩; have hB := drewN_below w6 q7))
                first
                  | exact hQ _ _ rfl hJ
                  | exact hQ _ _ rfl (hJ.trans (hB.mono hJ.size))
              simp only [Act.put, List.setIfInBounds_toArray, List.set_cons_zero, List.set_cons_succ]
            refine wpJ_nil ?_
            intro w6 hJ6
            have hov := over_is (HA.out.2.1.upd (Upd.of_below (F := fun _ => False) (HA.out.1.trans (hJ6.mono HA.out.1.size))) (fun _ _ h => h)) (by rw [List.length_map, HN.out.1]; have := HN.out.2.2; omega)
            have H6 := Lib.hid hJ6
            clear hJ6
            go_wp2_with (go_at_call 23; (with_reducible refine hov.mono ?_); rintro e w8 ⟨⟨v8, rfl⟩, hu8⟩; have H8 := Lib.hid hu8; clear hov hu8)
            go_roundw
            case rel =>
              refine ⟨i + 1, n2, L2, by omega, HC.out.1, by go_num, Lib.hid ?_⟩
              have t1 := ((HA.out.2.2.1.below HA.out.1).below H6.out).turn H8.out (F := fun k => bA = some k) (fun k hk => Or.inr ⟨HA.out.2.2.2 k hk, by have := HA.out.2.1.lt k hk; exact this⟩)
              exact t1.less (fun k hk => hk.elim)
            case measure => simp [intOf]; omega
        · obtain ⟨f1, hfi, hg0⟩ := firO_yes (L := L2) (by have := HN.out.1; omega)
          have d8 : decide ((m : Int) > 0) = true := by simp; omega
          have d9 : decide (m > 0) = true := by simp; omega
          have i8 : (0 : Int) < (m : Int) := by omega
          go_upto_region 19 with (first
            | (go_at_call 16; (with_reducible refine hal.mono ?_); rintro e w3 ⟨v1, rfl, hq1⟩; have hm3 := HC.out.2.below (iq_below hq1); have hal2 := d_all hm3.1.atr.choose_spec HN.out.2.1; have hmd := two_made HC.out.2.1 (iq_below hq1); have H3 := Lib.hid (And.intro hq1 (And.intro hm3 hmd)); clear hal hq1 hm3 hmd)
            | (go_at_call 17; (with_reducible refine hal2.mono ?_); rintro e w4 ⟨v2, rfl, hq2⟩; have H4 := Lib.hid hq2; clear hal2 hq2))
          obtain ⟨a1, c1v, e1⟩ := H3.out.1.slice
          obtain ⟨a2, c2v, e2⟩ := H4.out.slice
          rw [List.length_map, HN.out.1] at e1 e2
          subst e1 e2
          have hm4 := H3.out.2.1.below (iq_below H4.out)
          have hfr := p_first hm4.1.atl.choose_spec _ _ hfi
          obtain ⟨g2, o2, k2⟩ : ∃ g o, a2 = some ⟨g, o, none⟩ ∧ w4.cell? ⟨g, o, none⟩ = some (.int .i64 f1) := by
            obtain ⟨a, c, e, _, hh⟩ := iq_rd H4.out (Below.refl _ _)
            simp only [Value.slice.injEq] at e
            obtain ⟨rfl, _, _⟩ := e
            obtain ⟨g, o, h1, h2⟩ := hh 0 (by rw [List.length_map, HN.out.1]; omega)
            exact ⟨g, o, h1, by rw [hg0] at h2; exact h2⟩
          obtain ⟨rfl, k2⟩ := k2
          go_upto_region 23 with (go_at_call 18; (with_reducible refine hfr.mono ?_); rintro e w5 ⟨rfl, hB5⟩; clear hfr; have b43 := iq_below H4.out; have b53 := b43.trans (hB5.mono b43.size); have k5 := below_cell hB5 (Nat.le_refl _) k2; clear k2; have hm5 := hm4.below hB5; have H5 := Lib.hid (And.intro hm5 (And.intro (iq_rd H3.out.1 b53) (iq_rd H4.out hB5))); obtain ⟨bA, hbA, hbB, hbC⟩ := H3.out.1; have HA := Lib.hid (And.intro b53 (And.intro hbA (And.intro (H3.out.2.2.less (E' := fun k => False ∨ (wc.heap.size ≤ k ∧ k < w3.heap.size)) (fun k hk => hk.elim False.elim Or.inr)) hbB))); clear hm4 hm5 hB5 b43 b53 hbA hbB hbC)
          clear hfi
          refine region_J (fun _ w6 => Below w5.heap.size w5 w6) (by kernel_rfl) (by kernel_rfl) ?_ ?_
          · first | exact (Below.refl _ _).drew | exact drewN_below _ _
          · iterate 38
              apply wpJ_op rfl (by rfl)
              · intro f w6 hf hJ Q1 hQ
                have hM6 := H5.out.1.below hJ
                have c1 := hM6.2.rd
                have hph := p_has hM6.1.atl.choose_spec id HW.out
                have hdh := d_has hM6.1.atr.choose_spec HN.out.2.1 id
                have hpl := p_len hM6.1.atl.choose_spec m HN.out.1
                have hsm := same_any (H5.out.2.1.keep' hJ) (H5.out.2.2.keep' hJ) true (by simp)
                rw [HZ.out] at hph hdh
                have HM6 := Lib.hid hM6
                clear hM6
                simp only [Act.put, List.setIfInBounds_toArray, List.set_cons_zero, List.set_cons_succ] at hQ
                go_wp2_with (first
                  | (go_at_call 19; (with_reducible refine hph.mono ?_); rintro e w7 ⟨rfl, hB⟩)
                  | (go_at_call 20; (with_reducible refine hdh.mono ?_); rintro e w7 ⟨rfl, rfl⟩)
                  | (go_at_call 21; (with_reducible refine hpl.mono ?_); rintro e w7 ⟨rfl, hB⟩)
                  | (go_at_call 22; (with_reducible refine hsm.mono ?_); rintro e w7 ⟨rfl, q7, rfl⟩; have hB := drewN_below w6 q7))
                first
                  | exact hQ _ _ rfl hJ
                  | exact hQ _ _ rfl (hJ.trans (hB.mono hJ.size))
              simp only [Act.put, List.setIfInBounds_toArray, List.set_cons_zero, List.set_cons_succ]
            refine wpJ_nil ?_
            intro w6 hJ6
            have hov := over_is (HA.out.2.1.upd (Upd.of_below (F := fun _ => False) (HA.out.1.trans (hJ6.mono HA.out.1.size))) (fun _ _ h => h)) (by rw [List.length_map, HN.out.1]; have := HN.out.2.2; omega)
            have H6 := Lib.hid hJ6
            clear hJ6
            go_wp2_with (go_at_call 23; (with_reducible refine hov.mono ?_); rintro e w8 ⟨⟨v8, rfl⟩, hu8⟩; have H8 := Lib.hid hu8; clear hov hu8)
            go_roundw
            case rel =>
              refine ⟨i + 1, n2, L2, by omega, HC.out.1, by go_num, Lib.hid ?_⟩
              have t1 := ((HA.out.2.2.1.below HA.out.1).below H6.out).turn H8.out (F := fun k => bA = some k) (fun k hk => Or.inr ⟨HA.out.2.2.2 k hk, by have := HA.out.2.1.lt k hk; exact this⟩)
              exact t1.less (fun k hk => hk.elim)
            case measure => simp [intOf]; omega
    · have hil' : i = len := by omega
      subst hil'
      have d2 : decide ((i : Int) < (i : Int)) = false := by simp
      have hn' : n ≤ 1000 := by have := HL.out; omega
      have hal := p_all HT.out.atl.choose_spec hn'
      go_wp2_with (first
        | (go_at_call 16; (with_reducible refine hal.mono ?_); rintro e w3 ⟨v1, rfl, hq1⟩; have hT3 := HT.out.below (iq_below hq1); have hal2 := d_all hT3.atr.choose_spec hn'; have H3 := Lib.hid (And.intro hq1 hT3); clear hal hq1 hT3)
        | (go_at_call 17; (with_reducible refine hal2.mono ?_); rintro e w4 ⟨v2, rfl, hq2⟩; have hsm := same_any (iq_rd H3.out.1 (iq_below hq2)) (iq_rd hq2 (Below.refl _ _)) true (by simp); have H4 := Lib.hid (H3.out.2.below (iq_below hq2)); clear hal2 hq2)
        | (go_at_call 22; refine hsm.mono ?_; rintro e w5 ⟨rfl, q5, rfl⟩; have H5 := Lib.hid (H4.out.drewN q5).bel; clear hsm)
        | (go_at_call 7; refine (awake_any _).mono ?_; rintro e w6 ⟨rfl, hB6⟩))
      go_ret
      exact ⟨rfl, H5.out.trans (hB6.mono H5.out.size)⟩
theorem script_walk (av : Option Addr) (len cap : Nat) (w : World) (hm : len ≤ maxLen) (hA : RActs w av len) :
    Calls Try.prog 3 #[.slice av len cap] w fun e w' => e = .returned (.bool true) ∧ Below w.heap.size w w' := by
  by_cases hl : 100 < len
  · exact rscr_long av len cap hm hl w
  · exact rscr_walk av len cap (by omega) w hA
end Go.Proofs.Ytpajebedeacpgaa
