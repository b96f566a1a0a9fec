/-
  ReadyFirst: the walk.
-/
import Derived.Test.YtpajebedeacpgaaRcmp
namespace Go.Proofs.Ytpajebedeacpgaa
set_option linter.unusedSimpArgs false
set_option linter.unusedVariables false
open Go.RowKit Own Sl
open RegJ hiding Up
open RegF hiding put_size

/-- who went last -/
def lstO (L : List One) (k : Nat) : Int := if k = 0 then -1 else ((L[k - 1]?).getD (0, 0, 0, 0)).1
theorem lstO_succ {L : List One} {k : Nat} {x : One} (h : L[k]? = some x) : lstO L (k + 1) = x.1 := by
  unfold lstO
  rw [if_neg (by omega), show k + 1 - 1 = k by omega, h]
  rfl
theorem lstO_pos {L : List One} {k : Nat} (h : k ≤ L.length) (hk : k ≠ 0) : ∃ x, L[k - 1]? = some x ∧ lstO L k = x.1 := by
  have h1 : k - 1 < L.length := by omega
  refine ⟨L[k - 1], List.getElem?_eq_getElem h1, ?_⟩
  unfold lstO
  rw [if_neg hk, List.getElem?_eq_getElem h1]
  rfl
theorem gd_two {L : List One} (h : Gd L) {i j : Nat} {x y : One} (hi : L[i]? = some x) (hj : L[j]? = some y) (hij : i < j) : ahd x y := by
  obtain ⟨a, rfl⟩ := List.getElem?_eq_some_iff.1 hi
  obtain ⟨b, rfl⟩ := List.getElem?_eq_some_iff.1 hj
  exact (List.pairwise_iff_getElem.1 h.srt) i j a b hij
theorem drop_cons' {L : List One} {k : Nat} {x : One} (h : L[k]? = some x) : L.drop k = x :: L.drop (k + 1) := by
  obtain ⟨a, rfl⟩ := List.getElem?_eq_some_iff.1 h
  exact List.drop_eq_getElem_cons a
/-- the region of one Compare -/
def CmpS (W1 : World) (g a a' : Nat) (p q : Pr) (b : Bool) (w : World) : Prop := Rd3 w g a p ∧ Rd3 w g a' q ∧ (b = false → w = W1) ∧ (b = true → Below W1.heap.size W1 w)
def FirP (w : World) (e : Ending) (w' : World) : Prop := e = .returned (.bool true) ∧ Below w.heap.size w w'
set_option maxRecDepth 100000 in
theorem first_long (av : Option Addr) (len cap : Nat) (hm : len ≤ maxLen) (hl : 60 < len) (w : World) :
    Calls Try.prog 4 #[.slice av len cap] w (FirP w) := by
  unfold maxLen at hm
  have d1 : decide ((len : Int) > 60) = true := by simp; omega
  go_enter Try.func4, Try.ntmps4
  go_wp2_with (go_at_call 7; refine (awake_any _).mono ?_; rintro e w' ⟨rfl, hB⟩)
  go_ret
  exact ⟨rfl, hB⟩
set_option maxRecDepth 100000 in
set_option maxHeartbeats 4000000 in
theorem first_walk (av : Option Addr) (len cap : Nat) (P : Nat → Pr) (hl : len ≤ 60) (w : World) (hP : PrAt w av len P) :
    Calls Try.prog 4 #[.slice av len cap] w (FirP w) := by
  have d1 : decide ((len : Int) > 60) = false := by simp; omega
  have HK := Lib.hid hP
  clear hP
  have hn := qnew_is w
  go_enter Try.func4, Try.ntmps4
  go_wp2_with (go_at_call 8; refine hn.mono ?_; rintro e w1 ⟨qb, lo, rfl, hq, hB, hlo⟩)
  have HN := Lib.hid (And.intro hq (And.intro hB hlo))
  clear hn hq hB hlo
  go_loopw [4, 5] (fun nx ix wr => ∃ (i : Nat) (lo : Lo), i ≤ len ∧ ix = .int .i64 i ∧ nx = .int .i64 ((addAll P i).length : Nat) ∧ QA wr qb (addAll P i) lo i ∧ Below w.heap.size w wr ∧ ∀ r k, lo r = some k → w.heap.size ≤ k) (fun _ ix _ => len - (intOf ix).toNat)
  case atStart => exact ⟨0, lo, Nat.zero_le _, rfl, rfl, HN.out.1, HN.out.2.1, HN.out.2.2⟩
  case round =>
    obtain ⟨i, lo1, hi, rfl, rfl, hq, hB, hlo⟩ := hrel
    clear HN
    by_cases hil : i < len
    · obtain ⟨g, o, rfl, k0⟩ := HK.out i hil
      obtain ⟨c1, c2, c3⟩ := k0.below hB (Nat.le_refl _)
      have i1 : (i : Int) < (len : Int) := by omega
      have i2 : (0 : Int) ≤ i := by omega
      have d2 : decide ((i : Int) < (len : Int)) = true := by simp; omega
      have hadd := qadd_is hq ((i : Int), P i) (wf_nat (by omega)) (by omega) (addAll_le i)
      rw [addAll_n] at hadd
      have hmy := may_is (P i)
      have hlen := addAll_len (P := P) i
      have hle := addAll_le (P := P) i
      unfold prV at hadd hmy
      have H := Lib.hid (And.intro hB (And.intro hlo k0))
      clear hq hB hlo k0
      cases hmm : may (P i) with
      | true =>
        rw [hmm, if_pos rfl] at hadd hlen
        rw [hmm] at hmy
        have HL := Lib.hid hlen
        clear hlen hmm
        generalize hP3 : P i = p3 at *
        obtain ⟨z0, z1, z2⟩ := p3
        simp only at *
        go_wp2_with (first
          | (go_at_call 10; (with_reducible refine hadd.mono ?_); rintro e w2 ⟨rfl, lo2, hq2, hf2⟩; obtain ⟨b1, b2⟩ := qfr_below hf2 H.out.1.size H.out.2.1; obtain ⟨e1, e2, e3⟩ := H.out.2.2.below (H.out.1.trans b1) (Nat.le_refl _); simp only at e1 e2 e3; have H2 := Lib.hid (And.intro hq2 (And.intro (H.out.1.trans b1) b2)); clear hadd hq2 hf2 b1 b2)
          | (go_at_call 24; (with_reducible refine (hmy _).mono ?_); rintro e w3 ⟨rfl, hB3⟩; have H3 := Lib.hid hB3; clear hmy hB3))
        go_roundw
        case rel => exact ⟨i + 1, lo2, by omega, by go_num, by rw [HL.out]; go_num, (by have := H2.out.1.below H3.out; rw [← hP3] at this; exact this), H2.out.2.1.trans (H3.out.mono H2.out.2.1.size), H2.out.2.2⟩
        case measure => simp [intOf]; omega
      | false =>
        rw [hmm, if_neg (by simp)] at hadd hlen
        rw [hmm] at hmy
        have HL := Lib.hid hlen
        clear hlen hmm
        generalize hP3 : P i = p3 at *
        obtain ⟨z0, z1, z2⟩ := p3
        simp only at *
        go_wp2_with (first
          | (go_at_call 10; (with_reducible refine hadd.mono ?_); rintro e w2 ⟨rfl, lo2, hq2, hf2⟩; obtain ⟨b1, b2⟩ := qfr_below hf2 H.out.1.size H.out.2.1; obtain ⟨e1, e2, e3⟩ := H.out.2.2.below (H.out.1.trans b1) (Nat.le_refl _); simp only at e1 e2 e3; have H2 := Lib.hid (And.intro hq2 (And.intro (H.out.1.trans b1) b2)); clear hadd hq2 hf2 b1 b2)
          | (go_at_call 24; (with_reducible refine (hmy _).mono ?_); rintro e w3 ⟨rfl, hB3⟩; have H3 := Lib.hid hB3; clear hmy hB3))
        go_roundw
        case rel => exact ⟨i + 1, lo2, by omega, by go_num, by rw [HL.out]; go_num, (by have := H2.out.1.below H3.out; rw [← hP3] at this; exact this), H2.out.2.1.trans (H3.out.mono H2.out.2.1.size), H2.out.2.2⟩
        case measure => simp [intOf]; omega
    · have hil' : i = len := by omega
      subst hil'
      have d2 : decide ((i : Int) < (i : Int)) = false := by simp
      have hA : ∀ x ∈ addAll P i, ∃ j : Nat, j < i ∧ x = ((j : Int), P j) := fun x hx => addAll_in hx
      have hle := addAll_le (P := P) i
      have hgd := hq.gd
      generalize addAll P i = L0 at *
      obtain ⟨n, hnn⟩ : ∃ n, L0.length = n := ⟨_, rfl⟩
      rw [hnn] at hle ⊢
      have H := Lib.hid (And.intro hq (And.intro hB (And.intro hlo (And.intro hgd (And.intro hA hnn)))))
      clear hq hB hlo hil hgd hA hnn
      go_wp2
      go_loopw [7, 8] (fun la kx wr2 => ∃ (k : Nat) (lo : Lo), k ≤ n ∧ kx = .int .i64 k ∧ la = .int .i64 (lstO L0 k) ∧ QA wr2 qb (L0.drop k) lo i ∧ Below w.heap.size w wr2 ∧ ∀ r b, lo r = some b → w.heap.size ≤ b) (fun _ kx _ => n - (intOf kx).toNat)
      case atStart => exact ⟨0, lo1, Nat.zero_le _, rfl, rfl, H.out.1, H.out.2.1, H.out.2.2.1⟩
      case round =>
        obtain ⟨k, lo2, hk, rfl, rfl, hq, hB, hlo⟩ := hrel
        by_cases hki : k < n
        · obtain ⟨x, hx⟩ : ∃ x, L0[k]? = some x := ⟨L0[k]'(by rw [H.out.2.2.2.2.2]; exact hki), List.getElem?_eq_getElem _⟩
          obtain ⟨j, hj, rfl⟩ := H.out.2.2.2.2.1 _ (List.mem_of_getElem? hx)
          rw [drop_cons' hx] at hq
          have hgt := hq.gd
          have hfi := qfirst_is hq
          have hdl : delA (((j : Int), P j) :: L0.drop (k + 1)) j = L0.drop (k + 1) := delA_head hgt
          have hh1 : hasO (((j : Int), P j) :: L0.drop (k + 1)) j = true := (hasO_head hgt).1
          have hh2 : hasO (L0.drop (k + 1)) j = false := (hasO_head hgt).2
          have hls := lstO_succ hx
          have e1 : decide ((k : Int) < (n : Int)) = true := by simp; omega
          have f1 : decide ((j : Int) < 0) = false := by simp
          have f2 : decide ((j : Int) ≥ (i : Int)) = false := by simp; omega
          have f2n : decide (i ≤ j) = false := by simp; omega
          have f2m : decide ((i : Int) ≤ (j : Int)) = false := by simp; omega
          have hwf : (Lit.int .i64 (j : Int)).wf = true := wf_nat (by omega)
          have HQ := Lib.hid (And.intro hq (And.intro hB (And.intro hlo (And.intro hdl (And.intro hh1 (And.intro hh2 hls))))))
          clear hq hB hlo hdl hh1 hh2 hls hgt
          simp only [firO] at hfi
          by_cases hk0 : k = 0
          · subst hk0
            have hl0 : lstO L0 0 = -1 := rfl
            rw [hl0]
            go_wp2_with (first
              | (go_at_call 18; (with_reducible refine hfi.mono ?_); rintro e w2 ⟨rfl, hB2⟩; have hdr := qdrop_yes (HQ.out.1.below hB2) HQ.out.2.2.2.2.1 hwf (by omega); rw [HQ.out.2.2.2.1] at hdr; have H2 := Lib.hid (HQ.out.2.1.trans (hB2.mono HQ.out.2.1.size)); clear hfi hB2)
              | (go_at_call 12; (with_reducible refine hdr.mono ?_); rintro e w3 ⟨rfl, lo3, hq3, hf3⟩; have hha := qhas_is hq3 j hwf; rw [HQ.out.2.2.2.2.2.1] at hha; obtain ⟨b1, b2⟩ := qfr_below hf3 H2.out.size HQ.out.2.2.1; have H3 := Lib.hid (And.intro hq3 (And.intro (H2.out.trans b1) b2)); clear hdr hq3 hf3 b1 b2)
              | (go_at_call 19; (with_reducible refine hha.mono ?_); rintro e w4 ⟨rfl, hB4⟩; have H4 := Lib.hid hB4; clear hha hB4))
            go_roundw
            case rel => exact ⟨0 + 1, lo3, by omega, by go_num, by rw [HQ.out.2.2.2.2.2.2], H3.out.1.below H4.out, H3.out.2.1.trans (H4.out.mono H3.out.2.1.size), H3.out.2.2⟩
            case measure => simp [intOf]; omega
          · obtain ⟨y, hy, hly⟩ := lstO_pos (L := L0) (k := k) (by rw [H.out.2.2.2.2.2]; omega) hk0
            obtain ⟨j', hj', rfl⟩ := H.out.2.2.2.2.1 _ (List.mem_of_getElem? hy)
            simp only at hly
            rw [hly]
            obtain ⟨hcn, hcz⟩ := cmp_ahd (gd_two H.out.2.2.2.1 hy hx (by omega))
            simp only at hcn hcz
            obtain ⟨g, o, rfl, k1⟩ := HK.out j hj
            obtain ⟨g', o', eg, k2⟩ := HK.out j' hj'
            obtain ⟨rfl, rfl⟩ : g' = g ∧ o' = o := by injection eg with eg; injection eg with e1 e2; exact ⟨e1.symm, e2.symm⟩
            have f3 : decide ((j' : Int) ≥ 0) = true := by simp
            have j1 : (j : Int) < (i : Int) := by omega
            have j2 : (0 : Int) ≤ j := by omega
            have j3 : (j' : Int) < (i : Int) := by omega
            have j4 : (0 : Int) ≤ j' := by omega
            have HC := Lib.hid (And.intro hcn (And.intro hcz (And.intro k1 k2)))
            clear hcn hcz k1 k2 eg hy hx hly hk0
            go_upto_region 23 with (first
              | (go_at_call 18; (with_reducible refine hfi.mono ?_); rintro e w2 ⟨rfl, hB2⟩; have hdr := qdrop_yes (HQ.out.1.below hB2) HQ.out.2.2.2.2.1 hwf (by omega); rw [HQ.out.2.2.2.1] at hdr; have H2 := Lib.hid (HQ.out.2.1.trans (hB2.mono HQ.out.2.1.size)); clear hfi hB2)
              | (go_at_call 12; (with_reducible refine hdr.mono ?_); rintro e w3 ⟨rfl, lo3, hq3, hf3⟩; have hha := qhas_is hq3 j hwf; rw [HQ.out.2.2.2.2.2.1] at hha; obtain ⟨b1, b2⟩ := qfr_below hf3 H2.out.size HQ.out.2.2.1; have H3 := Lib.hid (And.intro hq3 (And.intro (H2.out.trans b1) b2)); clear hdr hq3 hf3 b1 b2)
              | (go_at_call 19; (with_reducible refine hha.mono ?_); rintro e w4 ⟨rfl, hB4⟩; have H4 := Lib.hid (And.intro (H3.out.1.below hB4) (H3.out.2.1.trans (hB4.mono H3.out.2.1.size))); clear hha hB4))
            have s1 : Below w4.heap.size w4 w4.drew := ((Upd.refl (fun _ => False) w4).drew).below (Nat.le_refl _) (fun _ h => h.elim)
            have s2 := H4.out.2.trans (s1.mono H4.out.2.size)
            have k1 := HC.out.2.2.1.below s2 (Nat.le_refl _)
            have k2 := HC.out.2.2.2.below s2 (Nat.le_refl _)
            have HR := Lib.hid (And.intro s1 (And.intro s2 (And.intro k1 k2)))
            clear s1 s2 k1 k2
            have hcm := pcmp_is (P j') (P j)
            unfold prV at hcm
            have HCM := Lib.hid hcm
            clear hcm
            refine region_J (J1 8 (CmpS w4.drew g' (o' + j' * 3) (o' + j * 3) (P j') (P j))) (by kernel_rfl) (by kernel_rfl) ?_ ?_
            · exact ⟨HR.out.2.2.2, HR.out.2.2.1, fun _ => rfl, fun h => by cases h⟩
            · iterate 8
                apply wpJ_op rfl (by rfl)
                · intro f w5 hf hJ Q1 hQ
                  have hJ' : CmpS w4.drew g' (o' + j' * 3) (o' + j * 3) (P j') (P j) (f 8) w5 := hJ
                  obtain ⟨⟨c1, c2, c3⟩, ⟨c4, c5, c6⟩, _⟩ := hJ'
                  simp only [Act.put, List.setIfInBounds_toArray, List.set_cons_zero, List.set_cons_succ] at hQ
                  go_wp2_with (fail)
                  exact hQ _ _ rfl (J1.other hJ (by decide))
                simp only [Act.put, List.setIfInBounds_toArray, List.set_cons_zero, List.set_cons_succ]
              apply wpJ_op rfl (by rfl)
              · intro f w5 hf hJ Q1 hQ
                have hJ' : CmpS w4.drew g' (o' + j' * 3) (o' + j * 3) (P j') (P j) (f 8) w5 := hJ
                have HJ := Lib.hid hJ'
                clear hJ'
                simp only [Act.put, List.setIfInBounds_toArray, List.set_cons_zero, List.set_cons_succ] at hQ
                have e1 : w5 = w4.drew := HJ.out.2.2.1 hf.1
                subst e1
                have hcm := HCM.out w4.drew
                go_wp2_with (go_at_call 25; (with_reducible refine hcm.mono ?_); rintro e w6 ⟨rfl, hB6⟩; have H6 := Lib.hid hB6; clear hB6 hcm)
                exact hQ _ _ rfl (J1.fin ⟨HJ.out.1.below H6.out (Nat.le_refl _), HJ.out.2.1.below H6.out (Nat.le_refl _), (fun h => by cases h), fun _ => H6.out⟩)
              simp only [Act.put, List.setIfInBounds_toArray, List.set_cons_zero, List.set_cons_succ]
              apply wpJ_op rfl (by rfl)
              · intro f w5 hf hJ Q1 hQ
                simp only [Act.put, List.setIfInBounds_toArray, List.set_cons_zero, List.set_cons_succ] at hQ
                go_wp2_with (fail)
                exact hQ _ _ rfl (J1.other hJ (by decide))
              simp only [Act.put, List.setIfInBounds_toArray, List.set_cons_zero, List.set_cons_succ]
              refine wpJ_nil ?_
              intro w7 hJ7
              obtain ⟨_, _, _, hb7⟩ := (J1.over hJ7 rfl)
              have b7 := HR.out.1.trans ((hb7 rfl).mono HR.out.1.size)
              have H7 := Lib.hid (And.intro (H4.out.1.below b7) (H4.out.2.trans (b7.mono H4.out.2.size)))
              clear hJ7 hb7 b7
              generalize hcv : cmpP (P j') (P j) = cv at *
              have g1 : decide (cv < 0) = false := by have := HC.out.1; simpa using this
              by_cases hz : cv = 0
              · subst hz
                have g2 := HC.out.2.1 rfl
                have g3 : decide ((j' : Int) > (j : Int)) = false := by simp; omega
                have g4 : decide ((j : Int) < (j' : Int)) = false := by simp; omega
                have g5 : decide (j < j') = false := by simp; omega
                clear g1 g2
                go_wp2_with (fail)
                go_roundw
                case rel => exact ⟨k + 1, lo3, by omega, by go_num, by rw [HQ.out.2.2.2.2.2.2], H7.out.1, H7.out.2, H3.out.2.2⟩
                case measure => simp [intOf]; omega
              · have g2 : (cv == 0) = false := by simpa using hz
                clear hz
                go_wp2_with (fail)
                go_roundw
                case rel => exact ⟨k + 1, lo3, by omega, by go_num, by rw [HQ.out.2.2.2.2.2.2], H7.out.1, H7.out.2, H3.out.2.2⟩
                case measure => simp [intOf]; omega
        · have hkk : k = n := by omega
          subst hkk
          have e1 : decide ((k : Int) < (k : Int)) = false := by simp
          rw [List.drop_eq_nil_of_le (by rw [H.out.2.2.2.2.2]; exact Nat.le_refl _)] at hq
          have hfi := qfirst_is hq
          simp only [firO] at hfi
          have HQ := Lib.hid (And.intro hq hB)
          clear hq hB hki
          go_wp2_with (first
            | (go_at_call 18; (with_reducible refine hfi.mono ?_); rintro e w2 ⟨rfl, hB2⟩; have hll := qlen_is (HQ.out.1.below hB2); have H2 := Lib.hid (HQ.out.2.trans (hB2.mono HQ.out.2.size)); clear hfi hB2)
            | (go_at_call 21; refine hll.mono ?_; rintro e w4 ⟨rfl, hB4⟩; have H4 := Lib.hid (H2.out.trans (hB4.mono H2.out.size)); clear hll hB4)
            | (go_at_call 7; refine (awake_any _).mono ?_; rintro e w5 ⟨rfl, hB5⟩))
          go_ret
          exact ⟨rfl, H4.out.trans (hB5.mono H4.out.size)⟩
theorem first_all (av : Option Addr) (len cap : Nat) (w : World) (hm : len ≤ maxLen) (hP : Prios w av len) :
    Calls Try.prog 4 #[.slice av len cap] w fun e w' => e = .returned (.bool true) ∧ Below w.heap.size w w' := by
  by_cases hl : 60 < len
  · exact first_long av len cap hm hl w
  · obtain ⟨P, hP⟩ := hP.fn
    exact first_walk av len cap P (by omega) w hP
end Go.Proofs.Ytpajebedeacpgaa
