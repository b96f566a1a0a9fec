/-
  ReadyTurned: the walk.
-/
import Derived.Test.YtpajebedeacpgaaRtwo
namespace Go.Proofs.Ytpajebedeacpgaa
set_option linter.unusedSimpArgs false
set_option linter.unusedVariables false
open Go.RowKit Own Sl Pair
open RegJ hiding Up
open RegF hiding put_size

def TurP (w : World) (e : Ending) (w' : World) : Prop := e = .returned (.bool true) ∧ Below w.heap.size w w'
/-- two new queues -/
theorem two_new {w w1 w2 wb : World} {qa qb : Nat} {la lb : Lo} {bx : Nat} (hb : Below w.heap.size w wb) (hbx : w.heap.size ≤ bx ∧ bx < wb.heap.size) (h1 : QA w1 qa [] la 0) (hB1 : Below wb.heap.size wb w1) (h2 : ∀ r k, la r = some k → wb.heap.size ≤ k)
    (h3 : QA w2 qb [] lb 0) (hB2 : Below w1.heap.size w1 w2) (h4 : ∀ r k, lb r = some k → w1.heap.size ≤ k) : Two w w2 (QPa qa [] 0) (QPa qb [] 0) (fun k => k = bx) := by
  have z1 := hb.size
  have z2 := hB1.size
  have z3 := hB2.size
  refine ⟨⟨_, _, ⟨Nat.le_refl _, la, h1.below hB2, rfl⟩, ⟨Nat.le_refl _, lb, h3, rfl⟩, fun k ⟨r, hr⟩ ⟨r', hr'⟩ => ?_, fun k hk => ?_⟩, fun k hk => by omega, (hb.trans (hB1.mono z1)).trans (hB2.mono (by omega))⟩
  · obtain ⟨R, W, hQ, _⟩ := h1.ex
    have := hQ.lt r k hr
    have := h4 r' k hr'
    omega
  · rcases hk with ⟨r, hr⟩ | ⟨r, hr⟩
    · have := h2 r k hr; omega
    · have := h4 r k hr; omega
set_option maxRecDepth 100000 in
theorem turned_out (av : Option Addr) (len cap : Nat) (z c l d : Int) (hm : len ≤ maxLen) (hl : 40 < len ∨ len = 0) (w : World) :
    Calls Try.prog 6 #[.slice av len cap, .int .i64 z, .agg #[.int .i64 c, .int .i64 l, .int .i64 d]] w (TurP w) := by
  unfold maxLen at hm
  have hB0 := Lib.hid (blk3 w c l d)
  rcases hl with hl | hl
  · have d1 : decide ((len : Int) > 40) = true := by simp; omega
    go_enter Try.func6, Try.ntmps6
    go_wp2_with (go_at_call 7; refine (awake_any _).mono ?_; rintro e w' ⟨rfl, hB⟩)
    go_ret
    exact ⟨rfl, hB0.out.trans (hB.mono hB0.out.size)⟩
  · subst hl
    go_enter Try.func6, Try.ntmps6
    go_wp2_with (go_at_call 7; refine (awake_any _).mono ?_; rintro e w' ⟨rfl, hB⟩)
    go_ret
    exact ⟨rfl, hB0.out.trans (hB.mono hB0.out.size)⟩
/-- both queues' lists, read -/
def SaP (w : World) (l1 l2 : List Int) (v1 v2 : Value) (w' : World) : Prop := Below w.heap.size w w' ∧ RdI w' v1 l1 ∧ RdI w' v2 l2
theorem iq_rd {w w1 w2 : World} {v : Value} {l : List Int} (h : IQ w w1 v l) (hB : Below w1.heap.size w1 w2) : RdI w2 v l := by
  obtain ⟨b, hi, _, _⟩ := h
  exact (hi.upd (Upd.of_below (F := fun _ => False) hB) (fun _ _ h => h)).rdI
theorem iq_below {w w1 : World} {v : Value} {l : List Int} (h : IQ w w1 v l) : Below w.heap.size w w1 := by
  obtain ⟨b, _, _, hB⟩ := h
  exact hB
theorem drewN_below (w : World) (n : Nat) : Below w.heap.size w (w.drewN n) := ((Upd.refl (fun _ => False) w).drewN n).below (Nat.le_refl _) (fun _ h => h.elim)
set_option maxRecDepth 100000 in
set_option maxHeartbeats 4000000 in
theorem turned_walk (av : Option Addr) (len cap : Nat) (z c l d : Int) (P : Nat → Pr) (h0 : 0 < len) (hl : len ≤ 40) (w : World) (hP : PrAt w av len P) :
    Calls Try.prog 6 #[.slice av len cap, .int .i64 z, .agg #[.int .i64 c, .int .i64 l, .int .i64 d]] w (TurP w) := by
  have d1 : decide ((len : Int) > 40) = false := by simp; omega
  have d2 : ((len : Int) == 0) = false := by simp; omega
  have HK := Lib.hid hP
  have hbx := Blk.new w #[.int .i64 c, .int .i64 l, .int .i64 d] 31
  have hn1 := qnew_is (w.alloc (.cells #[.int .i64 c, .int .i64 l, .int .i64 d] 31))
  have hb0 := blk3 w c l d
  have H0 := Lib.hid (And.intro hb0 hbx)
  clear hP hbx hb0
  go_enter Try.func6, Try.ntmps6
  go_upto_region 6 with (first
    | (go_at_call 8; (with_reducible refine hn1.mono ?_); rintro e w1 ⟨qa, la, rfl, hq, hB, hlo⟩; have hn2 := qnew_is w1; have H1 := Lib.hid (And.intro hq (And.intro hB hlo)); clear hn1 hq hB hlo)
    | (go_at_call 8; (with_reducible refine hn2.mono ?_); rintro e w2 ⟨qb, lb, rfl, hq, hB, hlo⟩; have H2 := Lib.hid (And.intro hq (And.intro hB hlo)); clear hn2 hq hB hlo))
  have hT := two_new (bx := w.heap.size) H0.out.1 ⟨Nat.le_refl _, H0.out.2.lt⟩ H1.out.1 H1.out.2.1 H1.out.2.2 H2.out.1 H2.out.2.1 H2.out.2.2
  have hX := Blk.below H2.out.2.1 (Blk.below H1.out.2.1 H0.out.2 H0.out.2.lt) (by have := (Blk.below H1.out.2.1 H0.out.2 H0.out.2.lt).lt; exact this)
  have HT := Lib.hid (And.intro hT hX)
  clear hT hX H0 H1 H2
  generalize w.heap.size = bx at *
  go_wp2
  go_loopw [9] (fun ix wr => ∃ i : Nat, i ≤ len ∧ ix = .int .i64 i ∧ Two w wr (QPa qa (addAll P i) i) (QPa qb (addRev P len i) i) (fun k => k = bx) ∧ Blk wr bx #[.int .i64 c, .int .i64 l, .int .i64 d] 31) (fun ix _ => len - (intOf ix).toNat)
  case atStart => exact ⟨0, Nat.zero_le _, rfl, HT.out.1, HT.out.2⟩
  case round =>
    obtain ⟨i, hi, rfl, hT, hX⟩ := hrel
    clear HT
    by_cases hil : i < len
    · obtain ⟨g, o, rfl, k1⟩ := HK.out i hil
      obtain ⟨g', o', eg, k2⟩ := HK.out (len - 1 - i) (by omega)
      obtain ⟨rfl, rfl⟩ : g' = g ∧ o' = o := by injection eg with eg; injection eg with e1 e2; exact ⟨e1.symm, e2.symm⟩
      obtain ⟨c1, c2, c3⟩ := k1.below hT.bel (Nat.le_refl _)
      have i1 : (i : Int) < (len : Int) := by omega
      have i2 : (0 : Int) ≤ i := by omega
      have d3 : decide ((i : Int) < (len : Int)) = true := by simp; omega
      obtain ⟨m, hm⟩ : ∃ m, len - 1 - i = m := ⟨_, rfl⟩
      have em : (len : Int) - 1 - (i : Int) = (m : Int) := by omega
      have i3 : (m : Int) < (len : Int) := by omega
      have i4 : (0 : Int) ≤ m := by omega
      have hadd := hT.left (fun O hO => p_add hO ((i : Int), P i) (wf_nat (by omega)) (by omega))
      rw [hm] at k2
      unfold prV at hadd
      simp only at hadd
      have H := Lib.hid (And.intro hX (And.intro k2 hm))
      clear hT hX k1 k2 eg hm
      go_wp2_with (first
        | (go_at_call 10; (with_reducible refine hadd.mono ?_); rintro e w3 ⟨rfl, hT3, hu3⟩; obtain ⟨f1, f2, f3⟩ := H.out.2.1.below hT3.bel (Nat.le_refl _); have hadd2 := hT3.right (fun O hO => p_add hO ((m : Int), P m) (wf_nat (by omega)) (by omega)); unfold prV at hadd2; simp only at hadd2; have H3 := Lib.hid hu3; clear hadd hT3 hu3)
        | (go_at_call 10; (with_reducible refine hadd2.mono ?_); rintro e w4 ⟨rfl, hT4, hu4⟩; have H4 := Lib.hid (And.intro hT4 hu4); clear hadd2 hT4 hu4))
      go_roundw
      case rel =>
        refine ⟨i + 1, by omega, by go_num, ?_, Blk.upd H4.out.2 (Blk.upd H3.out H.out.1 (fun h => h rfl)) (fun h => h rfl)⟩
        have := H4.out.1
        rw [← H.out.2.2] at this
        exact this
      case measure => simp [intOf]; omega
    · have hil' : i = len := by omega
      subst hil'
      have d3 : decide ((i : Int) < (i : Int)) = false := by simp
      obtain ⟨Oa, ha⟩ := hT.atl
      obtain ⟨Ob, hb⟩ := hT.atr
      rw [turned_same (p_gd ha) (p_gd hb)] at hT hb
      generalize addAll P i = L0 at *
      have hal1 := p_all ha (by omega)
      have H := Lib.hid (And.intro hT hX)
      clear hT hX ha hb hil
      go_upto_region 13 with (first
        | (go_at_call 16; (with_reducible refine hal1.mono ?_); rintro e w3 ⟨v1, rfl, hq1⟩; have hT3 := H.out.1.below (iq_below hq1); have hal2 := p_all hT3.atr.choose_spec (by omega); have H3 := Lib.hid (And.intro hq1 hT3); clear hal1 hq1 hT3)
        | (go_at_call 16; (with_reducible refine hal2.mono ?_); rintro e w4 ⟨v2, rfl, hq2⟩; have hsm := same_any (iq_rd H3.out.1 (iq_below hq2)) (iq_rd hq2 (Below.refl _ _)) true (by simp); have H4 := Lib.hid (H3.out.2.below (iq_below hq2)); have HB4 := Lib.hid ((iq_below H3.out.1).trans ((iq_below hq2).mono (iq_below H3.out.1).size)); clear hal2 hq2)
        | (go_at_call 22; refine hsm.mono ?_; rintro e w5 ⟨rfl, q5, rfl⟩; clear hsm))
      have hT5 := H4.out.drewN q5
      have hX5 := Blk.below (HB4.out.trans ((drewN_below w4 q5).mono HB4.out.size)) H.out.2 H.out.2.lt
      generalize w4.drewN q5 = w5 at *
      clear H H3 H4 HB4
      have hlw := low_any z i (by omega) (by omega)
      have hlb := low_bd z i (by omega)
      have c1 := hX5.rd
      obtain ⟨kk, hkk⟩ : ∃ kk : Nat, lowF z i = kk := ⟨(lowF z i).toNat, by omega⟩
      rw [hkk] at hlb
      rw [hkk] at hlw
      have hki : kk < i := by omega
      clear hlb hkk
      have hwk := wf_nat (n := kk) (by omega)
      have hha := p_has hT5.atl.choose_spec kk hwk
      have H5 := Lib.hid (And.intro hT5 hX5)
      clear hT5 hX5
      cases hho : hasO L0 kk with
      | false =>
        rw [hho] at hha
        go_wp2_with (first
          | (go_at_call 26; refine (hlw _).mono ?_; rintro e w6 ⟨rfl, rfl⟩)
          | (go_at_call 19; (with_reducible refine hha.mono ?_); rintro e w6 ⟨rfl, hB6⟩; have H6 := Lib.hid (H5.out.1.bel.trans (hB6.mono H5.out.1.bel.size)); clear hha hB6)
          | (go_at_call 7; refine (awake_any _).mono ?_; rintro e w7 ⟨rfl, hB7⟩))
        go_ret
        exact ⟨rfl, H6.out.trans (hB7.mono H6.out.size)⟩
      | true =>
        rw [hho] at hha
        have hmy := may_is (c, l, d)
        unfold prV at hmy
        simp only at hmy
        cases hmm : may (c, l, d) with
        | false =>
          rw [hmm] at hmy
          go_wp2_with (first
            | (go_at_call 26; refine (hlw _).mono ?_; rintro e w6 ⟨rfl, rfl⟩)
            | (go_at_call 19; (with_reducible refine hha.mono ?_); rintro e w6 ⟨rfl, hB6⟩; have H6 := Lib.hid (H5.out.1.bel.trans (hB6.mono H5.out.1.bel.size)); have hX6 := Blk.below hB6 H5.out.2 H5.out.2.lt; clear c1; have c1 := hX6.rd; clear hha hB6 hX6)
            | (go_at_call 24; (with_reducible refine (hmy _).mono ?_); rintro e w7 ⟨rfl, hB7⟩; have H7 := Lib.hid (H6.out.trans (hB7.mono H6.out.size)); clear hmy hB7)
            | (go_at_call 7; refine (awake_any _).mono ?_; rintro e w8 ⟨rfl, hB8⟩))
          go_ret
          exact ⟨rfl, H7.out.trans (hB8.mono H7.out.size)⟩
        | true =>
          rw [hmm] at hmy
          have q1 : chgN L0 ((kk : Int), c, l, d) = 0 := by unfold chgN; rw [if_neg (by simp only [hmm]; simp), if_pos hho]
          have q2 : chgL L0 ((kk : Int), c, l, d) = insA (delA L0 kk) ((kk : Int), c, l, d) := by unfold chgL; rw [q1]; rfl
          have q3 : dropL L0 kk = delA L0 kk := by unfold dropL; rw [if_pos hho]
          have hno : hasO (delA L0 kk) kk = false := by
            cases h : hasO (delA L0 kk) kk with
            | false => rfl
            | true => exact absurd (hasO_iff.1 h) (delA_no _)
          have q4 : addN (delA L0 kk) ((kk : Int), c, l, d) = 0 := by unfold addN; rw [if_neg (fun e => by rcases e with e | e; (simp only at e; omega); (simp only [hmm] at e; cases e)), if_neg (by simp only [hno]; simp)]
          have q5 : addL (delA L0 kk) ((kk : Int), c, l, d) = insA (delA L0 kk) ((kk : Int), c, l, d) := by unfold addL; rw [q4]; rfl
          have HQ := Lib.hid (And.intro q1 (And.intro q2 (And.intro q3 (And.intro q4 q5))))
          clear q1 q2 q3 q4 q5 hno
          go_upto_region 18 with (first
            | (go_at_call 26; refine (hlw _).mono ?_; rintro e w6 ⟨rfl, rfl⟩)
            | (go_at_call 19; (with_reducible refine hha.mono ?_); rintro e w6 ⟨rfl, hB6⟩; have hT6 := H5.out.1.below hB6; have hX6 := Blk.below hB6 H5.out.2 H5.out.2.lt; clear c1; have c1 := hX6.rd; have H6 := Lib.hid (And.intro hT6 hX6); clear hha hB6 hX6 hT6)
            | (go_at_call 24; (with_reducible refine (hmy _).mono ?_); rintro e w7 ⟨rfl, hB7⟩; have hT7 := H6.out.1.below hB7; have hX7 := Blk.below hB7 H6.out.2 H6.out.2.lt; clear c1; have c1 := hX7.rd; have hch := hT7.left (fun O hO => p_chg hO ((kk : Int), c, l, d) hwk (by omega)); rw [HQ.out.1, HQ.out.2.1] at hch; unfold prV at hch; simp only at hch; have H7 := Lib.hid hX7; clear hmy hB7 hT7 hX7)
            | (go_at_call 14; (with_reducible refine hch.mono ?_); rintro e w8 ⟨rfl, hT8, hu8⟩; have hX8 := Blk.upd hu8 H7.out (fun h => h rfl); have hdr := hT8.right (fun O hO => p_drop hO kk hwk (by omega)); rw [hho, HQ.out.2.2.1] at hdr; have H8 := Lib.hid hX8; clear hch hT8 hu8 hX8)
            | (go_at_call 12; (with_reducible refine hdr.mono ?_); rintro e w9 ⟨rfl, hT9, hu9⟩; have hX9 := Blk.upd hu9 H8.out (fun h => h rfl); clear c1; have c1 := hX9.rd; have had := hT9.right (fun O hO => p_add hO ((kk : Int), c, l, d) hwk (by omega)); rw [HQ.out.2.2.2.1, HQ.out.2.2.2.2] at had; unfold prV at had; simp only at had; clear hdr hT9 hu9 hX9)
            | (go_at_call 10; (with_reducible refine had.mono ?_); rintro e w10 ⟨rfl, hT10, hu10⟩; clear had hu10))
          have hal1 := p_all hT10.atl.choose_spec (by omega)
          have H10 := Lib.hid hT10
          clear hT10 c1
          go_wp2_with (first
            | (go_at_call 16; (with_reducible refine hal1.mono ?_); rintro e w11 ⟨v1, rfl, hq1⟩; have hT11 := H10.out.below (iq_below hq1); have hal2 := p_all hT11.atr.choose_spec (by omega); have H11 := Lib.hid (And.intro hq1 hT11); clear hal1 hq1 hT11)
            | (go_at_call 16; (with_reducible refine hal2.mono ?_); rintro e w12 ⟨v2, rfl, hq2⟩; have hsm := same_any (iq_rd H11.out.1 (iq_below hq2)) (iq_rd hq2 (Below.refl _ _)) true (by simp); have H12 := Lib.hid (H11.out.2.below (iq_below hq2)); clear hal2 hq2)
            | (go_at_call 22; refine hsm.mono ?_; rintro e w13 ⟨rfl, q13, rfl⟩; have H13 := Lib.hid (H12.out.drewN q13).bel; clear hsm)
            | (go_at_call 7; refine (awake_any _).mono ?_; rintro e w14 ⟨rfl, hB14⟩))
          go_ret
          exact ⟨rfl, H13.out.trans (hB14.mono H13.out.size)⟩
theorem turned_all (av : Option Addr) (len cap : Nat) (z c l d : Int) (w : World) (hm : len ≤ maxLen) (hP : Prios w av len) :
    Calls Try.prog 6 #[.slice av len cap, .int .i64 z, .agg #[.int .i64 c, .int .i64 l, .int .i64 d]] w fun e w' => e = .returned (.bool true) ∧ Below w.heap.size w w' := by
  by_cases hl : 40 < len ∨ len = 0
  · exact turned_out av len cap z c l d hm hl w
  · obtain ⟨P, hP⟩ := hP.fn
    exact turned_walk av len cap z c l d P (by omega) (by omega) w hP
end Go.Proofs.Ytpajebedeacpgaa
