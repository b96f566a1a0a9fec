/-
  The document's table: Remove.
-/
import Derived.Test.YtchnjfmimpikcaaGreatDoorQEn
namespace Go.Proofs.YtchnjfmimpikcaaGreatDoor
set_option linter.unusedSimpArgs false
set_option linter.unusedVariables false
open Go.RowKit Own RegC Three Two
open RegJ hiding Up
open RegF hiding put_size
open Go.Lib hiding intOf

/-- the list behind so many rounds -/
def dmid (es : List En) (j q : Nat) : List En := if q ≤ j then es.take q else es.take j ++ (es.drop (j + 1)).take (q - (j + 1))
theorem dm_lt {es : List En} {j q : Nat} {y : En} (h : q < j) (hy : es[q]? = some y) : dmid es j q ++ [y] = dmid es j (q + 1) := by
  unfold dmid
  rw [if_pos (by omega), if_pos (by omega), List.take_add_one, hy]; rfl
theorem dm_eq {es : List En} {j : Nat} : dmid es j j = dmid es j (j + 1) := by
  unfold dmid
  rw [if_pos (Nat.le_refl _), if_neg (by omega), Nat.sub_self, List.take_zero, List.append_nil]
theorem dm_gt {es : List En} {j q : Nat} {y : En} (h : j < q) (hy : es[q]? = some y) : dmid es j q ++ [y] = dmid es j (q + 1) := by
  unfold dmid
  rw [if_neg (by omega), if_neg (by omega), show q + 1 - (j + 1) = (q - (j + 1)) + 1 by omega, List.take_add_one, List.getElem?_drop, show j + 1 + (q - (j + 1)) = q by omega, hy]
  simp
theorem dm_end {es : List En} {j : Nat} (h : j < es.length) : dmid es j es.length = delE es j := by
  unfold dmid delE
  rw [if_neg (by omega), List.take_of_length_le (l := es.drop (j + 1)) (by rw [List.length_drop]; omega)]
theorem dm_len {es : List En} {j q : Nat} : (dmid es j q).length ≤ q := by
  unfold dmid
  split
  · rw [List.length_take]; omega
  · rw [List.length_append, List.length_take, List.length_take]; omega
/-- behind the list: what is left to do -/
structure RTr (w w1 : World) (O : Nat → Prop) (rb sb n N : Nat) (ns : NSt) (i : Nat) (nd : Nd) (es : List En) (k : Nat) (nk nk' : Nd) (v : Value) : Prop where
  k16 : k < 16
  nf : ∀ o, w1.frozen? ⟨rb, o, none⟩ = false
  ck : (w1.setCell ⟨rb, 1 + i * 5 + 4, none⟩ v).cell? ⟨rb, 1 + k * 5 + 2, none⟩ = some (.int .i64 nk.links)
  fin : QP w O rb sb n N (nsPut (nsPut ns i (some (setEs nd es))) k (some (addL nk' (-1)))) (((w1.setCell ⟨rb, 1 + i * 5 + 4, none⟩ v).setCell ⟨rb, 1 + k * 5 + 2, none⟩ (.int .i64 (nk.links - 1))).drew)
section
variable {w w' : World} {O : Nat → Prop} {rb sb n N c : Nat} {ns ns' : NSt} {vs : Nat → Value} {fs : Sfs}
theorem rrem_tail (hT : QV w O rb sb n N ns vs (filesOf ns)) {i : Nat} {nd : Nd} (hi : ns i = some nd) {k : Nat} {nk nk' : Nd} {es : List En} (hk' : nsPut ns i (some (setEs nd es)) k = some nk') (hl' : nk'.links = nk.links) (h8 : es.length ≤ 8) {w1 : World} {v : Value} (hq : EQ w w1 v es) :
    RTr w w1 O rb sb n N ns i nd es k nk nk' v := by
  obtain ⟨hO2, hnf, hu2⟩ := ents_tail hT hi h8 hq
  obtain ⟨k16, _, _, ck, _⟩ := hO2.cells hk'
  have hn := hO2.num (f := 2) (nd' := addL nk' (-1)) hk' (by omega) (.int .i64 (nk'.links - 1)) (fun _ => rfl) rfl rfl rfl
  rw [hl'] at ck hn
  have hz : ((w1.setCell ⟨rb, 1 + i * 5 + 4, none⟩ v).setCell ⟨rb, 1 + k * 5 + 2, none⟩ (.int .i64 (nk.links - 1))).drew.heap.size = w1.heap.size := by simp [World.setCell]
  refine ⟨k16, hnf, ck, ?_, hu2.trans hn.2 (fun q hq hx => hx.1.elim (fun h => h) (fun h => by omega))⟩
  rw [nx_same hz]; exact hn.1
end
def RRemP (w : World) (O : Nat → Prop) (rb sb n N : Nat) (ns : NSt) (i : Nat) (nd : Nd) (j : Nat) (nm : Txt) (e : Ending) (w' : World) : Prop :=
  (isAt nd.es nm j = false ∧ e = .returned (.int .i64 9) ∧ w = w') ∨ ∃ (k : Nat) (nk : Nd), nd.es[j]? = some (nm, (k : Int)) ∧ ns k = some nk ∧
    ((nk.dir = true ∧ nk.es ≠ [] ∧ e = .returned (.int .i64 13) ∧ w = w') ∨
     (¬ (nk.dir = true ∧ nk.es ≠ []) ∧ e = .returned (.int .i64 0) ∧ QP w O rb sb n N (gone 17 (nsRem ns i nd j k) k) w'))
section
variable {w w' : World} {O : Nat → Prop} {rb sb n N c : Nat} {ns ns' : NSt} {vs : Nat → Value} {fs : Sfs}
set_option maxRecDepth 100000 in
theorem rrem_no (h : QO w O rb sb n N ns) (dir : Int) (nm : Txt) (hd : dirAt ns dir = none) : Calls Tryz.prog 119 #[.pointer (some ⟨rb, 0, none⟩), .int .i64 dir, .string (B nm)] w fun e w' => e = .returned (.int .i64 11) ∧ w = w' := by
  obtain ⟨vs, hT⟩ := h
  have hf := rFind_no hT dir nm hd
  clear hT hd
  generalize B nm = s at *
  go_enter Tryz.func119, Tryz.ntmps119
  go_wp2_with (go_at_call 94; refine hf.mono ?_; rintro e w' ⟨rfl, rfl⟩)
  go_ret
  exact ⟨rfl, rfl⟩
set_option maxRecDepth 100000 in
set_option maxHeartbeats 4000000 in
theorem rrem_is (h : QO w O rb sb n N ns) (hN : N ≤ 900) (hV : Inv ns []) (i : Nat) (nm : Txt) (nd : Nd) (hi : ns i = some nd) (hd : nd.dir = true) (h8 : nd.es.length ≤ 8) (hS : Srt nd.es) (j : Nat) (hA : At nd.es nm j) :
    Calls Tryz.prog 119 #[.pointer (some ⟨rb, 0, none⟩), .int .i64 i, .string (B nm)] w (RRemP w O rb sb n N ns i nd j nm) := by
  cases hia : isAt nd.es nm j with
  | false =>
    have hf := rFind_miss h hi hd (at_miss hA hS hia)
    have HI := Lib.hid hia
    clear h hV hi hd h8 hS hA hia
    generalize B nm = s at *
    go_enter Tryz.func119, Tryz.ntmps119
    go_wp2_with (go_at_call 94; refine hf.mono ?_; rintro e w' ⟨rfl, rfl⟩)
    go_ret
    exact Or.inl ⟨HI.out, rfl, rfl⟩
  | true =>
    obtain ⟨x, hx⟩ := at_hit hia
    have hxb := hV.ids i nd hi _ (List.mem_of_getElem? hx)
    simp only at hxb
    obtain ⟨k, rfl⟩ : ∃ k : Nat, x = k := ⟨x.toNat, by omega⟩
    have hf := rFind_hit h hi hd hS hx
    obtain ⟨hdec, nk', hk', hde⟩ := (hV.del hi hx).dec
    simp only [Int.toNat_natCast] at hdec hk' hde
    obtain ⟨nk, hk, hll⟩ : ∃ nk, ns k = some nk ∧ nk'.links = nk.links := by
      by_cases e : k = i
      · subst e; rw [put_eq] at hk'; cases hk'; exact ⟨nd, hi, rfl⟩
      · rw [put_ne _ _ _ e] at hk'; exact ⟨nk', hk', rfl⟩
    have hjl : j < nd.es.length := (List.getElem?_eq_some_iff.1 hx).1
    have hl0 := hV.links hk
    have hl1 := hV.bnd k nk hk
    obtain ⟨vs, hT⟩ := h
    obtain ⟨h16, c0, c1, c2, c3, c4⟩ := hT.cells hi
    obtain ⟨⟨brow, hrow, -⟩, _⟩ := hT.row i nd hi
    obtain ⟨a, c, hv⟩ := hrow.slice
    rw [List.length_map] at hv
    rw [hv] at c4 hrow
    obtain ⟨hk16, e0, e1, e2, e3, e4⟩ := hT.cells hk
    obtain ⟨⟨browk, hrowk, -⟩, _⟩ := hT.row k nk hk
    obtain ⟨ak, ck, hvk⟩ := hrowk.slice
    rw [List.length_map] at hvk
    rw [hvk] at e4
    have i1 : (i : Int) < 16 := by omega
    have i2 : (0 : Int) ≤ i := by omega
    have i3 : (k : Int) < 16 := by omega
    have i4 : (0 : Int) ≤ k := by omega
    by_cases hdd : nk.dir = true ∧ nk.es ≠ []
    · have hlen : 0 < nk.es.length := List.length_pos_iff.2 hdd.2
      have d1 : decide ((nk.es.length : Int) > 0) = true := by simp; omega
      have d1n : decide (nk.es.length > 0) = true := by simpa using hlen
      rw [hdd.1] at e1
      have HR : Hid (RRemP w O rb sb n N ns i nd j nm (.returned (.int .i64 13)) w) := Lib.hid (Or.inr ⟨k, nk, hx, hk, Or.inl ⟨hdd.1, hdd.2, rfl, rfl⟩⟩)
      clear hV hi hd h8 hS hA hia hx hdec hk' hde hk hll hjl hT hrow hrowk hv hvk hdd hlen c0 c1 c2 c3 c4 e0 e2 e3
      generalize nk.es.length = LK at *
      generalize B nm = s at *
      go_enter Tryz.func119, Tryz.ntmps119
      go_wp2_with (go_at_call 94; refine hf.mono ?_; rintro e w' ⟨rfl, rfl⟩)
      go_ret
      exact HR.out
    · have HF0 : Hid (∀ wr, Below w.heap.size w wr → wr.cell? ⟨rb, 1 + i * 5 + 4, none⟩ = some (.slice a nd.es.length c)) := Lib.hid (fun wr hB => by
        obtain ⟨_, _, _, _, _, c4'⟩ := (hT.below hB).cells hi
        rw [hv] at c4'
        exact c4')
      have HF : Hid (∀ wr, Below w.heap.size w wr → ∀ q y, nd.es[q]? = some y → wr.cell? ⟨rb, 1 + i * 5 + 4, none⟩ = some (.slice a nd.es.length c) ∧ ∃ g, a = some ⟨g, 0, none⟩ ∧ wr.cell? ⟨g, q * 2, none⟩ = some (.string (B y.1)) ∧ wr.cell? ⟨g, q * 2 + 1, none⟩ = some (.int .i64 y.2)) := Lib.hid (fun wr hB q y hy => by
        refine ⟨HF0.out wr hB, ?_⟩
        have hr2 := (hrow.below hB).rd q (enV y) (by rw [List.getElem?_map, hy]; rfl)
        obtain ⟨g, hg, r1, r2⟩ := hr2
        exact ⟨g, hg, r1, r2⟩)
      have HT : Hid (∀ w1 v, EQ w w1 v (delE nd.es j) → RTr w w1 O rb sb n N ns i nd (delE nd.es j) k nk nk' v) := Lib.hid (fun w1 v hq => rrem_tail hT hi hk' hll (by rw [delE_len hjl]; omega) hq)
      have HR : Hid (∀ w', QP w O rb sb n N (gone 17 (nsRem ns i nd j k) k) w' → RRemP w O rb sb n N ns i nd j nm (.returned (.int .i64 0)) w') := Lib.hid (fun w' hP => Or.inr ⟨k, nk, hx, hk, Or.inr ⟨hdd, rfl, hP⟩⟩)
      have HD := Lib.hid (And.intro hdec hde)
      have HU : Hid (∀ q y, nd.es[q]? = some y → (decide (y.1 = nm) = decide (q = j))) := Lib.hid (fun q y hy => by
        by_cases e : y.1 = nm
        · have := srt_one hS hy hx e
          rw [decide_eq_true e, decide_eq_true this]
        · rw [decide_eq_false e, decide_eq_false (fun e2 => e (by subst e2; rw [hx] at hy; cases hy; rfl))])
      have HRn : Hid (nsRem ns i nd j k = nsPut (nsPut ns i (some (setEs nd (delE nd.es j)))) k (some (addL nk' (-1)))) := Lib.hid hde
      have HJ := Lib.hid hjl
      have dd : nk.dir = false ∨ (nk.dir = true ∧ nk.es.length = 0) := by
        cases hdk : nk.dir with
        | false => exact Or.inl rfl
        | true => exact Or.inr ⟨rfl, by
            have : ¬ nk.es ≠ [] := fun h => hdd ⟨hdk, h⟩
            have : nk.es = [] := by simpa using this
            rw [this]; rfl⟩
      clear hV hi hd hS hA hia hx hdec hk' hde hk hll hjl hT hrow hrowk hv hvk hdd c0 c1 c2 c3 e0 e3 hxb
      generalize hLL : nd.es.length = L at *
      have HL := Lib.hid hLL
      clear hLL
      obtain ⟨s, hs0⟩ : ∃ s, B nm = s := ⟨_, rfl⟩
      rw [hs0] at hf ⊢
      have HS := Lib.hid hs0
      clear hs0
      generalize hLK : nk.links = LK at *
      have HLK := Lib.hid hLK
      clear hLK
      rcases dd with dd | ⟨dd, dl⟩
      · rw [dd] at e1
        clear dd
        go_enter Tryz.func119, Tryz.ntmps119
        go_wp2_with (go_at_call 94; refine hf.mono ?_; rintro e w' ⟨rfl, rfl⟩)
        clear hf e1 e4
        go_loopw [9, 10] (fun v9 v10 wr => ∃ q : Nat, q ≤ L ∧ v10 = .int .i64 q ∧ Hid (EQ w wr v9 (dmid nd.es j q))) (fun _ v10 _ => L - (intOf v10).toNat)
        case atStart => exact ⟨0, Nat.zero_le _, rfl, Lib.hid (by unfold dmid; rw [if_pos (Nat.zero_le _)]; exact EQ.nil w)⟩
        case round =>
          obtain ⟨q, hq, rfl, HQ⟩ := hrel
          obtain ⟨a2, q2, rfl⟩ := HQ.out.slice
          generalize hML : (dmid nd.es j q).length = ML at *
          have HML := Lib.hid hML
          clear hML
          by_cases hql : q < L
          · have d1 : decide ((q : Int) < (L : Int)) = true := by simp; omega
            have d1n : decide (q < L) = true := by simp; omega
            have i5 : (q : Int) < (L : Int) := by omega
            have i6 : (0 : Int) ≤ q := by omega
            obtain ⟨y, hy⟩ : ∃ y, nd.es[q]? = some y := ⟨_, List.getElem?_eq_getElem (by rw [HL.out]; exact hql)⟩
            have hBw : Below w.heap.size w wr := by obtain ⟨_, _, _, h⟩ := HQ.out; exact h
            have hml : (dmid nd.es j q).length ≤ q := dm_len
            rw [HML.out] at hml
            obtain ⟨c4', g, rfl, r1, r2⟩ := HF.out wr hBw q y hy
            have HY := Lib.hid (And.intro hy hml)
            clear c4 hBw hml
            obtain ⟨sy, hsy⟩ : ∃ sy, B y.1 = sy := ⟨_, rfl⟩
            rw [hsy] at r1
            have heq : (sy.toList == s.toList) = decide (q = j) := by
              rw [← HS.out, ← hsy, B_list, B_list, beq_dec]
              exact HU.out q y hy
            have HSY := Lib.hid hsy
            clear hsy hy
            rcases Nat.lt_trichotomy q j with hqj | hqj | hqj
            · rw [decide_eq_false (by omega)] at heq
              go_wp2_with (at_builtin; refine wp_ent rfl _ _ rfl _ _ y sy HSY.out HQ.out (by have := HY.out.2; have := HML.out; omega) rfl rfl ?_; intro v2 w2 hq2; have HQ2 := Lib.hid hq2; clear hq2)
              go_roundw
              case rel => exact ⟨q + 1, by omega, by go_num, Lib.hid (by rw [← dm_lt hqj HY.out.1]; exact HQ2.out)⟩
              case measure => simp [intOf]; omega
            · subst hqj
              rw [decide_eq_true rfl] at heq
              go_wp2_with (fail)
              go_roundw
              case rel => exact ⟨q + 1, by omega, by go_num, Lib.hid (by rw [← dm_eq]; exact HQ.out)⟩
              case measure => simp [intOf]; omega
            · rw [decide_eq_false (by omega)] at heq
              go_wp2_with (at_builtin; refine wp_ent rfl _ _ rfl _ _ y sy HSY.out HQ.out (by have := HY.out.2; have := HML.out; omega) rfl rfl ?_; intro v2 w2 hq2; have HQ2 := Lib.hid hq2; clear hq2)
              go_roundw
              case rel => exact ⟨q + 1, by omega, by go_num, Lib.hid (by rw [← dm_gt hqj HY.out.1]; exact HQ2.out)⟩
              case measure => simp [intOf]; omega
          · have hqe : q = L := by omega
            subst hqe
            have d1 : decide ((q : Int) < (q : Int)) = false := by simp
            have d1n : decide (q < q) = false := by simp
            have hBw : Below w.heap.size w wr := by obtain ⟨_, _, _, h⟩ := HQ.out; exact h
            have c4' := HF0.out wr hBw
            clear c4 hBw
            go_upto_region 12 with (fail)
            have HE : Hid (EQ w wr (.slice a2 ML q2) (delE nd.es j)) := Lib.hid (by
              have := HQ.out
              rw [← HL.out, dm_end (by rw [HL.out]; exact HJ.out)] at this
              exact this)
            have HTT := Lib.hid (HT.out _ _ HE.out)
            have nf1 := HTT.out.nf
            have ckk := HTT.out.ck
            rw [HLK.out] at ckk
            have mixed : Tryz.prog.follows .mixedOrders = true := by kernel_rfl
            go_upto_region 13 with (fail)
            go_region
            have hfin := HTT.out.fin
            rw [HLK.out] at hfin
            have HG := Lib.hid hfin
            clear hfin
            generalize ((wr.setCell ⟨rb, 1 + i * 5 + 4, none⟩ (.slice a2 ML q2)).setCell ⟨rb, 1 + k * 5 + 2, none⟩ (.int .i64 (LK - 1))).drew = w5 at *
            have hst := qgone_is rb sb n N hN 17 _ _ _ k (addL nk' (-1)) [] HG.out.1 (put_eq _ _ _) (by rw [← HRn.out]; exact HD.out.1) (by have := lenN_le (nsPut (nsPut ns i (some (setEs nd (delE nd.es j)))) k (some (addL nk' (-1)))) 16; omega)
            go_wp2_with (go_at_call 97; (with_reducible refine hst.mono ?_); rintro e w6 ⟨⟨v6, rfl⟩, hP6, -⟩; have H6 := Lib.hid hP6; clear hst hP6)
            go_ret
            refine HR.out _ ?_
            rw [HRn.out]
            exact QP.trans HG.out.2 H6.out
      · rw [dd] at e1
        rw [dl] at e4
        clear dd dl
        go_enter Tryz.func119, Tryz.ntmps119
        go_wp2_with (go_at_call 94; refine hf.mono ?_; rintro e w' ⟨rfl, rfl⟩)
        clear hf e1 e4
        go_loopw [9, 10] (fun v9 v10 wr => ∃ q : Nat, q ≤ L ∧ v10 = .int .i64 q ∧ Hid (EQ w wr v9 (dmid nd.es j q))) (fun _ v10 _ => L - (intOf v10).toNat)
        case atStart => exact ⟨0, Nat.zero_le _, rfl, Lib.hid (by unfold dmid; rw [if_pos (Nat.zero_le _)]; exact EQ.nil w)⟩
        case round =>
          obtain ⟨q, hq, rfl, HQ⟩ := hrel
          obtain ⟨a2, q2, rfl⟩ := HQ.out.slice
          generalize hML : (dmid nd.es j q).length = ML at *
          have HML := Lib.hid hML
          clear hML
          by_cases hql : q < L
          · have d1 : decide ((q : Int) < (L : Int)) = true := by simp; omega
            have d1n : decide (q < L) = true := by simp; omega
            have i5 : (q : Int) < (L : Int) := by omega
            have i6 : (0 : Int) ≤ q := by omega
            obtain ⟨y, hy⟩ : ∃ y, nd.es[q]? = some y := ⟨_, List.getElem?_eq_getElem (by rw [HL.out]; exact hql)⟩
            have hBw : Below w.heap.size w wr := by obtain ⟨_, _, _, h⟩ := HQ.out; exact h
            have hml : (dmid nd.es j q).length ≤ q := dm_len
            rw [HML.out] at hml
            obtain ⟨c4', g, rfl, r1, r2⟩ := HF.out wr hBw q y hy
            have HY := Lib.hid (And.intro hy hml)
            clear c4 hBw hml
            obtain ⟨sy, hsy⟩ : ∃ sy, B y.1 = sy := ⟨_, rfl⟩
            rw [hsy] at r1
            have heq : (sy.toList == s.toList) = decide (q = j) := by
              rw [← HS.out, ← hsy, B_list, B_list, beq_dec]
              exact HU.out q y hy
            have HSY := Lib.hid hsy
            clear hsy hy
            rcases Nat.lt_trichotomy q j with hqj | hqj | hqj
            · rw [decide_eq_false (by omega)] at heq
              go_wp2_with (at_builtin; refine wp_ent rfl _ _ rfl _ _ y sy HSY.out HQ.out (by have := HY.out.2; have := HML.out; omega) rfl rfl ?_; intro v2 w2 hq2; have HQ2 := Lib.hid hq2; clear hq2)
              go_roundw
              case rel => exact ⟨q + 1, by omega, by go_num, Lib.hid (by rw [← dm_lt hqj HY.out.1]; exact HQ2.out)⟩
              case measure => simp [intOf]; omega
            · subst hqj
              rw [decide_eq_true rfl] at heq
              go_wp2_with (fail)
              go_roundw
              case rel => exact ⟨q + 1, by omega, by go_num, Lib.hid (by rw [← dm_eq]; exact HQ.out)⟩
              case measure => simp [intOf]; omega
            · rw [decide_eq_false (by omega)] at heq
              go_wp2_with (at_builtin; refine wp_ent rfl _ _ rfl _ _ y sy HSY.out HQ.out (by have := HY.out.2; have := HML.out; omega) rfl rfl ?_; intro v2 w2 hq2; have HQ2 := Lib.hid hq2; clear hq2)
              go_roundw
              case rel => exact ⟨q + 1, by omega, by go_num, Lib.hid (by rw [← dm_gt hqj HY.out.1]; exact HQ2.out)⟩
              case measure => simp [intOf]; omega
          · have hqe : q = L := by omega
            subst hqe
            have d1 : decide ((q : Int) < (q : Int)) = false := by simp
            have d1n : decide (q < q) = false := by simp
            have hBw : Below w.heap.size w wr := by obtain ⟨_, _, _, h⟩ := HQ.out; exact h
            have c4' := HF0.out wr hBw
            clear c4 hBw
            go_upto_region 12 with (fail)
            have HE : Hid (EQ w wr (.slice a2 ML q2) (delE nd.es j)) := Lib.hid (by
              have := HQ.out
              rw [← HL.out, dm_end (by rw [HL.out]; exact HJ.out)] at this
              exact this)
            have HTT := Lib.hid (HT.out _ _ HE.out)
            have nf1 := HTT.out.nf
            have ckk := HTT.out.ck
            rw [HLK.out] at ckk
            have mixed : Tryz.prog.follows .mixedOrders = true := by kernel_rfl
            go_upto_region 13 with (fail)
            go_region
            have hfin := HTT.out.fin
            rw [HLK.out] at hfin
            have HG := Lib.hid hfin
            clear hfin
            generalize ((wr.setCell ⟨rb, 1 + i * 5 + 4, none⟩ (.slice a2 ML q2)).setCell ⟨rb, 1 + k * 5 + 2, none⟩ (.int .i64 (LK - 1))).drew = w5 at *
            have hst := qgone_is rb sb n N hN 17 _ _ _ k (addL nk' (-1)) [] HG.out.1 (put_eq _ _ _) (by rw [← HRn.out]; exact HD.out.1) (by have := lenN_le (nsPut (nsPut ns i (some (setEs nd (delE nd.es j)))) k (some (addL nk' (-1)))) 16; omega)
            go_wp2_with (go_at_call 97; (with_reducible refine hst.mono ?_); rintro e w6 ⟨⟨v6, rfl⟩, hP6, -⟩; have H6 := Lib.hid hP6; clear hst hP6)
            go_ret
            refine HR.out _ ?_
            rw [HRn.out]
            exact QP.trans HG.out.2 H6.out
/-- removed, as the program's -/
theorem qremove_f (h : QO w O rb sb n N ns) (hN : N ≤ 900) (hV : IV ns c) (d : Int) (nm : Txt) (r : Int) (ns' : NSt) (hr : rmvF ns d nm = (r, ns')) :
    Calls Tryz.prog 119 #[.pointer (some ⟨rb, 0, none⟩), .int .i64 d, .string (B nm)] w fun e w' => e = .returned (.int .i64 r) ∧ QP w O rb sb n N ns' w' := by
  unfold rmvF at hr
  cases hd : dirAt ns d with
  | none =>
    rw [hd] at hr; cases hr
    refine (rrem_no h d nm hd).mono ?_
    rintro e w' ⟨rfl, rfl⟩
    exact ⟨rfl, h.refl⟩
  | some nd =>
    rw [hd] at hr
    simp only at hr
    obtain ⟨i, rfl, hi, hdir⟩ := dirAt_some hd
    simp only [Int.toNat_natCast] at hr
    have hS := hV.srt i nd hi
    refine (rrem_is h hN hV.inv i nm nd hi hdir (hV.len i nd hi) hS (plc nd.es nm) (plc_at hS nm)).mono ?_
    rintro e w' hq
    rcases hq with ⟨hno, rfl, rfl⟩ | ⟨k, nk, hx, hk, hq⟩
    · have hr' : (r, ns') = (9, ns) := by
        rw [← hr]
        unfold isAt at hno
        cases hx : nd.es[plc nd.es nm]? with
        | none => rfl
        | some x =>
          rw [hx] at hno
          simp only at hno ⊢
          rw [if_neg (by simpa using hno)]
      cases hr'
      exact ⟨rfl, h.refl⟩
    · rw [hx] at hr
      simp only [if_true, Int.toNat_natCast] at hr
      rw [hk] at hr
      simp only at hr
      rcases hq with ⟨h1, h2, rfl, rfl⟩ | ⟨h1, rfl, hP⟩
      · rw [if_pos ⟨h1, h2⟩] at hr
        cases hr
        exact ⟨rfl, h.refl⟩
      · rw [if_neg h1] at hr
        cases hr
        exact ⟨rfl, hP⟩
end
end Go.Proofs.YtchnjfmimpikcaaGreatDoor
