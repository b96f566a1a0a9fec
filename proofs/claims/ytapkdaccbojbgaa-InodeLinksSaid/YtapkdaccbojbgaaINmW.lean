/-
  InodeNames: the walk.
-/
import Derived.Test.YtapkdaccbojbgaaINames
namespace Go.Proofs.Ytapkdaccbojbgaa
set_option linter.unusedSimpArgs false
set_option linter.unusedVariables false
open Go.RowKit Own RegJ Two
open Go.Lib hiding intOf

set_option maxRecDepth 100000 in
theorem names_long (av : Option Addr) (n c : Nat) (gn : Int) (hs : 30 < n) (w : World) :
    Calls Try.prog 3 #[.slice av n c, .int .i64 gn] w fun e w' => e = .returned (.bool true) ∧ Below w.heap.size w w' := by
  have d1 : decide ((n : Int) > 30) = true := by simp; omega
  have d1n : decide (n > 30) = true := by simp; omega
  clear hs
  go_enter Try.func3, Try.ntmps3
  go_wp2_with (go_at_call 7; refine (awake_any _).mono ?_; rintro e w1 ⟨rfl, hB⟩)
  go_ret
  exact ⟨rfl, hB⟩
/-- behind the list -/
structure St2 (w0 : World) (tb : Nat) (es : List En) (v : Value) (xs : List V2) (w : World) : Prop where
  tab : ∃ lo b, TB w tb (nsE es) lo 1 ∧ (∀ r k, lo r = some k → w0.heap.size ≤ k) ∧ Row2 w 37 v xs b ∧ ∀ r g, lo r = some g → b ≠ some g
  bel : Below w0.heap.size w0 w
  one : One1 es
section
variable {w0 w w' : World} {tb : Nat} {es : List En} {v : Value} {xs : List V2}
theorem St2.st (h : St2 w0 tb es v xs w) : St w0 tb es w := by
  obtain ⟨lo, b, h1, h2, _⟩ := h.tab
  exact ⟨⟨lo, h1, h2⟩, h.bel, h.one⟩
theorem St2.row (h : St2 w0 tb es v xs w) : ∃ b, Row2 w 37 v xs b := by
  obtain ⟨lo, b, _, _, h3, _⟩ := h.tab
  exact ⟨b, h3⟩
theorem St2.below (h : St2 w0 tb es v xs w) (hb : Below w.heap.size w w') : St2 w0 tb es v xs w' := by
  obtain ⟨lo, b, h1, h2, h3, h4⟩ := h.tab
  exact ⟨⟨lo, b, h1.below hb, h2, h3.below hb, h4⟩, h.bel.trans (hb.mono h.bel.size), h.one⟩
theorem St.list2 (h : St w0 tb es w) : Calls Try.prog 11 #[.pointer (some ⟨tb, 0, none⟩), .int .i64 0] w fun e w' => ∃ v, e = .returned (.tuple #[v, .int .i64 0]) ∧ St2 w0 tb es v (es.map enV) w' := by
  obtain ⟨lo, hT, hl⟩ := h.tab
  refine (list_yes (nd := ⟨true, 0, 0, es⟩) hT 0 rfl rfl).mono ?_
  rintro e w' ⟨v, b, rfl, hr, hb, hB⟩
  refine ⟨v, rfl, ⟨lo, b, hT.below hB, hl, hr, fun r g hg e => ?_⟩, h.bel.trans (hB.mono h.bel.size), h.one⟩
  have := hT.lt r g hg
  have := hb g e
  omega
theorem St2.remove (h : St2 w0 tb es v xs w) (i : Nat) (x : En) (hx : es[i]? = some x) : Calls Try.prog 14 #[.pointer (some ⟨tb, 0, none⟩), .int .i64 0, .string (B x.1)] w fun e w' => e = .returned (.int .i64 0) ∧ St2 w0 tb (delE es i) v xs w' := by
  obtain ⟨lo, b, hT, hl, hrow, hdj⟩ := h.tab
  obtain ⟨hS, h8⟩ := h.st.srt
  refine (remove_any (nd := ⟨true, 0, 0, es⟩) hT (nsE_inv h.one h8) 0 x.1 rfl rfl).mono ?_
  rintro e w' ⟨j, hA, hq⟩
  obtain ⟨rfl, hat⟩ := at_there hS hx hA
  rcases hq with ⟨hq, _⟩ | ⟨m, ndm, hxm, hm, hq⟩
  · have hq' : isAt es x.1 j = false := hq
    rw [hat] at hq'; cases hq'
  · have hxm' : es[j]? = some (x.1, (m : Int)) := hxm
    have h1 := h.one _ (List.mem_of_getElem? hxm')
    obtain rfl : m = 1 := by simp only at h1; omega
    have hm1 : ndm = ⟨false, es.length, 1, []⟩ := (Option.some.inj hm).symm
    subst hm1
    rcases hq with ⟨hq, _⟩ | ⟨_, rfl, lo', hT', hF⟩
    · cases hq
    · refine ⟨rfl, ?_⟩
      rw [nsE_rem es j (List.getElem?_eq_some_iff.1 hx).1, gone_stay (nd := ⟨false, (delE es j).length, 1, []⟩) rfl (Or.inr (Or.inr Int.one_pos))] at hT'
      obtain ⟨b1, b2⟩ := hF.below hl h.bel.size
      refine ⟨⟨lo', b, hT', b2, hrow.upd hF.1 (fun g hg ⟨r, hr⟩ => hdj r g hr hg), fun r g hr e => ?_⟩, h.bel.trans b1, del_one h.one j⟩
      rcases hF.2 r g hr with ⟨r', h1⟩ | h1
      · exact hdj r' g h1 e
      · have := hrow.lt g e; omega
end
set_option maxRecDepth 100000 in
set_option maxHeartbeats 4000000 in
theorem names_walk (av : Option Addr) (n c : Nat) (xs : List Txt) (gn : Int) (hl : n ≤ 30) (w : World) (hR : RdT w av xs) (hn : xs.length = n) (hsz : ∀ x ∈ xs, x.length ≤ maxLen) :
    Calls Try.prog 3 #[.slice av n c, .int .i64 gn] w fun e w' => e = .returned (.bool true) ∧ Below w.heap.size w w' := by
  have d1 : decide ((n : Int) > 30) = false := by simp; omega
  have d1n : decide (n > 30) = false := by simp; omega
  have HR := Lib.hid (And.intro hR (And.intro hn hsz))
  clear hR hn hsz
  go_enter Try.func3, Try.ntmps3
  go_wp2_with (first
    | (go_at_call 8; refine (both_is w).mono ?_; rintro e w1 ⟨tb, lo, kp, rfl, hT, hB, hb⟩; have hmk := make_is hT (by omega) false; have H1 := Lib.hid (And.intro hB hb); clear hT hB hb)
    | (go_at_call 9; (with_reducible refine hmk.mono ?_); rintro e w2 ⟨r, hf, hq⟩; clear hmk; obtain rfl := free1 hf; rcases hq with ⟨hq, _⟩ | ⟨i, hi, rfl, lo2, hT, hF⟩; (· exact absurd hq (by decide)); obtain rfl : i = 1 := (by omega); clear hf hi; obtain ⟨b1, b2⟩ := hF.below H1.out.2 H1.out.1.size; rw [nsE_ns0] at hT; have H2 := Lib.hid (show St w tb [] w2 from ⟨⟨lo2, hT, b2⟩, H1.out.1.trans b1, fun e he => (by cases he)⟩); clear hT hF b1 b2))
  go_loopw [9, 10] (fun v9 v10 wr => ∃ (i : Nat) (es : List En), i ≤ n ∧ v10 = .int .i64 i ∧ v9 = .int .i64 es.length ∧ Hid (St w tb es wr)) (fun _ v10 _ => n - (intOf v10).toNat)
  case atStart => exact ⟨0, [], Nat.zero_le _, rfl, rfl, H2⟩
  case round =>
    obtain ⟨i, es, hi, rfl, rfl, HS⟩ := hrel
    have h8 := HS.out.srt.2
    by_cases hil : i < n
    · obtain ⟨x, hx⟩ : ∃ x, xs[i]? = some x := ⟨xs[i]'(by rw [HR.out.2.1]; exact hil), List.getElem?_eq_getElem _⟩
      obtain ⟨g, o, rfl, k0⟩ := (HR.out.1) i x hx
      have k0' : wr.cell? ⟨g, o + i, none⟩ = some (.string (B x)) := (HS.out.bel.cell (cell_lt2 k0)).trans k0
      have hen := HS.out.enter x
      clear hx k0
      have d2 : decide ((i : Int) < (n : Int)) = true := by simp; omega
      have i1 : (i : Int) < (n : Int) := by omega
      have i2 : (0 : Int) ≤ i := by omega
      generalize B x = s at *
      by_cases hx2 : 100 < s.size
      · have d3 : decide ((s.size : Int) > 100) = true := by simp; omega
        have d3n : decide (s.size > 100) = true := by simp; omega
        clear hx2 hen
        generalize es.length = L at *
        go_wp2_with (go_at_call 7; refine (awake_any _).mono ?_; rintro e w1 ⟨rfl, hB⟩)
        go_ret
        exact ⟨rfl, HS.out.bel.trans (hB.mono HS.out.bel.size)⟩
      · have d3 : decide ((s.size : Int) > 100) = false := by simp; omega
        have d3n : decide (s.size > 100) = false := by simp; omega
        clear hx2
        generalize hLL : es.length = L at *
        have HLL := Lib.hid hLL
        clear hLL
        go_upto_if 59 with (go_at_call 10; (with_reducible refine hen.mono ?_); rintro e w4 ⟨R, rfl, hq⟩; clear hen; have HQ := Lib.hid hq; clear hq)
        rcases HQ.out with ⟨hne, hS4⟩ | ⟨h0, j, hS4⟩
        · have d5 : (R == 0) = false := by simpa using hne
          have HS4 := Lib.hid hS4
          clear hne hS4
          go_wp2_with (fail)
          go_roundw
          case rel => exact ⟨i + 1, es, by omega, by go_num, by rw [HLL.out], HS4⟩
          case measure => simp [intOf]; omega
        · subst h0
          have HS4 := Lib.hid hS4
          clear hS4
          go_wp2_with (fail)
          go_roundw
          case rel => exact ⟨i + 1, insE es j (x, 1), by omega, by go_num, by rw [insE_len, HLL.out]; go_num, HS4⟩
          case measure => simp [intOf]; omega
    · have d2 : decide ((i : Int) < (n : Int)) = false := by simp; omega
      have d2n : decide (i < n) = false := by simp; omega
      have hls := HS.out.list2
      have HLL : Hid (es.length = es.length) := Lib.hid rfl
      clear hil hi
      have HM : Hid ((es.map enV).length = es.length) := Lib.hid (by simp)
      go_upto_region 20 with (go_at_call 11; (with_reducible refine hls.mono ?_); rintro e w5 ⟨v, rfl, hS5⟩; clear hls; obtain ⟨a, c', hv⟩ := (hS5.row).choose_spec.slice; rw [HM.out] at hv; subst hv; have H5 := Lib.hid hS5; clear hS5)
      have hSr := HS.out.srt.1
      have HSr := Lib.hid (And.intro hSr HS.out.one)
      clear hSr
      go_wp2_with (fail)
      generalize hLe : es.length = L at *
      have HLe := Lib.hid hLe
      clear hLe
      go_loopw [13] (fun v13 wr => ∃ m : Nat, m ≤ L ∧ v13 = .int .i64 m ∧ Hid (St2 w tb es (.slice a L c') (es.map enV) wr)) (fun v13 _ => L - (intOf v13).toNat)
      case atStart => exact ⟨0, Nat.zero_le _, rfl, H5⟩
      case round =>
        obtain ⟨m, hm, rfl, HJ⟩ := hrel
        by_cases hml : m < L
        · have d5 : decide ((m : Int) < (L : Int)) = true := by simp; omega
          have d5n : decide (m < L) = true := by simp; omega
          have i5 : (m : Int) < (L : Int) := by omega
          have i6 : (0 : Int) ≤ m := by omega
          obtain ⟨y, hy⟩ : ∃ y, es[m]? = some y := ⟨_, List.getElem?_eq_getElem (by rw [HLe.out]; exact hml)⟩
          obtain ⟨b, hrow⟩ := HJ.out.row
          have hrd := hrow.rd
          obtain ⟨g, rfl, r1, r2⟩ := hrd m (enV y) (by rw [List.getElem?_map, hy]; rfl)
          have hfi := HJ.out.st.find m y hy
          have r1' : wr.cell? ⟨g, m * 2, none⟩ = some (.string (B y.1)) := r1
          have HY := Lib.hid (And.intro hy hrd)
          clear r1 r2 hy hrow hrd
          generalize hby : B y.1 = sy at *
          have HBY := Lib.hid hby
          clear hby
          go_upto_region 24 with (go_at_call 12; (with_reducible refine hfi.mono ?_); rintro e w6 ⟨rfl, hB⟩; clear hfi; have H6 := Lib.hid hB; clear hB)
          have HJ6 := Lib.hid (HJ.out.below H6.out)
          cases m with
          | zero =>
            have d7 : decide (((0 : Nat) : Int) > 0) = false := by decide
            go_quiet (fail)
            go_wp2_with (fail)
            go_roundw
            case rel => exact ⟨1, by omega, by go_num, Lib.hid (HJ6.out.below ((Upd.drewN (Upd.refl (fun _ => False) w6) nq).below (Nat.le_refl _) (fun _ h => h.elim)))⟩
            case measure => simp [intOf]; omega
          | succ m =>
            have d7 : decide ((((m + 1 : Nat) : Nat) : Int) > 0) = true := decide_eq_true (by omega)
            have d7n : decide (((m : Int) + 1) > 0) = true := decide_eq_true (by omega)
            obtain ⟨z, hz⟩ : ∃ z, es[m]? = some z := ⟨_, List.getElem?_eq_getElem (by rw [HLe.out]; omega)⟩
            obtain ⟨b6, hrow6⟩ := HJ6.out.row
            obtain ⟨g', hg', q1, q2⟩ := hrow6.rd m (enV z) (by rw [List.getElem?_map, hz]; rfl)
            obtain ⟨g'', hg'', q3, q4⟩ := hrow6.rd (m + 1) (enV y) (by rw [List.getElem?_map, HY.out.1]; rfl)
            cases hg'
            cases hg''
            have q1' : w6.cell? ⟨g, m * 2, none⟩ = some (.string (B z.1)) := q1
            have q3' : w6.cell? ⟨g, (m + 1) * 2, none⟩ = some (.string sy) := by rw [← HBY.out]; exact q3
            have hless : Op.bytesLess (B z.1).toList sy.toList = true := by
              rw [← HBY.out, B_list, B_list]
              exact srt_at HSr.out.1 hz HY.out.1 (by omega)
            clear q1 q2 q3 q4 hz hrow6
            generalize B z.1 = sz at *
            have i7 : (m : Int) < (L : Int) := by omega
            have i8 : (0 : Int) ≤ m := by omega
            go_quiet (fail)
            go_wp2_with (fail)
            go_roundw
            case rel => exact ⟨m + 2, by omega, by go_num, Lib.hid (HJ6.out.below ((Upd.drewN (Upd.refl (fun _ => False) w6) nq).below (Nat.le_refl _) (fun _ h => h.elim)))⟩
            case measure => simp [intOf]; omega
        · have d5 : decide ((m : Int) < (L : Int)) = false := by simp; omega
          have d5n : decide (m < L) = false := by simp; omega
          clear hml hm
          by_cases hL0 : L = 0
          · subst hL0
            go_wp2_with (go_at_call 7; refine (awake_any _).mono ?_; rintro e w7 ⟨rfl, hB⟩)
            go_ret
            exact ⟨rfl, HJ.out.st.bel.trans (hB.mono HJ.out.st.bel.size)⟩
          · have d8 : ((L : Int) == 0) = false := by simp; omega
            obtain ⟨l0, l1⟩ := low_bd gn L (by omega)
            have hlw := low_any gn L (by omega) (by omega)
            obtain ⟨k, hk⟩ : ∃ k : Nat, lowF gn L = k := ⟨(lowF gn L).toNat, by omega⟩
            rw [hk] at hlw l0 l1
            obtain ⟨y, hy⟩ : ∃ y, es[k]? = some y := ⟨_, List.getElem?_eq_getElem (by rw [HLe.out]; omega)⟩
            obtain ⟨b, hrow⟩ := HJ.out.row
            obtain ⟨g, rfl, r1, r2⟩ := hrow.rd k (enV y) (by rw [List.getElem?_map, hy]; rfl)
            have r1' : wr.cell? ⟨g, k * 2, none⟩ = some (.string (B y.1)) := r1
            have hrem := HJ.out.remove k y hy
            have HY := Lib.hid (And.intro hy (And.intro hrow r1))
            clear r1 r2 hy hrow hk
            generalize hby : B y.1 = sy at *
            have HBY := Lib.hid hby
            clear hby
            go_upto_region 30 with (first
              | (go_at_call 13; refine (hlw _).mono ?_; rintro e w' ⟨rfl, rfl⟩)
              | (go_at_call 14; (with_reducible refine hrem.mono ?_); rintro e w7 ⟨rfl, hS⟩; clear hrem; have H7 := Lib.hid hS; clear hS))
            obtain ⟨b7, hrow7⟩ := H7.out.row
            obtain ⟨g7, hg7, q1, q2⟩ := hrow7.rd k (enV y) (by rw [List.getElem?_map, HY.out.1]; rfl)
            cases hg7
            have q1' : w7.cell? ⟨g, k * 2, none⟩ = some (.string sy) := by rw [← HBY.out]; exact q1
            have hnf := H7.out.st.nofind HSr.out.1 y HY.out.1
            rw [HBY.out] at hnf
            have hde : (delE es k).length = L - 1 := by rw [delE_len (by rw [HLe.out]; omega), HLe.out]
            clear q1 q2 hrow7 r1'
            go_upto_region 31 with (first
              | (go_at_call 12; (with_reducible refine hnf.mono ?_); rintro e w8 ⟨rfl, hB⟩; clear hnf; have H8 := Lib.hid hB; clear hB))
            have hge := (H7.out.st.below H8.out).get
            rw [hde, show ((L - 1 : Nat) : Int) = (L : Int) - 1 by omega] at hge
            have HS8 := Lib.hid (H7.out.st.below H8.out)
            go_wp2_with (first
              | (go_at_call 15; (with_reducible refine hge.mono ?_); rintro e w9 ⟨rfl, hB⟩; clear hge; have H9 := Lib.hid (HS8.out.below hB); clear hB)
              | (go_at_call 7; refine (awake_any _).mono ?_; rintro e w10 ⟨rfl, hB⟩; have H10 := Lib.hid hB; clear hB))
            go_ret
            have hb9 := H9.out.bel
            refine ⟨rfl, ?_⟩
            have hal := hb9.alloc (Nat.le_trans hb9.size (Nat.le_refl _)) (.cells #[.int .i64 1, .int .i64 ((L : Int) - 1), .bool false, .int .i64 0] 41)
            exact hal.trans (H10.out.mono hal.size)
theorem names_all (av : Option Addr) (n c : Nat) (xs : List Txt) (gn : Int) (w : World) (hm63 : n ≤ maxLen) (hc : n ≤ c) (hR : RdT w av xs) (hn : xs.length = n) (hsz : ∀ x ∈ xs, x.length ≤ maxLen) :
    Calls Try.prog 3 #[.slice av n c, .int .i64 gn] w fun e w' => e = .returned (.bool true) ∧ Below w.heap.size w w' := by
  by_cases hl : 30 < n
  · exact names_long av n c gn hl w
  · exact names_walk av n c xs gn (by omega) w hR hn hsz
end Go.Proofs.Ytapkdaccbojbgaa
