/-
  The document's store: Cut.
-/
import Derived.Test.YtchnjfmimpikcaaGreatDoorQSt
namespace Go.Proofs.YtchnjfmimpikcaaGreatDoor
set_option linter.unusedSimpArgs false
set_option linter.unusedVariables false
open Go.RowKit Own RegC Three Two
open RegJ hiding Up
open RegF hiding put_size

def cutS (fs : Sfs) (id : Int) : Sfs := match fsAt fs id with | some _ => fsPut fs id.toNat (some []) | none => fs
def cutE (fs : Sfs) (id : Int) : Int := match fsAt fs id with | some _ => 0 | none => 4
section
variable {w w' : World} {O O' F : Nat → Prop} {sb fb tb bb n N fr : Nat} {fls : List Fil} {tk : List Bool} {back : List Int} {fs : Sfs} {v : Value} {g : Option Nat} {vals : List V3}
theorem FD.noRow (h : FD w O fb tb bb n tk back fr) : NoRow w (FF fb tb bb) := by
  obtain ⟨vb, bk, h1, h2, h3⟩ := h.blk
  obtain ⟨cs, h4, h5⟩ := h.row
  intro k hk
  rcases hk with rfl | rfl | rfl
  · exact ⟨_, _, h1, by decide, by decide⟩
  · exact ⟨_, _, h.tak, by decide, by decide⟩
  · exact ⟨_, _, h4, by decide, by decide⟩
theorem FD.off (h : FD w O fb tb bb n tk back fr) {b : Nat} {cs : Array Value} {T : TypeId} (hb : Blk w b cs T) (t1 : T ≠ 143) (t2 : T ≠ 4) (t3 : T ≠ 23) : ¬ FF fb tb bb b := by
  obtain ⟨vb, bk, h1, h2, h3⟩ := h.blk
  obtain ⟨cs, h4, h5⟩ := h.row
  rintro (rfl | rfl | rfl)
  · exact hb.neT h1 t1 rfl
  · exact hb.neT h.tak t2 rfl
  · exact hb.neT h4 t3 rfl
theorem FD.ff (h : FD w O fb tb bb n tk back fr) : ∀ k, FF fb tb bb k → O k := by
  rintro k (rfl | rfl | rfl)
  · exact h.of.1
  · exact h.of.2.1
  · exact h.of.2.2
def RndC (w : World) (O : Nat → Prop) (fb tb bb n : Nat) (tk : List Bool) (back : List Int) (fr : Nat) (l : List Int) (k : Nat) (wr : World) : Prop := FD wr (nx w wr O) fb tb bb n (tkOff tk (l.take k)) (back ++ l.take k) fr ∧ Upd (FF fb tb bb) w wr
theorem blk3_set {w : World} {g : Nat} {xs : List V3} {rest : List Value} {T : TypeId} (hB : Blk w g (cells3 xs ++ rest).toArray T) {k : Nat} {x : V3} (hx : xs[k]? = some x) (a b : Value) : Blk ((w.setCell ⟨g, k * 3 + 1, none⟩ a).setCell ⟨g, k * 3 + 2, none⟩ b) g (cells3 (xs.set k (x.1, a, b)) ++ rest).toArray T := by
  refine Blk.of ((hB.set _ _).set _ _) ?_
  have hk := (List.getElem?_eq_some_iff.1 hx).1
  have hl := cells3_len xs
  have hl2 := cells3_len (xs.set k (x.1, a, b))
  rw [List.length_set] at hl2
  apply Array.ext_getElem?
  intro j
  rw [Array.getElem?_setIfInBounds, Array.getElem?_setIfInBounds]
  simp only [List.getElem?_toArray, Array.size_setIfInBounds, List.size_toArray, List.length_append]
  by_cases hj : j < xs.length * 3
  · have h3 : j = (j / 3) * 3 + j % 3 := by omega
    have hq : j / 3 < xs.length := by omega
    obtain ⟨y, hy⟩ : ∃ y, xs[j / 3]? = some y := ⟨_, List.getElem?_eq_getElem hq⟩
    obtain ⟨p0, p1, p2⟩ := cells3_at xs _ _ hy
    obtain ⟨z, hz⟩ : ∃ z, (xs.set k (x.1, a, b))[j / 3]? = some z := ⟨_, List.getElem?_eq_getElem (by rw [List.length_set]; exact hq)⟩
    obtain ⟨q0, q1, q2⟩ := cells3_at _ _ _ hz
    rw [List.getElem?_append_left (by omega), List.getElem?_append_left (by omega)]
    rw [List.getElem?_set] at hz
    by_cases hkj : k = j / 3
    · rw [if_pos hkj, if_pos (by omega)] at hz
      cases hz
      rw [← hkj, hx] at hy
      cases hy
      have : j % 3 = 0 ∨ j % 3 = 1 ∨ j % 3 = 2 := by omega
      rcases this with e | e | e
      · rw [if_neg (by omega), if_neg (by omega)]
        rw [h3, e, Nat.add_zero, p0, q0]
      · rw [if_neg (by omega), if_pos (by omega), if_pos (by omega)]
        rw [h3, e, q1]
      · rw [if_pos (by omega), if_pos (by omega)]
        rw [h3, e, q2]
    · rw [if_neg hkj, hy] at hz
      cases hz
      rw [if_neg (by omega), if_neg (by omega)]
      have : j % 3 = 0 ∨ j % 3 = 1 ∨ j % 3 = 2 := by omega
      rcases this with e | e | e
      · rw [h3, e, Nat.add_zero, p0, q0]
      · rw [h3, e, p1, q1]
      · rw [h3, e, p2, q2]
  · rw [if_neg (by omega), if_neg (by omega), List.getElem?_append_right (by omega), List.getElem?_append_right (by omega), hl, hl2]
/-- the files' rows in a block of their own -/
theorem LD.atf {j : Nat} {f : Fil} (h : LD w O v g vals fls) (hj : fls[j]? = some f) : ∃ g' cap rest x, v = .slice (some ⟨g', 0, none⟩) fls.length cap ∧ g = some g' ∧ Blk w g' (cells3 vals ++ rest).toArray 163 ∧ cap * 3 = (cells3 vals ++ rest).length ∧ cap ≤ maxLen ∧ vals[j]? = some x ∧ FilIs w O x f ∧ O g' := by
  have hjl := (List.getElem?_eq_some_iff.1 hj).1
  obtain ⟨x, hx⟩ : ∃ x, vals[j]? = some x := ⟨_, List.getElem?_eq_getElem (by rw [h.len]; exact hjl)⟩
  rcases h.row with ⟨_, hnil, _⟩ | ⟨g', cap, rest, hv, hb', hB, hc, hm⟩
  · rw [hnil] at hx; cases hx
  · rw [h.len] at hv
    exact ⟨g', cap, rest, x, hv, hb', hB, hc, hm, hx, h.is j x f hx hj, h.og g' hb'⟩
theorem cut_fin {w wr wf : World} {g' cap j : Nat} {rest : List Value} {x : V3} {f : Fil} {kk : Nat} (h : SD w O sb fb tb bb n fls tk back fr) (hk : SOk n N fs fls tk back fr) (hx : fls[j]? = some f) (hL : LD w O (.slice (some ⟨g', 0, none⟩) fls.length cap) (some g') vals fls) (hb : Blk w sb #[.pointer (some ⟨fb, 0, none⟩), .slice (some ⟨g', 0, none⟩) fls.length cap] 146)
    (hB : Blk w g' (cells3 vals ++ rest).toArray 163) (hcap : cap * 3 = (cells3 vals ++ rest).length) (hcm : cap ≤ maxLen) (hxv : vals[j]? = some x) (hF : FD wr (nx w wr O) fb tb bb n (tkOff tk (f.fr.take kk)) (back ++ f.fr.take kk) fr) (hu : Upd (FF fb tb bb) w wr) (hkk : kk = f.fr.length)
    (hux : Upd (fun q => q = g') wr wf) (hbx : Blk wf g' (cells3 (vals.set j (x.1, .slice none 0 0, .slice none 0 0)) ++ rest).toArray 163) : SQ w O sb n N (fsPut fs f.id.toNat (some [])) (.int .i64 0) (.returned (.int .i64 0)) wf := by
  have hF0 := h.frm
  have hnr := hF0.noRow
  subst hkk
  rw [List.take_length] at hF
  have hut : Upd (fun q => FF fb tb bb q ∨ q = g') w wf := (hu.mono (fun _ _ e => Or.inl e)).trans hux (fun _ _ e => Or.inr e)
  have hs := hut.size
  have hnr2 : NoRow w (fun q => FF fb tb bb q ∨ q = g') := fun q e => by
    rcases e with e | e
    · exact hnr q e
    · exact ⟨_, _, e ▸ hB, by decide, by decide⟩
  have hgs : sb ≠ g' := hb.neT hB (by decide)
  have qb := Blk.upd hut hb (fun e => e.elim (hF0.off hb (by decide) (by decide) (by decide)) hgs)
  have hl : (vals.set j (x.1, .slice none 0 0, .slice none 0 0)).length = fls.length := by rw [List.length_set]; exact hL.len
  have hFx : FD wf (nx w wf O) fb tb bb n (tkOff tk f.fr) (back ++ f.fr) fr := by
    have q1 : ¬ g' = fb ∧ ¬ g' = tb ∧ ¬ g' = bb := by
      have := hF0.off hB (by decide) (by decide) (by decide)
      exact ⟨fun e => this (Or.inl e), fun e => this (Or.inr (Or.inl e)), fun e => this (Or.inr (Or.inr e))⟩
    obtain ⟨vb, bk, k1, k2, k3⟩ := hF.blk
    obtain ⟨cs, k4, k5⟩ := hF.row
    have hBr := Blk.upd hu hB (hF0.off hB (by decide) (by decide) (by decide))
    exact FD.mono2 (O := nx w wr O) ⟨⟨vb, bk, Blk.upd hux k1 (fun e => q1.1 e.symm), k2.upd hux (fun g hg e => k2.neT hBr (by decide) g hg e), k3⟩, Blk.upd hux hF.tak (fun e => q1.2.1 e.symm), ⟨cs, Blk.upd hux k4 (fun e => q1.2.2 e.symm), k5⟩, hF.len, hF.n64, hF.frn, hF.bkn, hF.bkr, hF.of⟩ (fun k hk' hl => ⟨hk'.1, hl⟩)
  refine ⟨rfl, ⟨fb, tb, bb, _, _, _, fr, ⟨⟨_, some g', _, qb, ⟨Or.inr ⟨g', cap, rest, by rw [hl], rfl, hbx, ?_, hcm⟩, fun k hk' => by cases hk'; exact ⟨Or.inl (hL.og g' rfl), hbx.lt⟩, by rw [hl, List.length_set], fun k y f' hy hf' => ?_⟩⟩, ⟨Or.inl h.osb, qb.lt⟩, hFx⟩, hk.cut hx⟩, hut.mono (fun q _ e => e.elim (hF0.ff q) (fun e => e ▸ hL.og g' rfl))⟩
  · have h1 := cells3_len vals
    have h2 := cells3_len (vals.set j (x.1, .slice none 0 0, .slice none 0 0))
    rw [List.length_set] at h2
    rw [List.length_append] at hcap ⊢
    omega
  · rcases set_get hx k f' hf' with ⟨rfl, rfl⟩ | ⟨hne, hf'⟩
    · rw [List.getElem?_set_self (List.getElem?_eq_some_iff.1 hxv).1] at hy
      cases hy
      exact ⟨(hL.is k x f hxv hx).1, ⟨none, Or.inl ⟨rfl, rfl, rfl⟩, fun g hg => by cases hg⟩, none, Or.inl ⟨rfl, rfl, rfl⟩, fun g hg => by cases hg⟩
    · rw [List.getElem?_set_ne (fun e => hne e.symm)] at hy
      exact (hL.is k y f' hy hf').turn hut hnr2 (nx_keep hs)
set_option maxRecDepth 100000 in
set_option maxHeartbeats 1000000 in
theorem qcut_is (h : SS w O sb n N fs) (hN : N ≤ 1000) (id r : Int) (fs' : Sfs) (hr : cutE fs id = r) (hs : cutS fs id = fs') : Calls Tryz.prog 88 #[.pointer (some ⟨sb, 0, none⟩), .int .i64 id] w (SQ w O sb n N fs' (.int .i64 r)) := by
  have hss := h
  obtain ⟨fb, tb, bb, fls, tk, back, fr, h, hk⟩ := h
  have hl := hk.core.most
  have ha := qat_is h (by omega) id
  obtain ⟨v, g, vals, hb, hL⟩ := h.blk
  have H := Lib.hid (And.intro hL (And.intro hk (And.intro hb (And.intro h (And.intro hss (And.intro hr hs))))))
  clear hL hk hb h hss hr hs
  go_enter Tryz.func88, Tryz.ntmps88
  go_upto_if 11 with (go_at_call 98; refine ha.mono ?_; rintro e w' ⟨⟨r, rfl, hq⟩, rfl⟩; clear ha; have HQ := Lib.hid hq; clear hq)
  rcases HQ.out with ⟨rfl, hno⟩ | ⟨j, f, rfl, hx, hid⟩
  · have HO := Lib.hid hno
    clear hno
    go_wp2_with (fail)
    go_ret
    obtain ⟨hL, hk, hb, h, hss, hr, hs⟩ := H.out
    have hn := hk.core.none' HO.out
    unfold cutE at hr
    unfold cutS at hs
    rw [hn] at hr hs
    subst hr hs
    exact ⟨rfl, hss.mono (nx_keep (Nat.le_refl _)), Upd.refl _ _⟩
  · obtain ⟨g', cap, rest, x, rfl, rfl, hB, hcap, hcm, hxv, ⟨x1, ⟨b1, hb1, ho1⟩, b2, hb2, ho2⟩, hog⟩ := H.out.1.atf hx
    obtain ⟨a2, c2, hv2, -, -⟩ := hb2.slice
    have hjl := (List.getElem?_eq_some_iff.1 hx).1
    obtain ⟨K, hK⟩ : ∃ K, (icells f.fr).length = K := ⟨_, rfl⟩
    rw [hK] at hv2
    have hK64 : K ≤ 64 := by
      have h1 : f.fr.length ≤ sumF frL fls := sumF_ge frL hx
      have h2 := H.out.2.1.core.tot
      have h3 := H.out.2.1.core.frn
      have h4 := H.out.2.2.2.1.frm.n64
      simp at hK; omega
    have HX := Lib.hid (And.intro hx (And.intro hid (And.intro hB (And.intro hcap (And.intro hcm (And.intro hxv (And.intro hb2 (And.intro ho2 (And.intro hv2 (And.intro hK hog))))))))))
    generalize hmm : fls.length = m at *
    have HM := Lib.hid hmm
    have i1 : (j : Int) < (m : Int) := by omega
    have i2 : (0 : Int) ≤ j := by omega
    have d1 : decide ((j : Int) < 0) = false := by simp
    clear hx hid hB hcap hcm hxv x1 hb1 ho1 hb2 ho2 hv2 hK hjl hmm
    rw [d1]
    go_wp2_with (fail)
    go_loopw [6] (fun v6 wr => ∃ k : Nat, k ≤ K ∧ v6 = .int .i64 k ∧ Hid (RndC w O fb tb bb n tk back fr f.fr k wr)) (fun v6 _ => K - (intOf v6).toNat)
    case atStart => exact ⟨0, Nat.zero_le _, rfl, Lib.hid ⟨by simp only [List.take_zero, List.append_nil]; exact H.out.2.2.2.1.frm.mono2 (nx_keep (Nat.le_refl _)), Upd.refl _ _⟩⟩
    case round =>
      obtain ⟨k, hk, rfl, HJ⟩ := hrel
      obtain ⟨hF, hu⟩ := HJ.out
      have hF0 := H.out.2.2.2.1.frm
      have qb := Blk.upd hu H.out.2.2.1 (hF0.off H.out.2.2.1 (by decide) (by decide) (by decide))
      have qB := Blk.upd hu HX.out.2.2.1 (hF0.off HX.out.2.2.1 (by decide) (by decide) (by decide))
      have q2 := HX.out.2.2.2.2.2.2.1.upd hu (fun g hg e => by
        obtain ⟨cs, T, p1, _, p2⟩ := hF0.noRow g e
        exact HX.out.2.2.2.2.2.2.1.neT p1 p2 g hg rfl)
      have c1 := qb.rd
      obtain ⟨_, _, r2⟩ := Three.blk_row qB j x HX.out.2.2.2.2.2.1
      rw [HX.out.2.2.2.2.2.2.2.2.1] at r2
      by_cases hkl : k < K
      · have d5 : decide ((k : Int) < (K : Int)) = true := by simp; omega
        have d5n : decide (k < K) = true := by simp; omega
        have i5 : (k : Int) < (K : Int) := by omega
        have i6 : (0 : Int) ≤ k := by omega
        obtain ⟨y, hy⟩ : ∃ y, f.fr[k]? = some y := ⟨_, List.getElem?_eq_getElem (by have := HX.out.2.2.2.2.2.2.2.2.2.1; simp at this; omega)⟩
        obtain ⟨i, rfl, hin, htk, hbl⟩ := H.out.2.1.core.give HX.out.1 hy
        rw [HX.out.2.2.2.2.2.2.2.2.1] at q2
        obtain ⟨A, rfl, hA⟩ := q2.rd k (.int .i64 i) (by rw [List.getElem?_map, hy]; rfl)
        have hgv := rgive_is (hF.below (Below.refl _ _).drew) htk hbl
        have hdr : Upd (fun _ => False) wr wr.drew := (Upd.refl _ wr).drew
        have c1' : ∀ i, wr.drew.cell? ⟨sb, i, none⟩ = _ := c1
        have r2' : wr.drew.cell? _ = some _ := r2
        have HY := Lib.hid (And.intro hy (And.intro htk hbl))
        have HU := Lib.hid hu
        rcases q2 with ⟨h0, _⟩ | ⟨g2, cap2, rest2, hv, hbb, hB2, hc2, hm2⟩
        · cases h0
        simp only [Value.slice.injEq, Option.some.injEq] at hv
        obtain ⟨rfl, -, -⟩ := hv
        rw [add_off] at hA
        clear hF hu hF0 qb qB hy htk hbl hB2 hc2 hm2 hbb hdr
        go_upto_region 7 with (fail)
        go_still_tail 15, (by kernel_rfl)
        change wpList _ _ _ _ _ wr.drew
        clear c1 r2 hA c1' r2'
        generalize hwd : wr.drew = wd at *
        have HWD := Lib.hid hwd
        clear hwd
        go_wp2_with (go_at_call 115; (with_reducible refine hgv.mono ?_); rintro e w4 ⟨rfl, hF4, hu4⟩; have H4 := Lib.hid (And.intro hF4 hu4); clear hgv hF4 hu4)
        go_roundw
        case rel =>
          refine ⟨k + 1, by omega, by go_num, Lib.hid ?_⟩
          obtain ⟨hF4, hu4⟩ := H4.out
          obtain ⟨hy, htk, hbl⟩ := HY.out
          have htake : f.fr.take (k + 1) = f.fr.take k ++ [(i : Int)] := by rw [List.take_add_one, hy]; rfl
          have hud : Upd (FF fb tb bb) w wd := by rw [← HWD.out]; exact HU.out.drew
          refine ⟨?_, hud.trans hu4 (fun _ _ h => h)⟩
          rw [htake, tkOff_snoc, Int.toNat_natCast, ← List.append_assoc]
          exact hF4.mono (fun q hq => by
            refine nx_trans (w1 := wd) hud.size q ?_
            rw [← HWD.out]; rw [← HWD.out] at hq; exact hq)
        case measure => simp [intOf]; omega
      · have hke : k = K := by omega
        subst hke
        have d5 : decide ((k : Int) < (k : Int)) = false := by simp
        have f1 := qB.nf
        have HU := Lib.hid (And.intro hF (And.intro hu (And.intro qb (And.intro qB q2))))
        clear hF hu hF0 qb qB q2
        have mixed : Tryz.prog.follows .mixedOrders = true := by kernel_rfl
        obtain ⟨_, r1, _⟩ := Three.blk_row HU.out.2.2.2.1 j x HX.out.2.2.2.2.2.1
        go_upto_region 8 with (fail)
        go_region
        all_goals go_wp2
        all_goals go_ret
        all_goals
          obtain ⟨hF, hu, qb, qB, q2⟩ := HU.out
          obtain ⟨hx, hid, hB, hcap, hcm, hxv, hb2, ho2, hv2, hK, hog⟩ := HX.out
          obtain ⟨hL, hk, hb, h, hss, hr, hs⟩ := H.out
          have hsome := hk.core.some' hx
          unfold cutE at hr
          unfold cutS at hs
          rw [← hid, hsome] at hr hs
          subst hr hs
          have hgs : g' ≠ sb := hB.neT hb (by decide)
          have hux := ((Upd.refl (fun q => q = g') wr).drew.setCell (p := ⟨g', j * 3 + 1, none⟩) (fun _ => rfl) (.slice none 0 0)).setCell (p := ⟨g', j * 3 + 2, none⟩) (fun _ => rfl) (.slice none 0 0)
          have hbx := blk3_set qB.drew hxv (.slice none 0 0) (.slice none 0 0)
          rw [HM.out.symm] at hL hb
          exact cut_fin h hk hx hL hb hB hcap hcm hxv hF hu (by simp at hK; omega) hux hbx
end
end Go.Proofs.YtchnjfmimpikcaaGreatDoor
