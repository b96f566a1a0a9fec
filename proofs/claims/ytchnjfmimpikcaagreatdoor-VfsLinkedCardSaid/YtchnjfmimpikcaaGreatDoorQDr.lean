/-
  The document's store: Drop.
-/
import Derived.Test.YtchnjfmimpikcaaGreatDoorQSu
namespace Go.Proofs.YtchnjfmimpikcaaGreatDoor
set_option linter.unusedSimpArgs false
set_option linter.unusedVariables false
open Go.RowKit Own RegC Three Two
open RegJ hiding Up
open RegF hiding put_size

theorem one3_sub {xs ys : List V3} (h : One3 xs) (hs : ∀ a ∈ ys, a ∈ xs) : One3 ys := fun a ha => h a (hs a ha)
theorem Row3.sl {w : World} {T : TypeId} {v : Value} {xs : List V3} {b : Option Nat} (h : Row3 w T v xs b) : ∃ a l c, v = .slice a l c := by
  obtain ⟨a, c, e⟩ := h.slice
  exact ⟨a, _, c, e⟩
/-- a stretch of a row in its block -/
theorem blk_cut3 {w : World} {g : Nat} {xs : List V3} {rest : List Value} (hB : Blk w g (cells3 xs ++ rest).toArray 163) (i : Nat) (xa ys bs : List V3) (hx : xs = xa ++ ys ++ bs) (hi : xa.length = i) (j : Nat) (u : Value) (hj : (cells3 ys)[j]? = some u) :
    w.cell? ((⟨g, i * 3, none⟩ : Addr).add j) = some u := by
  have hjl : j < (cells3 ys).length := (List.getElem?_eq_some_iff.1 hj).1
  have hl := cells3_len xa
  rw [Two.add0, hB.rd]
  simp only [List.getElem?_toArray]
  subst hx hi
  rw [cells3_app, cells3_app, List.append_assoc, List.append_assoc, List.getElem?_append_right (by omega), hl, Nat.add_sub_cancel_left, List.getElem?_append_left hjl]
  exact hj
def dropS (fs : Sfs) (id : Int) : Sfs := match fsAt fs id with | some _ => fsPut fs id.toNat none | none => fs
theorem fsPut_put (fs : Sfs) (i : Nat) (x y : Option (List Int)) : fsPut (fsPut fs i x) i y = fsPut fs i y := by
  funext j; unfold fsPut; split <;> rfl
section
variable {w w1 W w3 : World} {O O' F : Nat → Prop} {sb fb tb bb n N fr : Nat} {fls : List Fil} {tk : List Bool} {back : List Int} {fs : Sfs} {v : Value} {g : Option Nat} {vals : List V3}
theorem drop_fin {j : Nat} {f : Fil} {id : Int} {va : Option Addr} {vl vc : Nat} {B3 : Option Nat} {v0 : Value} (hC : Upd O w w1) (h : SD w1 (nx w w1 O) sb fb tb bb n fls tk back fr) (hk : SOk n N (fsPut fs id.toNat (some [])) fls tk back fr)
    (hx : fls[j]? = some f) (hid : f.id = id) (hb : Blk w1 sb #[.pointer (some ⟨fb, 0, none⟩), v0] 146) (hL : LD w1 (nx w w1 O) v0 g vals fls)
    (hW : Upd (fun _ => False) w1 W) (hb3 : Below W.heap.size W w3) (hI3 : Row3 w3 163 (.slice va vl vc) (vals.take j ++ vals.drop (j + 1)) B3) (hB3 : ∀ g, B3 = some g → W.heap.size ≤ g) :
    SQ w O sb n N (fsPut fs id.toNat none) (.int .i64 0) (.returned (.int .i64 0)) (w3.setCell ⟨sb, 1, none⟩ (.slice va vl vc)) := by
  have hu3 : Upd (fun k => k = sb) w3 (w3.setCell ⟨sb, 1, none⟩ (.slice va vl vc)) := (Upd.refl (fun k => k = sb) w3).setCell (p := ⟨sb, 1, none⟩) (fun _ => rfl) _
  have hw3 : Upd (fun _ => False) w1 w3 := hW.trans (Upd.of_below hb3) (fun _ _ h => h)
  have hus : Upd (fun k => k = sb) w1 (w3.setCell ⟨sb, 1, none⟩ (.slice va vl vc)) := (hw3.mono (fun _ _ h => h.elim)).trans hu3 (fun k _ e => e)
  have hnr : NoRow w1 (fun k => k = sb) := fun k e => ⟨_, _, e ▸ hb, by decide, by decide⟩
  have hb1 : Blk w3 sb _ _ := Blk.upd hw3 hb (fun h => h)
  have q1 : Blk (w3.setCell ⟨sb, 1, none⟩ (.slice va vl vc)) sb #[.pointer (some ⟨fb, 0, none⟩), .slice va vl vc] 146 := Blk.of (hb1.set 1 _) rfl
  have hs1 := hW.size
  have hs3 := hb3.size
  have hr3 := hI3.upd hu3 (fun g hg e => by have := hB3 g hg; have := hb.lt; omega)
  have hsz := hus.size
  have h5 := h.frm
  obtain ⟨r1, r2⟩ := hk.core.r1 j f hx
  rw [hid, fsPut_eq'] at r2
  have hbs : f.bs = [] := (Option.some.inj r2).symm
  have hfr : f.fr = [] := by
    have := hk.len j f hx
    rw [hbs] at this
    exact List.eq_nil_of_length_eq_zero (by simpa using this)
  have hkd := hk.drop hx hfr hbs
  rw [hid, fsPut_put] at hkd
  have hjl := (List.getElem?_eq_some_iff.1 hx).1
  have ev : vals.take j ++ vals.drop (j + 1) = vals.eraseIdx j := (List.eraseIdx_eq_take_drop_succ _ _).symm
  rw [ev] at hr3
  have hcs := hC.size
  refine ⟨rfl, SS.mono (O := nx w1 (w3.setCell ⟨sb, 1, none⟩ (.slice va vl vc)) (nx w w1 O)) ⟨fb, tb, bb, _, tk, back, fr, ⟨⟨_, B3, _, q1, ⟨hr3, fun g hg => ⟨Or.inr (by have := hB3 g hg; omega), hr3.lt g hg⟩, ?_, fun k x f' hx' hf' => ?_⟩⟩, ⟨Or.inl h.osb, q1.lt⟩, ?_⟩, hkd⟩ (fun k hk _ => nx_trans hcs k hk), hC.trans hus (fun k hk e => ?_)⟩
  · rw [List.length_eraseIdx, List.length_eraseIdx, hL.len]
  · rw [List.getElem?_eraseIdx] at hx' hf'
    by_cases hkj : k < j
    · rw [if_pos hkj] at hx' hf'
      exact (hL.is k x f' hx' hf').turn hus hnr (nx_keep hsz)
    · rw [if_neg hkj] at hx' hf'
      exact (hL.is (k + 1) x f' hx' hf').turn hus hnr (nx_keep hsz)
  · obtain ⟨vb, bk, k1, k2, k3⟩ := h5.blk
    obtain ⟨cs, k4, k5⟩ := h5.row
    exact FD.mono2 (O := nx w w1 O) ⟨⟨vb, bk, Blk.upd hus k1 (fun e => k1.neT hb (by decide) e), k2.upd hus (fun g hg e => k2.neT hb (by decide) g hg e), k3⟩, Blk.upd hus h5.tak (fun e => h5.tak.neT hb (by decide) e), ⟨cs, Blk.upd hus k4 (fun e => k4.neT hb (by decide) e), k5⟩, h5.len, h5.n64, h5.frn, h5.bkn, h5.bkr, h5.of⟩ (fun k hk hl => ⟨Or.inl hk, hl⟩)
  · subst e
    exact (h.osb.1).elim (fun h => h) (fun h => by omega)
set_option maxRecDepth 100000 in
set_option maxHeartbeats 2000000 in
theorem qdrop_is (h : SS w O sb n N fs) (hN : N ≤ 900) (id r : Int) (fs' : Sfs) (hr : cutE fs id = r) (hs : dropS fs id = fs') : Calls Tryz.prog 121 #[.pointer (some ⟨sb, 0, none⟩), .int .i64 id] w (SQ w O sb n N fs' (.int .i64 r)) := by
  have hcut := qcut_is h (by omega) id _ _ rfl rfl
  have H := Lib.hid (And.intro h (And.intro hr hs))
  cases hf : fsAt fs id with
  | none =>
    unfold cutE cutS at hcut
    unfold cutE at hr
    unfold dropS at hs
    rw [hf] at hcut hr hs
    subst hr hs
    clear H h hf hN
    go_enter Tryz.func121, Tryz.ntmps121
    go_wp2_with (go_at_call 88; (with_reducible refine hcut.mono ?_); rintro e w1 ⟨rfl, hS⟩; have H1 := Lib.hid hS; clear hcut hS)
    go_ret
    exact ⟨rfl, H1.out⟩
  | some bs0 =>
    unfold cutE cutS at hcut
    unfold cutE at hr
    unfold dropS at hs
    rw [hf] at hcut hr hs
    subst hr hs
    have HF := Lib.hid hf
    clear H h hf
    go_enter Tryz.func121, Tryz.ntmps121
    go_upto_region 3 with (go_at_call 88; (with_reducible refine hcut.mono ?_); rintro e w1 ⟨rfl, hS, hu⟩; have H1 := Lib.hid hu; have HS := Lib.hid hS; clear hcut hS hu)
    obtain ⟨fb, tb, bb, fls, tk, back, fr, h, hk⟩ := HS.out
    have ha := qat_is h (by have := hk.core.most; omega) id
    have HC := Lib.hid (And.intro h hk)
    clear h hk
    go_upto_region 4 with (go_at_call 98; (with_reducible refine ha.mono ?_); rintro e w' ⟨⟨r, rfl, hq⟩, rfl⟩; clear ha; have HQ := Lib.hid hq; clear hq)
    rcases HQ.out with ⟨rfl, hno⟩ | ⟨j, f, rfl, hx, hid⟩
    · exfalso
      have h1 := HC.out.2.core.none' hno
      have h2 := HF.out
      unfold fsAt at h1 h2
      by_cases h0 : 0 ≤ id
      · rw [if_pos h0] at h1
        rw [fsPut_eq'] at h1; cases h1
      · rw [if_neg h0] at h2; cases h2
    obtain ⟨v0, gg, vals, hb, hL⟩ := HC.out.1.blk
    obtain ⟨g, cap, rest, x, rfl, rfl, hB, hc, hcm, hxv, -, -⟩ := hL.atf hx
    have HX := Lib.hid (And.intro hx (And.intro hid (And.intro hb hL)))
    have HONE := Lib.hid hL.one
    have hjl := (List.getElem?_eq_some_iff.1 hx).1
    have hmost := HC.out.2.core.most
    obtain ⟨m, hm⟩ : ∃ m, fls.length = m := ⟨_, rfl⟩
    have hvl : vals.length = m := by rw [hL.len, hm]
    have hcap : m ≤ cap := by
      have := cells3_len vals
      rw [List.length_append, this, hvl] at hc; omega
    have HN := Lib.hid (show vals.length = m ∧ j < m ∧ m ≤ 900 by omega)
    rw [hm] at hb hjl
    have i1 : (0 : Int) ≤ j := by omega
    have i2 : (j : Int) ≤ m := by omega
    have i4 : (m : Int) ≤ cap := by omega
    have i5 : j ≤ cap := by omega
    have i7 : (j : Int) ≤ cap := by omega
    have i9 : (j : Int) < (maxLen : Int) := by have := HN.out; unfold maxLen at *; omega
    obtain ⟨M, hM⟩ : ∃ M, M = j + 1 := ⟨_, rfl⟩
    have i12 : (0 : Int) ≤ M := by omega
    have j1 : (j : Int) + 1 = (M : Int) := by omega
    have i13 : (M : Int) ≤ m := by omega
    have i14 : M ≤ m := by omega
    have i15 : M ≤ cap := by omega
    have hM0 : ¬ M = 0 := by omega
    have i16 : M ≤ 1000 := by have := HN.out; omega
    have HM := Lib.hid hM
    obtain ⟨W, hW⟩ : ∃ W, W = w1.drew := ⟨_, rfl⟩
    have hWu : Upd (fun _ => False) w1 W := by rw [hW]; exact (Upd.refl _ w1).drew
    have HB := Lib.hid (And.intro (Blk.upd hWu hb (fun h => h)) (Blk.upd hWu hB (fun h => h)))
    have HW := Lib.hid (And.intro hWu hW)
    obtain ⟨ad, had⟩ : ∃ ad : Addr, (if cap = M then some (⟨g, 0, none⟩ : Addr) else some ⟨g, M * 3, none⟩) = some ad := by split <;> exact ⟨_, rfl⟩
    have hsp : vals = vals.take j ++ (vals.drop j).take 1 ++ vals.drop (j + 1) := by
      rw [List.append_assoc, ← List.drop_drop, List.take_append_drop, List.take_append_drop]
    have HNW := Lib.hid (show ∀ (w' : World), Blk w' g (cells3 vals ++ rest).toArray 163 → 0 < m - M → ∃ A, some ad = some A ∧ ∀ (q : Nat) (u : Value), (cells3 (vals.drop (j + 1)))[q]? = some u → w'.cell? (A.add q) = some u from fun w' hB hpos => by
      refine ⟨ad, rfl, fun q u hq => ?_⟩
      rw [if_neg (by omega)] at had
      cases had
      have hl : (vals.take j ++ (vals.drop j).take 1).length = j + 1 := by rw [List.length_append, List.length_take, List.length_take, List.length_drop, hvl]; omega
      rw [hM]
      exact blk_cut3 hB (j + 1) (vals.take j ++ (vals.drop j).take 1) (vals.drop (j + 1)) [] (by rw [List.append_nil]; exact hsp) hl q u hq)
    clear hM hW hWu hb hB hc hsp hx hid hxv hL hvl hm hmost hjl
    refine region_E (EvJ W 7 22 (fun v w => ∃ b, Row3 w 163 v (vals.take j) b ∧ ∀ g, b = some g → W.heap.size ≤ g) 15 30 (fun _ _ => True) 15 30 (fun v w => ∃ b, Row3 w 163 v (vals.take j ++ vals.drop (j + 1)) b ∧ ∀ g, b = some g → W.heap.size ≤ g) 18 ⟨sb, 1, none⟩) [Is 34 (some 15) (.pointer (some ⟨sb, 0, none⟩)), Is 34 (some 16) (.pointer (some ⟨sb, 0, none⟩)), Is 34 (some 17) (.pointer (some ⟨sb, 0, none⟩)), Is 34 (some 18) (.pointer (some ⟨sb, 1, none⟩)), Is 34 (some 19) (.slice (some ⟨g, 0, none⟩) m cap), Is 34 (some 20) (.int .i64 (j : Nat)), Is 34 (some 21) (.slice (some ⟨g, 0, none⟩) j cap), (fun u => ∃ a l c, u = .slice a l c), Is 34 (some 23) (.pointer (some ⟨sb, 0, none⟩)), Is 34 (some 24) (.pointer (some ⟨sb, 0, none⟩)), Is 34 (some 25) (.pointer (some ⟨sb, 1, none⟩)), Is 34 (some 26) (.slice (some ⟨g, 0, none⟩) m cap), Is 34 (some 27) (.int .i64 (j : Nat)), Is 34 (some 28) (.int .i64 (M : Nat)), Is 34 (some 29) (.slice (some ad) (m - M) (cap - M)), (fun u => ∃ a l c, u = .slice a l c), Is 34 (some 31) (.pointer (some ⟨sb, 0, none⟩)), Is 34 (some 32) (.pointer (some ⟨sb, 1, none⟩)), Is 34 (none) (undef)] (by kernel_rfl) (by kernel_rfl) ?_ ?_
    · exact EvJ.start _ HW.out.2.symm
    · apply wpE_op (by rfl) (by rfl) (by rfl)
      · intro f a' w' ha hf hJ Q1 hQ
        simp only [Act.put, List.setIfInBounds_toArray, List.set_cons_zero, List.set_cons_succ] at hQ
        go_wp2
        exact hQ _ _ rfl (hJ.put rfl rfl rfl rfl (slot_put_ne (a := a') (by decide) _) (slot_put_ne (a := a') (by decide) _) (slot_put_ne (a := a') (by decide) _))
      simp only [Act.put, List.setIfInBounds_toArray, List.set_cons_zero, List.set_cons_succ]
      apply wpE_op (by rfl) (by rfl) (by rfl)
      · intro f a' w' ha hf hJ Q1 hQ
        simp only [Act.put, List.setIfInBounds_toArray, List.set_cons_zero, List.set_cons_succ] at hQ
        go_wp2
        exact hQ _ _ rfl (hJ.put rfl rfl rfl rfl (slot_put_ne (a := a') (by decide) _) (slot_put_ne (a := a') (by decide) _) (slot_put_ne (a := a') (by decide) _))
      simp only [Act.put, List.setIfInBounds_toArray, List.set_cons_zero, List.set_cons_succ]
      apply wpE_op (by rfl) (by rfl) (by rfl)
      · intro f a' w' ha hf hJ Q1 hQ
        simp only [Act.put, List.setIfInBounds_toArray, List.set_cons_zero, List.set_cons_succ] at hQ
        go_wp2
        exact hQ _ _ rfl (hJ.put rfl rfl rfl rfl (slot_put_ne (a := a') (by decide) _) (slot_put_ne (a := a') (by decide) _) (slot_put_ne (a := a') (by decide) _))
      simp only [Act.put, List.setIfInBounds_toArray, List.set_cons_zero, List.set_cons_succ]
      apply wpE_op (by rfl) (by rfl) (by rfl)
      · intro f a' w' ha hf hJ Q1 hQ
        simp only [Act.put, List.setIfInBounds_toArray, List.set_cons_zero, List.set_cons_succ] at hQ
        go_wp2
        exact hQ _ _ rfl (hJ.put rfl rfl rfl rfl (slot_put_ne (a := a') (by decide) _) (slot_put_ne (a := a') (by decide) _) (slot_put_ne (a := a') (by decide) _))
      simp only [Act.put, List.setIfInBounds_toArray, List.set_cons_zero, List.set_cons_succ]
      apply wpE_op (by rfl) (by rfl) (by rfl)
      · intro f a' w' ha hf hJ Q1 hQ
        have o6 : f 6 = false := by
          cases h5 : f 6 with
          | false => rfl
          | true => exact absurd ((hf.1.1).symm.trans (hf.2.step 6 4 rfl (by kernel_rfl) h5)) (by decide)
        have o7 : f 7 = false := by
          cases h5 : f 7 with
          | false => rfl
          | true => exact absurd ((o6).symm.trans (hf.2.step 7 6 rfl (by kernel_rfl) h5)) (by decide)
        have o15 : f 15 = false := by
          cases h5 : f 15 with
          | false => rfl
          | true => exact absurd ((o7).symm.trans (hf.2.step 15 7 rfl (by kernel_rfl) h5)) (by decide)
        have o18 : f 18 = false := by
          cases h5 : f 18 with
          | false => rfl
          | true => exact absurd ((o15).symm.trans (hf.2.step 18 15 rfl (by kernel_rfl) h5)) (by decide)
        have hbw := hJ.bel o18
        have c5 := (Blk.below hbw HB.out.1 HB.out.1.lt).rd
        simp only [Act.put, List.setIfInBounds_toArray, List.set_cons_zero, List.set_cons_succ] at hQ
        go_wp2
        exact hQ _ _ rfl (hJ.put rfl rfl rfl rfl (slot_put_ne (a := a') (by decide) _) (slot_put_ne (a := a') (by decide) _) (slot_put_ne (a := a') (by decide) _))
      simp only [Act.put, List.setIfInBounds_toArray, List.set_cons_zero, List.set_cons_succ]
      apply wpE_op (by rfl) (by rfl) (by rfl)
      · intro f a' w' ha hf hJ Q1 hQ
        simp only [Act.put, List.setIfInBounds_toArray, List.set_cons_zero, List.set_cons_succ] at hQ
        go_wp2
        exact hQ _ _ rfl (hJ.put rfl rfl rfl rfl (slot_put_ne (a := a') (by decide) _) (slot_put_ne (a := a') (by decide) _) (slot_put_ne (a := a') (by decide) _))
      simp only [Act.put, List.setIfInBounds_toArray, List.set_cons_zero, List.set_cons_succ]
      apply wpE_op (by rfl) (by rfl) (by rfl)
      · intro f a' w' ha hf hJ Q1 hQ
        simp only [Act.put, List.setIfInBounds_toArray, List.set_cons_zero, List.set_cons_succ] at hQ
        go_wp2
        exact hQ _ _ rfl (hJ.put rfl rfl rfl rfl (slot_put_ne (a := a') (by decide) _) (slot_put_ne (a := a') (by decide) _) (slot_put_ne (a := a') (by decide) _))
      simp only [Act.put, List.setIfInBounds_toArray, List.set_cons_zero, List.set_cons_succ]
      apply wpE_any (d := 22) rfl (by simp) ⟨_, none, 0, 0, rfl⟩ (by rfl)
      · intro f a' w' ha hf hJ Q1 hQ
        have o15 : f 15 = false := by
          cases h5 : f 15 with
          | false => rfl
          | true => exact absurd ((hf.1.1).symm.trans (hf.2.step 15 7 rfl (by kernel_rfl) h5)) (by decide)
        have o18 : f 18 = false := by
          cases h5 : f 18 with
          | false => rfl
          | true => exact absurd ((o15).symm.trans (hf.2.step 18 15 rfl (by kernel_rfl) h5)) (by decide)
        have hbw := hJ.bel o18
        have hsz : 22 < a'.tmps.size := by rw [ha.1]; simp
        have hw' : w' = W := (hJ.1 o18).2.1 hf.1.1 o15 o15
        subst hw'
        simp only [Act.put, List.setIfInBounds_toArray, List.set_cons_zero, List.set_cons_succ] at hQ
        go_wp2_with (at_builtin; refine wp_app3 rfl _ _ 144 163 _ 56 infoFile rfl (by decide) underF rfl _ [] none rfl (Or.inl ⟨rfl, rfl, rfl⟩) (some ⟨g, 0, none⟩) j cap (vals.take j) (by rw [List.length_take]; have := HN.out; omega) rfl (fun _ => ⟨_, rfl, fun q u hq => by have := blk_cut3 HB.out.2 0 [] (vals.take j) (vals.drop j) (by simp) rfl q u hq; simpa using this⟩) (one3_sub HONE.out (fun a ha => List.mem_of_mem_take ha)) (by rw [List.length_take]; simp; have := HN.out; omega) ?_; intro v3 w3 B3 hI3 hB3 hU3; rw [List.nil_append] at hI3)
        have hz : Below w'.heap.size w' w3 := hU3.below (Nat.le_refl _) (fun k hk => by cases hk)
        exact hQ _ _ _ rfl (Row3.sl hI3) (hJ.ev1 o18 o15 (by decide) (by decide) (by decide) (slot_put (a := a') hsz _) (slot_put_ne (a := a') (by decide) _) hz (fun _ _ => trivial) ⟨B3, hI3, fun g hg => (hB3 g hg).elim (fun h => by cases h) (fun h => h)⟩)
      rintro _ ⟨ua, ul, uc, rfl⟩
      simp only [Act.put, List.setIfInBounds_toArray, List.set_cons_zero, List.set_cons_succ]
      apply wpE_op (by rfl) (by rfl) (by rfl)
      · intro f a' w' ha hf hJ Q1 hQ
        simp only [Act.put, List.setIfInBounds_toArray, List.set_cons_zero, List.set_cons_succ] at hQ
        go_wp2
        exact hQ _ _ rfl (hJ.put rfl rfl rfl rfl (slot_put_ne (a := a') (by decide) _) (slot_put_ne (a := a') (by decide) _) (slot_put_ne (a := a') (by decide) _))
      simp only [Act.put, List.setIfInBounds_toArray, List.set_cons_zero, List.set_cons_succ]
      apply wpE_op (by rfl) (by rfl) (by rfl)
      · intro f a' w' ha hf hJ Q1 hQ
        simp only [Act.put, List.setIfInBounds_toArray, List.set_cons_zero, List.set_cons_succ] at hQ
        go_wp2
        exact hQ _ _ rfl (hJ.put rfl rfl rfl rfl (slot_put_ne (a := a') (by decide) _) (slot_put_ne (a := a') (by decide) _) (slot_put_ne (a := a') (by decide) _))
      simp only [Act.put, List.setIfInBounds_toArray, List.set_cons_zero, List.set_cons_succ]
      apply wpE_op (by rfl) (by rfl) (by rfl)
      · intro f a' w' ha hf hJ Q1 hQ
        simp only [Act.put, List.setIfInBounds_toArray, List.set_cons_zero, List.set_cons_succ] at hQ
        go_wp2
        exact hQ _ _ rfl (hJ.put rfl rfl rfl rfl (slot_put_ne (a := a') (by decide) _) (slot_put_ne (a := a') (by decide) _) (slot_put_ne (a := a') (by decide) _))
      simp only [Act.put, List.setIfInBounds_toArray, List.set_cons_zero, List.set_cons_succ]
      apply wpE_op (by rfl) (by rfl) (by rfl)
      · intro f a' w' ha hf hJ Q1 hQ
        have o14 : f 14 = false := by
          cases h5 : f 14 with
          | false => rfl
          | true => exact absurd ((hf.1.1).symm.trans (hf.2.step 14 11 rfl (by kernel_rfl) h5)) (by decide)
        have o15 : f 15 = false := by
          cases h5 : f 15 with
          | false => rfl
          | true => exact absurd ((o14).symm.trans (hf.2.step 15 14 rfl (by kernel_rfl) h5)) (by decide)
        have o18 : f 18 = false := by
          cases h5 : f 18 with
          | false => rfl
          | true => exact absurd ((o15).symm.trans (hf.2.step 18 15 rfl (by kernel_rfl) h5)) (by decide)
        have hbw := hJ.bel o18
        have c5 := (Blk.below hbw HB.out.1 HB.out.1.lt).rd
        simp only [Act.put, List.setIfInBounds_toArray, List.set_cons_zero, List.set_cons_succ] at hQ
        go_wp2
        exact hQ _ _ rfl (hJ.put rfl rfl rfl rfl (slot_put_ne (a := a') (by decide) _) (slot_put_ne (a := a') (by decide) _) (slot_put_ne (a := a') (by decide) _))
      simp only [Act.put, List.setIfInBounds_toArray, List.set_cons_zero, List.set_cons_succ]
      apply wpE_op (by rfl) (by rfl) (by rfl)
      · intro f a' w' ha hf hJ Q1 hQ
        simp only [Act.put, List.setIfInBounds_toArray, List.set_cons_zero, List.set_cons_succ] at hQ
        go_wp2
        exact hQ _ _ rfl (hJ.put rfl rfl rfl rfl (slot_put_ne (a := a') (by decide) _) (slot_put_ne (a := a') (by decide) _) (slot_put_ne (a := a') (by decide) _))
      simp only [Act.put, List.setIfInBounds_toArray, List.set_cons_zero, List.set_cons_succ]
      apply wpE_op (by rfl) (by rfl) (by rfl)
      · intro f a' w' ha hf hJ Q1 hQ
        simp only [Act.put, List.setIfInBounds_toArray, List.set_cons_zero, List.set_cons_succ] at hQ
        go_wp2
        exact hQ _ _ rfl (hJ.put rfl rfl rfl rfl (slot_put_ne (a := a') (by decide) _) (slot_put_ne (a := a') (by decide) _) (slot_put_ne (a := a') (by decide) _))
      simp only [Act.put, List.setIfInBounds_toArray, List.set_cons_zero, List.set_cons_succ]
      apply wpE_op (by rfl) (by rfl) (by rfl)
      · intro f a' w' ha hf hJ Q1 hQ
        simp only [Act.put, List.setIfInBounds_toArray, List.set_cons_zero, List.set_cons_succ] at hQ
        go_wp2
        exact hQ _ _ rfl (hJ.put rfl rfl rfl rfl (slot_put_ne (a := a') (by decide) _) (slot_put_ne (a := a') (by decide) _) (slot_put_ne (a := a') (by decide) _))
      simp only [Act.put, List.setIfInBounds_toArray, List.set_cons_zero, List.set_cons_succ]
      apply wpE_any (d := 30) rfl (by simp) ⟨_, none, 0, 0, rfl⟩ (by rfl)
      · intro f a' w' ha hf hJ Q1 hQ
        have o18 : f 18 = false := by
          cases h5 : f 18 with
          | false => rfl
          | true => exact absurd ((hf.1.1).symm.trans (hf.2.step 18 15 rfl (by kernel_rfl) h5)) (by decide)
        have hbw := hJ.bel o18
        have on1 : f 7 = true := hf.1.2 ⟨7, .data⟩ (by simp) rfl
        have hp1 := (hJ.1 o18).2.2.1 on1 hf.1.1
        have hsz : 30 < a'.tmps.size := by rw [ha.1]; simp
        have e1 : slot a' 22 = .slice ua ul uc := by
          have := ha.2 22 (by decide)
          simp only [slot, Array.getD_eq_getD_getElem?, this]; rfl
        rw [e1] at hp1
        obtain ⟨B1, hI1, hB1⟩ := hp1
        simp only [Act.put, List.setIfInBounds_toArray, List.set_cons_zero, List.set_cons_succ] at hQ
        go_wp2_with (at_builtin; refine wp_app3 rfl _ _ 144 163 _ 56 infoFile rfl (by decide) underF rfl _ (vals.take j) B1 rfl hI1 (some ad) (m - M) (cap - M) (vals.drop (j + 1)) (by rw [List.length_drop]; have := HN.out; have := HM.out; omega) rfl (HNW.out _ (Blk.below hbw HB.out.2 HB.out.2.lt)) (one3_sub HONE.out (fun a ha => List.mem_of_mem_drop ha)) (by rw [List.length_take, List.length_drop]; have := HN.out; omega) ?_; intro v3 w3 B3 hI3 hB3 hU3)
        have hz : Below W.heap.size W w3 := hbw.trans (hU3.below hbw.size (fun k hk => hB1 k hk))
        exact hQ _ _ _ rfl (Row3.sl hI3) (hJ.ev3 o18 (by decide) (slot_put (a := a') hsz _) hz ⟨B3, hI3, fun g hg => (hB3 g hg).elim (hB1 g) (fun h => Nat.le_trans hbw.size h)⟩)
      rintro _ ⟨va, vl, vc, rfl⟩
      simp only [Act.put, List.setIfInBounds_toArray, List.set_cons_zero, List.set_cons_succ]
      apply wpE_op (by rfl) (by rfl) (by rfl)
      · intro f a' w' ha hf hJ Q1 hQ
        simp only [Act.put, List.setIfInBounds_toArray, List.set_cons_zero, List.set_cons_succ] at hQ
        go_wp2
        exact hQ _ _ rfl (hJ.put rfl rfl rfl rfl (slot_put_ne (a := a') (by decide) _) (slot_put_ne (a := a') (by decide) _) (slot_put_ne (a := a') (by decide) _))
      simp only [Act.put, List.setIfInBounds_toArray, List.set_cons_zero, List.set_cons_succ]
      apply wpE_op (by rfl) (by rfl) (by rfl)
      · intro f a' w' ha hf hJ Q1 hQ
        simp only [Act.put, List.setIfInBounds_toArray, List.set_cons_zero, List.set_cons_succ] at hQ
        go_wp2
        exact hQ _ _ rfl (hJ.put rfl rfl rfl rfl (slot_put_ne (a := a') (by decide) _) (slot_put_ne (a := a') (by decide) _) (slot_put_ne (a := a') (by decide) _))
      simp only [Act.put, List.setIfInBounds_toArray, List.set_cons_zero, List.set_cons_succ]
      apply wpE_op (v := undef) (by rfl) (by rfl) (by rfl)
      · intro f a' w' ha hf hJ Q1 hQ
        have hbw := hJ.bel hf.1.1
        have on3 : f 15 = true := hf.1.2 ⟨15, .data⟩ (by simp) rfl
        have e3 : slot a' 30 = .slice va vl vc := by
          have := ha.2 30 (by decide)
          simp only [slot, Array.getD_eq_getD_getElem?, this]; rfl
        have c5 := (Blk.below hbw HB.out.1 HB.out.1.lt).rd
        have f5 := (Blk.below hbw HB.out.1 HB.out.1.lt).nf
        simp only [Act.put, List.setIfInBounds_toArray, List.set_cons_zero, List.set_cons_succ] at hQ
        go_wp2
        exact hQ _ _ rfl (hJ.store hf.1.1 on3 rfl e3)
      simp only [Act.put, List.setIfInBounds_toArray, List.set_cons_zero, List.set_cons_succ]
      refine wpE_nil ?_
      intro w4 hJ
      obtain ⟨w3, hb3, hq3, rfl⟩ := hJ.fin rfl (v := .slice va vl vc) rfl
      obtain ⟨B3, hI3, hB3⟩ := hq3
      have HF := Lib.hid (And.intro hb3 (And.intro hI3 hB3))
      clear hb3 hI3 hB3
      go_wp2
      go_ret
      exact drop_fin H1.out HC.out.1 HC.out.2 HX.out.1 HX.out.2.1 HX.out.2.2.1 HX.out.2.2.2 HW.out.1 HF.out.1 HF.out.2.1 HF.out.2.2
end
end Go.Proofs.YtchnjfmimpikcaaGreatDoor
