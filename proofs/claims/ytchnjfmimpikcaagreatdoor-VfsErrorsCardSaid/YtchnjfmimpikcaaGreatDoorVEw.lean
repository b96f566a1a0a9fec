/-
  VfsErrors: the walk, by what the last act does. (Printed by gen_ver.py.)
-/
import Derived.Test.YtchnjfmimpikcaaGreatDoorVEr
namespace Go.Proofs.YtchnjfmimpikcaaGreatDoor
set_option linter.unusedSimpArgs false
set_option linter.unusedVariables false
open Go.RowKit Own RegC Three Two
open RegJ hiding Up
open RegF hiding put_size
open Go.Lib hiding intOf

theorem B47 : B [47] = (⟨#[47]⟩ : ByteArray) := rfl
set_option maxRecDepth 100000 in
set_option maxHeartbeats 8000000 in
theorem err_open (av : Option Addr) (len cap : Nat) (n : Int) (s t : Txt) (v : Value) (bs : List Int) (w : World) (hm : len ≤ maxLen) (hA : ActsV w av len) (hv : ArgB w v bs) (m0 : Int) (hm0 : w.cell? ⟨0, 0, none⟩ = some (.int .i64 m0)) :
    Calls Tryz.prog 6 #[.slice av len cap, .agg #[.int .i64 0, .int .i64 n, .string (B s), .string (B t), v]] w (AwP w) := by
  obtain ⟨a, cc, rfl, -, -⟩ := hv
  have hB0 : Below w.heap.size w (w.alloc (.cells #[.int .i64 0, .int .i64 n, .string (B s), .string (B t), .slice a bs.length cc] 51)) := (Below.refl _ _).alloc (Nat.le_refl _) _
  have hbb := Blk.new w #[.int .i64 0, .int .i64 n, .string (B s), .string (B t), .slice a bs.length cc] 51
  have hgr := great_v (cap := cap) (hA.below hB0) hm 40 (by omega)
  have HM := Lib.hid (MC.below ⟨m0, hm0⟩ hB0)
  have es := B_size s
  have et := B_size t
  obtain ⟨S, hS⟩ : ∃ S, B s = S := ⟨_, rfl⟩
  obtain ⟨T, hT⟩ : ∃ T, B t = T := ⟨_, rfl⟩
  have HS := Lib.hid (And.intro hS hT)
  rw [hS] at es hB0 hgr hbb HM ⊢
  rw [hT] at et hB0 hgr hbb HM ⊢
  clear hS hT hA hm hm0
  letI : Inhabited CapT := capOf 8
  have hcap : capN = 8 := rfl
  have HC := Lib.hid hcap
  clear hcap
  generalize bs.length = bl at *
  obtain ⟨W, hW⟩ : ∃ W, w.alloc (.cells #[.int .i64 0, .int .i64 n, .string S, .string T, .slice a bl cc] 51) = W := ⟨_, rfl⟩
  obtain ⟨bx, hbx⟩ : ∃ bx, w.heap.size = bx := ⟨_, rfl⟩
  rw [hW] at hB0 hgr hbb HM
  rw [hbx] at hbb hB0
  have c1 := hbb.rd
  have HB := Lib.hid (And.intro hB0 hbb)
  have hgr : Calls Tryz.prog 7 #[.slice av len cap, .int .i64 40] W (GrV W av len 40) := hgr
  have haw := vawake W HM.out
  have HBX := Lib.hid hbx
  by_cases hs : S.size > 200
  · have d6 : decide ((S.size : Int) > 200) = true := by simp; omega
    have d6n : decide (S.size > 200) = true := by simpa using hs
    clear hs es et
    go_enter Tryz.func6, Tryz.ntmps6
    go_upto_region 1 with (fail)
    try rw [hW]
    try rw [hbx]
    go_upto_region 2 with (go_at_call 7; (with_reducible refine hgr.mono ?_); rintro e w3 ⟨b, rfl, hb, rfl⟩; clear hgr hb; cases b)
    all_goals (go_wp2_with (go_at_call 8; (with_reducible refine haw.mono ?_); rintro e w7 ⟨rfl, hB⟩; have H7 := Lib.hid hB; clear haw hB); go_ret; exact ⟨rfl, by have h1 := HB.out.1; rw [← HBX.out] at h1; exact h1.trans (H7.out.mono (by have h2 := HB.out.1.size; have h3 := HBX.out; omega))⟩)
  have d6 : decide ((S.size : Int) > 200) = false := by simp; omega
  have d6n : decide (S.size > 200) = false := by simpa using hs
  by_cases ht : T.size > 200
  · have d7 : decide ((T.size : Int) > 200) = true := by simp; omega
    have d7n : decide (T.size > 200) = true := by simpa using ht
    clear hs ht es et
    go_enter Tryz.func6, Tryz.ntmps6
    go_upto_region 1 with (fail)
    try rw [hW]
    try rw [hbx]
    go_upto_region 2 with (go_at_call 7; (with_reducible refine hgr.mono ?_); rintro e w3 ⟨b, rfl, hb, rfl⟩; clear hgr hb; cases b)
    all_goals (go_wp2_with (go_at_call 8; (with_reducible refine haw.mono ?_); rintro e w7 ⟨rfl, hB⟩; have H7 := Lib.hid hB; clear haw hB); go_ret; exact ⟨rfl, by have h1 := HB.out.1; rw [← HBX.out] at h1; exact h1.trans (H7.out.mono (by have h2 := HB.out.1.size; have h3 := HBX.out; omega))⟩)
  have d7 : decide ((T.size : Int) > 200) = false := by simp; omega
  have d7n : decide (T.size > 200) = false := by simpa using ht
  have HZ := Lib.hid (show s.length ≤ 100000 ∧ t.length ≤ 100000 by omega)
  clear hs ht es et
  go_enter Tryz.func6, Tryz.ntmps6
  go_upto_region 1 with (fail)
  try rw [hW]
  try rw [hbx]
  go_upto_if 25 with (go_at_call 7; (with_reducible refine hgr.mono ?_); rintro e w3 ⟨b, rfl, hb, rfl⟩; clear hgr; have HG := Lib.hid hb; clear hb; cases b)
  · have HL := Lib.hid (HG.out (by first | rfl | trivial))
    clear HG haw
    have hpl := played_v HC.out av len cap W HL.out.1 HL.out.2 HM.out
    go_upto_region 9 with (first
      | (go_at_call 9; (with_reducible refine hpl.mono ?_); rintro e w1 ⟨vb, tb, fb, sb, rv, rt, rs, ns, rfl, hR, hT⟩; obtain ⟨nd, hdir, hwk⟩ := root_at hR; have hls : lsF ns [47] = (nd.es, 0) := (by unfold lsF; rw [hwk]; simp [hdir]); have HP := Lib.hid (And.intro hR (And.intro hT hls)); have hli := pv_list hT [47] (by simp) nd.es 0 hls; have h8 := pv_le hT hls; obtain ⟨L, hL⟩ : ∃ L, nd.es.length = L := ⟨_, rfl⟩; unfold LsP at hli; rw [hL, B47] at hli; rw [hL] at h8; have HLL := Lib.hid (And.intro hL h8); clear hpl hR hT hwk hdir hls h8 hL)
      | (go_at_call 23; (with_reducible refine hli.mono ?_); rintro e w2 ⟨a3, c3, b3, rfl, hR, hb, hB⟩; have H2 := Lib.hid (And.intro hR (And.intro hb (HP.out.2.1.keepB hB))); have hno := d_nodes H2.out.2.2.dv; have hle := d_len H2.out.2.2.dv _ rfl; clear hli hR hb hB)
      | (go_at_call 24; (with_reducible refine hno.mono ?_); rintro e w7 ⟨rfl, rfl⟩; clear hno)
      | (go_at_call 25; (with_reducible refine hle.mono ?_); rintro e w7 ⟨rfl, rfl⟩; clear hle))
    have c2 := (Blk.below H2.out.2.2.bel HB.out.2 HB.out.2.lt).rd
    obtain ⟨st, hst⟩ : ∃ st, openF ns s n = st := ⟨_, rfl⟩
    obtain ⟨m, r, ns'⟩ := st
    have HST := Lib.hid hst
    clear hst
    have hop := PV.left H2.out.2.2 (fun lo hV _ _ _ => (Open_is hV (by have := HL.out.1; omega) s HZ.out.1 n m r _ HST.out).mono fun _ _ hh => MadP.le hh (show _ ≤ 4 * len + 4 by omega))
    rw [HS.out.1] at hop
    by_cases hr : r = 0
    · subst hr
      go_wp2_with (first
        | (go_at_call 18; (with_reducible refine hop.mono ?_); rintro e w4 ⟨rfl, hT4, hu4⟩; have H4 := Lib.hid hT4; have haw := d_aw H4.out.dv; clear hop hT4 hu4)
        | (go_at_call 8; (with_reducible refine haw.mono ?_); rintro e w8 ⟨rfl, hB⟩; have H8 := Lib.hid hB; clear haw hB))
      go_ret
      exact ⟨rfl, by have h1 := HB.out.1; rw [← HBX.out] at h1; exact h1.trans (H8.out.mono (by have h2 := HB.out.1.size; have h3 := HBX.out; omega))⟩
    · have e1 : (r == 0) = false := by simpa using hr
      have hns : ns' = ns := by
        have h := openF_ref (l := s) (n := n) HP.out.1
        rw [HST.out] at h
        exact h hr
      rw [hns] at hop
      have HR3 := Lib.hid (show ∀ g, b3 = some g → ¬ ¬ (False ∨ (w1.heap.size ≤ g ∧ g < w2.heap.size)) from fun g hg hn => hn (Or.inr ⟨H2.out.2.1 g hg, H2.out.1.lt g hg⟩))
      clear hr hns
      have LN : (lenN ns 16 : Int) = lenN ns 16 := rfl
      go_wp2_with (first
        | (go_at_call 18; (with_reducible refine hop.mono ?_); rintro e w4 ⟨rfl, hT4, hu4⟩; have hT5 := hT4.le (Nat.le_refl _) (show 4 * len ≤ 4 * len + 4 by omega); have hR4 := H2.out.1.upd hu4 HR3.out; have hli2 := pv_list hT5 [47] (by simp) nd.es 0 HP.out.2.2; unfold LsP at hli2; rw [HLL.out.1, B47] at hli2; have H4 := Lib.hid (And.intro hT5 hR4); clear hop hT4 hu4 hT5 hR4)
        | (go_at_call 23; (with_reducible refine hli2.mono ?_); rintro e w5 ⟨a5, c5, b5, rfl, hR5, hb5, hB5⟩; have H5 := Lib.hid (H4.out.1.below hB5); have hse := sameE_is (w := w5) (es := nd.es) L c3 c5 ((H4.out.2.below hB5).rd) hR5.rd HLL.out.1 (by have := HLL.out.2; omega); clear hli2 hR5 hb5 hB5)
        | (go_at_call 28; (with_reducible refine hse.mono ?_); rintro e w6 ⟨rfl, q, rfl⟩; have H6 := Lib.hid (H5.out.drewN q); have hno2 := d_nodes H6.out.dv; have hle2 := d_len H6.out.dv _ rfl; have haw := d_aw H6.out.dv; clear hse)
        | (go_at_call 24; (with_reducible refine hno2.mono ?_); rintro e w7 ⟨rfl, rfl⟩; clear hno2)
        | (go_at_call 25; (with_reducible refine hle2.mono ?_); rintro e w7 ⟨rfl, rfl⟩; clear hle2)
        | (go_at_call 8; (with_reducible refine haw.mono ?_); rintro e w8 ⟨rfl, hB⟩; have H8 := Lib.hid hB; clear haw hB))
      go_ret
      exact ⟨rfl, by have h1 := HB.out.1; rw [← HBX.out] at h1; exact h1.trans (H8.out.mono (by have h2 := HB.out.1.size; have h3 := HBX.out; omega))⟩
  · clear HG
    go_wp2_with (go_at_call 8; (with_reducible refine haw.mono ?_); rintro e w7 ⟨rfl, hB⟩; have H7 := Lib.hid hB; clear haw hB)
    go_ret
    exact ⟨rfl, by have h1 := HB.out.1; rw [← HBX.out] at h1; exact h1.trans (H7.out.mono (by have h2 := HB.out.1.size; have h3 := HBX.out; omega))⟩
set_option maxRecDepth 100000 in
set_option maxHeartbeats 8000000 in
theorem err_link (av : Option Addr) (len cap : Nat) (n : Int) (s t : Txt) (v : Value) (bs : List Int) (w : World) (hm : len ≤ maxLen) (hA : ActsV w av len) (hv : ArgB w v bs) (m0 : Int) (hm0 : w.cell? ⟨0, 0, none⟩ = some (.int .i64 m0)) :
    Calls Tryz.prog 6 #[.slice av len cap, .agg #[.int .i64 1, .int .i64 n, .string (B s), .string (B t), v]] w (AwP w) := by
  obtain ⟨a, cc, rfl, -, -⟩ := hv
  have hB0 : Below w.heap.size w (w.alloc (.cells #[.int .i64 1, .int .i64 n, .string (B s), .string (B t), .slice a bs.length cc] 51)) := (Below.refl _ _).alloc (Nat.le_refl _) _
  have hbb := Blk.new w #[.int .i64 1, .int .i64 n, .string (B s), .string (B t), .slice a bs.length cc] 51
  have hgr := great_v (cap := cap) (hA.below hB0) hm 40 (by omega)
  have HM := Lib.hid (MC.below ⟨m0, hm0⟩ hB0)
  have es := B_size s
  have et := B_size t
  obtain ⟨S, hS⟩ : ∃ S, B s = S := ⟨_, rfl⟩
  obtain ⟨T, hT⟩ : ∃ T, B t = T := ⟨_, rfl⟩
  have HS := Lib.hid (And.intro hS hT)
  rw [hS] at es hB0 hgr hbb HM ⊢
  rw [hT] at et hB0 hgr hbb HM ⊢
  clear hS hT hA hm hm0
  letI : Inhabited CapT := capOf 8
  have hcap : capN = 8 := rfl
  have HC := Lib.hid hcap
  clear hcap
  generalize bs.length = bl at *
  obtain ⟨W, hW⟩ : ∃ W, w.alloc (.cells #[.int .i64 1, .int .i64 n, .string S, .string T, .slice a bl cc] 51) = W := ⟨_, rfl⟩
  obtain ⟨bx, hbx⟩ : ∃ bx, w.heap.size = bx := ⟨_, rfl⟩
  rw [hW] at hB0 hgr hbb HM
  rw [hbx] at hbb hB0
  have c1 := hbb.rd
  have HB := Lib.hid (And.intro hB0 hbb)
  have hgr : Calls Tryz.prog 7 #[.slice av len cap, .int .i64 40] W (GrV W av len 40) := hgr
  have haw := vawake W HM.out
  have HBX := Lib.hid hbx
  by_cases hs : S.size > 200
  · have d6 : decide ((S.size : Int) > 200) = true := by simp; omega
    have d6n : decide (S.size > 200) = true := by simpa using hs
    clear hs es et
    go_enter Tryz.func6, Tryz.ntmps6
    go_upto_region 1 with (fail)
    try rw [hW]
    try rw [hbx]
    go_upto_region 2 with (go_at_call 7; (with_reducible refine hgr.mono ?_); rintro e w3 ⟨b, rfl, hb, rfl⟩; clear hgr hb; cases b)
    all_goals (go_wp2_with (go_at_call 8; (with_reducible refine haw.mono ?_); rintro e w7 ⟨rfl, hB⟩; have H7 := Lib.hid hB; clear haw hB); go_ret; exact ⟨rfl, by have h1 := HB.out.1; rw [← HBX.out] at h1; exact h1.trans (H7.out.mono (by have h2 := HB.out.1.size; have h3 := HBX.out; omega))⟩)
  have d6 : decide ((S.size : Int) > 200) = false := by simp; omega
  have d6n : decide (S.size > 200) = false := by simpa using hs
  by_cases ht : T.size > 200
  · have d7 : decide ((T.size : Int) > 200) = true := by simp; omega
    have d7n : decide (T.size > 200) = true := by simpa using ht
    clear hs ht es et
    go_enter Tryz.func6, Tryz.ntmps6
    go_upto_region 1 with (fail)
    try rw [hW]
    try rw [hbx]
    go_upto_region 2 with (go_at_call 7; (with_reducible refine hgr.mono ?_); rintro e w3 ⟨b, rfl, hb, rfl⟩; clear hgr hb; cases b)
    all_goals (go_wp2_with (go_at_call 8; (with_reducible refine haw.mono ?_); rintro e w7 ⟨rfl, hB⟩; have H7 := Lib.hid hB; clear haw hB); go_ret; exact ⟨rfl, by have h1 := HB.out.1; rw [← HBX.out] at h1; exact h1.trans (H7.out.mono (by have h2 := HB.out.1.size; have h3 := HBX.out; omega))⟩)
  have d7 : decide ((T.size : Int) > 200) = false := by simp; omega
  have d7n : decide (T.size > 200) = false := by simpa using ht
  have HZ := Lib.hid (show s.length ≤ 100000 ∧ t.length ≤ 100000 by omega)
  clear hs ht es et
  go_enter Tryz.func6, Tryz.ntmps6
  go_upto_region 1 with (fail)
  try rw [hW]
  try rw [hbx]
  go_upto_if 25 with (go_at_call 7; (with_reducible refine hgr.mono ?_); rintro e w3 ⟨b, rfl, hb, rfl⟩; clear hgr; have HG := Lib.hid hb; clear hb; cases b)
  · have HL := Lib.hid (HG.out (by first | rfl | trivial))
    clear HG haw
    have hpl := played_v HC.out av len cap W HL.out.1 HL.out.2 HM.out
    go_upto_region 9 with (first
      | (go_at_call 9; (with_reducible refine hpl.mono ?_); rintro e w1 ⟨vb, tb, fb, sb, rv, rt, rs, ns, rfl, hR, hT⟩; obtain ⟨nd, hdir, hwk⟩ := root_at hR; have hls : lsF ns [47] = (nd.es, 0) := (by unfold lsF; rw [hwk]; simp [hdir]); have HP := Lib.hid (And.intro hR (And.intro hT hls)); have hli := pv_list hT [47] (by simp) nd.es 0 hls; have h8 := pv_le hT hls; obtain ⟨L, hL⟩ : ∃ L, nd.es.length = L := ⟨_, rfl⟩; unfold LsP at hli; rw [hL, B47] at hli; rw [hL] at h8; have HLL := Lib.hid (And.intro hL h8); clear hpl hR hT hwk hdir hls h8 hL)
      | (go_at_call 23; (with_reducible refine hli.mono ?_); rintro e w2 ⟨a3, c3, b3, rfl, hR, hb, hB⟩; have H2 := Lib.hid (And.intro hR (And.intro hb (HP.out.2.1.keepB hB))); have hno := d_nodes H2.out.2.2.dv; have hle := d_len H2.out.2.2.dv _ rfl; clear hli hR hb hB)
      | (go_at_call 24; (with_reducible refine hno.mono ?_); rintro e w7 ⟨rfl, rfl⟩; clear hno)
      | (go_at_call 25; (with_reducible refine hle.mono ?_); rintro e w7 ⟨rfl, rfl⟩; clear hle))
    have c2 := (Blk.below H2.out.2.2.bel HB.out.2 HB.out.2.lt).rd
    obtain ⟨st, hst⟩ : ∃ st, linkF ns s t = st := ⟨_, rfl⟩
    obtain ⟨r, ns'⟩ := st
    have HST := Lib.hid hst
    clear hst
    have hop := PV.left H2.out.2.2 (fun lo hV _ _ _ => (Link_is hV s t HZ.out.1 HZ.out.2 r _ HST.out).mono fun _ _ hh => MadP.le hh (show _ ≤ 4 * len + 4 by omega))
    rw [HS.out.1, HS.out.2] at hop
    by_cases hr : r = 0
    · subst hr
      go_wp2_with (first
        | (go_at_call 10; (with_reducible refine hop.mono ?_); rintro e w4 ⟨rfl, hT4, hu4⟩; have H4 := Lib.hid hT4; have haw := d_aw H4.out.dv; clear hop hT4 hu4)
        | (go_at_call 8; (with_reducible refine haw.mono ?_); rintro e w8 ⟨rfl, hB⟩; have H8 := Lib.hid hB; clear haw hB))
      go_ret
      exact ⟨rfl, by have h1 := HB.out.1; rw [← HBX.out] at h1; exact h1.trans (H8.out.mono (by have h2 := HB.out.1.size; have h3 := HBX.out; omega))⟩
    · have e1 : (r == 0) = false := by simpa using hr
      have hns : ns' = ns := by
        have h := linkF_ref (ns := ns) (s := s) (t := t)
        rw [HST.out] at h
        exact h hr
      rw [hns] at hop
      have HR3 := Lib.hid (show ∀ g, b3 = some g → ¬ ¬ (False ∨ (w1.heap.size ≤ g ∧ g < w2.heap.size)) from fun g hg hn => hn (Or.inr ⟨H2.out.2.1 g hg, H2.out.1.lt g hg⟩))
      clear hr hns
      have LN : (lenN ns 16 : Int) = lenN ns 16 := rfl
      go_wp2_with (first
        | (go_at_call 10; (with_reducible refine hop.mono ?_); rintro e w4 ⟨rfl, hT4, hu4⟩; have hT5 := hT4.le (Nat.le_refl _) (show 4 * len ≤ 4 * len + 4 by omega); have hR4 := H2.out.1.upd hu4 HR3.out; have hli2 := pv_list hT5 [47] (by simp) nd.es 0 HP.out.2.2; unfold LsP at hli2; rw [HLL.out.1, B47] at hli2; have H4 := Lib.hid (And.intro hT5 hR4); clear hop hT4 hu4 hT5 hR4)
        | (go_at_call 23; (with_reducible refine hli2.mono ?_); rintro e w5 ⟨a5, c5, b5, rfl, hR5, hb5, hB5⟩; have H5 := Lib.hid (H4.out.1.below hB5); have hse := sameE_is (w := w5) (es := nd.es) L c3 c5 ((H4.out.2.below hB5).rd) hR5.rd HLL.out.1 (by have := HLL.out.2; omega); clear hli2 hR5 hb5 hB5)
        | (go_at_call 28; (with_reducible refine hse.mono ?_); rintro e w6 ⟨rfl, q, rfl⟩; have H6 := Lib.hid (H5.out.drewN q); have hno2 := d_nodes H6.out.dv; have hle2 := d_len H6.out.dv _ rfl; have haw := d_aw H6.out.dv; clear hse)
        | (go_at_call 24; (with_reducible refine hno2.mono ?_); rintro e w7 ⟨rfl, rfl⟩; clear hno2)
        | (go_at_call 25; (with_reducible refine hle2.mono ?_); rintro e w7 ⟨rfl, rfl⟩; clear hle2)
        | (go_at_call 8; (with_reducible refine haw.mono ?_); rintro e w8 ⟨rfl, hB⟩; have H8 := Lib.hid hB; clear haw hB))
      go_ret
      exact ⟨rfl, by have h1 := HB.out.1; rw [← HBX.out] at h1; exact h1.trans (H8.out.mono (by have h2 := HB.out.1.size; have h3 := HBX.out; omega))⟩
  · clear HG
    go_wp2_with (go_at_call 8; (with_reducible refine haw.mono ?_); rintro e w7 ⟨rfl, hB⟩; have H7 := Lib.hid hB; clear haw hB)
    go_ret
    exact ⟨rfl, by have h1 := HB.out.1; rw [← HBX.out] at h1; exact h1.trans (H7.out.mono (by have h2 := HB.out.1.size; have h3 := HBX.out; omega))⟩
set_option maxRecDepth 100000 in
set_option maxHeartbeats 8000000 in
theorem err_unlink (av : Option Addr) (len cap : Nat) (n : Int) (s t : Txt) (v : Value) (bs : List Int) (w : World) (hm : len ≤ maxLen) (hA : ActsV w av len) (hv : ArgB w v bs) (m0 : Int) (hm0 : w.cell? ⟨0, 0, none⟩ = some (.int .i64 m0)) :
    Calls Tryz.prog 6 #[.slice av len cap, .agg #[.int .i64 2, .int .i64 n, .string (B s), .string (B t), v]] w (AwP w) := by
  obtain ⟨a, cc, rfl, -, -⟩ := hv
  have hB0 : Below w.heap.size w (w.alloc (.cells #[.int .i64 2, .int .i64 n, .string (B s), .string (B t), .slice a bs.length cc] 51)) := (Below.refl _ _).alloc (Nat.le_refl _) _
  have hbb := Blk.new w #[.int .i64 2, .int .i64 n, .string (B s), .string (B t), .slice a bs.length cc] 51
  have hgr := great_v (cap := cap) (hA.below hB0) hm 40 (by omega)
  have HM := Lib.hid (MC.below ⟨m0, hm0⟩ hB0)
  have es := B_size s
  have et := B_size t
  obtain ⟨S, hS⟩ : ∃ S, B s = S := ⟨_, rfl⟩
  obtain ⟨T, hT⟩ : ∃ T, B t = T := ⟨_, rfl⟩
  have HS := Lib.hid (And.intro hS hT)
  rw [hS] at es hB0 hgr hbb HM ⊢
  rw [hT] at et hB0 hgr hbb HM ⊢
  clear hS hT hA hm hm0
  letI : Inhabited CapT := capOf 8
  have hcap : capN = 8 := rfl
  have HC := Lib.hid hcap
  clear hcap
  generalize bs.length = bl at *
  obtain ⟨W, hW⟩ : ∃ W, w.alloc (.cells #[.int .i64 2, .int .i64 n, .string S, .string T, .slice a bl cc] 51) = W := ⟨_, rfl⟩
  obtain ⟨bx, hbx⟩ : ∃ bx, w.heap.size = bx := ⟨_, rfl⟩
  rw [hW] at hB0 hgr hbb HM
  rw [hbx] at hbb hB0
  have c1 := hbb.rd
  have HB := Lib.hid (And.intro hB0 hbb)
  have hgr : Calls Tryz.prog 7 #[.slice av len cap, .int .i64 40] W (GrV W av len 40) := hgr
  have haw := vawake W HM.out
  have HBX := Lib.hid hbx
  by_cases hs : S.size > 200
  · have d6 : decide ((S.size : Int) > 200) = true := by simp; omega
    have d6n : decide (S.size > 200) = true := by simpa using hs
    clear hs es et
    go_enter Tryz.func6, Tryz.ntmps6
    go_upto_region 1 with (fail)
    try rw [hW]
    try rw [hbx]
    go_upto_region 2 with (go_at_call 7; (with_reducible refine hgr.mono ?_); rintro e w3 ⟨b, rfl, hb, rfl⟩; clear hgr hb; cases b)
    all_goals (go_wp2_with (go_at_call 8; (with_reducible refine haw.mono ?_); rintro e w7 ⟨rfl, hB⟩; have H7 := Lib.hid hB; clear haw hB); go_ret; exact ⟨rfl, by have h1 := HB.out.1; rw [← HBX.out] at h1; exact h1.trans (H7.out.mono (by have h2 := HB.out.1.size; have h3 := HBX.out; omega))⟩)
  have d6 : decide ((S.size : Int) > 200) = false := by simp; omega
  have d6n : decide (S.size > 200) = false := by simpa using hs
  by_cases ht : T.size > 200
  · have d7 : decide ((T.size : Int) > 200) = true := by simp; omega
    have d7n : decide (T.size > 200) = true := by simpa using ht
    clear hs ht es et
    go_enter Tryz.func6, Tryz.ntmps6
    go_upto_region 1 with (fail)
    try rw [hW]
    try rw [hbx]
    go_upto_region 2 with (go_at_call 7; (with_reducible refine hgr.mono ?_); rintro e w3 ⟨b, rfl, hb, rfl⟩; clear hgr hb; cases b)
    all_goals (go_wp2_with (go_at_call 8; (with_reducible refine haw.mono ?_); rintro e w7 ⟨rfl, hB⟩; have H7 := Lib.hid hB; clear haw hB); go_ret; exact ⟨rfl, by have h1 := HB.out.1; rw [← HBX.out] at h1; exact h1.trans (H7.out.mono (by have h2 := HB.out.1.size; have h3 := HBX.out; omega))⟩)
  have d7 : decide ((T.size : Int) > 200) = false := by simp; omega
  have d7n : decide (T.size > 200) = false := by simpa using ht
  have HZ := Lib.hid (show s.length ≤ 100000 ∧ t.length ≤ 100000 by omega)
  clear hs ht es et
  go_enter Tryz.func6, Tryz.ntmps6
  go_upto_region 1 with (fail)
  try rw [hW]
  try rw [hbx]
  go_upto_if 25 with (go_at_call 7; (with_reducible refine hgr.mono ?_); rintro e w3 ⟨b, rfl, hb, rfl⟩; clear hgr; have HG := Lib.hid hb; clear hb; cases b)
  · have HL := Lib.hid (HG.out (by first | rfl | trivial))
    clear HG haw
    have hpl := played_v HC.out av len cap W HL.out.1 HL.out.2 HM.out
    go_upto_region 9 with (first
      | (go_at_call 9; (with_reducible refine hpl.mono ?_); rintro e w1 ⟨vb, tb, fb, sb, rv, rt, rs, ns, rfl, hR, hT⟩; obtain ⟨nd, hdir, hwk⟩ := root_at hR; have hls : lsF ns [47] = (nd.es, 0) := (by unfold lsF; rw [hwk]; simp [hdir]); have HP := Lib.hid (And.intro hR (And.intro hT hls)); have hli := pv_list hT [47] (by simp) nd.es 0 hls; have h8 := pv_le hT hls; obtain ⟨L, hL⟩ : ∃ L, nd.es.length = L := ⟨_, rfl⟩; unfold LsP at hli; rw [hL, B47] at hli; rw [hL] at h8; have HLL := Lib.hid (And.intro hL h8); clear hpl hR hT hwk hdir hls h8 hL)
      | (go_at_call 23; (with_reducible refine hli.mono ?_); rintro e w2 ⟨a3, c3, b3, rfl, hR, hb, hB⟩; have H2 := Lib.hid (And.intro hR (And.intro hb (HP.out.2.1.keepB hB))); have hno := d_nodes H2.out.2.2.dv; have hle := d_len H2.out.2.2.dv _ rfl; clear hli hR hb hB)
      | (go_at_call 24; (with_reducible refine hno.mono ?_); rintro e w7 ⟨rfl, rfl⟩; clear hno)
      | (go_at_call 25; (with_reducible refine hle.mono ?_); rintro e w7 ⟨rfl, rfl⟩; clear hle))
    have c2 := (Blk.below H2.out.2.2.bel HB.out.2 HB.out.2.lt).rd
    obtain ⟨st, hst⟩ : ∃ st, atPar ns s (fun d nm => remF ns d nm false 12) = st := ⟨_, rfl⟩
    obtain ⟨r, ns'⟩ := st
    have HST := Lib.hid hst
    clear hst
    have hop := PV.left H2.out.2.2 (fun lo hV _ _ _ => (Unlink_is hV (by have := HL.out.1; omega) s HZ.out.1 r _ HST.out).mono fun _ _ hh => MadP.le hh (show _ ≤ 4 * len + 4 by omega))
    rw [HS.out.1] at hop
    by_cases hr : r = 0
    · subst hr
      go_wp2_with (first
        | (go_at_call 15; (with_reducible refine hop.mono ?_); rintro e w4 ⟨rfl, hT4, hu4⟩; have H4 := Lib.hid hT4; have haw := d_aw H4.out.dv; clear hop hT4 hu4)
        | (go_at_call 8; (with_reducible refine haw.mono ?_); rintro e w8 ⟨rfl, hB⟩; have H8 := Lib.hid hB; clear haw hB))
      go_ret
      exact ⟨rfl, by have h1 := HB.out.1; rw [← HBX.out] at h1; exact h1.trans (H8.out.mono (by have h2 := HB.out.1.size; have h3 := HBX.out; omega))⟩
    · have e1 : (r == 0) = false := by simpa using hr
      have hns : ns' = ns := by
        have h := atPar_ref (ns := ns) (l := s) (k := fun d nm => remF ns d nm false 12) (fun d nm h => remF_ref h)
        rw [HST.out] at h
        exact h hr
      rw [hns] at hop
      have HR3 := Lib.hid (show ∀ g, b3 = some g → ¬ ¬ (False ∨ (w1.heap.size ≤ g ∧ g < w2.heap.size)) from fun g hg hn => hn (Or.inr ⟨H2.out.2.1 g hg, H2.out.1.lt g hg⟩))
      clear hr hns
      have LN : (lenN ns 16 : Int) = lenN ns 16 := rfl
      go_wp2_with (first
        | (go_at_call 15; (with_reducible refine hop.mono ?_); rintro e w4 ⟨rfl, hT4, hu4⟩; have hT5 := hT4.le (Nat.le_refl _) (show 4 * len ≤ 4 * len + 4 by omega); have hR4 := H2.out.1.upd hu4 HR3.out; have hli2 := pv_list hT5 [47] (by simp) nd.es 0 HP.out.2.2; unfold LsP at hli2; rw [HLL.out.1, B47] at hli2; have H4 := Lib.hid (And.intro hT5 hR4); clear hop hT4 hu4 hT5 hR4)
        | (go_at_call 23; (with_reducible refine hli2.mono ?_); rintro e w5 ⟨a5, c5, b5, rfl, hR5, hb5, hB5⟩; have H5 := Lib.hid (H4.out.1.below hB5); have hse := sameE_is (w := w5) (es := nd.es) L c3 c5 ((H4.out.2.below hB5).rd) hR5.rd HLL.out.1 (by have := HLL.out.2; omega); clear hli2 hR5 hb5 hB5)
        | (go_at_call 28; (with_reducible refine hse.mono ?_); rintro e w6 ⟨rfl, q, rfl⟩; have H6 := Lib.hid (H5.out.drewN q); have hno2 := d_nodes H6.out.dv; have hle2 := d_len H6.out.dv _ rfl; have haw := d_aw H6.out.dv; clear hse)
        | (go_at_call 24; (with_reducible refine hno2.mono ?_); rintro e w7 ⟨rfl, rfl⟩; clear hno2)
        | (go_at_call 25; (with_reducible refine hle2.mono ?_); rintro e w7 ⟨rfl, rfl⟩; clear hle2)
        | (go_at_call 8; (with_reducible refine haw.mono ?_); rintro e w8 ⟨rfl, hB⟩; have H8 := Lib.hid hB; clear haw hB))
      go_ret
      exact ⟨rfl, by have h1 := HB.out.1; rw [← HBX.out] at h1; exact h1.trans (H8.out.mono (by have h2 := HB.out.1.size; have h3 := HBX.out; omega))⟩
  · clear HG
    go_wp2_with (go_at_call 8; (with_reducible refine haw.mono ?_); rintro e w7 ⟨rfl, hB⟩; have H7 := Lib.hid hB; clear haw hB)
    go_ret
    exact ⟨rfl, by have h1 := HB.out.1; rw [← HBX.out] at h1; exact h1.trans (H7.out.mono (by have h2 := HB.out.1.size; have h3 := HBX.out; omega))⟩
set_option maxRecDepth 100000 in
set_option maxHeartbeats 8000000 in
theorem err_mkdir (av : Option Addr) (len cap : Nat) (n : Int) (s t : Txt) (v : Value) (bs : List Int) (w : World) (hm : len ≤ maxLen) (hA : ActsV w av len) (hv : ArgB w v bs) (m0 : Int) (hm0 : w.cell? ⟨0, 0, none⟩ = some (.int .i64 m0)) :
    Calls Tryz.prog 6 #[.slice av len cap, .agg #[.int .i64 3, .int .i64 n, .string (B s), .string (B t), v]] w (AwP w) := by
  obtain ⟨a, cc, rfl, -, -⟩ := hv
  have hB0 : Below w.heap.size w (w.alloc (.cells #[.int .i64 3, .int .i64 n, .string (B s), .string (B t), .slice a bs.length cc] 51)) := (Below.refl _ _).alloc (Nat.le_refl _) _
  have hbb := Blk.new w #[.int .i64 3, .int .i64 n, .string (B s), .string (B t), .slice a bs.length cc] 51
  have hgr := great_v (cap := cap) (hA.below hB0) hm 40 (by omega)
  have HM := Lib.hid (MC.below ⟨m0, hm0⟩ hB0)
  have es := B_size s
  have et := B_size t
  obtain ⟨S, hS⟩ : ∃ S, B s = S := ⟨_, rfl⟩
  obtain ⟨T, hT⟩ : ∃ T, B t = T := ⟨_, rfl⟩
  have HS := Lib.hid (And.intro hS hT)
  rw [hS] at es hB0 hgr hbb HM ⊢
  rw [hT] at et hB0 hgr hbb HM ⊢
  clear hS hT hA hm hm0
  letI : Inhabited CapT := capOf 8
  have hcap : capN = 8 := rfl
  have HC := Lib.hid hcap
  clear hcap
  generalize bs.length = bl at *
  obtain ⟨W, hW⟩ : ∃ W, w.alloc (.cells #[.int .i64 3, .int .i64 n, .string S, .string T, .slice a bl cc] 51) = W := ⟨_, rfl⟩
  obtain ⟨bx, hbx⟩ : ∃ bx, w.heap.size = bx := ⟨_, rfl⟩
  rw [hW] at hB0 hgr hbb HM
  rw [hbx] at hbb hB0
  have c1 := hbb.rd
  have HB := Lib.hid (And.intro hB0 hbb)
  have hgr : Calls Tryz.prog 7 #[.slice av len cap, .int .i64 40] W (GrV W av len 40) := hgr
  have haw := vawake W HM.out
  have HBX := Lib.hid hbx
  by_cases hs : S.size > 200
  · have d6 : decide ((S.size : Int) > 200) = true := by simp; omega
    have d6n : decide (S.size > 200) = true := by simpa using hs
    clear hs es et
    go_enter Tryz.func6, Tryz.ntmps6
    go_upto_region 1 with (fail)
    try rw [hW]
    try rw [hbx]
    go_upto_region 2 with (go_at_call 7; (with_reducible refine hgr.mono ?_); rintro e w3 ⟨b, rfl, hb, rfl⟩; clear hgr hb; cases b)
    all_goals (go_wp2_with (go_at_call 8; (with_reducible refine haw.mono ?_); rintro e w7 ⟨rfl, hB⟩; have H7 := Lib.hid hB; clear haw hB); go_ret; exact ⟨rfl, by have h1 := HB.out.1; rw [← HBX.out] at h1; exact h1.trans (H7.out.mono (by have h2 := HB.out.1.size; have h3 := HBX.out; omega))⟩)
  have d6 : decide ((S.size : Int) > 200) = false := by simp; omega
  have d6n : decide (S.size > 200) = false := by simpa using hs
  by_cases ht : T.size > 200
  · have d7 : decide ((T.size : Int) > 200) = true := by simp; omega
    have d7n : decide (T.size > 200) = true := by simpa using ht
    clear hs ht es et
    go_enter Tryz.func6, Tryz.ntmps6
    go_upto_region 1 with (fail)
    try rw [hW]
    try rw [hbx]
    go_upto_region 2 with (go_at_call 7; (with_reducible refine hgr.mono ?_); rintro e w3 ⟨b, rfl, hb, rfl⟩; clear hgr hb; cases b)
    all_goals (go_wp2_with (go_at_call 8; (with_reducible refine haw.mono ?_); rintro e w7 ⟨rfl, hB⟩; have H7 := Lib.hid hB; clear haw hB); go_ret; exact ⟨rfl, by have h1 := HB.out.1; rw [← HBX.out] at h1; exact h1.trans (H7.out.mono (by have h2 := HB.out.1.size; have h3 := HBX.out; omega))⟩)
  have d7 : decide ((T.size : Int) > 200) = false := by simp; omega
  have d7n : decide (T.size > 200) = false := by simpa using ht
  have HZ := Lib.hid (show s.length ≤ 100000 ∧ t.length ≤ 100000 by omega)
  clear hs ht es et
  go_enter Tryz.func6, Tryz.ntmps6
  go_upto_region 1 with (fail)
  try rw [hW]
  try rw [hbx]
  go_upto_if 25 with (go_at_call 7; (with_reducible refine hgr.mono ?_); rintro e w3 ⟨b, rfl, hb, rfl⟩; clear hgr; have HG := Lib.hid hb; clear hb; cases b)
  · have HL := Lib.hid (HG.out (by first | rfl | trivial))
    clear HG haw
    have hpl := played_v HC.out av len cap W HL.out.1 HL.out.2 HM.out
    go_upto_region 9 with (first
      | (go_at_call 9; (with_reducible refine hpl.mono ?_); rintro e w1 ⟨vb, tb, fb, sb, rv, rt, rs, ns, rfl, hR, hT⟩; obtain ⟨nd, hdir, hwk⟩ := root_at hR; have hls : lsF ns [47] = (nd.es, 0) := (by unfold lsF; rw [hwk]; simp [hdir]); have HP := Lib.hid (And.intro hR (And.intro hT hls)); have hli := pv_list hT [47] (by simp) nd.es 0 hls; have h8 := pv_le hT hls; obtain ⟨L, hL⟩ : ∃ L, nd.es.length = L := ⟨_, rfl⟩; unfold LsP at hli; rw [hL, B47] at hli; rw [hL] at h8; have HLL := Lib.hid (And.intro hL h8); clear hpl hR hT hwk hdir hls h8 hL)
      | (go_at_call 23; (with_reducible refine hli.mono ?_); rintro e w2 ⟨a3, c3, b3, rfl, hR, hb, hB⟩; have H2 := Lib.hid (And.intro hR (And.intro hb (HP.out.2.1.keepB hB))); have hno := d_nodes H2.out.2.2.dv; have hle := d_len H2.out.2.2.dv _ rfl; clear hli hR hb hB)
      | (go_at_call 24; (with_reducible refine hno.mono ?_); rintro e w7 ⟨rfl, rfl⟩; clear hno)
      | (go_at_call 25; (with_reducible refine hle.mono ?_); rintro e w7 ⟨rfl, rfl⟩; clear hle))
    have c2 := (Blk.below H2.out.2.2.bel HB.out.2 HB.out.2.lt).rd
    obtain ⟨st, hst⟩ : ∃ st, atPar ns s (mkdirF ns) = st := ⟨_, rfl⟩
    obtain ⟨r, ns'⟩ := st
    have HST := Lib.hid hst
    clear hst
    have hop := PV.left H2.out.2.2 (fun lo hV _ _ _ => (Mkdir_is hV (by have := HL.out.1; omega) s HZ.out.1 r _ HST.out).mono fun _ _ hh => MadP.le hh (show _ ≤ 4 * len + 4 by omega))
    rw [HS.out.1] at hop
    by_cases hr : r = 0
    · subst hr
      go_wp2_with (first
        | (go_at_call 26; (with_reducible refine hop.mono ?_); rintro e w4 ⟨rfl, hT4, hu4⟩; have H4 := Lib.hid hT4; have haw := d_aw H4.out.dv; clear hop hT4 hu4)
        | (go_at_call 8; (with_reducible refine haw.mono ?_); rintro e w8 ⟨rfl, hB⟩; have H8 := Lib.hid hB; clear haw hB))
      go_ret
      exact ⟨rfl, by have h1 := HB.out.1; rw [← HBX.out] at h1; exact h1.trans (H8.out.mono (by have h2 := HB.out.1.size; have h3 := HBX.out; omega))⟩
    · have e1 : (r == 0) = false := by simpa using hr
      have hns : ns' = ns := by
        have h := atPar_ref (ns := ns) (l := s) (k := mkdirF ns) (fun d nm h => mkdirF_ref HP.out.1 h)
        rw [HST.out] at h
        exact h hr
      rw [hns] at hop
      have HR3 := Lib.hid (show ∀ g, b3 = some g → ¬ ¬ (False ∨ (w1.heap.size ≤ g ∧ g < w2.heap.size)) from fun g hg hn => hn (Or.inr ⟨H2.out.2.1 g hg, H2.out.1.lt g hg⟩))
      clear hr hns
      have LN : (lenN ns 16 : Int) = lenN ns 16 := rfl
      go_wp2_with (first
        | (go_at_call 26; (with_reducible refine hop.mono ?_); rintro e w4 ⟨rfl, hT4, hu4⟩; have hT5 := hT4.le (Nat.le_refl _) (show 4 * len ≤ 4 * len + 4 by omega); have hR4 := H2.out.1.upd hu4 HR3.out; have hli2 := pv_list hT5 [47] (by simp) nd.es 0 HP.out.2.2; unfold LsP at hli2; rw [HLL.out.1, B47] at hli2; have H4 := Lib.hid (And.intro hT5 hR4); clear hop hT4 hu4 hT5 hR4)
        | (go_at_call 23; (with_reducible refine hli2.mono ?_); rintro e w5 ⟨a5, c5, b5, rfl, hR5, hb5, hB5⟩; have H5 := Lib.hid (H4.out.1.below hB5); have hse := sameE_is (w := w5) (es := nd.es) L c3 c5 ((H4.out.2.below hB5).rd) hR5.rd HLL.out.1 (by have := HLL.out.2; omega); clear hli2 hR5 hb5 hB5)
        | (go_at_call 28; (with_reducible refine hse.mono ?_); rintro e w6 ⟨rfl, q, rfl⟩; have H6 := Lib.hid (H5.out.drewN q); have hno2 := d_nodes H6.out.dv; have hle2 := d_len H6.out.dv _ rfl; have haw := d_aw H6.out.dv; clear hse)
        | (go_at_call 24; (with_reducible refine hno2.mono ?_); rintro e w7 ⟨rfl, rfl⟩; clear hno2)
        | (go_at_call 25; (with_reducible refine hle2.mono ?_); rintro e w7 ⟨rfl, rfl⟩; clear hle2)
        | (go_at_call 8; (with_reducible refine haw.mono ?_); rintro e w8 ⟨rfl, hB⟩; have H8 := Lib.hid hB; clear haw hB))
      go_ret
      exact ⟨rfl, by have h1 := HB.out.1; rw [← HBX.out] at h1; exact h1.trans (H8.out.mono (by have h2 := HB.out.1.size; have h3 := HBX.out; omega))⟩
  · clear HG
    go_wp2_with (go_at_call 8; (with_reducible refine haw.mono ?_); rintro e w7 ⟨rfl, hB⟩; have H7 := Lib.hid hB; clear haw hB)
    go_ret
    exact ⟨rfl, by have h1 := HB.out.1; rw [← HBX.out] at h1; exact h1.trans (H7.out.mono (by have h2 := HB.out.1.size; have h3 := HBX.out; omega))⟩
set_option maxRecDepth 100000 in
set_option maxHeartbeats 8000000 in
theorem err_rmdir (av : Option Addr) (len cap : Nat) (n : Int) (d : Int) (hd : ¬ d = 0 ∧ ¬ d = 1 ∧ ¬ d = 2 ∧ ¬ d = 3) (s t : Txt) (v : Value) (bs : List Int) (w : World) (hm : len ≤ maxLen) (hA : ActsV w av len) (hv : ArgB w v bs) (m0 : Int) (hm0 : w.cell? ⟨0, 0, none⟩ = some (.int .i64 m0)) :
    Calls Tryz.prog 6 #[.slice av len cap, .agg #[.int .i64 d, .int .i64 n, .string (B s), .string (B t), v]] w (AwP w) := by
  obtain ⟨a, cc, rfl, -, -⟩ := hv
  have hB0 : Below w.heap.size w (w.alloc (.cells #[.int .i64 d, .int .i64 n, .string (B s), .string (B t), .slice a bs.length cc] 51)) := (Below.refl _ _).alloc (Nat.le_refl _) _
  have hbb := Blk.new w #[.int .i64 d, .int .i64 n, .string (B s), .string (B t), .slice a bs.length cc] 51
  have hgr := great_v (cap := cap) (hA.below hB0) hm 40 (by omega)
  have HM := Lib.hid (MC.below ⟨m0, hm0⟩ hB0)
  have es := B_size s
  have et := B_size t
  obtain ⟨S, hS⟩ : ∃ S, B s = S := ⟨_, rfl⟩
  obtain ⟨T, hT⟩ : ∃ T, B t = T := ⟨_, rfl⟩
  have HS := Lib.hid (And.intro hS hT)
  rw [hS] at es hB0 hgr hbb HM ⊢
  rw [hT] at et hB0 hgr hbb HM ⊢
  clear hS hT hA hm hm0
  letI : Inhabited CapT := capOf 8
  have hcap : capN = 8 := rfl
  have HC := Lib.hid hcap
  clear hcap
  generalize bs.length = bl at *
  obtain ⟨W, hW⟩ : ∃ W, w.alloc (.cells #[.int .i64 d, .int .i64 n, .string S, .string T, .slice a bl cc] 51) = W := ⟨_, rfl⟩
  obtain ⟨bx, hbx⟩ : ∃ bx, w.heap.size = bx := ⟨_, rfl⟩
  rw [hW] at hB0 hgr hbb HM
  rw [hbx] at hbb hB0
  have c1 := hbb.rd
  have HB := Lib.hid (And.intro hB0 hbb)
  have hgr : Calls Tryz.prog 7 #[.slice av len cap, .int .i64 40] W (GrV W av len 40) := hgr
  have haw := vawake W HM.out
  have HBX := Lib.hid hbx
  obtain ⟨k0, k1, k2, k3⟩ := hd
  by_cases hs : S.size > 200
  · have d6 : decide ((S.size : Int) > 200) = true := by simp; omega
    have d6n : decide (S.size > 200) = true := by simpa using hs
    clear hs es et
    go_enter Tryz.func6, Tryz.ntmps6
    go_upto_region 1 with (fail)
    try rw [hW]
    try rw [hbx]
    go_upto_region 2 with (go_at_call 7; (with_reducible refine hgr.mono ?_); rintro e w3 ⟨b, rfl, hb, rfl⟩; clear hgr hb; cases b)
    all_goals (go_wp2_with (go_at_call 8; (with_reducible refine haw.mono ?_); rintro e w7 ⟨rfl, hB⟩; have H7 := Lib.hid hB; clear haw hB); go_ret; exact ⟨rfl, by have h1 := HB.out.1; rw [← HBX.out] at h1; exact h1.trans (H7.out.mono (by have h2 := HB.out.1.size; have h3 := HBX.out; omega))⟩)
  have d6 : decide ((S.size : Int) > 200) = false := by simp; omega
  have d6n : decide (S.size > 200) = false := by simpa using hs
  by_cases ht : T.size > 200
  · have d7 : decide ((T.size : Int) > 200) = true := by simp; omega
    have d7n : decide (T.size > 200) = true := by simpa using ht
    clear hs ht es et
    go_enter Tryz.func6, Tryz.ntmps6
    go_upto_region 1 with (fail)
    try rw [hW]
    try rw [hbx]
    go_upto_region 2 with (go_at_call 7; (with_reducible refine hgr.mono ?_); rintro e w3 ⟨b, rfl, hb, rfl⟩; clear hgr hb; cases b)
    all_goals (go_wp2_with (go_at_call 8; (with_reducible refine haw.mono ?_); rintro e w7 ⟨rfl, hB⟩; have H7 := Lib.hid hB; clear haw hB); go_ret; exact ⟨rfl, by have h1 := HB.out.1; rw [← HBX.out] at h1; exact h1.trans (H7.out.mono (by have h2 := HB.out.1.size; have h3 := HBX.out; omega))⟩)
  have d7 : decide ((T.size : Int) > 200) = false := by simp; omega
  have d7n : decide (T.size > 200) = false := by simpa using ht
  have HZ := Lib.hid (show s.length ≤ 100000 ∧ t.length ≤ 100000 by omega)
  clear hs ht es et
  go_enter Tryz.func6, Tryz.ntmps6
  go_upto_region 1 with (fail)
  try rw [hW]
  try rw [hbx]
  go_upto_if 25 with (go_at_call 7; (with_reducible refine hgr.mono ?_); rintro e w3 ⟨b, rfl, hb, rfl⟩; clear hgr; have HG := Lib.hid hb; clear hb; cases b)
  · have HL := Lib.hid (HG.out (by first | rfl | trivial))
    clear HG haw
    have hpl := played_v HC.out av len cap W HL.out.1 HL.out.2 HM.out
    go_upto_region 9 with (first
      | (go_at_call 9; (with_reducible refine hpl.mono ?_); rintro e w1 ⟨vb, tb, fb, sb, rv, rt, rs, ns, rfl, hR, hT⟩; obtain ⟨nd, hdir, hwk⟩ := root_at hR; have hls : lsF ns [47] = (nd.es, 0) := (by unfold lsF; rw [hwk]; simp [hdir]); have HP := Lib.hid (And.intro hR (And.intro hT hls)); have hli := pv_list hT [47] (by simp) nd.es 0 hls; have h8 := pv_le hT hls; obtain ⟨L, hL⟩ : ∃ L, nd.es.length = L := ⟨_, rfl⟩; unfold LsP at hli; rw [hL, B47] at hli; rw [hL] at h8; have HLL := Lib.hid (And.intro hL h8); clear hpl hR hT hwk hdir hls h8 hL)
      | (go_at_call 23; (with_reducible refine hli.mono ?_); rintro e w2 ⟨a3, c3, b3, rfl, hR, hb, hB⟩; have H2 := Lib.hid (And.intro hR (And.intro hb (HP.out.2.1.keepB hB))); have hno := d_nodes H2.out.2.2.dv; have hle := d_len H2.out.2.2.dv _ rfl; clear hli hR hb hB)
      | (go_at_call 24; (with_reducible refine hno.mono ?_); rintro e w7 ⟨rfl, rfl⟩; clear hno)
      | (go_at_call 25; (with_reducible refine hle.mono ?_); rintro e w7 ⟨rfl, rfl⟩; clear hle))
    have c2 := (Blk.below H2.out.2.2.bel HB.out.2 HB.out.2.lt).rd
    obtain ⟨st, hst⟩ : ∃ st, atPar ns s (fun d nm => remF ns d nm true 11) = st := ⟨_, rfl⟩
    obtain ⟨r, ns'⟩ := st
    have HST := Lib.hid hst
    clear hst
    have hop := PV.left H2.out.2.2 (fun lo hV _ _ _ => (Rmdir_is hV (by have := HL.out.1; omega) s HZ.out.1 r _ HST.out).mono fun _ _ hh => MadP.le hh (show _ ≤ 4 * len + 4 by omega))
    rw [HS.out.1] at hop
    by_cases hr : r = 0
    · subst hr
      go_wp2_with (first
        | (go_at_call 27; (with_reducible refine hop.mono ?_); rintro e w4 ⟨rfl, hT4, hu4⟩; have H4 := Lib.hid hT4; have haw := d_aw H4.out.dv; clear hop hT4 hu4)
        | (go_at_call 8; (with_reducible refine haw.mono ?_); rintro e w8 ⟨rfl, hB⟩; have H8 := Lib.hid hB; clear haw hB))
      go_ret
      exact ⟨rfl, by have h1 := HB.out.1; rw [← HBX.out] at h1; exact h1.trans (H8.out.mono (by have h2 := HB.out.1.size; have h3 := HBX.out; omega))⟩
    · have e1 : (r == 0) = false := by simpa using hr
      have hns : ns' = ns := by
        have h := atPar_ref (ns := ns) (l := s) (k := fun d nm => remF ns d nm true 11) (fun d nm h => remF_ref h)
        rw [HST.out] at h
        exact h hr
      rw [hns] at hop
      have HR3 := Lib.hid (show ∀ g, b3 = some g → ¬ ¬ (False ∨ (w1.heap.size ≤ g ∧ g < w2.heap.size)) from fun g hg hn => hn (Or.inr ⟨H2.out.2.1 g hg, H2.out.1.lt g hg⟩))
      clear hr hns
      have LN : (lenN ns 16 : Int) = lenN ns 16 := rfl
      go_wp2_with (first
        | (go_at_call 27; (with_reducible refine hop.mono ?_); rintro e w4 ⟨rfl, hT4, hu4⟩; have hT5 := hT4.le (Nat.le_refl _) (show 4 * len ≤ 4 * len + 4 by omega); have hR4 := H2.out.1.upd hu4 HR3.out; have hli2 := pv_list hT5 [47] (by simp) nd.es 0 HP.out.2.2; unfold LsP at hli2; rw [HLL.out.1, B47] at hli2; have H4 := Lib.hid (And.intro hT5 hR4); clear hop hT4 hu4 hT5 hR4)
        | (go_at_call 23; (with_reducible refine hli2.mono ?_); rintro e w5 ⟨a5, c5, b5, rfl, hR5, hb5, hB5⟩; have H5 := Lib.hid (H4.out.1.below hB5); have hse := sameE_is (w := w5) (es := nd.es) L c3 c5 ((H4.out.2.below hB5).rd) hR5.rd HLL.out.1 (by have := HLL.out.2; omega); clear hli2 hR5 hb5 hB5)
        | (go_at_call 28; (with_reducible refine hse.mono ?_); rintro e w6 ⟨rfl, q, rfl⟩; have H6 := Lib.hid (H5.out.drewN q); have hno2 := d_nodes H6.out.dv; have hle2 := d_len H6.out.dv _ rfl; have haw := d_aw H6.out.dv; clear hse)
        | (go_at_call 24; (with_reducible refine hno2.mono ?_); rintro e w7 ⟨rfl, rfl⟩; clear hno2)
        | (go_at_call 25; (with_reducible refine hle2.mono ?_); rintro e w7 ⟨rfl, rfl⟩; clear hle2)
        | (go_at_call 8; (with_reducible refine haw.mono ?_); rintro e w8 ⟨rfl, hB⟩; have H8 := Lib.hid hB; clear haw hB))
      go_ret
      exact ⟨rfl, by have h1 := HB.out.1; rw [← HBX.out] at h1; exact h1.trans (H8.out.mono (by have h2 := HB.out.1.size; have h3 := HBX.out; omega))⟩
  · clear HG
    go_wp2_with (go_at_call 8; (with_reducible refine haw.mono ?_); rintro e w7 ⟨rfl, hB⟩; have H7 := Lib.hid hB; clear haw hB)
    go_ret
    exact ⟨rfl, by have h1 := HB.out.1; rw [← HBX.out] at h1; exact h1.trans (H7.out.mono (by have h2 := HB.out.1.size; have h3 := HBX.out; omega))⟩
theorem err_v (av : Option Addr) (len cap : Nat) (d n : Int) (s t : Txt) (v : Value) (bs : List Int) (w : World) (hm : len ≤ maxLen) (hA : ActsV w av len) (hv : ArgB w v bs) (m0 : Int) (hm0 : w.cell? ⟨0, 0, none⟩ = some (.int .i64 m0)) :
    Calls Tryz.prog 6 #[.slice av len cap, .agg #[.int .i64 d, .int .i64 n, .string (B s), .string (B t), v]] w (AwP w) := by
  by_cases h0 : d = 0
  · subst h0; exact err_open av len cap n s t v bs w hm hA hv m0 hm0
  by_cases h1 : d = 1
  · subst h1; exact err_link av len cap n s t v bs w hm hA hv m0 hm0
  by_cases h2 : d = 2
  · subst h2; exact err_unlink av len cap n s t v bs w hm hA hv m0 hm0
  by_cases h3 : d = 3
  · subst h3; exact err_mkdir av len cap n s t v bs w hm hA hv m0 hm0
  exact err_rmdir av len cap n d ⟨h0, h1, h2, h3⟩ s t v bs w hm hA hv m0 hm0
end Go.Proofs.YtchnjfmimpikcaaGreatDoor
