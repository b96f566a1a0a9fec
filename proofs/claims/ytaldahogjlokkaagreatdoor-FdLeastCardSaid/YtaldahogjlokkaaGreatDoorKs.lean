/-
  Descriptors' law: a descriptor that was doubled, or given to a child, shares its place.
-/
import Derived.Test.YtaldahogjlokkaaGreatDoorKd
namespace Go.Proofs.YtaldahogjlokkaaGreatDoor
set_option linter.unusedSimpArgs false
set_option linter.unusedVariables false
open Go.RowKit Own RegJ Two
open Go.Lib hiding intOf

section
variable {w0 w : World} {O : Nat → Prop} {fdb vb tb fb sb pb mb : Nat} {ns : NSt} {c N : Nat} {S : FS}
/-- one process with one file, its place at the start -/
theorem sh_state [Inhabited CapT] (x b : Nat) (m : Int) (h : FX w0 O fdb vb tb fb sb pb mb ns c N (FS.setth (FS.setth ((fs00.start 1 b).put b 0 x ⟨false, false, 1, 0, false, 1⟩) x ⟨false, false, 1, 0 + m, false, 1⟩) x ⟨false, false, 1, 0, false, 1⟩) w) :
    ∃ S, FX w0 O fdb vb tb fb sb pb mb ns c N S w ∧ (S.pr 1 = some b ∧ S.pr 2 = none) ∧ S.sl b 0 = some x ∧ (∀ k, k ≠ 0 → S.sl b k = none) ∧ S.th x = some ⟨false, false, 1, 0, false, 1⟩ ∧ Few S 1000 := by
  refine ⟨_, h, ⟨by simp [FS.put, FS.setth, FS.setsl, FS.start, upN], by simp [FS.put, FS.setth, FS.setsl, FS.start, upN, fs00]⟩, by simp [FS.put, FS.setth, FS.setsl, FS.start, upN], fun k hk => by simp [FS.put, FS.setth, FS.setsl, FS.start, upN, hk], setth_eq _ _ _, fun y t hy => ?_⟩
  by_cases e : y = x
  · subst e
    rw [setth_eq] at hy
    cases hy
    simp
  · rw [setth_ne _ _ _ e, setth_ne _ _ _ e, show ((fs00.start 1 b).put b 0 x ⟨false, false, 1, 0, false, 1⟩).th y = none from setth_ne _ _ _ e] at hy
    cases hy
theorem sh_copied [Inhabited CapT] {x b b2 : Nat} {t : Th} (h : FX w0 O fdb vb tb fb sb pb mb ns c N ((S.twin 2 b b2).bumps (S.sl b) 8) w) (h1 : S.pr 1 = some b) (h2 : S.sl b 0 = some x) (h3 : ∀ k, k ≠ 0 → S.sl b k = none) (h4 : S.th x = some t) (hb : b ≠ b2) :
    ∃ S', FX w0 O fdb vb tb fb sb pb mb ns c N S' w ∧ S'.pr 1 = some b ∧ S'.pr 2 = some b2 ∧ S'.sl b 0 = some x ∧ S'.sl b2 0 = some x ∧ S'.th x = some { t with nm := t.nm + 1 } := by
  rw [bumps_one (S.twin 2 b b2) (S.sl b) h3 h2 (t := t) h4 7] at h
  refine ⟨_, h, (show (S.twin 2 b b2).pr 1 = _ from (twin_pr S (by decide)).trans h1), (show (S.twin 2 b b2).pr 2 = _ from twin_new S 2 b b2), ?_, ?_, setth_eq _ _ _⟩
  · show (S.twin 2 b b2).sl b 0 = _
    rw [twin_sl S 2 hb, h2]
  · show (S.twin 2 b b2).sl b2 0 = _
    rw [twin_sl2, h2]
theorem sh_duped [Inhabited CapT] {x b : Nat} {t' : Th} (h : FX w0 O fdb vb tb fb sb pb mb ns c N ((S.setsl b 1 (some x)).setth x t') w) (h1 : S.pr 1 = some b) (h2 : S.sl b 0 = some x) :
    ∃ S', FX w0 O fdb vb tb fb sb pb mb ns c N S' w ∧ S'.pr 1 = some b ∧ S'.sl b 0 = some x ∧ S'.sl b 1 = some x ∧ S'.th x = some t' :=
  ⟨_, h, h1, (setsl_ne S b 1 (some x) (by decide)).trans h2, setsl_eq S b 1 (some x), setth_eq _ _ _⟩
end
theorem RowV.src {w : World} {E : TypeId} {a : Option Addr} {c : Nat} {ys : List Int} {g : Option Nat} (h : RowV w E (.slice a ys.length c) (ucells ys) g) (hp : 0 < ys.length) : ∃ A, a = some A ∧ ∀ (j : Nat) (u : Value), (ucells ys)[j]? = some u → w.cell? (A.add j) = some u := by
  rcases h with ⟨hv, h0, _⟩ | ⟨g', cap, rest, hv, _, hB, _, _⟩
  · rw [show ys = [] by cases ys with | nil => rfl | cons x r => cases h0] at hp
    simp at hp
  · simp only [Value.slice.injEq] at hv
    refine ⟨_, hv.1, fun j u hj => ?_⟩
    rw [add_off, hB.rd]
    simp only [List.getElem?_toArray]
    rw [List.getElem?_append_left (List.getElem?_eq_some_iff.1 hj).1]
    exact hj
set_option maxRecDepth 100000 in
set_option maxHeartbeats 8000000 in
theorem shared_v (v : Value) (b : List Int) (n : Int) (child : Bool) (w : World) (hv : ArgB w v b) (hm : b.length ≤ maxLen) (m0 : Int) (hm0 : w.cell? ⟨0, 0, none⟩ = some (.int .i64 m0)) :
    Calls Tryz.prog 5 #[v, .int .i64 n, .bool child] w fun e w' => e = .returned (.bool true) ∧ Below w.heap.size w w' := by
  letI : Inhabited CapT := capOf 10
  unfold maxLen at hm
  obtain ⟨a, c, rfl, hc, hrd⟩ := hv
  obtain ⟨bl, hbl⟩ : ∃ bl, b.length = bl := ⟨_, rfl⟩
  have hV := Lib.hid (show ArgB w (.slice a b.length c) b from ⟨a, c, rfl, hc, hrd⟩)
  rw [hbl] at hV hm ⊢
  by_cases h5 : 512 < bl
  · have d1 : decide ((bl : Int) > 512) = true := by simp; omega
    have haw := k_awake w ⟨m0, hm0⟩ rfl
    clear hc hrd hbl h5 hm0
    go_enter Tryz.func5, Tryz.ntmps5
    go_wp2_with (go_at_call 10; refine haw.mono ?_; rintro e w2 ⟨rfl, hb2⟩; have H2 := Lib.hid hb2; clear hb2)
    go_ret
    exact ⟨rfl, H2.out⟩
  have d1 : decide ((bl : Int) > 512) = false := by simp; omega
  have hb := both_f w ⟨m0, hm0⟩ rfl
  have HE := Lib.hid (And.intro (show bl ≤ 512 by omega) (And.intro hbl (And.intro (show capI = capV 10 from rfl) (show MC w from ⟨m0, hm0⟩))))
  obtain ⟨N, hN⟩ : ∃ N, lowF n 600 = N := ⟨_, rfl⟩
  have HN := Lib.hid (show 0 ≤ N ∧ N < 600 ∧ lowF n 600 = N from ⟨hN ▸ (low_bd n 600 (by omega)).1, hN ▸ (low_bd n 600 (by omega)).2, hN⟩)
  obtain ⟨y1, hy1⟩ : ∃ y1, b.take N.toNat = y1 := ⟨_, rfl⟩
  obtain ⟨y2, hy2⟩ : ∃ y2, (b.drop y1.length).take 600 = y2 := ⟨_, rfl⟩
  have HY := Lib.hid (show readV (filesOf (nsO [97] 1 b)) 1 0 N = (y1, 0) ∧ readV (filesOf (nsO [97] 1 b)) 1 (0 + (y1.length : Int)) 600 = (y2, 0) ∧ y1.length ≤ 512 ∧ y2.length ≤ 512 ∧ y1 ++ y2 = b by
    refine ⟨by rw [o_read 1 b 0 N (by omega) HN.out.1, ← hy1]; simp, by rw [o_read 1 b _ 600 (by omega) (by omega), ← hy2]; simp, by rw [← hy1]; simp; omega, by rw [← hy2]; simp; omega, ?_⟩
    rw [← hy2, ← hy1]
    exact two_parts b N.toNat (by omega))
  clear hc hrd hbl h5 hm0 hN hy1 hy2 hm
  cases child
  · go_enter Tryz.func5, Tryz.ntmps5
    go_wp2_with (first
    | (go_at_call 11; go_loud (refine hb.mono ?_; rintro e w1 ⟨fdb, vb, tb, fb, sb, pb, mb, k1, k2, O1, rfl, hD1⟩; have a1 := k_start hD1 (by omega) 1 (by decide) (by omega) rfl; clear hb hD1))
    | (go_at_call 12; go_loud (refine a1.mono ?_; rintro e w2 ⟨tb1, -, rfl, -, O2, hD2, -⟩; have a2 := k_open hD2 (by omega) 1 (by decide) tb1 (by simp [FS.put, FS.setth, FS.setsl, FS.start, upN]) 0 (by omega) (by simp [FS.put, FS.setth, FS.setsl, FS.start, upN]) (fun k hk => by omega) [47, 97] (by simp) 1 1 (o_new nameA 1 (by omega) (by decide)) ⟨#[47, 97]⟩ rfl; clear a1 hD2))
    | (go_at_call 13; go_loud (refine a2.mono ?_; rintro e w3 ⟨x, -, rfl, -, O3, hD3, -⟩; rw [flE1] at hD3; have a3 := k_write (ns2 := nsO [97] 1 b) hD3 1 (by decide) tb1 (by simp [FS.put, FS.setth, FS.setsl, FS.start, upN]) 0 x (by omega) (by simp [FS.put, FS.setth, FS.setsl, FS.start, upN]) _ (put_th' _ _ _ _ _) rfl (by decide) b bl c a HE.out.2.1 (by have := HE.out.1; omega) (hV.out.src hD3) 0 (by omega) (.inl ⟨rfl, rfl⟩) (o_writeE capN (by rw [show capN = 10 from congrArg CapT.n HE.out.2.2.1]; omega) 1 b (by have := HE.out.1; have := HE.out.2.1; omega)); clear a2 hD3))
    | (go_at_call 16; go_loud (refine a3.mono ?_; rintro e w4 ⟨rfl, -, O4, hD4, -⟩; have a4 := k_seek hD4 1 (by decide) tb1 (by simp [FS.put, FS.setth, FS.setsl, FS.start, upN]) 0 x (by omega) (by simp [FS.put, FS.setth, FS.setsl, FS.start, upN]) _ (setth_eq _ _ _) rfl 0 (by omega); clear a3 hD4))
    | (go_at_call 14; go_loud (refine a4.mono ?_; rintro e w5 ⟨rfl, -, O5, hD5, -⟩; obtain ⟨S5, hS5, p5, s5, s5n, t5, few5⟩ := sh_state x tb1 (bl : Int) hD5; have a5 := k_dup hS5 1 (by decide) tb1 p5.1 0 x (by omega) s5 _ t5 (by simp) 1 (by omega) (s5n 1 (by omega)) (fun k hk => by obtain rfl : k = 0 := (by omega); rw [s5]; simp); have H5 := Lib.hid (And.intro p5.1 (And.intro s5 t5)); clear a4 hD5 hS5 p5 s5 s5n t5 few5))
    | (go_at_call 20; go_loud (refine a5.mono ?_; rintro e w6 ⟨rfl, -, O6, hD6, -⟩; obtain ⟨q1, q2, q4⟩ := H5.out; obtain ⟨S6, hS6, p6, s6, s62, t6⟩ := sh_duped hD6 q1 q2; have H6 := Lib.hid (And.intro hS6 (And.intro p6 (And.intro p6 (And.intro s6 (And.intro s62 t6))))); clear a5 hD6 q1 q2 q4 hS6 p6 s6 s62 t6))
    | (go_at_call 15; go_loud (refine (low_any n 600 (by omega) (by omega) _).mono ?_; rw [HN.out.2.2]; rintro e w7 ⟨rfl, rfl⟩; have a7 := k_read H6.out.1 1 (by decide) tb1 H6.out.2.1 0 x (by omega) H6.out.2.2.2.1 _ H6.out.2.2.2.2.2 rfl rfl (by decide) (by simp) N (by have := HN.out; omega) y1 0 HY.out.1 (by have := HY.out.2.2.1; omega)))
    | (go_at_call 17; go_loud (refine a7.mono ?_; rintro e w8 ⟨ra, rc, g1, O8, rfl, hR1, hg1, -, hD8, -⟩; have a8 := k_read hD8 1 (by decide) tb1 H6.out.2.2.1 1 x (by omega) H6.out.2.2.2.2.1 _ (setth_eq _ _ _) rfl rfl (by show (Lit.int .i64 1).wf = true; decide) (by have := HY.out.2.2.1; simp; omega) 600 (by omega) y2 0 HY.out.2.1 (by have := HY.out.2.2.2.1; omega); have H8 := Lib.hid (And.intro hR1 (And.intro (fun g hg => And.intro (Nat.le_trans H6.out.1.bel.size (hg1 g hg).1) (hg1 g hg).2) hD8.bel)); clear a7 hD8 hR1 hg1 H6))
    | (go_at_call 17; go_loud (refine a8.mono ?_; rintro e w9 ⟨sa, sc, g2, O9, rfl, hR2, hg2, hU9, hD9, -⟩; have H9 := Lib.hid (And.intro (H8.out.1.upd hU9 (fun g hg => (H8.out.2.1 g hg).2)) (And.intro hR2 (And.intro hD9.bel (fun g hg => (H8.out.2.1 g hg).1)))); clear a8 hR2 hg2 hU9 hD9 H8))
    | (at_builtin; refine wp_ung (by rfl) ?_; refine wp_appV rfl _ _ 34 5 (.int .u8 0) 1 (by kernel_rfl) rfl (by decide) Tryz.underlying34 rfl _ (ucells y1) g1 rfl H9.out.1 sa y2.length sc (ucells y2) (by simp [ucells]) rfl (fun hp => RowV.src H9.out.2.1 hp) (one_u _) (by have := HY.out; simp [ucells]; omega) ?_; intro v3 w10 g3 hR3 hg3 hU3; have hB10 := H9.out.2.2.1.trans (hU3.below H9.out.2.2.1.size (fun k hk => H9.out.2.2.2 k hk)); have hsm := sameB_any (RdU.of (show RowV w10 5 v3 (ucells b) g3 by rw [← HY.out.2.2.2.2, ucells_app]; exact hR3)) (hV.out.rdu (by have := HE.out.1; have := HE.out.2.1; unfold maxLen; omega) hB10) true (by simp); have H10 := Lib.hid hB10; clear hR3 hg3 hU3 hB10 H9)
    | (go_at_call 18; go_loud (refine hsm.mono ?_; rintro e w11 ⟨rfl, q, rfl⟩; have hB11 := H10.out.trans ((Below.drewN w10 q).mono H10.out.size); have haw := k_awake (w10.drewN q) (MC.below HE.out.2.2.2 hB11) HE.out.2.2.1; have H11 := Lib.hid hB11; clear hsm hB11 H10))
    | (go_at_call 10; go_loud (refine haw.mono ?_; rintro e w12 ⟨rfl, hb2⟩; have H12 := Lib.hid (H11.out.trans (hb2.mono H11.out.size)); clear haw hb2 H11)))
    go_ret
    exact ⟨rfl, H12.out⟩
  · go_enter Tryz.func5, Tryz.ntmps5
    go_wp2_with (first
    | (go_at_call 11; go_loud (refine hb.mono ?_; rintro e w1 ⟨fdb, vb, tb, fb, sb, pb, mb, k1, k2, O1, rfl, hD1⟩; have a1 := k_start hD1 (by omega) 1 (by decide) (by omega) rfl; clear hb hD1))
    | (go_at_call 12; go_loud (refine a1.mono ?_; rintro e w2 ⟨tb1, -, rfl, -, O2, hD2, -⟩; have a2 := k_open hD2 (by omega) 1 (by decide) tb1 (by simp [FS.put, FS.setth, FS.setsl, FS.start, upN]) 0 (by omega) (by simp [FS.put, FS.setth, FS.setsl, FS.start, upN]) (fun k hk => by omega) [47, 97] (by simp) 1 1 (o_new nameA 1 (by omega) (by decide)) ⟨#[47, 97]⟩ rfl; clear a1 hD2))
    | (go_at_call 13; go_loud (refine a2.mono ?_; rintro e w3 ⟨x, -, rfl, -, O3, hD3, -⟩; rw [flE1] at hD3; have a3 := k_write (ns2 := nsO [97] 1 b) hD3 1 (by decide) tb1 (by simp [FS.put, FS.setth, FS.setsl, FS.start, upN]) 0 x (by omega) (by simp [FS.put, FS.setth, FS.setsl, FS.start, upN]) _ (put_th' _ _ _ _ _) rfl (by decide) b bl c a HE.out.2.1 (by have := HE.out.1; omega) (hV.out.src hD3) 0 (by omega) (.inl ⟨rfl, rfl⟩) (o_writeE capN (by rw [show capN = 10 from congrArg CapT.n HE.out.2.2.1]; omega) 1 b (by have := HE.out.1; have := HE.out.2.1; omega)); clear a2 hD3))
    | (go_at_call 16; go_loud (refine a3.mono ?_; rintro e w4 ⟨rfl, -, O4, hD4, -⟩; have a4 := k_seek hD4 1 (by decide) tb1 (by simp [FS.put, FS.setth, FS.setsl, FS.start, upN]) 0 x (by omega) (by simp [FS.put, FS.setth, FS.setsl, FS.start, upN]) _ (setth_eq _ _ _) rfl 0 (by omega); clear a3 hD4))
    | (go_at_call 14; go_loud (refine a4.mono ?_; rintro e w5 ⟨rfl, -, O5, hD5, -⟩; obtain ⟨S5, hS5, p5, s5, s5n, t5, few5⟩ := sh_state x tb1 (bl : Int) hD5; have a5 := k_copy hS5 (by omega) 1 2 (by decide) (by decide) (by omega) tb1 p5.1 p5.2 few5; have H5 := Lib.hid (And.intro p5.1 (And.intro s5 (And.intro s5n (And.intro t5 (hS5.fd.t 1 tb1 p5.1).lt)))); clear a4 hD5 hS5 p5 s5 s5n t5 few5))
    | (go_at_call 19; go_loud (refine a5.mono ?_; rintro e w6 ⟨tb2, hn, rfl, -, O6, hD6, -⟩; obtain ⟨q1, q2, q3, q4, q5⟩ := H5.out; obtain ⟨S6, hS6, p6, p62, s6, s62, t6⟩ := sh_copied hD6 q1 q2 q3 q4 (by omega); have H6 := Lib.hid (And.intro hS6 (And.intro p6 (And.intro p62 (And.intro s6 (And.intro s62 t6))))); clear a5 hD6 hn q1 q2 q3 q4 q5 hS6 p6 p62 s6 s62 t6))
    | (go_at_call 15; go_loud (refine (low_any n 600 (by omega) (by omega) _).mono ?_; rw [HN.out.2.2]; rintro e w7 ⟨rfl, rfl⟩; have a7 := k_read H6.out.1 1 (by decide) tb1 H6.out.2.1 0 x (by omega) H6.out.2.2.2.1 _ H6.out.2.2.2.2.2 rfl rfl (by decide) (by simp) N (by have := HN.out; omega) y1 0 HY.out.1 (by have := HY.out.2.2.1; omega)))
    | (go_at_call 17; go_loud (refine a7.mono ?_; rintro e w8 ⟨ra, rc, g1, O8, rfl, hR1, hg1, -, hD8, -⟩; have a8 := k_read hD8 2 (by decide) tb2 H6.out.2.2.1 0 x (by omega) H6.out.2.2.2.2.1 _ (setth_eq _ _ _) rfl rfl (by show (Lit.int .i64 1).wf = true; decide) (by have := HY.out.2.2.1; simp; omega) 600 (by omega) y2 0 HY.out.2.1 (by have := HY.out.2.2.2.1; omega); have H8 := Lib.hid (And.intro hR1 (And.intro (fun g hg => And.intro (Nat.le_trans H6.out.1.bel.size (hg1 g hg).1) (hg1 g hg).2) hD8.bel)); clear a7 hD8 hR1 hg1 H6))
    | (go_at_call 17; go_loud (refine a8.mono ?_; rintro e w9 ⟨sa, sc, g2, O9, rfl, hR2, hg2, hU9, hD9, -⟩; have H9 := Lib.hid (And.intro (H8.out.1.upd hU9 (fun g hg => (H8.out.2.1 g hg).2)) (And.intro hR2 (And.intro hD9.bel (fun g hg => (H8.out.2.1 g hg).1)))); clear a8 hR2 hg2 hU9 hD9 H8))
    | (at_builtin; refine wp_ung (by rfl) ?_; refine wp_appV rfl _ _ 34 5 (.int .u8 0) 1 (by kernel_rfl) rfl (by decide) Tryz.underlying34 rfl _ (ucells y1) g1 rfl H9.out.1 sa y2.length sc (ucells y2) (by simp [ucells]) rfl (fun hp => RowV.src H9.out.2.1 hp) (one_u _) (by have := HY.out; simp [ucells]; omega) ?_; intro v3 w10 g3 hR3 hg3 hU3; have hB10 := H9.out.2.2.1.trans (hU3.below H9.out.2.2.1.size (fun k hk => H9.out.2.2.2 k hk)); have hsm := sameB_any (RdU.of (show RowV w10 5 v3 (ucells b) g3 by rw [← HY.out.2.2.2.2, ucells_app]; exact hR3)) (hV.out.rdu (by have := HE.out.1; have := HE.out.2.1; unfold maxLen; omega) hB10) true (by simp); have H10 := Lib.hid hB10; clear hR3 hg3 hU3 hB10 H9)
    | (go_at_call 18; go_loud (refine hsm.mono ?_; rintro e w11 ⟨rfl, q, rfl⟩; have hB11 := H10.out.trans ((Below.drewN w10 q).mono H10.out.size); have haw := k_awake (w10.drewN q) (MC.below HE.out.2.2.2 hB11) HE.out.2.2.1; have H11 := Lib.hid hB11; clear hsm hB11 H10))
    | (go_at_call 10; go_loud (refine haw.mono ?_; rintro e w12 ⟨rfl, hb2⟩; have H12 := Lib.hid (H11.out.trans (hb2.mono H11.out.size)); clear haw hb2 H11)))
    go_ret
    exact ⟨rfl, H12.out⟩
end Go.Proofs.YtaldahogjlokkaaGreatDoor
