/-
  Descriptors' law: what is read in two pieces is what is read at one go.
-/
import Derived.Test.YtaldahogjlokkaaGreatDoorKs
namespace Go.Proofs.YtaldahogjlokkaaGreatDoor
set_option linter.unusedSimpArgs false
set_option linter.unusedVariables false
open Go.RowKit Own RegJ Two
open Go.Lib hiding intOf

theorem nameF : nameE [102] = 0 := by kernel_rfl
theorem flE0 : flE 0 = false := by kernel_rfl
/-- one process, two descriptors, two things -/
def P2 (S : FS) (b x y : Nat) (t u : Th) : Prop := S.pr 1 = some b ∧ S.sl b 0 = some x ∧ S.sl b 1 = some y ∧ S.th x = some t ∧ S.th y = some u ∧ x ≠ y
theorem P2.set0 {S : FS} {b x y : Nat} {t u : Th} (h : P2 S b x y t u) (t' : Th) : P2 (S.setth x t') b x y t' u := ⟨h.1, h.2.1, h.2.2.1, setth_eq _ _ _, (setth_ne S x t' (fun e => h.2.2.2.2.2 e.symm)).trans h.2.2.2.2.1, h.2.2.2.2.2⟩
theorem P2.set1 {S : FS} {b x y : Nat} {t u : Th} (h : P2 S b x y t u) (t' : Th) : P2 (S.setth y t') b x y t t' := ⟨h.1, h.2.1, h.2.2.1, (setth_ne S y t' h.2.2.2.2.2).trans h.2.2.2.1, setth_eq _ _ _, h.2.2.2.2.2⟩
/-- a row of the call's own that is not theirs -/
def KpR (w0 : World) (O : Nat → Prop) (w : World) (v : Value) (ys : List Int) : Prop := ∃ gb, RowV w 5 v (ucells ys) gb ∧ ∀ g, gb = some g → w0.heap.size ≤ g ∧ ¬ O g
theorem KpR.next {w0 w w' : World} {O O' : Nat → Prop} {v : Value} {ys : List Int} (h : KpR w0 O w v ys) (hU : Upd O w w') (hO : ∀ k, O' k → O k ∨ w.heap.size ≤ k) : KpR w0 O' w' v ys := by
  obtain ⟨gb, h1, h2⟩ := h
  refine ⟨gb, h1.upd hU (fun g hg => (h2 g hg).2), fun g hg => ⟨(h2 g hg).1, fun ho => ?_⟩⟩
  rcases hO g ho with ho | ho
  · exact (h2 g hg).2 ho
  · rcases h1 with ⟨_, _, e⟩ | ⟨g', _, _, _, e, hB, _⟩
    · rw [e] at hg; cases hg
    · rw [e] at hg
      cases hg
      have := hB.lt
      omega
section
variable {w0 w : World} {O : Nat → Prop} {fdb vb tb fb sb pb mb : Nat} {ns : NSt} {c N : Nat} {S : FS}
theorem pc_state [Inhabited CapT] {x y b : Nat} {t u : Th} (h : FX w0 O fdb vb tb fb sb pb mb ns c N (((fs00.start 1 b).put b 0 x t).put b 1 y u) w) (hne : x ≠ y) : ∃ S, FX w0 O fdb vb tb fb sb pb mb ns c N S w ∧ P2 S b x y t u := by
  refine ⟨_, h, by simp [FS.put, FS.setth, FS.setsl, FS.start, upN], by simp [FS.put, FS.setth, FS.setsl, FS.start, upN], by simp [FS.put, FS.setth, FS.setsl, FS.start, upN], ?_, put_th' _ _ _ _ _, hne⟩
  show (((fs00.start 1 b).put b 0 x t).setth y u).th x = _
  rw [setth_ne _ _ _ hne]
  exact put_th' _ _ _ _ _
end
theorem pc_cut (c : List Int) (k m : Nat) : c.take k ++ (c.drop (c.take k).length).take m = c.take (k + m) := by
  rw [List.take_add, List.length_take]
  by_cases h : k ≤ c.length
  · rw [Nat.min_eq_left h]
  · rw [Nat.min_eq_right (by omega), List.drop_length, List.drop_eq_nil_of_le (by omega)]
set_option maxRecDepth 100000 in
set_option maxHeartbeats 8000000 in
theorem pieces_v (v : Value) (b : List Int) (at' one two : Int) (w : World) (hv : ArgB w v b) (hm : b.length ≤ maxLen) (m0 : Int) (hm0 : w.cell? ⟨0, 0, none⟩ = some (.int .i64 m0)) :
    Calls Tryz.prog 4 #[v, .int .i64 at', .int .i64 one, .int .i64 two] w fun e w' => e = .returned (.bool true) ∧ Below w.heap.size w w' := by
  letI : Inhabited CapT := capOf 10
  unfold maxLen at hm
  obtain ⟨a, c, rfl, hc, hrd⟩ := hv
  obtain ⟨bl, hbl⟩ : ∃ bl, b.length = bl := ⟨_, rfl⟩
  have hV := Lib.hid (show ArgB w (.slice a b.length c) b from ⟨a, c, rfl, hc, hrd⟩)
  rw [hbl] at hV hm ⊢
  by_cases h5 : 300 < bl
  · have d1 : decide ((bl : Int) > 300) = true := by simp; omega
    have haw := k_awake w ⟨m0, hm0⟩ rfl
    clear hc hrd hbl h5 hm0
    go_enter Tryz.func4, Tryz.ntmps4
    go_wp2_with (go_at_call 10; refine haw.mono ?_; rintro e w2 ⟨rfl, hb2⟩; have H2 := Lib.hid hb2; clear hb2)
    go_ret
    exact ⟨rfl, H2.out⟩
  have d1 : decide ((bl : Int) > 300) = false := by simp; omega
  have hb := both_f w ⟨m0, hm0⟩ rfl
  have HE := Lib.hid (And.intro (show bl ≤ 300 by omega) (And.intro hbl (And.intro (show capN = 10 from rfl) (show MC w from ⟨m0, hm0⟩))))
  obtain ⟨kk, hk⟩ : ∃ N, lowF one 200 = N := ⟨_, rfl⟩
  obtain ⟨mm, hmm⟩ : ∃ N, lowF two 200 = N := ⟨_, rfl⟩
  obtain ⟨o, ho⟩ : ∃ N, lowF at' 320 = N := ⟨_, rfl⟩
  have HK := Lib.hid (show 0 ≤ kk ∧ kk < 200 ∧ lowF one 200 = kk from ⟨hk ▸ (low_bd one 200 (by omega)).1, hk ▸ (low_bd one 200 (by omega)).2, hk⟩)
  have HM := Lib.hid (show 0 ≤ mm ∧ mm < 200 ∧ lowF two 200 = mm from ⟨hmm ▸ (low_bd two 200 (by omega)).1, hmm ▸ (low_bd two 200 (by omega)).2, hmm⟩)
  have HO := Lib.hid (show 0 ≤ o ∧ o < 320 ∧ lowF at' 320 = o from ⟨ho ▸ (low_bd at' 320 (by omega)).1, ho ▸ (low_bd at' 320 (by omega)).2, ho⟩)
  have i1 : kk + mm ≤ 9223372036854775807 := by have := HK.out; have := HM.out; omega
  have i2 : -9223372036854775808 ≤ kk + mm := by have := HK.out; have := HM.out; omega
  obtain ⟨y1, e1⟩ : ∃ y, (b.drop o.toNat).take kk.toNat = y := ⟨_, rfl⟩
  obtain ⟨y2, e2⟩ : ∃ y, (b.drop (o + (y1.length : Int)).toNat).take mm.toNat = y := ⟨_, rfl⟩
  obtain ⟨y3, e3⟩ : ∃ y, (b.drop o.toNat).take (kk + mm).toNat = y := ⟨_, rfl⟩
  obtain ⟨y4, e4⟩ : ∃ y, (b.drop (o + (y1.length : Int) + (y2.length : Int)).toNat).take 9 = y := ⟨_, rfl⟩
  obtain ⟨y5, e5⟩ : ∃ y, (b.drop (o + (y3.length : Int)).toNat).take 9 = y := ⟨_, rfl⟩
  have HY := Lib.hid (show readV (filesOf (nsO [102] 2 b)) 1 o kk = (y1, 0) ∧ readV (filesOf (nsO [102] 2 b)) 1 (o + (y1.length : Int)) mm = (y2, 0) ∧ readV (filesOf (nsO [102] 2 b)) 1 o (kk + mm) = (y3, 0) ∧ readV (filesOf (nsO [102] 2 b)) 1 (o + (y1.length : Int) + (y2.length : Int)) 9 = (y4, 0) ∧ readV (filesOf (nsO [102] 2 b)) 1 (o + (y3.length : Int)) 9 = (y5, 0) by
    have := HO.out
    have := HK.out
    have := HM.out
    refine ⟨?_, ?_, ?_, ?_, ?_⟩
    · rw [o_read 2 b o kk (by omega) (by omega), e1]
    · rw [o_read 2 b _ mm (by omega) (by omega), e2]
    · rw [o_read 2 b o _ (by omega) (by omega), e3]
    · rw [o_read 2 b _ 9 (by omega) (by omega)]; exact congrArg (·, 0) e4
    · rw [o_read 2 b _ 9 (by omega) (by omega)]; exact congrArg (·, 0) e5)
  have hcat : y1 ++ y2 = y3 := by
    have := HO.out
    have := HK.out
    have := HM.out
    rw [← e3, ← e2, ← e1, show (kk + mm).toNat = kk.toNat + mm.toNat by omega, ← pc_cut, List.drop_drop]
    congr 3
    omega
  have HL := Lib.hid (show y1.length ≤ 300 ∧ y2.length ≤ 300 ∧ y3.length ≤ 300 ∧ y4.length ≤ 300 ∧ y5.length ≤ 300 ∧ b.length ≤ 300 ∧ y1 ++ y2 = y3 ∧ y4 = y5 from
    ⟨by rw [← e1]; simp; omega, by rw [← e2]; simp; omega, by rw [← e3]; simp; omega, by rw [← e4]; simp; omega, by rw [← e5]; simp; omega, by omega, hcat, by rw [← e4, ← e5, ← hcat, List.length_append]; congr 2; omega⟩)
  clear hc hrd hbl h5 hm0 hk hmm ho e1 e2 e3 e4 e5 hcat hm
  go_enter Tryz.func4, Tryz.ntmps4
  go_wp2_with (first
    | (go_at_call 11; go_loud (refine hb.mono ?_; rintro e w1 ⟨fdb, vb, tb, fb, sb, pb, mb, k1, k2, O1, rfl, hD1⟩; have a1 := k_start hD1 (by omega) 1 (by decide) (by omega) rfl; clear hb hD1))
    | (go_at_call 12; go_loud (refine a1.mono ?_; rintro e w2 ⟨tb1, -, rfl, -, O2, hD2, -⟩; have a2 := k_open hD2 (by omega) 1 (by decide) tb1 (by simp [FS.put, FS.setth, FS.setsl, FS.start, upN]) 0 (by omega) (by simp [FS.put, FS.setth, FS.setsl, FS.start, upN]) (fun k hk => by omega) [47, 102] (by simp) 1 1 (o_new nameF 1 (by omega) (by decide)) ⟨#[47, 102]⟩ rfl; clear a1 hD2))
    | (go_at_call 13; refine a2.mono ?_; rintro e w3 ⟨x, -, rfl, -, O3, hD3, -⟩; rw [flE1] at hD3; have a3 := k_open hD3 (by omega) 1 (by decide) tb1 (by simp [FS.put, FS.setth, FS.setsl, FS.start, upN]) 1 (by omega) (by simp [FS.put, FS.setth, FS.setsl, FS.start, upN]) (fun k hk => by obtain rfl : k = 0 := (by omega); simp [FS.put, FS.setth, FS.setsl, FS.start, upN]) [47, 102] (by simp) 0 1 (o_open nameF 1 [] 0 (by omega) (by decide)) ⟨#[47, 102]⟩ rfl; have hxl := (hD3.fd.x x _ (put_th' _ _ _ _ _)).lt; clear a2 hD3)
    | (go_at_call 13; go_loud (refine a3.mono ?_; rintro e w4 ⟨y, hny, rfl, -, O4, hD4, -⟩; rw [flE0] at hD4; have hxy : x ≠ y := (by omega); obtain ⟨S4, hS4, hP4⟩ := pc_state hD4 hxy; rw [show nsO [102] (1 + 1) [] = nsO [102] 2 [] from rfl] at hS4; have a4 := k_write (ns2 := nsO [102] 2 b) hS4 1 (by decide) tb1 hP4.1 0 x (by omega) hP4.2.1 _ hP4.2.2.2.1 rfl (by decide) b bl c a HE.out.2.1 (by have := HE.out.1; omega) (hV.out.src hS4) 0 (by omega) (.inl ⟨rfl, rfl⟩) (o_writeE capN (by rw [HE.out.2.2.1]; omega) 2 b (by have := HE.out.1; have := HE.out.2.1; omega)); have H4 := Lib.hid hP4; clear a3 hD4 hny hxl hxy hS4 hP4))
    | (go_at_call 16; go_loud (refine a4.mono ?_; rintro e w5 ⟨rfl, -, O5, hD5, -⟩; have H5 := Lib.hid (And.intro hD5 (H4.out.set0 ⟨false, false, 1, 0 + (bl : Int), false, 1⟩)); clear a4 hD5 H4))
    | (go_at_call 15; (with_reducible refine (low_any one 200 (by omega) (by omega) _).mono ?_); rw [HK.out.2.2]; rintro e w6 ⟨rfl, rfl⟩; skip)
    | (go_at_call 15; (with_reducible refine (low_any two 200 (by omega) (by omega) _).mono ?_); rw [HM.out.2.2]; rintro e w6 ⟨rfl, rfl⟩; skip)
    | (go_at_call 15; (with_reducible refine (low_any at' 320 (by omega) (by omega) _).mono ?_); rw [HO.out.2.2]; rintro e w6 ⟨rfl, rfl⟩; have a6 := k_seek H5.out.1 1 (by decide) tb1 H5.out.2.1 0 x (by omega) H5.out.2.2.1 _ H5.out.2.2.2.2.1 rfl o HO.out.1)
    | (go_at_call 14; refine a6.mono ?_; rintro e w7 ⟨rfl, -, O7, hD7, -⟩; have hP7 := H5.out.2.set0 (t' := ⟨false, false, 1, o, false, 1⟩); have a7 := k_seek hD7 1 (by decide) tb1 hP7.1 1 y (by omega) hP7.2.2.1 _ hP7.2.2.2.2.1 rfl o HO.out.1; have H7 := Lib.hid hP7; clear a6 hD7 hP7 H5)
    | (go_at_call 14; go_loud (refine a7.mono ?_; rintro e w8 ⟨rfl, -, O8, hD8, -⟩; have hP8 := H7.out.set1 (t' := ⟨false, false, 1, o, false, 1⟩); have r1 := k_read hD8 1 (by decide) tb1 hP8.1 0 x (by omega) hP8.2.1 _ hP8.2.2.2.1 rfl rfl (by show (Lit.int .i64 1).wf = true; decide) (by have := HO.out; have := HL.out; simp; omega) kk (by have := HK.out; have := HM.out; omega) y1 0 HY.out.1 (by have := HL.out; omega); have H8 := Lib.hid (And.intro hD8.bel hP8); clear a7 hD8 hP8 H7))
    | (go_at_call 17; go_loud (refine r1.mono ?_; rintro e v1 ⟨ra1, rc1, g1, P1, rfl, hR, hg, hU, hD, hO⟩; have K1 := Lib.hid (show KpR w P1 v1 (.slice ra1 y1.length rc1) y1 from ⟨g1, hR, fun g e => ⟨Nat.le_trans H8.out.1.size (hg g e).1, (hg g e).2⟩⟩); have hP := H8.out.2.set0 (t' := ⟨false, false, 1, o + (y1.length : Int), false, 1⟩); have r2 := k_read hD 1 (by decide) tb1 hP.1 0 x (by omega) hP.2.1 _ hP.2.2.2.1 rfl rfl (by show (Lit.int .i64 1).wf = true; decide) (by have := HO.out; have := HL.out; simp; omega) mm (by have := HK.out; have := HM.out; omega) y2 0 HY.out.2.1 (by have := HL.out; omega); have G1 := Lib.hid (And.intro hD.bel hP); clear hP; clear r1 hD hO hU hR hg H8))
    | (go_at_call 17; go_loud (refine r2.mono ?_; rintro e v2 ⟨ra2, rc2, g2, P2, rfl, hR, hg, hU, hD, hO⟩; have q1 := K1.out.next hU hO; clear K1; have K1 := Lib.hid q1; clear q1; have K2 := Lib.hid (show KpR w P2 v2 (.slice ra2 y2.length rc2) y2 from ⟨g2, hR, fun g e => ⟨Nat.le_trans G1.out.1.size (hg g e).1, (hg g e).2⟩⟩); have hP := G1.out.2.set0 (t' := ⟨false, false, 1, o + (y1.length : Int) + (y2.length : Int), false, 1⟩); have r3 := k_read hD 1 (by decide) tb1 hP.1 1 y (by omega) hP.2.2.1 _ hP.2.2.2.2.1 rfl rfl (by show (Lit.int .i64 1).wf = true; decide) (by have := HO.out; have := HL.out; simp; omega) (kk + mm) (by have := HK.out; have := HM.out; omega) y3 0 HY.out.2.2.1 (by have := HL.out; omega); have G2 := Lib.hid (And.intro hD.bel hP); clear hP; clear r2 hD hO hU hR hg G1))
    | (go_at_call 17; go_loud (refine r3.mono ?_; rintro e v3 ⟨ra3, rc3, g3, P3, rfl, hR, hg, hU, hD, hO⟩; have q1 := K1.out.next hU hO; clear K1; have K1 := Lib.hid q1; clear q1; have q2 := K2.out.next hU hO; clear K2; have K2 := Lib.hid q2; clear q2; have K3 := Lib.hid (show KpR w P3 v3 (.slice ra3 y3.length rc3) y3 from ⟨g3, hR, fun g e => ⟨Nat.le_trans G2.out.1.size (hg g e).1, (hg g e).2⟩⟩); have hP := G2.out.2.set1 (t' := ⟨false, false, 1, o + (y3.length : Int), false, 1⟩); have r4 := k_read hD 1 (by decide) tb1 hP.1 0 x (by omega) hP.2.1 _ hP.2.2.2.1 rfl rfl (by show (Lit.int .i64 1).wf = true; decide) (by have := HO.out; have := HL.out; simp; omega) 9 (by have := HK.out; have := HM.out; omega) y4 0 HY.out.2.2.2.1 (by have := HL.out; omega); have G3 := Lib.hid (And.intro hD.bel hP); clear hP; clear r3 hD hO hU hR hg G2))
    | (go_at_call 17; go_loud (refine r4.mono ?_; rintro e v4 ⟨ra4, rc4, g4, P4, rfl, hR, hg, hU, hD, hO⟩; have q1 := K1.out.next hU hO; clear K1; have K1 := Lib.hid q1; clear q1; have q2 := K2.out.next hU hO; clear K2; have K2 := Lib.hid q2; clear q2; have q3 := K3.out.next hU hO; clear K3; have K3 := Lib.hid q3; clear q3; have K4 := Lib.hid (show KpR w P4 v4 (.slice ra4 y4.length rc4) y4 from ⟨g4, hR, fun g e => ⟨Nat.le_trans G3.out.1.size (hg g e).1, (hg g e).2⟩⟩); have hP := G3.out.2.set0 (t' := ⟨false, false, 1, o + (y1.length : Int) + (y2.length : Int) + (y4.length : Int), false, 1⟩); have r5 := k_read hD 1 (by decide) tb1 hP.1 1 y (by omega) hP.2.2.1 _ hP.2.2.2.2.1 rfl rfl (by show (Lit.int .i64 1).wf = true; decide) (by have := HO.out; have := HL.out; simp; omega) 9 (by have := HK.out; have := HM.out; omega) y5 0 HY.out.2.2.2.2 (by have := HL.out; omega); have G4 := Lib.hid (And.intro hD.bel hP); clear hP; clear r4 hD hO hU hR hg G3))
    | (go_at_call 17; go_loud (refine r5.mono ?_; rintro e v5 ⟨ra5, rc5, g5, P5, rfl, hR, hg, hU, hD, hO⟩; have q1 := K1.out.next hU hO; clear K1; have K1 := Lib.hid q1; clear q1; have q2 := K2.out.next hU hO; clear K2; have K2 := Lib.hid q2; clear q2; have q3 := K3.out.next hU hO; clear K3; have K3 := Lib.hid q3; clear q3; have q4 := K4.out.next hU hO; clear K4; have K4 := Lib.hid q4; clear q4; have K5 := Lib.hid (show KpR w P5 v5 (.slice ra5 y5.length rc5) y5 from ⟨g5, hR, fun g e => ⟨Nat.le_trans G4.out.1.size (hg g e).1, (hg g e).2⟩⟩); have hb5 := hD.bel; obtain ⟨f1, j1, -⟩ := K1.out; obtain ⟨f2, j2, -⟩ := K2.out; obtain ⟨f3, j3, -⟩ := K3.out; obtain ⟨f4, j4, -⟩ := K4.out; obtain ⟨f5, j5, -⟩ := K5.out; have G5 := Lib.hid (And.intro hb5 (And.intro j1 (And.intro j2 (And.intro j3 (And.intro j4 j5))))); clear hb5 j1 j2 j3 j4 j5 K1 K2 K3 K4 K5; clear r5 hD hO hU hR hg G4))
    | (at_builtin; refine wp_appV rfl _ _ 34 5 (.int .u8 0) 1 (by kernel_rfl) rfl (by decide) Tryz.underlying34 rfl (.slice none 0 0) [] none rfl (Or.inl ⟨rfl, rfl, rfl⟩) ra1 y1.length rc1 (ucells y1) (by simp [ucells]) rfl (fun hp => RowV.src G5.out.2.1 hp) (one_u _) (by have := HL.out; simp [ucells]; omega) ?_; intro z1 w10 h1 hz1 hg1 hu1; rw [List.nil_append] at hz1; have hB10 := hu1.below (Nat.le_refl _) (fun k hk => by cases hk); have G6 := Lib.hid (And.intro hB10 (And.intro hz1 (fun g hg => (hg1 g hg).elim (fun h => by cases h) (fun h => h)))); clear hz1 hg1 hu1 hB10)
    | (at_builtin; refine wp_appV rfl _ _ 34 5 (.int .u8 0) 1 (by kernel_rfl) rfl (by decide) Tryz.underlying34 rfl z1 (ucells y1) h1 rfl G6.out.2.1 ra2 y2.length rc2 (ucells y2) (by simp [ucells]) rfl (fun hp => RowV.src (G5.out.2.2.1.below G6.out.1) hp) (one_u _) (by have := HL.out; simp [ucells]; omega) ?_; intro z2 w11 h2 hz2 hg2 hu2; have hB11 := G6.out.1.trans (hu2.below G6.out.1.size (fun k hk => G6.out.2.2 k hk)); have hsm := sameB_any (RdU.of (show RowV w11 5 z2 (ucells y3) h2 by rw [← HL.out.2.2.2.2.2.2.1, ucells_app]; exact hz2)) (RdU.of (G5.out.2.2.2.1.below hB11)) true (by simp); have G7 := Lib.hid hB11; clear hz2 hg2 hu2 hB11 G6)
    | (go_at_call 18; refine hsm.mono ?_; rintro e w12 ⟨rfl, q, rfl⟩; have hB12 := G7.out.trans ((Below.drewN w11 q).mono G7.out.size); have hsn := sameB_any (RdU.of (G5.out.2.2.2.2.1.below hB12)) (RdU.of (G5.out.2.2.2.2.2.below hB12)) true (by simp [HL.out.2.2.2.2.2.2.2]); have G8 := Lib.hid hB12; clear hsm hB12 G7)
    | (go_at_call 18; refine hsn.mono ?_; rintro e w13 ⟨rfl, q2, rfl⟩; have hB13 := G5.out.1.trans ((G8.out.trans ((Below.drewN _ q2).mono G8.out.size)).mono G5.out.1.size); rw [World.drewN_drewN] at hB13; have haw := k_awake _ (MC.below HE.out.2.2.2 hB13) HE.out.2.2.1; have G9 := Lib.hid hB13; clear hsn hB13 G8 G5)
    | (go_at_call 10; go_loud (refine haw.mono ?_; rintro e w14 ⟨rfl, hb2⟩; have H14 := Lib.hid (G9.out.trans (hb2.mono G9.out.size)); clear haw hb2 G9)))
  go_ret
  exact ⟨rfl, H14.out⟩
end Go.Proofs.YtaldahogjlokkaaGreatDoor
