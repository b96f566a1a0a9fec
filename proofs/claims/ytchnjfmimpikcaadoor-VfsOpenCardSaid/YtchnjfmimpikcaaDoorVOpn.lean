/-
  VfsOpen: what each call answers at its states (plain), and the walk.
-/
import Derived.Test.YtchnjfmimpikcaaDoorVD
import Derived.Test.YtchnjfmimpikcaaDoorSameB
import Derived.Test.YtchnjfmimpikcaaDoorLow
namespace Go.Proofs.YtchnjfmimpikcaaDoor
set_option linter.unusedSimpArgs false
set_option linter.unusedVariables false
open Go.RowKit Own RegJ Two
open Go.Lib hiding intOf

abbrev pX : Txt := [47, 120]
def nsO (l : Int) (es : List En) (b : List Int) : NSt := fun j => if j = 0 then some ⟨true, 0, 0, es, []⟩ else if j = 1 then some ⟨false, l, 1, [], b⟩ else none
abbrev nsW (b : List Int) : NSt := nsO 1 [([120], 1)] b
abbrev nsU (b : List Int) : NSt := nsO 0 [] b
theorem nsO_far (l : Int) (es : List En) (b : List Int) : ∀ j, 16 ≤ j → nsO l es b j = none := fun j hj => by
  unfold nsO; rw [if_neg (by omega), if_neg (by omega)]
theorem ns0_far : ∀ j, 16 ≤ j → ns0 j = none := fun j hj => by unfold ns0; rw [if_neg (by omega)]
theorem po1 : walkR ns0 pX = (0, 9) := by decide +kernel
theorem po2 : (newF ns0 pX).1 = 1 ∧ (newF ns0 pX).2.1 = 0 ∧ (List.range 16).map (newF ns0 pX).2.2 = (List.range 16).map (nsW []) := ⟨by decide +kernel, by decide +kernel, by kernel_rfl⟩
theorem po3 (b : List Int) : (atPar (nsW b) pX (fun d nm => remF (nsW b) d nm false 12)).1 = 0 ∧ (List.range 16).map (atPar (nsW b) pX (fun d nm => remF (nsW b) d nm false 12)).2 = (List.range 16).map (nsU b) := ⟨by kernel_rfl, by kernel_rfl⟩
theorem po4 (b : List Int) : walkR (nsU b) pX = (0, 9) := by kernel_rfl
theorem po5 (b : List Int) : (closeF (nsU b) 1).1 = 0 ∧ (List.range 16).map (closeF (nsU b) 1).2 = (List.range 16).map ns0 := ⟨by kernel_rfl, by kernel_rfl⟩
theorem wrB_nil (b : List Int) : writeB [] 0 b = b := by
  unfold writeB extB spl
  simp
theorem po6 (F : Nat) (hF : 8 ≤ F) (b : List Int) (hb : b.length ≤ 512) : (wrF (nsW []) F 1 0 b).1 = 0 ∧ (List.range 16).map (wrF (nsW []) F 1 0 b).2 = (List.range 16).map (nsW b) := by
  have h1 : ndAt (nsW []) 1 = some ⟨false, 1, 1, [], []⟩ := by kernel_rfl
  have hu : usedN (filesOf (nsW [])) 16 = 0 := by decide +kernel
  unfold wrF
  rw [h1]
  simp only [Bool.false_eq_true, if_false]
  rw [if_neg (by omega)]
  by_cases h2 : b.length = 0
  · rw [if_pos h2]
    obtain rfl : b = [] := List.eq_nil_of_length_eq_zero h2
    exact ⟨rfl, rfl⟩
  · rw [if_neg h2, if_neg (by omega), hu]
    rw [if_neg (by simp; omega)]
    refine ⟨rfl, ?_⟩
    have e : writeB [] (Int.toNat 0) b = b := wrB_nil b
    show (List.range 16).map (nsPut (nsW []) (Int.toNat 1) (some (setB ⟨false, 1, 1, [], []⟩ (writeB [] (Int.toNat 0) b)))) = _
    rw [e]
    kernel_rfl
theorem po7 (b : List Int) (hb : b.length ≤ 512) : readV (filesOf (nsU b)) 1 0 600 = (b, 0) := by
  have h1 : fsAt (filesOf (nsU b)) 1 = some b := by kernel_rfl
  unfold readV
  rw [h1]
  simp only
  rw [if_neg (by omega)]
  have : (List.drop (Int.toNat 0) b).take (Int.toNat 600) = b := by
    show (List.drop 0 b).take 600 = b
    rw [List.drop_zero, List.take_of_length_le (by omega)]
  rw [this]
theorem po8 : sizeV (filesOf ns0) 1 = (0, 4) := by decide +kernel
theorem po9 : usedN (filesOf ns0) 16 = 0 := by decide +kernel
theorem po10 : lenN ns0 16 = 1 := by decide +kernel
theorem d_arg [Inhabited CapT] {w0 w : World} {vb tb fb sb c : Nat} {ns : NSt} (h : DV w0 vb tb fb sb ns c w) {b : List Int} {a : Option Addr} {n cc : Nat} (hv : ArgB w0 (.slice a n cc) b) (hm : b.length ≤ maxLen) : RdU w (.slice a n cc) b := by
  obtain ⟨a', c', e, h1, h2⟩ := hv
  cases e
  obtain ⟨lo, k1, k2, k3⟩ := h
  exact RdU.arg hm (fun hp => by
    obtain ⟨g, q, rfl, h3, h4⟩ := h2 hp
    exact ⟨g, q, rfl, rdv_far h3 h4 k2⟩)
set_option maxRecDepth 100000 in
set_option maxHeartbeats 1000000 in
theorem open_walk (v : Value) (b : List Int) (n0 : Int) (w : World) (hv : ArgB w v b) (hm : b.length ≤ maxLen) (m0 : Int) (hm0 : w.cell? ⟨0, 0, none⟩ = some (.int .i64 m0)) : Calls Tryd.prog 5 #[v, .int .i64 n0] w (AwP w) := by
  have HM := Lib.hid (show MC w from ⟨m0, hm0⟩)
  clear hm0
  unfold maxLen at hm
  obtain ⟨a, c, rfl, hc, hrd⟩ := hv
  obtain ⟨bl, hbl⟩ : ∃ bl, b.length = bl := ⟨_, rfl⟩
  have hV := Lib.hid (show ArgB w (.slice a b.length c) b from ⟨a, c, rfl, hc, hrd⟩)
  rw [hbl] at hV hm ⊢
  by_cases h5 : 512 < bl
  · have d1 : decide ((bl : Int) > 512) = true := by simp; omega
    have d1n : decide (bl > 512) = true := by simpa using h5
    have haw := vawake w HM.out
    clear hc hrd hbl h5
    go_enter Tryd.func5, Tryd.ntmps5
    go_wp2_with (go_at_call 16; (with_reducible refine haw.mono ?_); rintro e w1 ⟨rfl, hB⟩; have H1 := Lib.hid hB; clear hB haw)
    go_ret
    exact ⟨rfl, H1.out⟩
  · have d1 : decide ((bl : Int) > 512) = false := by simp; omega
    have d1n : decide (bl > 512) = false := by simpa using h5
    have hb512 : b.length ≤ 512 := by omega
    obtain ⟨k, hk⟩ : ∃ k : Nat, lowF n0 8 = k := ⟨(lowF n0 8).toNat, by have := low_bd n0 8 (by decide); omega⟩
    have hk8 : k < 8 := by have := low_bd n0 8 (by decide); omega
    have hlow := fun w => low_any n0 8 (by decide) (by decide) w
    rw [hk] at hlow
    letI : Inhabited CapT := capOf (8 + k)
    have hcap : capN = 8 + k := rfl
    obtain ⟨N, hN⟩ : ∃ N, N = 8 + k := ⟨_, rfl⟩
    have eN : (8 : Int) + (k : Int) = (N : Nat) := by omega
    have hfn := fnew_is N (by omega) (by omega) w
    have hNb : N ≤ 100 := by omega
    have HC := Lib.hid (And.intro hcap (And.intro hN (And.intro hb512 (And.intro hbl hk8))))
    clear hc hrd h5 hk hcap hN hb512 hbl hk8
    go_enter Tryd.func5, Tryd.ntmps5
    go_wp2_with (first
      | (go_at_call 8; refine (hlow _).mono ?_; rintro e w3 ⟨rfl, rfl⟩)
      | (go_at_call 6; (with_reducible refine hfn.mono ?_); rintro e w1 ⟨fb, bb, kb, rfl, hFr, hB, g1, g2, g3, g4, g5, g6⟩; have hn := d_vnew hB N fb bb kb hFr g1 g2 g3 g4 g5 g6 (by (have := HC.out.2.1; omega)) (by rw [HC.out.1, HC.out.2.1]) HM.out; clear hB hFr g1 g2 g3 g4 g5 g6 hfn eN)
      | (go_at_call 7; (with_reducible refine hn.mono ?_); rintro e w2 ⟨vb, tb, sb, rfl, hD⟩; have hfree := d_free hD (N : Nat) (by rw [po9, HC.out.1, HC.out.2.1]; omega); clear hn hD)
      | (go_at_call 22; (with_reducible refine hfree.mono ?_); rintro e w3 ⟨rfl, hD⟩; have hop := d_new hD (by omega) pX (by simp) po1 1 0 _ (Prod.ext po2.1 (Prod.ext po2.2.1 rfl)) _ rfl; clear hfree hD)
      | (go_at_call 10; (refine hop.mono ?_); rintro e w4 ⟨rfl, hD⟩; have hD2 := hD.eq po2.2.2 (nsO_far _ _ _); have hst := d_store hD2; have H4 := Lib.hid hD2; clear hop hD hD2)
      | (go_at_call 21; (with_reducible refine hst.mono ?_); rintro e w5 ⟨rfl, rfl⟩; clear hst; have hwr := d_write H4.out 1 rfl 0 b (by (have := HC.out.2.2.1; omega)) (.slice a bl c) hV.out 0 _ (Prod.ext (po6 capN (by rw [HC.out.1]; omega) b HC.out.2.2.1).1 rfl))
      | (go_at_call 23; (with_reducible refine hwr.mono ?_); rintro e w6 ⟨rfl, hD⟩; have hD2 := hD.eq (po6 capN (by rw [HC.out.1]; omega) b HC.out.2.2.1).2 (nsO_far _ _ _); have hun := d_un hD2 (by omega) pX (by simp) 0 _ (Prod.ext (po3 b).1 rfl) _ rfl; clear hwr hD hD2)
      | (go_at_call 14; (refine hun.mono ?_); rintro e w7 ⟨rfl, hD⟩; have hD2 := hD.eq (po3 b).2 (nsO_far _ _ _); have hwk := d_walk hD2 pX (by simp) 0 9 (po4 b) _ rfl; clear hun hD hD2)
      | (go_at_call 17; (refine hwk.mono ?_); rintro e w8 ⟨rfl, hD⟩; have hst2 := d_store hD; have H8 := Lib.hid hD; clear hwk hD)
      | (go_at_call 21; (with_reducible refine hst2.mono ?_); rintro e w9 ⟨rfl, rfl⟩; clear hst2; have hrd := d_read H8.out 1 rfl 0 600 (by omega) (by omega) b 0 (po7 b HC.out.2.2.1))
      | (go_at_call 24; (with_reducible refine hrd.mono ?_); rintro e w10 ⟨v1, b1, rfl, hR, hb1, hD, hB⟩; have hnd := d_nodes hD; have hcl := d_clr H8.out hB hR hb1 (by omega) 1 0 _ (Prod.ext (po5 b).1 rfl); clear hrd hD hR hb1 hB)
      | (go_at_call 11; (with_reducible refine hnd.mono ?_); rintro e w11 ⟨rfl, rfl⟩; clear hnd)
      | (go_at_call 12; (with_reducible refine hcl.mono ?_); rintro e w12 ⟨⟨rfl, hD⟩, hR⟩; have hD2 := hD.eq (po5 b).2 ns0_far; have hst3 := d_store hD2; have hsz := d_size hD2 1 rfl 0 4 po8; have hsm := sameB_any (RdU.of hR) (d_arg hD2 hV.out (by (have := HC.out.2.2.1; unfold maxLen; omega))) true (by simp); have H12 := Lib.hid hD2; clear hcl hD hD2 hR)
      | (go_at_call 21; (with_reducible refine hst3.mono ?_); rintro e w13 ⟨rfl, rfl⟩; clear hst3)
      | (go_at_call 25; (with_reducible refine hsz.mono ?_); rintro e w13 ⟨rfl, rfl⟩; clear hsz)
      | (go_at_call 26; (with_reducible refine hsm.mono ?_); rintro e w13 ⟨rfl, q, rfl⟩; have hD := H12.out.below (Below.drewN w12 q); have hfree2 := d_free hD (N : Nat) (by rw [po9, HC.out.1, HC.out.2.1]; omega); clear hsm hD)
      | (go_at_call 22; (with_reducible refine hfree2.mono ?_); rintro e w14 ⟨rfl, hD⟩; have hnd2 := d_nodes hD; have hln := d_len hD 1 (by rw [po10]; rfl); have haw := d_aw hD; clear hfree2 hD)
      | (go_at_call 11; (with_reducible refine hnd2.mono ?_); rintro e w15 ⟨rfl, rfl⟩; clear hnd2)
      | (go_at_call 15; (with_reducible refine hln.mono ?_); rintro e w15 ⟨rfl, rfl⟩; clear hln)
      | (go_at_call 16; (with_reducible refine haw.mono ?_); rintro e w16 ⟨rfl, hB⟩; have H16 := Lib.hid hB; clear haw hB))
    go_ret
    exact ⟨rfl, H16.out⟩
end Go.Proofs.YtchnjfmimpikcaaDoor
