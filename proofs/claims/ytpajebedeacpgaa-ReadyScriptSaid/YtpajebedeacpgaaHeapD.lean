/-
  container/heap's down over items, as they lie in memory.
-/
import Derived.Test.YtpajebedeacpgaaHeapW
namespace Go.Proofs.Ytpajebedeacpgaa
set_option linter.unusedSimpArgs false
set_option linter.unusedVariables false
open Go.RowKit Go.Lib Own RegJ

def DnI (n : Nat) (xs : List It) (w : World) (bh g cap N : Nat) (rest : List Value) (i0 i : Nat) (ys : List It) (wr : World) : Prop := i0 ≤ i ∧ (i < n ∨ i = i0) ∧ (i = i0 → ys = xs) ∧ ys.Perm xs ∧ ys.drop n = xs.drop n ∧ OkDn ys n i (i0 < i) ∧ HS wr bh g cap N ys rest ∧ Upd (fun k => k = g) w wr
def DnP (n : Nat) (xs : List It) (w : World) (bh g cap N : Nat) (rest : List Value) (i0 : Nat) (e : Ending) (w' : World) : Prop := ∃ (m : Bool) (ys : List It), e = .returned (.bool m) ∧ ys.Perm xs ∧ ys.drop n = xs.drop n ∧ HS w' bh g cap N ys rest ∧ Upd (fun k => k = g) w w' ∧ (m = true ∨ i0 = 0 → HeapOk ys n) ∧ (m = false → ys = xs ∧ OkUp xs n i0)
section
variable {n : Nat} {xs : List It} {w wr w' : World} {bh g cap N : Nat} {rest : List Value} {i0 i : Nat} {ys : List It}
theorem DnI.fin (h : DnI n xs w bh g cap N rest i0 i ys wr) (hd : Done ys n i) (hb : Below wr.heap.size wr w') (m : Bool) (hm : m = decide (i0 < i)) : DnP n xs w bh g cap N rest i0 (.returned (.bool m)) w' := by
  obtain ⟨h1, h2, h3, h4, h5, h6, h7, h8⟩ := h
  refine ⟨m, ys, rfl, h4, h5, h7.below hb, h8.trans (Upd.of_below (F := fun _ => False) hb) (fun _ _ h => h.elim), fun h => dn_heap h6 hd ?_, fun h => ?_⟩
  · rcases h with h | h
    · rw [h] at hm; exact Or.inl (by simpa using hm.symm)
    · by_cases h0 : i = 0
      · exact Or.inr h0
      · exact Or.inl (by omega)
  · rw [h] at hm
    have : ¬ i0 < i := by simpa using hm.symm
    have hi : i = i0 := by omega
    subst hi
    obtain rfl := h3 rfl
    exact ⟨rfl, dn_up h6 hd⟩
theorem DnI.step (h : DnI n xs w bh g cap N rest i0 i ys wr) (hn : n ≤ N) {j : Nat} (hk : Kid ys n i j) (hl : lt (X ys j) (X ys i)) (hs : HS w' bh g cap N (swapL ys i j) rest) (hu : Upd (fun k => k = g) wr w') : DnI n xs w bh g cap N rest i0 j (swapL ys i j) w' := by
  obtain ⟨h1, h2, h3, h4, h5, h6, h7, h8⟩ := h
  have hij : i < j ∧ j < n := by have := hk.1; have := hk.2.1; have := hk.2.2.1; omega
  have hN := h7.len
  refine ⟨by omega, Or.inl hij.2, fun e => by omega, (swapL_perm ys i j (by omega) (by omega)).trans h4, by rw [swapL_drop ys i j n (by omega) hij.2]; exact h5, ?_, hs, h8.trans hu (fun _ _ h => h)⟩
  have := dn_step h6 (by rw [hN]; exact hn) hk hl
  exact ⟨this.rest, this.kids, fun _ => this.top trivial⟩
end
set_option maxRecDepth 100000 in
set_option maxHeartbeats 2000000 in
theorem down_is {w : World} {bh g cap N : Nat} {xs : List It} {rest : List Value} (h : HS w bh g cap N xs rest) (n i0 : Nat) (hn : n ≤ N) (hi0 : i0 ≤ n) (ho : OkDn xs n i0 False) :
    Calls Try.prog 67 #[.iface 89 (.pointer (some ⟨bh, 0, none⟩)), .int .i64 i0, .int .i64 n] w (DnP n xs w bh g cap N rest i0) := by
  have hm1 := m_less bh (.slice (some ⟨g, 0, none⟩) N cap)
  have hm2 := m_swap bh (.slice (some ⟨g, 0, none⟩) N cap)
  have hmax := h.max
  have H : DnI n xs w bh g cap N rest i0 i0 xs w := ⟨Nat.le_refl _, Or.inr rfl, fun _ => rfl, List.Perm.refl _, rfl, ⟨ho.rest, ho.kids, fun h => by omega⟩, h, Upd.refl _ _⟩
  replace H := Lib.hid H
  clear h ho
  go_enter Try.func67, Try.ntmps67
  go_wp2
  go_loopw [7] (fun ix wr => ∃ (i : Nat) (ys : List It), ix = .int .i64 i ∧ DnI n xs w bh g cap N rest i0 i ys wr) (fun ix _ => n - (intOf ix).toNat)
  case atStart => exact ⟨i0, xs, rfl, H.out⟩
  case round =>
    obtain ⟨i, ys, rfl, hI⟩ := hrel
    have hs := hI.2.2.2.2.2.2.1
    have c1 := hs.hb.rd
    have hle : i ≤ 4000 := by have h1 := hI.1; have h2 := hI.2.1; omega
    have hge : i0 ≤ i := hI.1
    have hr : decide ((i : Int) > (i0 : Int)) = decide (i0 < i) := by simp
    have HI := Lib.hid hI
    have HS0 := Lib.hid hs
    clear hs hI
    by_cases hA : n ≤ 2 * i + 1
    · have hd := Lib.hid (done_none (xs := ys) hA)
      have e1 : decide (2 * (i : Int) + 1 ≥ (n : Int)) = true := by simp; omega
      clear hA
      go_wp2
      go_ret
      exact HI.out.fin hd.out (Below.refl _ _) _ (by simp)
    · have e1 : decide (2 * (i : Int) + 1 ≥ (n : Int)) = false := by simp; omega
      have e0 : decide (2 * (i : Int) + 1 < 0) = false := by simp; omega
      have n1 : 2 * i + 1 < N := by omega
      have n0 : i < N := by omega
      by_cases hB : 2 * i + 2 < n
      · have e2 : decide (2 * (i : Int) + 1 + 1 < (n : Int)) = true := by simp; omega
        have e3 : decide (2 * (i : Int) + 2 < (n : Int)) = true := by simp; omega
        have n2 : 2 * i + 2 < N := by omega
        by_cases hC : lt (X ys (2 * i + 2)) (X ys (2 * i + 1))
        · have hk := Lib.hid (kid_two hB hC)
          have hC' : decide (lt (X ys (2 * i + 2)) (X ys (2 * i + 1))) = true := by simpa using hC
          have HC := Lib.hid hC'
          clear hC hC'
          by_cases hL : lt (X ys (2 * i + 2)) (X ys i)
          · have hL' : decide (lt (X ys (2 * i + 2)) (X ys i)) = true := by simpa using hL
            have HL := Lib.hid hL'
            have HLl := Lib.hid hL
            clear hL hL'
            go_wp2_with (first
                | (go_at_call 114; refine (less_hs HS0.out (2 * i + 2) (2 * i + 1) _ _ (by omega) (by omega) n2 n1 true HC.out).mono ?_; rintro e w1 ⟨rfl, hb1⟩; have hs1 := HS0.out.below hb1; have c1 := hs1.hb.rd; have HS1 := Lib.hid hs1; have HB1 := Lib.hid hb1; clear hs1 hb1)
                | (go_at_call 114; refine (less_hs HS1.out (2 * i + 2) i _ _ (by omega) (by omega) n2 n0 true HL.out).mono ?_; rintro e w2 ⟨rfl, hb2⟩; have hs2 := HS1.out.below hb2; have c1 := hs2.hb.rd; have HS2 := Lib.hid hs2; have HB2 := Lib.hid hb2; clear hs2 hb2)
                | (go_at_call 115; refine (swap_hs HS2.out i (2 * i + 2) _ _ (by omega) (by omega) n0 n2).mono ?_; rintro e w3 ⟨⟨v, rfl⟩, hs3, hu3⟩; have HS3 := Lib.hid (And.intro hs3 hu3); clear hs3 hu3))
            go_roundw
            case rel => exact ⟨2 * i + 2, swapL ys i (2 * i + 2), by go_num, HI.out.step hn hk.out HLl.out HS3.out.1 ((Upd.of_below (HB1.out.trans (HB2.out.mono HB1.out.size))).trans HS3.out.2 (fun _ _ h => h))⟩
            case measure => simp [intOf]; omega
          · have hL' : decide (lt (X ys (2 * i + 2)) (X ys i)) = false := by simpa using hL
            have HL := Lib.hid hL'
            have hd := Lib.hid (done_kid hk.out hL)
            clear hL hL'
            go_wp2_with (first
                | (go_at_call 114; refine (less_hs HS0.out (2 * i + 2) (2 * i + 1) _ _ (by omega) (by omega) n2 n1 true HC.out).mono ?_; rintro e w1 ⟨rfl, hb1⟩; have hs1 := HS0.out.below hb1; have c1 := hs1.hb.rd; have HS1 := Lib.hid hs1; have HB1 := Lib.hid hb1; clear hs1 hb1)
                | (go_at_call 114; refine (less_hs HS1.out (2 * i + 2) i _ _ (by omega) (by omega) n2 n0 false HL.out).mono ?_; rintro e w2 ⟨rfl, hb2⟩; have hs2 := HS1.out.below hb2; have c1 := hs2.hb.rd; have HS2 := Lib.hid hs2; have HB2 := Lib.hid hb2; clear hs2 hb2))
            go_ret
            exact HI.out.fin hd.out (HB1.out.trans (HB2.out.mono HB1.out.size)) _ (by simp)
        · have hk := Lib.hid (kid_one (n := n) (by omega) (Or.inr hC))
          have hC' : decide (lt (X ys (2 * i + 2)) (X ys (2 * i + 1))) = false := by simpa using hC
          have HC := Lib.hid hC'
          clear hC hC'
          by_cases hL : lt (X ys (2 * i + 1)) (X ys i)
          · have hL' : decide (lt (X ys (2 * i + 1)) (X ys i)) = true := by simpa using hL
            have HL := Lib.hid hL'
            have HLl := Lib.hid hL
            clear hL hL'
            go_wp2_with (first
                | (go_at_call 114; refine (less_hs HS0.out (2 * i + 2) (2 * i + 1) _ _ (by omega) (by omega) n2 n1 false HC.out).mono ?_; rintro e w1 ⟨rfl, hb1⟩; have hs1 := HS0.out.below hb1; have c1 := hs1.hb.rd; have HS1 := Lib.hid hs1; have HB1 := Lib.hid hb1; clear hs1 hb1)
                | (go_at_call 114; refine (less_hs HS1.out (2 * i + 1) i _ _ (by omega) (by omega) n1 n0 true HL.out).mono ?_; rintro e w2 ⟨rfl, hb2⟩; have hs2 := HS1.out.below hb2; have c1 := hs2.hb.rd; have HS2 := Lib.hid hs2; have HB2 := Lib.hid hb2; clear hs2 hb2)
                | (go_at_call 115; refine (swap_hs HS2.out i (2 * i + 1) _ _ (by omega) (by omega) n0 n1).mono ?_; rintro e w3 ⟨⟨v, rfl⟩, hs3, hu3⟩; have HS3 := Lib.hid (And.intro hs3 hu3); clear hs3 hu3))
            go_roundw
            case rel => exact ⟨2 * i + 1, swapL ys i (2 * i + 1), by go_num, HI.out.step hn hk.out HLl.out HS3.out.1 ((Upd.of_below (HB1.out.trans (HB2.out.mono HB1.out.size))).trans HS3.out.2 (fun _ _ h => h))⟩
            case measure => simp [intOf]; omega
          · have hL' : decide (lt (X ys (2 * i + 1)) (X ys i)) = false := by simpa using hL
            have HL := Lib.hid hL'
            have hd := Lib.hid (done_kid hk.out hL)
            clear hL hL'
            go_wp2_with (first
                | (go_at_call 114; refine (less_hs HS0.out (2 * i + 2) (2 * i + 1) _ _ (by omega) (by omega) n2 n1 false HC.out).mono ?_; rintro e w1 ⟨rfl, hb1⟩; have hs1 := HS0.out.below hb1; have c1 := hs1.hb.rd; have HS1 := Lib.hid hs1; have HB1 := Lib.hid hb1; clear hs1 hb1)
                | (go_at_call 114; refine (less_hs HS1.out (2 * i + 1) i _ _ (by omega) (by omega) n1 n0 false HL.out).mono ?_; rintro e w2 ⟨rfl, hb2⟩; have hs2 := HS1.out.below hb2; have c1 := hs2.hb.rd; have HS2 := Lib.hid hs2; have HB2 := Lib.hid hb2; clear hs2 hb2))
            go_ret
            exact HI.out.fin hd.out (HB1.out.trans (HB2.out.mono HB1.out.size)) _ (by simp)
      · have e2 : decide (2 * (i : Int) + 1 + 1 < (n : Int)) = false := by simp; omega
        have e3 : decide (2 * (i : Int) + 2 < (n : Int)) = false := by simp; omega
        have hk := Lib.hid (kid_one (xs := ys) (n := n) (i := i) (by omega) (Or.inl (by omega)))
        by_cases hL : lt (X ys (2 * i + 1)) (X ys i)
        · have hL' : decide (lt (X ys (2 * i + 1)) (X ys i)) = true := by simpa using hL
          have HL := Lib.hid hL'
          have HLl := Lib.hid hL
          clear hL hL'
          go_wp2_with (first
              | (go_at_call 114; refine (less_hs HS0.out (2 * i + 1) i _ _ (by omega) (by omega) n1 n0 true HL.out).mono ?_; rintro e w2 ⟨rfl, hb2⟩; have hs2 := HS0.out.below hb2; have c1 := hs2.hb.rd; have HS2 := Lib.hid hs2; have HB2 := Lib.hid hb2; clear hs2 hb2)
              | (go_at_call 115; refine (swap_hs HS2.out i (2 * i + 1) _ _ (by omega) (by omega) n0 n1).mono ?_; rintro e w3 ⟨⟨v, rfl⟩, hs3, hu3⟩; have HS3 := Lib.hid (And.intro hs3 hu3); clear hs3 hu3))
          go_roundw
          case rel => exact ⟨2 * i + 1, swapL ys i (2 * i + 1), by go_num, HI.out.step hn hk.out HLl.out HS3.out.1 ((Upd.of_below HB2.out).trans HS3.out.2 (fun _ _ h => h))⟩
          case measure => simp [intOf]; omega
        · have hL' : decide (lt (X ys (2 * i + 1)) (X ys i)) = false := by simpa using hL
          have HL := Lib.hid hL'
          have hd := Lib.hid (done_kid hk.out hL)
          clear hL hL'
          go_wp2_with (first
              | (go_at_call 114; refine (less_hs HS0.out (2 * i + 1) i _ _ (by omega) (by omega) n1 n0 false HL.out).mono ?_; rintro e w2 ⟨rfl, hb2⟩; have hs2 := HS0.out.below hb2; have c1 := hs2.hb.rd; have HS2 := Lib.hid hs2; have HB2 := Lib.hid hb2; clear hs2 hb2)
              | fail)
          go_ret
          exact HI.out.fin hd.out HB2.out _ (by simp)
end Go.Proofs.Ytpajebedeacpgaa
