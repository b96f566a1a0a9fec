/-
  Script: a quoted text read, by the document.
-/
import Derived.Test.YtefaaginedideaaGreatDoorSUnq
import Derived.Test.YtefaaginedideaaGreatDoorSR1
namespace Go.Proofs.YtefaaginedideaaGreatDoor
set_option linter.unusedSimpArgs false
set_option linter.unusedVariables false
open Go.RowKit Own RegJ
open Go.Lib hiding intOf

/-- what stands between i and the last quotation mark -/
def restI (l : Txt) (i : Nat) : Txt := (l.drop i).take (l.length - 1 - i)
theorem restI_one (l : Txt) : restI l 1 = inner l := by unfold restI inner; congr 1
theorem restI_cons {l : Txt} {i : Nat} {c : UInt8} (hi : i < l.length - 1) (hc : l[i]? = some c) : restI l i = c :: restI l (i + 1) := by
  unfold restI
  have hil : i < l.length := by omega
  rw [List.drop_eq_getElem_cons hil, show l.length - 1 - i = (l.length - 1 - (i + 1)) + 1 by omega, List.take_succ_cons]
  rw [List.getElem?_eq_getElem hil] at hc
  rw [Option.some.inj hc]
theorem restI_end {l : Txt} {i : Nat} (hi : l.length - 1 ≤ i) : restI l i = [] := by
  unfold restI; rw [show l.length - 1 - i = 0 by omega]; rfl
theorem restI_len {l : Txt} {i : Nat} : (restI l i).length = l.length - 1 - i := by
  unfold restI; rw [List.length_take, List.length_drop]; omega
def RUSt (l : Txt) (w : World) (i : Nat) (v : Value) (wr : World) : Prop := USt l w (restI l i) v wr
set_option maxRecDepth 100000 in
set_option maxHeartbeats 1000000 in
theorem runq_no (l : Txt) (w : World) (hl : l.length ≤ 100000) (hq : quoted l = false) : Calls Tryz.prog 84 #[.string (B l)] w (UnqV l w) := by
  have hP := Lib.hid (UnqV.none (l := l) (t := []) (w := w) (b := false) (quoted_no hq) rfl (Below.refl _ _))
  have hsz := B_size l
  by_cases h2 : l.length < 2
  · have i1 : ((B l).size : Int) < 2 := by omega
    clear hq hsz
    generalize B l = s at *
    go_enter Tryz.func84, Tryz.ntmps84
    go_wp2_with (fail)
    go_ret2
    exact hP.out
  · have i1 : decide (((B l).size : Int) < 2) = false := by simp; omega
    obtain ⟨c, hc⟩ : ∃ c, l[0]? = some c := ⟨l[0], List.getElem?_eq_getElem (by omega)⟩
    obtain ⟨d, hd⟩ : ∃ d, l[l.length - 1]? = some d := ⟨l[l.length - 1], List.getElem?_eq_getElem (by omega)⟩
    have hx := byte_at (s := B l) (l := l) (data_B l) hc
    have hd' : l[(B l).size - 1]? = some d := by rw [hsz]; exact hd
    have hy := byte_at (s := B l) (l := l) (data_B l) hd'
    have j1 : (0 : Int) < ((B l).size : Int) := by omega
    have j2 : (0 : Int) ≤ ((B l).size : Int) - 1 := by omega
    have j4 : (B l).size - 1 < (B l).size := by omega
    have j5 : 0 < (B l).size := by omega
    have j6 : ((B l).size : Int) ≤ 100000 := by omega
    have j7 : (1 : Int) ≤ ((B l).size : Int) - 1 := by omega
    have hx1 := hx j5
    have hy1 := hy j4
    have hcd : c ≠ 34 ∨ d ≠ 34 := by
      apply Classical.byContradiction
      intro h
      have h1 : c = 34 := Classical.byContradiction (fun e => h (.inl e))
      have h2' : d = 34 := Classical.byContradiction (fun e => h (.inr e))
      unfold quoted at hq
      rw [hc, hd, h1, h2', decide_eq_true (show 2 ≤ l.length by omega)] at hq
      simp at hq
    have u1 : ((c.toNat : Int) == 34) = decide (c = 34) := u8_eq c 34 (by omega)
    have u2 : ((c.toNat : Int) != 34) = !decide (c = 34) := by rw [← u1]; rfl
    have u3 : ((d.toNat : Int) == 34) = decide (d = 34) := u8_eq d 34 (by omega)
    have u4 : ((d.toNat : Int) != 34) = !decide (d = 34) := by rw [← u3]; rfl
    clear hx hy hq hc hd hd' h2
    generalize B l = s at *
    by_cases hc34 : c = 34
    · have hd34 : ¬ d = 34 := by rcases hcd with h | h; exact absurd hc34 h; exact h
      rw [decide_eq_true hc34] at u1 u2
      rw [decide_eq_false hd34] at u3 u4
      clear hcd hc34 hd34 hsz
      go_enter Tryz.func84, Tryz.ntmps84
      go_wp2_with (fail)
      go_ret2
      exact hP.out
    · rw [decide_eq_false hc34] at u1 u2
      clear hcd hc34 u3 u4 hy1 hsz
      go_enter Tryz.func84, Tryz.ntmps84
      go_wp2_with (fail)
      go_ret2
      exact hP.out

set_option maxRecDepth 100000 in
set_option maxHeartbeats 4000000 in
theorem runq_yes (l : Txt) (w : World) (hl : l.length ≤ 100000) (hq : quoted l = true) : Calls Tryz.prog 84 #[.string (B l)] w (UnqV l w) := by
  obtain ⟨h2, h3, h4⟩ := quoted_ok hq
  have hsz := B_size l
  have h4' : l[(B l).size - 1]? = some 34 := by rw [hsz]; exact h4
  have hx0 := byte_at (s := B l) (l := l) (data_B l) h3
  have hy0 := byte_at (s := B l) (l := l) (data_B l) h4'
  have i1 : decide (((B l).size : Int) < 2) = false := by simp; omega
  have j1 : (0 : Int) < ((B l).size : Int) := by omega
  have j2 : (0 : Int) ≤ ((B l).size : Int) - 1 := by omega
  have j6 : ((B l).size : Int) ≤ 100000 := by omega
  have j7 : (1 : Int) ≤ ((B l).size : Int) - 1 := by omega
  have j8 : (B l).size - 1 < (B l).size := by omega
  have j9 : 0 < (B l).size := by omega
  have hx := hx0 j9
  have hy := hy0 j8
  clear hx0 hy0
  have hdat := data_B l
  generalize hsB : B l = s at *
  have HQ := Lib.hid (And.intro hq (And.intro hsz (And.intro hsB (And.intro h2 hdat))))
  clear hq hsz hsB h2 h3 h4 h4' hdat
  go_enter Tryz.func84, Tryz.ntmps84
  go_wp2_with (fail)
  clear hx hy j8 j9 i1
  go_loopw [4, 5] (fun v4 v5 wr => ∃ (ao : Option Addr) (n c i : Nat), v4 = .slice ao n c ∧ v5 = .int .i64 i ∧ 1 ≤ i ∧ i ≤ l.length - 1 ∧ Hid (RUSt l w i (.slice ao n c) wr)) (fun _ v5 _ => l.length - (intOf v5).toNat)
  case atStart => exact ⟨none, 0, 0, 1, rfl, rfl, Nat.le_refl _, by have := HQ.out.2.2.2.1; omega, Lib.hid ⟨[], none, by rw [restI_one]; unfold UnqS; simp, Rw.nil _ _ _, fun g hg => (by cases hg), Below.refl _ _, by rw [restI_len]; simp; omega⟩⟩
  case round =>
    obtain ⟨ao, n, cc, i, rfl, rfl, hi1, hi2, HS⟩ := hrel
    have hszl := HQ.out.2.1
    have hl2 := HQ.out.2.2.2.1
    have m0 : (1 : Int) ≤ (i : Int) := by omega
    have m1 : (0 : Int) ≤ (i : Int) := by omega
    by_cases hil : i < l.length - 1
    · obtain ⟨c, hc⟩ : ∃ c, l[i]? = some c := ⟨l[i], List.getElem?_eq_getElem (by omega)⟩
      have hcons := restI_cons hil hc
      obtain ⟨done, b, hU, hI, hb, hB, hlen⟩ := HS.out
      rw [hcons] at hU hlen
      have hn : done.length = n := by
        obtain ⟨a', c', hv⟩ := hI.slice
        simp only [Value.slice.injEq] at hv
        exact hv.2.1.symm
      subst hn
      have k2 : i < s.size := by omega
      have k1 : (i : Int) < (s.size : Int) := by omega
      have k3 : decide ((i : Int) < (s.size : Int) - 1) = true := by simp; omega
      have k4 : (i : Int) < (s.size : Int) - 1 := by omega
      have hx := byte_at (s := s) (l := l) HQ.out.2.2.2.2 hc k2
      have HL := Lib.hid (And.intro hU (And.intro hI (And.intro hb (And.intro hB hlen))))
      have hcl := UInt8.toNat_lt c
      have HW := Lib.hid (And.intro hszl hcons)
      clear hU hI hb hB hlen hszl hcons
      by_cases hc92 : c = 92
      · subst hc92
        have hx' := hx
        by_cases hsh : l.length - 1 ≤ i + 2
        · have hP := Lib.hid (fun w' => UnqV.none (l := l) (t := []) (w := w) (w' := w') (b := false) (HL.out.1.bad HQ.out.1 (unqF_short _ (by rw [restI_len]; omega))) rfl)
          have k5 : (i : Int) + 2 ≥ (s.size : Int) - 1 := by have := HW.out.1; omega
          have k6 : (i : Int) ≤ 100000 := by omega
          clear hc
          go_wp2_with (fail)
          go_ret2
          exact hP.out _ HL.out.2.2.2.1
        · obtain ⟨x, hcx⟩ : ∃ x, l[i + 1]? = some x := ⟨l[i + 1], List.getElem?_eq_getElem (by omega)⟩
          obtain ⟨y, hcy⟩ : ∃ y, l[i + 2]? = some y := ⟨l[i + 2], List.getElem?_eq_getElem (by omega)⟩
          have hr1 := restI_cons (l := l) (i := i + 1) (by omega) hcx
          have hr2 := restI_cons (l := l) (i := i + 1 + 1) (by omega) hcy
          have HU3 := HL.out.1
          rw [hr1, hr2] at HU3
          have k5 : decide ((i : Int) + 2 ≥ (s.size : Int) - 1) = false := by have := HW.out.1; simp; omega
          have k6 : (i : Int) ≤ 100000 := by omega
          have k7 : (i : Int) + 1 < (s.size : Int) := by have := HW.out.1; omega
          have k8 : (i : Int) + 2 < (s.size : Int) := by have := HW.out.1; omega
          have k9 : i + 1 < s.size := by omega
          have k10 : i + 2 < s.size := by omega
          have hx1 := byte_at (s := s) (l := l) HQ.out.2.2.2.2 hcx k9
          have hx2 := byte_at (s := s) (l := l) HQ.out.2.2.2.2 hcy k10
          have s1 := fun w => hex_is x w
          have s2 := fun w => hex_is y w
          have v1 := hexv_le x
          have v2 := hexv_le y
          have HR := Lib.hid (And.intro hr1 hr2)
          clear hc hcx hcy hr1 hr2
          by_cases hg : 0 ≤ hexv x ∧ 0 ≤ hexv y
          · have hesc := Lib.hid (HU3.esc hg)
            obtain ⟨g1, g2⟩ := hg
            have hcc : ((UInt8.ofNat (16 * hexv x + hexv y).toNat).toNat : Int) = 16 * hexv x + hexv y := by
              rw [UInt8.toNat_ofNat']; omega
            have HCC := Lib.hid hcc
            clear hcc HU3
            generalize hexv x = p1 at *
            generalize hexv y = p2 at *
            have f1 : decide (p1 < 0) = false := by simp; omega
            have f2 : decide (p2 < 0) = false := by simp; omega
            obtain ⟨v', WC, hrun, hA⟩ := app_run (P := Tryz.prog) (w := (wr.alloc (.cells #[.int .u8 (16 * p1 + p2)] 5)).drew) (S := 60) 60 (.int .u8 0) 1 1 infoU8' rfl (by decide) (by decide) Tryz.underlying60 ((HL.out.2.1.alloc (.cells #[.int .u8 (16 * p1 + p2)] 5)).below ((Below.refl _ _).drew)) ⟨wr.heap.size, 0, none⟩ 1 1 [.int .u8 (16 * p1 + p2)] rfl (new_row (W := wr) (cs := [.int .u8 (16 * p1 + p2)]) rfl) (by intro u hu; simp at hu; subst hu; rfl) (by have := HL.out.2.2.2.2; simp only [List.length_cons] at this; omega)
            rw [← HCC.out] at hA
            have hA2 := BRow.app hA
            rw [HCC.out] at hA2
            have HA := Lib.hid hA2
            clear hA hA2
            have q1 : 16 * p1 ≤ 240 := by omega
            have q2 : 0 ≤ 16 * p1 := by omega
            have q3 : 16 * p1 + p2 ≤ 255 := by omega
            have q4 : 0 ≤ 16 * p1 + p2 := by omega
            go_wp2_with (first | (go_at_call 98; (with_reducible refine (s1 _).mono ?_); rintro e w8 ⟨rfl, rfl⟩; try clear k5) | (go_at_call 98; (with_reducible refine (s2 _).mono ?_); rintro e w8 ⟨rfl, rfl⟩))
            refine region_K 14 15 16 wr.drew ((wr.alloc (.cells #[.int .u8 (16 * p1 + p2)] 5)).drew) WC WC rfl (by kernel_rfl) (by kernel_rfl) ?_
            apply wpJ_op rfl (by rfl)
            · intro f w1 hf hJ Q1 hQ
              simp only [Act.put, List.setIfInBounds_toArray, List.set_cons_zero, List.set_cons_succ] at hQ
              go_wp2_with ((first | (go_at_call 98; (with_reducible refine (s1 _).mono ?_); rintro e w8 ⟨rfl, rfl⟩; try clear k5) | (go_at_call 98; (with_reducible refine (s2 _).mono ?_); rintro e w8 ⟨rfl, rfl⟩)))
              exact hQ _ _ rfl (hJ.other rfl hf (by decide) (by decide) (by decide))
            simp only [Act.put, List.setIfInBounds_toArray, List.set_cons_zero, List.set_cons_succ]
            apply wpJ_op rfl (by rfl)
            · intro f w1 hf hJ Q1 hQ
              simp only [Act.put, List.setIfInBounds_toArray, List.set_cons_zero, List.set_cons_succ] at hQ
              go_wp2_with ((first | (go_at_call 98; (with_reducible refine (s1 _).mono ?_); rintro e w8 ⟨rfl, rfl⟩; try clear k5) | (go_at_call 98; (with_reducible refine (s2 _).mono ?_); rintro e w8 ⟨rfl, rfl⟩)))
              exact hQ _ _ rfl (hJ.other rfl hf (by decide) (by decide) (by decide))
            simp only [Act.put, List.setIfInBounds_toArray, List.set_cons_zero, List.set_cons_succ]
            apply wpJ_op rfl (by rfl)
            · intro f w1 hf hJ Q1 hQ
              simp only [Act.put, List.setIfInBounds_toArray, List.set_cons_zero, List.set_cons_succ] at hQ
              go_wp2_with ((first | (go_at_call 98; (with_reducible refine (s1 _).mono ?_); rintro e w8 ⟨rfl, rfl⟩; try clear k5) | (go_at_call 98; (with_reducible refine (s2 _).mono ?_); rintro e w8 ⟨rfl, rfl⟩)))
              exact hQ _ _ rfl (hJ.other rfl hf (by decide) (by decide) (by decide))
            simp only [Act.put, List.setIfInBounds_toArray, List.set_cons_zero, List.set_cons_succ]
            apply wpJ_op rfl (by rfl)
            · intro f w1 hf hJ Q1 hQ
              simp only [Act.put, List.setIfInBounds_toArray, List.set_cons_zero, List.set_cons_succ] at hQ
              go_wp2_with ((first | (go_at_call 98; (with_reducible refine (s1 _).mono ?_); rintro e w8 ⟨rfl, rfl⟩; try clear k5) | (go_at_call 98; (with_reducible refine (s2 _).mono ?_); rintro e w8 ⟨rfl, rfl⟩)))
              exact hQ _ _ rfl (hJ.other rfl hf (by decide) (by decide) (by decide))
            simp only [Act.put, List.setIfInBounds_toArray, List.set_cons_zero, List.set_cons_succ]
            apply wpJ_op (v := .int .u8 x.toNat) rfl (by rfl)
            · intro f w1 hf hJ Q1 hQ
              simp only [Act.put, List.setIfInBounds_toArray, List.set_cons_zero, List.set_cons_succ] at hQ
              go_wp2_with ((first | (go_at_call 98; (with_reducible refine (s1 _).mono ?_); rintro e w8 ⟨rfl, rfl⟩; try clear k5) | (go_at_call 98; (with_reducible refine (s2 _).mono ?_); rintro e w8 ⟨rfl, rfl⟩)))
              try rw [hx1]
              exact hQ _ _ rfl (hJ.other rfl hf (by decide) (by decide) (by decide))
            simp only [Act.put, List.setIfInBounds_toArray, List.set_cons_zero, List.set_cons_succ]
            apply wpJ_op rfl (by rfl)
            · intro f w1 hf hJ Q1 hQ
              simp only [Act.put, List.setIfInBounds_toArray, List.set_cons_zero, List.set_cons_succ] at hQ
              go_wp2_with ((first | (go_at_call 98; (with_reducible refine (s1 _).mono ?_); rintro e w8 ⟨rfl, rfl⟩; try clear k5) | (go_at_call 98; (with_reducible refine (s2 _).mono ?_); rintro e w8 ⟨rfl, rfl⟩)))
              exact hQ _ _ rfl (hJ.other rfl hf (by decide) (by decide) (by decide))
            simp only [Act.put, List.setIfInBounds_toArray, List.set_cons_zero, List.set_cons_succ]
            apply wpJ_op rfl (by rfl)
            · intro f w1 hf hJ Q1 hQ
              simp only [Act.put, List.setIfInBounds_toArray, List.set_cons_zero, List.set_cons_succ] at hQ
              go_wp2_with ((first | (go_at_call 98; (with_reducible refine (s1 _).mono ?_); rintro e w8 ⟨rfl, rfl⟩; try clear k5) | (go_at_call 98; (with_reducible refine (s2 _).mono ?_); rintro e w8 ⟨rfl, rfl⟩)))
              exact hQ _ _ rfl (hJ.other rfl hf (by decide) (by decide) (by decide))
            simp only [Act.put, List.setIfInBounds_toArray, List.set_cons_zero, List.set_cons_succ]
            apply wpJ_op rfl (by rfl)
            · intro f w1 hf hJ Q1 hQ
              simp only [Act.put, List.setIfInBounds_toArray, List.set_cons_zero, List.set_cons_succ] at hQ
              go_wp2_with ((first | (go_at_call 98; (with_reducible refine (s1 _).mono ?_); rintro e w8 ⟨rfl, rfl⟩; try clear k5) | (go_at_call 98; (with_reducible refine (s2 _).mono ?_); rintro e w8 ⟨rfl, rfl⟩)))
              exact hQ _ _ rfl (hJ.other rfl hf (by decide) (by decide) (by decide))
            simp only [Act.put, List.setIfInBounds_toArray, List.set_cons_zero, List.set_cons_succ]
            apply wpJ_op rfl (by rfl)
            · intro f w1 hf hJ Q1 hQ
              simp only [Act.put, List.setIfInBounds_toArray, List.set_cons_zero, List.set_cons_succ] at hQ
              go_wp2_with ((first | (go_at_call 98; (with_reducible refine (s1 _).mono ?_); rintro e w8 ⟨rfl, rfl⟩; try clear k5) | (go_at_call 98; (with_reducible refine (s2 _).mono ?_); rintro e w8 ⟨rfl, rfl⟩)))
              exact hQ _ _ rfl (hJ.other rfl hf (by decide) (by decide) (by decide))
            simp only [Act.put, List.setIfInBounds_toArray, List.set_cons_zero, List.set_cons_succ]
            apply wpJ_op rfl (by rfl)
            · intro f w1 hf hJ Q1 hQ
              simp only [Act.put, List.setIfInBounds_toArray, List.set_cons_zero, List.set_cons_succ] at hQ
              go_wp2_with ((first | (go_at_call 98; (with_reducible refine (s1 _).mono ?_); rintro e w8 ⟨rfl, rfl⟩; try clear k5) | (go_at_call 98; (with_reducible refine (s2 _).mono ?_); rintro e w8 ⟨rfl, rfl⟩)))
              exact hQ _ _ rfl (hJ.other rfl hf (by decide) (by decide) (by decide))
            simp only [Act.put, List.setIfInBounds_toArray, List.set_cons_zero, List.set_cons_succ]
            apply wpJ_op (v := .int .u8 y.toNat) rfl (by rfl)
            · intro f w1 hf hJ Q1 hQ
              simp only [Act.put, List.setIfInBounds_toArray, List.set_cons_zero, List.set_cons_succ] at hQ
              go_wp2_with ((first | (go_at_call 98; (with_reducible refine (s1 _).mono ?_); rintro e w8 ⟨rfl, rfl⟩; try clear k5) | (go_at_call 98; (with_reducible refine (s2 _).mono ?_); rintro e w8 ⟨rfl, rfl⟩)))
              try rw [hx2]
              exact hQ _ _ rfl (hJ.other rfl hf (by decide) (by decide) (by decide))
            simp only [Act.put, List.setIfInBounds_toArray, List.set_cons_zero, List.set_cons_succ]
            apply wpJ_op rfl (by rfl)
            · intro f w1 hf hJ Q1 hQ
              simp only [Act.put, List.setIfInBounds_toArray, List.set_cons_zero, List.set_cons_succ] at hQ
              go_wp2_with ((first | (go_at_call 98; (with_reducible refine (s1 _).mono ?_); rintro e w8 ⟨rfl, rfl⟩; try clear k5) | (go_at_call 98; (with_reducible refine (s2 _).mono ?_); rintro e w8 ⟨rfl, rfl⟩)))
              exact hQ _ _ rfl (hJ.other rfl hf (by decide) (by decide) (by decide))
            simp only [Act.put, List.setIfInBounds_toArray, List.set_cons_zero, List.set_cons_succ]
            apply wpJ_op rfl (by rfl)
            · intro f w1 hf hJ Q1 hQ
              simp only [Act.put, List.setIfInBounds_toArray, List.set_cons_zero, List.set_cons_succ] at hQ
              go_wp2_with ((first | (go_at_call 98; (with_reducible refine (s1 _).mono ?_); rintro e w8 ⟨rfl, rfl⟩; try clear k5) | (go_at_call 98; (with_reducible refine (s2 _).mono ?_); rintro e w8 ⟨rfl, rfl⟩)))
              exact hQ _ _ rfl (hJ.other rfl hf (by decide) (by decide) (by decide))
            simp only [Act.put, List.setIfInBounds_toArray, List.set_cons_zero, List.set_cons_succ]
            apply wpJ_op rfl (by rfl)
            · intro f w1 hf hJ Q1 hQ
              simp only [Act.put, List.setIfInBounds_toArray, List.set_cons_zero, List.set_cons_succ] at hQ
              go_wp2_with ((first | (go_at_call 98; (with_reducible refine (s1 _).mono ?_); rintro e w8 ⟨rfl, rfl⟩; try clear k5) | (go_at_call 98; (with_reducible refine (s2 _).mono ?_); rintro e w8 ⟨rfl, rfl⟩)))
              exact hQ _ _ rfl (hJ.other rfl hf (by decide) (by decide) (by decide))
            simp only [Act.put, List.setIfInBounds_toArray, List.set_cons_zero, List.set_cons_succ]
            apply wpJ_op rfl (by rfl)
            · intro f w1 hf hJ Q1 hQ
              have hC : f 15 = false := path_no hJ.1 [14] (by kernel_rfl) (by decide) hf.1
              have hS : f 16 = false := path_no hJ.1 [15] (by kernel_rfl) (by decide) hC
              rw [hJ.atA hf.1 hC hS]
              simp only [Act.put, List.setIfInBounds_toArray, List.set_cons_zero, List.set_cons_succ] at hQ
              go_wp2_with (fail)
              exact hQ _ _ rfl (hJ.goA rfl hf hC hS (by decide) (by decide))
            simp only [Act.put, List.setIfInBounds_toArray, List.set_cons_zero, List.set_cons_succ]
            apply wpJ_op rfl (by rfl)
            · intro f w1 hf hJ Q1 hQ
              have hS : f 16 = false := path_no hJ.1 [15] (by kernel_rfl) (by decide) hf.1
              have hA : f 14 = true := up_dep hf 14 (by kernel_rfl)
              rw [hJ.atC hA hf.1 hS]
              simp only [Act.put, List.setIfInBounds_toArray, List.set_cons_zero, List.set_cons_succ] at hQ
              go_wp2_with (at_builtin; refine wp_appX rfl _ _ 60 rfl rfl rfl hrun ?_)
              exact hQ _ _ rfl (hJ.goC rfl hf hS (by decide))
            simp only [Act.put, List.setIfInBounds_toArray, List.set_cons_zero, List.set_cons_succ]
            apply wpJ_op rfl (by rfl)
            · intro f w1 hf hJ Q1 hQ
              have hC : f 15 = true := up_dep hf 15 (by kernel_rfl)
              rw [hJ.atS hC hf.1]
              simp only [Act.put, List.setIfInBounds_toArray, List.set_cons_zero, List.set_cons_succ] at hQ
              go_wp2_with (fail)
              exact hQ _ _ rfl (hJ.goS rfl hf)
            simp only [Act.put, List.setIfInBounds_toArray, List.set_cons_zero, List.set_cons_succ]
            refine wpJ_nil ?_
            intro w9 hJ9
            rw [hJ9.fin rfl]
            clear hJ9
            go_wp2_with (fail)
            obtain ⟨b', hI3, hu3, hb3⟩ := HA.out
            rw [← HCC.out] at hu3 hb3
            obtain ⟨a3, c3, rfl⟩ := hI3.slice
            have H3 := Lib.hid (And.intro hI3 (And.intro hu3 hb3))
            clear hI3 hu3 hb3
            go_roundw
            case rel =>
              refine ⟨a3, _, c3, i + 3, rfl, by go_num, by omega, by omega, Lib.hid ⟨done ++ [UInt8.ofNat (16 * p1 + p2).toNat], b', hesc.out, H3.out.1, fun g hg => ?_, ?_, ?_⟩⟩
              · rcases H3.out.2.2 g hg with h | h
                · exact HL.out.2.2.1 g h
                · have h1 := HL.out.2.2.2.1.size
                  simp [World.drew] at h
                  omega
              · have h0 := HL.out.2.2.2.1
                have h2 := (h0.alloc h0.size (.cells #[.int .u8 ((UInt8.ofNat (16 * p1 + p2).toNat).toNat : Int)] 5)).drew
                exact h2.trans (H3.out.2.1.below h2.size (fun k hk => HL.out.2.2.1 k hk))
              · have := HL.out.2.2.2.2
                rw [HR.out.1, HR.out.2] at this
                simp only [List.length_cons, List.length_append, List.length_nil] at this ⊢
                show done.length + 1 + (restI l (i + 1 + 1 + 1)).length ≤ _
                omega
            case measure => simp [intOf]; omega
          · have hP := Lib.hid (fun w' => UnqV.none (l := l) (t := []) (w := w) (w' := w') (b := false) (HU3.bad HQ.out.1 (unqF_bad _ _ _ hg)) rfl)
            have hg' : hexv x < 0 ∨ (decide (hexv x < 0) = false ∧ hexv y < 0) := by
              by_cases h : hexv x < 0
              · exact .inl h
              · exact .inr ⟨by simp; omega, by omega⟩
            clear hg HU3
            generalize hexv x = p1 at *
            generalize hexv y = p2 at *
            rcases hg' with hg1 | ⟨hg1, hg2⟩
            all_goals
              go_wp2_with (first | (go_at_call 98; (with_reducible refine (s1 _).mono ?_); rintro e w8 ⟨rfl, rfl⟩; try clear k5) | (go_at_call 98; (with_reducible refine (s2 _).mono ?_); rintro e w8 ⟨rfl, rfl⟩))
              go_ret2
              exact hP.out _ HL.out.2.2.2.1
      · have u1 : ((c.toNat : Int) == 92) = decide (c = 92) := u8_eq c 92 (by omega)
        have u2 : ((c.toNat : Int) != 92) = !decide (c = 92) := by rw [← u1]; rfl
        rw [decide_eq_false hc92] at u1 u2
        have HC := Lib.hid hc92
        have hTA := HL.out.2.1.alloc (.cells #[.int .u8 c.toNat] 5)
        clear hc92 hc
        go_wp2_with (at_builtin; refine wp_appR rfl _ _ 60 5 (.int .u8 0) 1 1 infoU8' rfl (by decide) (by decide) Tryz.underlying60 rfl _ done.length (byteCells done) b rfl hTA ⟨wr.heap.size, 0, none⟩ 1 1 [.int .u8 c.toNat] rfl (by decide) rfl (new_row (cs := [.int .u8 c.toNat]) rfl) (by intro u hu; simp at hu; subst hu; rfl) (by have := HL.out.2.2.2.2; simp only [List.length_cons] at this; omega) ?_; intro v' w2 hA; have HA := Lib.hid (BRow.app hA); clear hA)
        obtain ⟨b', hI3, hu3, hb3⟩ := HA.out
        obtain ⟨a3, c3, rfl⟩ := hI3.slice
        have H3 := Lib.hid (And.intro hI3 (And.intro hu3 hb3))
        clear hI3 hu3 hb3 hTA
        go_roundw
        case rel =>
          refine ⟨a3, _, c3, i + 1, rfl, by go_num, by omega, by omega, Lib.hid ⟨done ++ [c], b', HL.out.1.plain HC.out, H3.out.1, fun g hg => ?_, ?_, ?_⟩⟩
          · rcases H3.out.2.2 g hg with h | h
            · exact HL.out.2.2.1 g h
            · have h1 := HL.out.2.2.2.1.size
              simp at h
              omega
          · have h1 := HL.out.2.2.2.1
            have h2 := h1.alloc h1.size (.cells #[.int .u8 c.toNat] 5)
            exact h2.trans (H3.out.2.1.below h2.size (fun k hk => HL.out.2.2.1 k hk))
          · have := HL.out.2.2.2.2
            simp only [List.length_cons, List.length_append, List.length_nil] at this ⊢
            omega
        case measure => simp [intOf]; omega
    · have hnil := restI_end (l := l) (i := i) (by omega)
      obtain ⟨done, b, hU, hI, hb, hB, hlen⟩ := HS.out
      rw [hnil] at hU hlen
      have hq1 := fun w => rquote_is done w (by simp at hlen; omega)
      have hfin := hU.fin HQ.out.1
      have hP : ∀ w' bv, decide (quoteT done = l) = bv → Below w.heap.size w w' → UnqV l w (.returned (.tuple #[.string (B done), .bool bv])) w' := fun w' bv hbv h => by
        subst hbv
        by_cases hd : quoteT done = l
        · rw [if_pos hd] at hfin
          rw [decide_eq_true hd]
          exact UnqV.some hfin rfl h
        · rw [if_neg hd] at hfin
          rw [decide_eq_false hd]
          exact UnqV.none hfin rfl h
      have HP := Lib.hid hP
      have HI2 := Lib.hid (And.intro hI hB)
      have k3 : decide ((i : Int) < (s.size : Int) - 1) = false := by simp; omega
      clear hU hI hb hB hlen hfin hP hnil hszl
      by_cases hd : quoteT done = l
      · have hbs : B (quoteT done) = s := by rw [hd]; exact HQ.out.2.2.1
        rw [hbs] at hq1
        have HD := Lib.hid (decide_eq_true hd)
        clear hbs hd
        generalize hbd : B done = bd at *
        have HBD := Lib.hid hbd
        clear hbd
        go_wp2_with (fail)
        refine region_J (fun _ w1 => ∃ k, w1 = wr.drewN k) (by kernel_rfl) (by kernel_rfl) ⟨1, rfl⟩ ?_
        iterate 9
          apply wpJ_op rfl (by rfl)
          · intro f w1 hf hJ Q1 hQ
            simp only [Act.put, List.setIfInBounds_toArray, List.set_cons_zero, List.set_cons_succ] at hQ
            obtain ⟨k1, rfl⟩ := hJ
            have hcv := brow_str (HI2.out.1.below (below_drewN (Below.refl _ _) k1))
            rw [HBD.out] at hcv
            go_wp2_with (go_at_call 28; (with_reducible refine (hq1 _).mono ?_); rintro e w2 ⟨rfl, k2, rfl⟩)
            exact hQ _ _ rfl ⟨_, rfl⟩
          simp only [Act.put, List.setIfInBounds_toArray, List.set_cons_zero, List.set_cons_succ]
        refine wpJ_nil ?_
        intro w9 hJ9
        obtain ⟨k9, rfl⟩ := hJ9
        go_wp2_with (fail)
        go_ret2
        exact HP.out _ _ HD.out (below_drewN HI2.out.2 _)
      · have hbs : ((B (quoteT done)).toList == s.toList) = false := by rw [← HQ.out.2.2.1, B_list, B_list, beq_dec, decide_eq_false hd]
        have HD := Lib.hid (decide_eq_false hd)
        have hbn : B (quoteT done) ≠ s := by rw [← HQ.out.2.2.1]; exact fun h => hd (B_inj h)
        clear hd
        generalize hbd : B done = bd at *
        have HBD := Lib.hid hbd
        clear hbd
        generalize B (quoteT done) = bq at *
        go_wp2_with (fail)
        refine region_J (fun _ w1 => ∃ k, w1 = wr.drewN k) (by kernel_rfl) (by kernel_rfl) ⟨1, rfl⟩ ?_
        iterate 9
          apply wpJ_op rfl (by rfl)
          · intro f w1 hf hJ Q1 hQ
            simp only [Act.put, List.setIfInBounds_toArray, List.set_cons_zero, List.set_cons_succ] at hQ
            obtain ⟨k1, rfl⟩ := hJ
            have hcv := brow_str (HI2.out.1.below (below_drewN (Below.refl _ _) k1))
            rw [HBD.out] at hcv
            go_wp2_with (go_at_call 28; (with_reducible refine (hq1 _).mono ?_); rintro e w2 ⟨rfl, k2, rfl⟩)
            exact hQ _ _ rfl ⟨_, rfl⟩
          simp only [Act.put, List.setIfInBounds_toArray, List.set_cons_zero, List.set_cons_succ]
        refine wpJ_nil ?_
        intro w9 hJ9
        obtain ⟨k9, rfl⟩ := hJ9
        go_wp2_with (fail)
        go_ret2
        exact HP.out _ _ HD.out (below_drewN HI2.out.2 _)
theorem runquote_is (l : Txt) (w : World) (hl : l.length ≤ 100000) : Calls Tryz.prog 84 #[.string (B l)] w (UnqV l w) := by
  cases hq : quoted l
  · exact runq_no l w hl hq
  · exact runq_yes l w hl hq
end Go.Proofs.YtefaaginedideaaGreatDoor
