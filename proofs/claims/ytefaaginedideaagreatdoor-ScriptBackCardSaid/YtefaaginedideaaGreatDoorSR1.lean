/-
  Script: numbers, pieces and lines, of the document.
-/
import Derived.Test.YtefaaginedideaaGreatDoorSN
namespace Go.Proofs.YtefaaginedideaaGreatDoor
set_option linter.unusedSimpArgs false
set_option linter.unusedVariables false
open Go.RowKit Own RegJ
open Go.Lib hiding intOf

/-! ### hex -/
theorem hexd_of {c : UInt8} (h : 0 ≤ hexv c) : hexd (hexv c).toNat = c := by
  have : ∀ n : Fin 256, 0 ≤ hexv (UInt8.ofNat n.val) → hexd (hexv (UInt8.ofNat n.val)).toNat = UInt8.ofNat n.val := by decide +kernel
  have h2 := this ⟨c.toNat, by have := UInt8.toNat_lt c; omega⟩
  simp at h2
  exact h2 h
set_option maxRecDepth 100000 in
theorem hex_is (c : UInt8) (w : World) : Calls Tryz.prog 98 #[.int .u8 c.toNat] w fun e w' => e = .returned (.int .i64 (hexv c)) ∧ w = w' := by
  obtain ⟨R, hR⟩ : ∃ R, hexv c = R := ⟨_, rfl⟩
  rw [hR]
  have HR := Lib.hid hR
  clear hR
  go_enter Tryz.func98, Tryz.ntmps98
  go_wp2_with (fail)
  go_loopw [3] (fun ix wr => ∃ i : Nat, i ≤ 16 ∧ ix = .int .i64 i ∧ wr = w ∧ Hid (∀ j, j < i → hexd j ≠ c)) (fun ix _ => 16 - (intOf ix).toNat)
  case atStart => exact ⟨0, Nat.zero_le _, rfl, rfl, Lib.hid (fun j hj => by omega)⟩
  case round =>
    obtain ⟨i, hi, rfl, rfl, HJ⟩ := hrel
    by_cases hil : i < 16
    · have g1 := fun h => hexs_at hil h
      have d1 : decide ((i : Int) < 16) = true := by simp; omega
      have i1 : (i : Int) < 16 := by omega
      have i2 : (0 : Int) ≤ i := by omega
      by_cases hc : hexd i = c
      · have hRi : R = (i : Int) := by rw [← HR.out, ← hc]; exact hexv_d hil
        subst hRi
        rw [hc] at g1
        clear hc HR
        go_wp2_with (fail)
        go_ret
        exact ⟨rfl, rfl⟩
      · have u1 : (((hexd i).toNat : Int) == (c.toNat : Int)) = false := by
          simp
          exact fun h => hc (UInt8.toNat_inj.1 (by omega))
        have HN := Lib.hid (show ∀ j, j < i + 1 → hexd j ≠ c from fun j hj => by
          by_cases hji : j = i
          · subst hji; exact hc
          · exact HJ.out j (by omega))
        clear hc HJ
        generalize hexd i = x at *
        go_wp2_with (fail)
        go_roundw
        case rel => exact ⟨i + 1, by omega, by go_num, by trivial, HN⟩
        case measure => simp [intOf]; omega
    · have hRn : R = -1 := by
        have h1 := hexv_le c
        rw [← HR.out]
        apply Classical.byContradiction
        intro hne
        exact HJ.out (hexv c).toNat (by omega) (hexd_of (by omega))
      subst hRn
      have d1 : decide ((i : Int) < 16) = false := by simp; omega
      have d2 : decide (i < 16) = false := by simp; omega
      clear HR HJ
      go_wp2_with (fail)
      go_ret
      exact ⟨rfl, rfl⟩
/-! ### Number -/
def DigTo (l : Txt) (i : Nat) (n : Nat) : Prop := (∀ c ∈ l.take i, isDig c) ∧ valF 0 (l.take i) = n
theorem DigTo.next {l : Txt} {i n : Nat} {c : UInt8} (h : DigTo l i n) (hc : l[i]? = some c) (hd : isDig c) : DigTo l (i + 1) (n * 10 + (c.toNat - 48)) := by
  have hi : i < l.length := (List.getElem?_eq_some_iff.1 hc).1
  rw [List.getElem?_eq_getElem hi] at hc
  unfold DigTo
  rw [List.take_succ_eq_append_getElem hi, Option.some.inj hc]
  refine ⟨fun x hx => ?_, ?_⟩
  · rw [List.mem_append, List.mem_singleton] at hx
    rcases hx with hx | rfl
    · exact h.1 x hx
    · exact hd
  · rw [valF_snoc, h.2]
theorem DigTo.lt {l : Txt} {i n : Nat} (h : DigTo l i n) (hl : l.length ≤ 6) : n < 1000000 := by
  have := valF_lt (l.take i) 0 h.1
  rw [h.2] at this
  have h6 : 10 ^ (l.take i).length ≤ 10 ^ 6 := Nat.pow_le_pow_right (by omega) (by simp; omega)
  omega
set_option maxRecDepth 100000 in
set_option maxHeartbeats 1000000 in
theorem rnumber_is (l : Txt) (w : World) (hl : l.length ≤ 10000000) : Calls Tryz.prog 85 #[.string (B l)] w (NumV l w) := by
  have hsz := B_size l
  by_cases h1 : l.length < 1
  · have hP := Lib.hid (NumV.none (l := l) (w := w) (w' := w) (n := 0) (b := false) (num_no (fun h => by have := h.1; omega)) rfl (Below.refl _ _))
    have i1 : ((B l).size : Int) < 1 := by omega
    clear hsz
    generalize B l = s at *
    go_enter Tryz.func85, Tryz.ntmps85
    go_wp2_with (fail)
    go_ret2
    exact hP.out
  · have i1 : decide (((B l).size : Int) < 1) = false := by simp; omega
    have j1 : (0 : Int) < ((B l).size : Int) := by omega
    have j2 : 0 < (B l).size := by omega
    by_cases h6 : 6 < l.length
    · have hP := Lib.hid (NumV.none (l := l) (w := w) (w' := w) (n := 0) (b := false) (num_no (fun h => by have := h.2.1; omega)) rfl (Below.refl _ _))
      have i2 : ((B l).size : Int) > 6 := by omega
      clear hsz
      generalize B l = s at *
      go_enter Tryz.func85, Tryz.ntmps85
      go_wp2_with (fail)
      go_ret2
      exact hP.out
    · have i2 : decide (((B l).size : Int) > 6) = false := by simp; omega
      obtain ⟨c, hc⟩ : ∃ c, l[0]? = some c := ⟨l[0], List.getElem?_eq_getElem (by omega)⟩
      have hx0 := byte_at (s := B l) (l := l) (data_B l) hc
      have hx := hx0 j2
      have u1 : ((c.toNat : Int) == 48) = decide (c = 48) := u8_eq c 48 (by omega)
      have u2 : ((c.toNat : Int) != 48) = !decide (c = 48) := by rw [← u1]; rfl
      clear hx0
      by_cases hz : c = 48 ∧ 1 < l.length
      · have hP := Lib.hid (NumV.none (l := l) (w := w) (w' := w) (n := 0) (b := false) (num_no (fun h => by have := h.2.2.1 (by omega); rw [hc, hz.1] at this; exact this rfl)) rfl (Below.refl _ _))
        rw [decide_eq_true hz.1] at u1 u2
        have i3 : ((B l).size : Int) > 1 := by omega
        clear hsz hc hz
        generalize B l = s at *
        go_enter Tryz.func85, Tryz.ntmps85
        go_wp2_with (fail)
        go_ret2
        exact hP.out
      · have hcases : (((c.toNat : Int) == 48) = true ∧ decide (((B l).size : Int) > 1) = false) ∨ ((c.toNat : Int) == 48) = false := by
          by_cases hc48 : c = 48
          · left
            refine ⟨by rw [u1, decide_eq_true hc48], ?_⟩
            have : ¬ 1 < l.length := fun h => hz ⟨hc48, h⟩
            simp; omega
          · right
            rw [u1, decide_eq_false hc48]
        have HL := Lib.hid (And.intro (show 1 ≤ l.length ∧ l.length ≤ 6 ∧ (2 ≤ l.length → l[0]? ≠ some 48) from ⟨by omega, by omega, fun h2 h => hz ⟨by rw [hc] at h; exact Option.some.inj h, by omega⟩⟩) (And.intro hsz (data_B l)))
        clear u1 u2 hz hc hsz
        generalize B l = s at *
        rcases hcases with ⟨q1, q2⟩ | q1
        all_goals
          go_enter Tryz.func85, Tryz.ntmps85
          go_wp2_with (fail)
          go_loopw [4, 5] (fun v4 ix wr => ∃ (i : Nat) (n : Nat), i ≤ l.length ∧ ix = .int .i64 i ∧ v4 = .int .i64 n ∧ wr = w ∧ Hid (DigTo l i n)) (fun _ ix _ => l.length - (intOf ix).toNat)
          case atStart => exact ⟨0, 0, Nat.zero_le _, rfl, rfl, rfl, Lib.hid ⟨fun c hc => by (simp at hc), rfl⟩⟩
          case round =>
            obtain ⟨i, n, hi, rfl, rfl, rfl, HD⟩ := hrel
            clear hx
            by_cases hil : i < l.length
            · obtain ⟨d, hd⟩ : ∃ d, l[i]? = some d := ⟨l[i], List.getElem?_eq_getElem hil⟩
              have hy0 := byte_at (s := s) (l := l) HL.out.2.2 hd
              have d1 : decide ((i : Int) < (s.size : Int)) = true := by rw [HL.out.2.1]; simp; omega
              have k1 : (i : Int) < (s.size : Int) := by rw [HL.out.2.1]; omega
              have k2 : i < s.size := by rw [HL.out.2.1]; omega
              have k3 : (0 : Int) ≤ i := by omega
              have hy := hy0 k2
              have hdl := UInt8.toNat_lt d
              have hn6 := HD.out.lt HL.out.1.2.1
              by_cases hdg : isDig d
              · have HN := Lib.hid (HD.out.next hd hdg)
                unfold isDig at hdg
                have m1 : decide ((d.toNat : Int) < 48) = false := by simp; omega
                have m2 : decide ((d.toNat : Int) > 57) = false := by simp; omega
                have m3 : (48 : Int) ≤ d.toNat := by omega
                have m4 : (d.toNat : Int) ≤ 57 := by omega
                have m5 : 0 ≤ (d.toNat : Int) - 48 := by omega
                have m6 : (d.toNat : Int) - 48 ≤ 9 := by omega
                clear hy0 hd hdg
                go_wp2_with (fail)
                go_roundw
                case rel => exact ⟨i + 1, n * 10 + (d.toNat - 48), by omega, by go_num, by (have : ((n * 10 + (d.toNat - 48) : Nat) : Int) = (n : Int) * 10 + ((d.toNat : Int) - 48) := by omega); rw [this], by trivial, HN⟩
                case measure => simp [intOf]; omega
              · have hP := Lib.hid (NumV.none (l := l) (w := wr) (w' := wr) (n := 0) (b := false) (num_no (fun h => hdg (h.2.2.2 d (List.mem_of_getElem? hd)))) rfl (Below.refl _ _))
                have hcs : (d.toNat : Int) < 48 ∨ (decide ((d.toNat : Int) < 48) = false ∧ (d.toNat : Int) > 57) := by
                  unfold isDig at hdg
                  by_cases h : d.toNat < 48
                  · left; omega
                  · right; exact ⟨by simp; omega, by omega⟩
                clear hdg hy0 hd
                rcases hcs with m1 | ⟨m1, m2⟩
                all_goals
                  go_wp2_with (fail)
                  go_ret2
                  exact hP.out
            · have hie : i = l.length := by omega
              have hdt := HD.out
              rw [hie] at hdt
              unfold DigTo at hdt
              rw [List.take_length] at hdt
              have hP := Lib.hid (NumV.some (l := l) (w := wr) (w' := wr) (n := (n : Int)) (b := true) (by rw [num_ok ⟨HL.out.1.1, HL.out.1.2.1, HL.out.1.2.2, hdt.1⟩, hdt.2]) rfl (Below.refl _ _))
              have d1 : decide ((i : Int) < (s.size : Int)) = false := by rw [HL.out.2.1]; simp; omega
              have d2 : decide (i < s.size) = false := by rw [HL.out.2.1]; simp; omega
              clear hdt hie
              go_wp2_with (fail)
              go_ret2
              exact hP.out
/-! ### numbers -/
set_option maxRecDepth 100000 in
set_option maxHeartbeats 1000000 in
theorem rnumbers_is {w : World} {a : Option Addr} {ws : List Txt} (n c : Nat) (hr : RdT w a ws) (hn : ws.length = n) (hm : n ≤ 100000) (hl : ∀ x ∈ ws, x.length ≤ 10000000) :
    Calls Tryz.prog 72 #[.slice a n c] w (NumsV ws w) := by
  have HR := Lib.hid (And.intro hr (And.intro hn hl))
  clear hr hn hl
  go_enter Tryz.func72, Tryz.ntmps72
  go_wp2_with (fail)
  go_loopw [4, 5] (fun v4 ix wr => ∃ (i : Nat) (ao : Option Addr) (cc : Nat), i ≤ n ∧ ix = .int .i64 i ∧ v4 = .slice ao i cc ∧ Hid (NSt ws w i (.slice ao i cc) wr)) (fun _ ix _ => n - (intOf ix).toNat)
  case atStart => exact ⟨0, none, 0, Nat.zero_le _, rfl, rfl, Lib.hid ⟨[], none, rfl, rfl, Rw.nil _ _ _, fun g hg => (by cases hg), Below.refl _ _⟩⟩
  case round =>
    obtain ⟨i, ao, cc, hi, rfl, rfl, HS⟩ := hrel
    by_cases hil : i < n
    · obtain ⟨x, hx⟩ : ∃ x, ws[i]? = some x := ⟨ws[i]'(by rw [HR.out.2.1]; exact hil), List.getElem?_eq_getElem _⟩
      obtain ⟨ns, b, hns, hnl, hI, hb, hB⟩ := HS.out
      obtain ⟨g, o, rfl, k0⟩ := HR.out.1.below hB i x hx
      have hnum := rnumber_is x wr (HR.out.2.2 x (List.mem_of_getElem? hx))
      have d1 : decide ((i : Int) < (n : Int)) = true := by simp; omega
      have i1 : (i : Int) < (n : Int) := by omega
      have i2 : (0 : Int) ≤ i := by omega
      cases hnf : numF x with
      | none =>
        have HP := Lib.hid (fun w' => NumsV.none (w := w) (w' := w') (nums_bad hns hx hnf))
        have HN := Lib.hid hnf
        have HB := Lib.hid hB
        clear hns hx hnf hI hB hnl hb
        go_wp2_with (go_at_call 85; refine hnum.mono ?_; rintro e w1 ⟨n1, he, _, hb1⟩; rw [HN.out] at he; obtain rfl := he; have H1 := Lib.hid hb1; clear hb1 hnum)
        go_ret2
        exact HP.out _ (HB.out.trans (H1.out.mono HB.out.size))
      | some y =>
        have HX := Lib.hid (nums_next hns hx hnf)
        have HN := Lib.hid hnf
        have HI := Lib.hid (And.intro hI (And.intro hb (And.intro hB hnl)))
        clear hns hx hnf hI hB hnl hb
        go_wp2_with (first
          | (go_at_call 85; refine hnum.mono ?_; rintro e w1 ⟨n1, he, hy, hb1⟩; rw [HN.out] at he; obtain rfl := he; obtain rfl : n1 = y := hy y HN.out; have H1 := Lib.hid hb1; have hI2 := (HI.out.1.below H1.out).alloc (.cells #[.int .i64 n1] 3); clear hb1 hnum hy)
          | (at_builtin; refine wp_appR rfl _ _ 39 3 (.int .i64 0) 1 8 infoInt rfl (by decide) (by decide) Tryz.underlying39 rfl _ ns.length (icells ns) b rfl hI2 ⟨w1.heap.size, 0, none⟩ 1 1 [.int .i64 n1] rfl (by decide) rfl (new_row (cs := [.int .i64 n1]) rfl) (by intro u hu; simp at hu; subst hu; rfl) (by rw [HI.out.2.2.2]; omega) ?_; intro v' w2 hA; have HA := Lib.hid (IRow.app hA); clear hA))
        obtain ⟨b', hI3, hu3, hb3⟩ := HA.out
        obtain ⟨a3, c3, rfl⟩ := hI3.slice
        have hl3 : (ns ++ [n1]).length = i + 1 := by rw [List.length_append, HI.out.2.2.2]; rfl
        have H3 := Lib.hid (And.intro hI3 (And.intro hu3 hb3))
        rw [hl3]
        clear hI3 hu3 hb3 hI2
        go_roundw
        case rel =>
          refine ⟨i + 1, a3, c3, by omega, by go_num, rfl, Lib.hid ⟨ns ++ [n1], b', HX.out, hl3, ?_, fun g hg => ?_, ?_⟩⟩
          · rw [← hl3]; exact H3.out.1
          · rcases H3.out.2.2 g hg with h | h
            · exact HI.out.2.1 g h
            · have h1 := HI.out.2.2.1.size
              have h2 := H1.out.size
              simp at h
              omega
          · have h1 := HI.out.2.2.1
            have h2 := h1.trans (H1.out.mono h1.size)
            have h3 := h2.alloc h2.size (.cells #[.int .i64 n1] 3)
            exact h3.trans (H3.out.2.1.below h3.size (fun k hk => HI.out.2.1 k hk))
        case measure => simp [intOf]; omega
    · have hie : i = n := by omega
      obtain ⟨ns, b, hns, hnl, hI, hb, hB⟩ := HS.out
      have hns' : numsF ws = some ns := by rw [hie, ← HR.out.2.1, List.take_length] at hns; exact hns
      have HP := Lib.hid (NumsV.some (w := w) hns' hB hI hb)
      have d1 : decide ((i : Int) < (n : Int)) = false := by simp; omega
      have d2 : decide (i < n) = false := by simp; omega
      clear hns hns' hI hb hB hnl hie
      go_wp2_with (fail)
      go_ret2
      exact HP.out
/-! ### Split -/
abbrev tcells (xs : List Txt) : List Value := xs.map fun x => Value.string (B x)
abbrev TRow (w : World) (v : Value) (xs : List Txt) (b : Option Nat) : Prop := Rw w 9 1 v xs.length (tcells xs) b
theorem infoStr : (Tryz.prog.info? 9).map (fun i => (i.zero, i.size, i.bytes)) = some (some (.string ByteArray.empty), 1, 16) := by kernel_rfl
theorem TRow.rd {w : World} {a : Option Addr} {n c : Nat} {xs : List Txt} {b : Option Nat} (h : TRow w (.slice a n c) xs b) : RdT w a xs := fun k x hx => by
  obtain ⟨g, ha, hb, hc⟩ := h.cell k (.string (B x)) (by rw [List.getElem?_map, hx]; rfl)
  exact ⟨g, 0, ha, by rw [Nat.zero_add]; exact hc⟩
theorem TRow.app {w : World} {v : Value} {xs : List Txt} {x : Txt} {b : Option Nat} {W : World} (h : AppR W 9 1 (xs.length + 1) (tcells xs ++ [.string (B x)]) b v w) : ∃ b', TRow w v (xs ++ [x]) b' ∧ Upd (fun k => b = some k) W w ∧ ∀ g, b' = some g → b = some g ∨ W.heap.size ≤ g := by
  obtain ⟨b', h1, h2, h3⟩ := h
  have e0 : tcells xs ++ [.string (B x)] = tcells (xs ++ [x]) := by simp
  rw [e0] at h1
  have e : xs.length + 1 = (xs ++ [x]).length := by simp
  rw [e] at h1
  exact ⟨b', h1, h2, h3⟩
def pc (l : Txt) (at' i : Nat) : Txt := (l.drop at').take (i - at')
theorem ext_pc (l : Txt) (a b : Nat) : (B l).extract a b = B (pc l a b) := by
  apply ByteArray.ext
  apply Array.ext'
  have := Lib.extract_toList (B l) a b
  rw [toList_data, data_B] at this
  rw [this]; rfl
/-- how far the pieces are -/
def Mid (d : UInt8) (l : Txt) (done : List Txt) (at' i : Nat) : Prop := spc d l = done ++ spc d (l.drop at') ∧ d ∉ pc l at' i
theorem Mid.step {d : UInt8} {l : Txt} {done : List Txt} {at' i : Nat} {c : UInt8} (h : Mid d l done at' i) (hi : at' ≤ i) (hc : l[i]? = some c) (hd : c ≠ d) : Mid d l done at' (i + 1) := by
  refine ⟨h.1, fun hm => ?_⟩
  have hil : i < l.length := (List.getElem?_eq_some_iff.1 hc).1
  have e : pc l at' (i + 1) = pc l at' i ++ [c] := by
    unfold pc
    rw [show i + 1 - at' = (i - at') + 1 by omega, List.take_succ_eq_append_getElem (by rw [List.length_drop]; omega)]
    congr 1
    rw [List.getElem_drop]
    rw [List.getElem?_eq_getElem hil] at hc
    have := Option.some.inj hc
    simp only [show at' + (i - at') = i by omega]
    rw [this]
  rw [e, List.mem_append, List.mem_singleton] at hm
  rcases hm with hm | hm
  · exact h.2 hm
  · exact hd hm.symm
theorem Mid.cut {d : UInt8} {l : Txt} {done : List Txt} {at' i : Nat} (h : Mid d l done at' i) (hi : at' ≤ i) (hc : l[i]? = some d) : Mid d l (done ++ [pc l at' i]) (i + 1) (i + 1) := by
  have hil : i < l.length := (List.getElem?_eq_some_iff.1 hc).1
  refine ⟨?_, by unfold pc; simp⟩
  rw [h.1, List.append_assoc]
  congr 1
  have e : l.drop at' = pc l at' i ++ d :: l.drop (i + 1) := by
    unfold pc
    conv => lhs; rw [← List.take_append_drop (i - at') (l.drop at')]
    congr 1
    rw [List.drop_drop, show at' + (i - at') = i by omega, List.drop_eq_getElem_cons hil]
    rw [List.getElem?_eq_getElem hil] at hc
    rw [Option.some.inj hc]
  conv => lhs; rw [e]
  exact spc_app d _ _ h.2
theorem Mid.last {d : UInt8} {l : Txt} {done : List Txt} {at' i : Nat} (h : Mid d l done at' i) (hi : i = l.length) : spc d l = done ++ [pc l at' i] := by
  rw [h.1]
  congr 1
  have e : l.drop at' = pc l at' i := by unfold pc; rw [hi, List.take_of_length_le (by rw [List.length_drop]; exact Nat.le_refl _)]
  rw [e]
  exact spc_no d _ h.2
def Sst (d : UInt8) (l : Txt) (done : List Txt) (at' i : Nat) : Prop := at' ≤ i ∧ ((i ≤ l.length ∧ Mid d l done at' i) ∨ (i = l.length + 1 ∧ spc d l = done))
theorem Sst.le {d : UInt8} {l : Txt} {done : List Txt} {at' i : Nat} (h : Sst d l done at' i) : i ≤ l.length + 1 := by rcases h.2 with h | h <;> omega
theorem Sst.len {d : UInt8} {l : Txt} {done : List Txt} {at' i : Nat} (h : Sst d l done at' i) : done.length ≤ l.length + 1 := by
  have := spc_len d l
  rcases h.2 with ⟨_, h⟩ | ⟨_, h⟩
  · rw [h.1, List.length_append] at this; omega
  · rw [h] at this; omega
theorem Sst.piece {d : UInt8} {l : Txt} {done : List Txt} {at' i : Nat} (h : Sst d l done at' i) (hi : i ≤ l.length) (he : i = l.length ∨ l[i]? = some d) : Sst d l (done ++ [pc l at' i]) (i + 1) (i + 1) := by
  have hm : Mid d l done at' i := by
    rcases h.2 with h | h
    · exact h.2
    · omega
  rcases he with he | he
  · exact ⟨Nat.le_refl _, .inr ⟨by omega, hm.last he⟩⟩
  · have hil : i < l.length := (List.getElem?_eq_some_iff.1 he).1
    exact ⟨Nat.le_refl _, .inl ⟨by omega, hm.cut h.1 he⟩⟩
theorem Sst.skip {d : UInt8} {l : Txt} {done : List Txt} {at' i : Nat} {c : UInt8} (h : Sst d l done at' i) (hc : l[i]? = some c) (hd : c ≠ d) : Sst d l done at' (i + 1) := by
  have hil : i < l.length := (List.getElem?_eq_some_iff.1 hc).1
  rcases h.2 with h2 | h2
  · exact ⟨by have := h.1; omega, .inl ⟨by omega, h2.2.step h.1 hc hd⟩⟩
  · omega
def SpSt (d : UInt8) (l : Txt) (w : World) (at' i : Nat) (v : Value) (n : Nat) (wr : World) : Prop := ∃ done b, Sst d l done at' i ∧ done.length = n ∧ TRow wr v done b ∧ (∀ g, b = some g → w.heap.size ≤ g) ∧ Below w.heap.size w wr
def SplV (xs : List Txt) (w : World) (e : Ending) (w' : World) : Prop := ∃ a c b, e = .returned (.slice a xs.length c) ∧ TRow w' (.slice a xs.length c) xs b ∧ (∀ g, b = some g → w.heap.size ≤ g) ∧ Below w.heap.size w w'
set_option maxRecDepth 100000 in
set_option maxHeartbeats 1000000 in
theorem rsplit_is (d : UInt8) (l : Txt) (w : World) (hl : l.length ≤ 100000) : Calls Tryz.prog 70 #[.string (B l), .int .u8 d.toNat] w (SplV (spc d l) w) := by
  have hsz := B_size l
  have hdat := data_B l
  have hext := fun a b => ext_pc l a b
  generalize hsB : B l = s at *
  have HD := Lib.hid (And.intro hsz (And.intro hdat (And.intro hsB hext)))
  clear hsz hdat hsB hext
  go_enter Tryz.func70, Tryz.ntmps70
  go_wp2_with (fail)
  go_loopw [5, 6, 7] (fun v5 v6 v7 wr => ∃ (i at' : Nat) (ao : Option Addr) (n cc : Nat), v5 = .slice ao n cc ∧ v6 = .int .i64 at' ∧ v7 = .int .i64 i ∧ at' ≤ i ∧ i ≤ l.length + 1 ∧ Hid (SpSt d l w at' i (.slice ao n cc) n wr)) (fun _ _ ix _ => l.length + 1 - (intOf ix).toNat)
  case atStart => exact ⟨0, 0, none, 0, 0, rfl, rfl, rfl, Nat.zero_le _, Nat.zero_le _, Lib.hid ⟨[], none, ⟨Nat.le_refl _, .inl ⟨Nat.zero_le _, rfl, by unfold pc; simp⟩⟩, rfl, Rw.nil _ _ _, fun g hg => (by cases hg), Below.refl _ _⟩⟩
  case round =>
    obtain ⟨i, at', ao, n, cc, rfl, rfl, rfl, hat, hi1, HS⟩ := hrel
    obtain ⟨done, b, hst, hdn, hT, hb, hB⟩ := HS.out
    by_cases hin : i ≤ l.length
    · have d1 : decide ((i : Int) ≤ (s.size : Int)) = true := by rw [HD.out.1]; simp; omega
      have k1 : (i : Int) ≤ (s.size : Int) := by rw [HD.out.1]; omega
      have k2 : (0 : Int) ≤ i := by omega
      have k3 : (at' : Int) ≤ (i : Int) := by omega
      have k4 : (0 : Int) ≤ at' := by omega
      have hex := HD.out.2.2.2 at' i
      by_cases he : i = l.length ∨ l[i]? = some d
      · have HN := Lib.hid (hst.piece hin he)
        have HX := Lib.hid (And.intro hT (And.intro hb (And.intro hB (And.intro hdn hst.len))))
        have hTA := hT.alloc (.cells #[.string (B (pc l at' i))] 9)
        have hcs : (((i : Int) == (s.size : Int)) = true ∧ (i == s.size) = true) ∨ (((i : Int) == (s.size : Int)) = false ∧ (i == s.size) = false ∧ (i : Int) < (s.size : Int) ∧ ∃ h : i < s.size, s[i] = d) := by
          by_cases hie : i = l.length
          · left; rw [HD.out.1]; simp [hie]
          · right
            have hc : l[i]? = some d := by rcases he with h | h; exact absurd h hie; exact h
            have hlt : i < s.size := by rw [HD.out.1]; omega
            refine ⟨?_, ?_, by omega, hlt, byte_at (s := s) (l := l) HD.out.2.1 hc hlt⟩
            · rw [HD.out.1]; simp; omega
            · rw [HD.out.1]; simp; exact hie
        clear hst hT hb hB he
        subst hdn
        generalize hpx : B (pc l at' i) = px at *
        have HPX := Lib.hid hpx
        clear hpx
        rcases hcs with ⟨q1, q2⟩ | ⟨q1, q2, q3, q4, q5⟩
        all_goals
          go_wp2_with (at_builtin; refine wp_appR rfl _ _ 83 9 (.string ByteArray.empty) 1 16 infoStr rfl (by decide) (by decide) Tryz.underlying83 rfl _ done.length (tcells done) b rfl hTA ⟨wr.heap.size, 0, none⟩ 1 1 [.string px] rfl (by decide) rfl (new_row (cs := [.string px]) rfl) (by intro u hu; simp at hu; subst hu; rfl) (by have := HX.out.2.2.2; omega) ?_; intro v' w2 hA; rw [← HPX.out] at hA; have HA := Lib.hid (TRow.app hA); clear hA)
          obtain ⟨b', hI3, hu3, hb3⟩ := HA.out
          obtain ⟨a3, c3, rfl⟩ := hI3.slice
          have hl3 : (done ++ [pc l at' i]).length = done.length + 1 := by rw [List.length_append]; rfl
          have H3 := Lib.hid (And.intro hI3 (And.intro hu3 hb3))
          rw [hl3]
          clear hI3 hu3 hb3 hTA
          go_roundw
          case rel =>
            refine ⟨i + 1, i + 1, a3, done.length + 1, c3, rfl, by go_num, by go_num, by omega, by omega, Lib.hid ⟨done ++ [pc l at' i], b', HN.out, hl3, ?_, fun g hg => ?_, ?_⟩⟩
            · rw [← hl3]; exact H3.out.1
            · rcases H3.out.2.2 g hg with h | h
              · exact HX.out.2.1 g h
              · have h1 := HX.out.2.2.1.size
                simp at h
                omega
            · have h1 := HX.out.2.2.1
              have h3 := h1.alloc h1.size (.cells #[.string (B (pc l at' i))] 9)
              exact h3.trans (H3.out.2.1.below h3.size (fun k hk => HX.out.2.1 k hk))
          case measure => simp [intOf]; omega
      · obtain ⟨c, hc⟩ : ∃ c, l[i]? = some c := by
          have hil : i < l.length := by
            have : i ≠ l.length := fun h => he (.inl h)
            omega
          exact ⟨l[i], List.getElem?_eq_getElem hil⟩
        have hil : i < l.length := (List.getElem?_eq_some_iff.1 hc).1
        have hcd : c ≠ d := fun h => he (.inr (by rw [hc, h]))
        have HN := Lib.hid (hst.skip hc hcd)
        have HX := Lib.hid (And.intro hT (And.intro hb (And.intro hB hdn)))
        have q3 : (i : Int) < (s.size : Int) := by rw [HD.out.1]; omega
        have q4 : i < s.size := by rw [HD.out.1]; omega
        have q5 := byte_at (s := s) (l := l) HD.out.2.1 hc q4
        have q1 : ((i : Int) == (s.size : Int)) = false := by rw [HD.out.1]; simp; omega
        have q2 : (i == s.size) = false := by rw [HD.out.1]; simp; omega
        have u1 : ((c.toNat : Int) == (d.toNat : Int)) = false := by
          simp
          exact fun h => hcd (UInt8.toNat_inj.1 (by omega))
        clear hst hT hb hB he hdn hc hcd hex
        go_wp2_with (fail)
        go_roundw
        case rel => exact ⟨i + 1, at', ao, n, cc, rfl, rfl, by go_num, by omega, by omega, Lib.hid ⟨done, b, HN.out, HX.out.2.2.2, HX.out.1, HX.out.2.1, HX.out.2.2.1⟩⟩
        case measure => simp [intOf]; omega
    · have hie : i = l.length + 1 := by omega
      have hsp : spc d l = done := by
        rcases hst.2 with h | h
        · omega
        · exact h.2
      subst hdn
      have HP := Lib.hid (show SplV (spc d l) w (.returned (.slice ao done.length cc)) wr by
        rw [hsp]
        exact ⟨ao, cc, b, rfl, hT, hb, hB⟩)
      have d1 : decide ((i : Int) ≤ (s.size : Int)) = false := by rw [HD.out.1]; simp; omega
      have d2 : decide (i ≤ s.size) = false := by rw [HD.out.1]; simp; omega
      clear hst hsp hT hb hB hie
      go_wp2_with (fail)
      go_ret
      exact HP.out
/-! ### Lines -/
theorem Rw.cap {w : World} {T : TypeId} {sz n : Nat} {cs : List Value} {b : Option Nat} {a : Option Addr} {m c : Nat} (h : Rw w T sz (.slice a m c) n cs b) : m = n ∧ n ≤ c := by
  rcases h.2 with ⟨hv, h0, _⟩ | ⟨g, cap, rest, hv, hb, hB, hc, hn, hm⟩
  · simp only [Value.slice.injEq] at hv
    omega
  · simp only [Value.slice.injEq] at hv
    obtain ⟨_, rfl, rfl⟩ := hv
    exact ⟨rfl, hn⟩
def LnV (xs : List Txt) (w : World) (e : Ending) (w' : World) : Prop := ∃ a c, e = .returned (.slice a xs.length c) ∧ RdT w' a xs ∧ Below w.heap.size w w'
theorem RdT.take {w : World} {a : Option Addr} {xs : List Txt} (h : RdT w a xs) (n : Nat) : RdT w a (xs.take n) := fun k x hx => by
  rw [List.getElem?_take] at hx
  split at hx
  · exact h k x hx
  · cases hx
set_option maxRecDepth 100000 in
theorem lines_is (l : Txt) (w : World) (hl : l.length ≤ 100000) : Calls Tryz.prog 33 #[.string (B l)] w (LnV (linesF l) w) := by
  have hsp := rsplit_is 10 l w hl
  have hne := spc_ne 10 l
  obtain ⟨n, hn⟩ : ∃ n, (spc 10 l).length = n + 1 := by
    cases h : spc 10 l with
    | nil => exact absurd h hne
    | cons x r => exact ⟨r.length, rfl⟩
  obtain ⟨x, hx⟩ : ∃ x, (spc 10 l)[n]? = some x := ⟨(spc 10 l)[n], List.getElem?_eq_getElem (by omega)⟩
  have hlast : (spc 10 l).getLast? = some x := by rw [List.getLast?_eq_getElem?, hn]; exact hx
  have hlen := spc_len 10 l
  have hE : (B x).toList.isEmpty = decide (x = []) := by rw [B_list]; cases x <;> rfl
  have c10 : (((10 : UInt8).toNat : Nat) : Int) = 10 := rfl
  rw [c10] at hsp
  have hn0 : n ≤ 100001 := by omega
  have HS := Lib.hid (And.intro hn (And.intro hx hlast))
  clear hx
  by_cases h0 : x = []
  · have hL : linesF l = (spc 10 l).take n := by
      unfold linesF
      by_cases hl0 : l = []
      · rw [if_pos hl0]
        have : n = 0 := by
          rw [hl0] at hn
          have h1 : (spc 10 []).length = 1 := rfl
          omega
        rw [this]; rfl
      · rw [if_neg hl0, if_pos (by rw [hlast, h0]), List.dropLast_eq_take, hn]; rfl
    have HL := Lib.hid (And.intro hL (show (linesF l).length = n by rw [hL, List.length_take, hn]; omega))
    have hE2 : x.isEmpty = true := by rw [h0]; rfl
    rw [decide_eq_true h0] at hE
    clear hlen hne hlast hL hn h0 c10
    go_enter Tryz.func33, Tryz.ntmps33
    go_wp2_with (go_at_call 70; refine hsp.mono ?_; rintro e w1 ⟨a, c, b, rfl, hT, hb, hB⟩; obtain ⟨g, hga, hgb, hgc⟩ := hT.cell n (.string (B x)) (by rw [List.getElem?_map, HS.out.2.1]; rfl); obtain rfl := hga; have hcp : (n : Int) ≤ (c : Int) := (by have := hT.cap.2; have := HS.out.1; omega); have HT := Lib.hid (And.intro hT (And.intro hb hB)); rw [HS.out.1]; clear hT hb hB hsp hgb)
    go_ret
    refine ⟨some ⟨g, 0, none⟩, c, by rw [HL.out.2]; rfl, ?_, HT.out.2.2⟩
    rw [HL.out.1]
    exact (TRow.rd HT.out.1).take n
  · have hL : linesF l = spc 10 l := by
      unfold linesF
      have hl0 : l ≠ [] := fun e => by
        subst e
        have h1 : spc 10 [] = [[]] := rfl
        rw [h1] at hlast
        simp at hlast
        exact h0 hlast
      rw [if_neg hl0, if_neg]
      rw [hlast]
      intro e
      exact h0 (Option.some.inj e)
    have HL := Lib.hid (And.intro hL (show (linesF l).length = n + 1 by rw [hL, hn]))
    have hE2 : x.isEmpty = false := by cases x with
      | nil => exact absurd rfl h0
      | cons _ _ => rfl
    rw [decide_eq_false h0] at hE
    clear hlen hne hlast hL hn h0 c10
    go_enter Tryz.func33, Tryz.ntmps33
    go_wp2_with (go_at_call 70; refine hsp.mono ?_; rintro e w1 ⟨a, c, b, rfl, hT, hb, hB⟩; obtain ⟨g, hga, hgb, hgc⟩ := hT.cell n (.string (B x)) (by rw [List.getElem?_map, HS.out.2.1]; rfl); obtain rfl := hga; have hcp : (n : Int) ≤ (c : Int) := (by have := hT.cap.2; have := HS.out.1; omega); have HT := Lib.hid (And.intro hT (And.intro hb hB)); rw [HS.out.1]; clear hT hb hB hsp hgb)
    go_ret
    refine ⟨some ⟨g, 0, none⟩, c, by rw [HL.out.2]; rfl, ?_, HT.out.2.2⟩
    rw [HL.out.1]
    exact TRow.rd HT.out.1
end Go.Proofs.YtefaaginedideaaGreatDoor
