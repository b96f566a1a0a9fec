/-
  Script: a quoted text read, by the program.
-/
import Derived.Test.YtefaaginedideaaGreatDoorSN
import Derived.Test.YtefaaginedideaaGreatDoorRegK
import Derived.Lib.BufferRead
namespace Go.Proofs.YtefaaginedideaaGreatDoor
set_option linter.unusedSimpArgs false
set_option linter.unusedVariables false
open Go.RowKit Own RegJ
open Go.Lib hiding intOf

/-- what the rest says -/
def unqF (l : Txt) : Option Txt := unq (l.length + 1) l
theorem unqF_nil : unqF [] = some [] := rfl
theorem unqF_plain {c : UInt8} (r : Txt) (h : c ≠ 92) : unqF (c :: r) = (unqF r).map (c :: ·) := by
  unfold unqF; rw [List.length_cons, unq_plain _ _ h]
theorem unqF_esc (h l : UInt8) (r : Txt) (hh : 0 ≤ hexv h ∧ 0 ≤ hexv l) : unqF (92 :: h :: l :: r) = (unqF r).map (UInt8.ofNat (16 * hexv h + hexv l).toNat :: ·) := by
  unfold unqF
  simp only [List.length_cons]
  rw [unq_esc _ _ _ _ hh, unq_fuel (r.length + 1) (r.length + 1 + 1 + 1) r (by omega) (by omega)]
theorem unqF_bad (h l : UInt8) (r : Txt) (hh : ¬ (0 ≤ hexv h ∧ 0 ≤ hexv l)) : unqF (92 :: h :: l :: r) = none := by
  unfold unqF
  show (if (92 : UInt8) ≠ 92 then _ else if 0 ≤ hexv h ∧ 0 ≤ hexv l then _ else _) = _
  rw [if_neg (by simp), if_neg hh]
theorem unqF_short (r : Txt) (h : r.length < 2) : unqF (92 :: r) = none := by
  unfold unqF
  match r, h with
  | [], _ => rfl
  | [_], _ => rfl
  | _ :: _ :: _, h => simp at h; omega
/-- how far the reading is -/
def UnqS (l done rest : Txt) : Prop := unqF (inner l) = (unqF rest).map (done ++ ·)
theorem UnqS.plain {l done : Txt} {c : UInt8} {r : Txt} (h : UnqS l done (c :: r)) (hc : c ≠ 92) : UnqS l (done ++ [c]) r := by
  unfold UnqS at *
  rw [h, unqF_plain r hc, Option.map_map]
  congr 1
  funext x; simp
theorem UnqS.esc {l done : Txt} {a b : UInt8} {r : Txt} (h : UnqS l done (92 :: a :: b :: r)) (hh : 0 ≤ hexv a ∧ 0 ≤ hexv b) : UnqS l (done ++ [UInt8.ofNat (16 * hexv a + hexv b).toNat]) r := by
  unfold UnqS at *
  rw [h, unqF_esc a b r hh, Option.map_map]
  congr 1
  funext x; simp
theorem UnqS.bad {l done rest : Txt} (h : UnqS l done rest) (hq : quoted l = true) (hn : unqF rest = none) : unquoteF l = none := by
  unfold UnqS at h
  rw [hn] at h
  unfold unquoteF
  rw [if_pos hq]
  unfold unqF at h hn
  rw [h]; rfl
theorem UnqS.fin {l done : Txt} (h : UnqS l done []) (hq : quoted l = true) : unquoteF l = if quoteT done = l then some done else none := by
  unfold UnqS at h
  rw [unqF_nil] at h
  unfold unquoteF
  rw [if_pos hq]
  unfold unqF at h
  rw [h]; simp
def UnqV (l : Txt) (w : World) (e : Ending) (w' : World) : Prop := ∃ t : Txt, e = .returned (.tuple #[.string (B t), .bool (unquoteF l).isSome]) ∧ (∀ x, unquoteF l = some x → t = x) ∧ Below w.heap.size w w'
theorem UnqV.none {l t : Txt} {w w' : World} {b : Bool} (h : unquoteF l = none) (hb : b = false) (hB : Below w.heap.size w w') : UnqV l w (.returned (.tuple #[.string (B t), .bool b])) w' := ⟨t, by rw [h, hb]; rfl, fun x hx => (by rw [h] at hx; cases hx), hB⟩
theorem UnqV.some {l t : Txt} {w w' : World} {b : Bool} (h : unquoteF l = some t) (hb : b = true) (hB : Below w.heap.size w w') : UnqV l w (.returned (.tuple #[.string (B t), .bool b])) w' := ⟨t, by rw [h, hb]; rfl, fun x hx => (by rw [h] at hx; cases hx; rfl), hB⟩
theorem hexs_idx (c : UInt8) : Lib.indexByte [48, 49, 50, 51, 52, 53, 54, 55, 56, 57, 97, 98, 99, 100, 101, 102] c = hexv c := by
  have : ∀ n : Fin 256, Lib.indexByte [48, 49, 50, 51, 52, 53, 54, 55, 56, 57, 97, 98, 99, 100, 101, 102] (UInt8.ofNat n.val) = hexv (UInt8.ofNat n.val) := by decide +kernel
  have h := this ⟨c.toNat, by have := UInt8.toNat_lt c; omega⟩
  simpa using h
theorem sidx (c : UInt8) (w : World) : Calls Tryz.prog 96 #[.string ⟨#[48, 49, 50, 51, 52, 53, 54, 55, 56, 57, 97, 98, 99, 100, 101, 102]⟩, .int .u8 c.toNat] w fun e w' => e = .returned (.int .i64 (hexv c)) ∧ w' = w := by
  have := Tryz.strings_IndexByte ⟨#[48, 49, 50, 51, 52, 53, 54, 55, 56, 57, 97, 98, 99, 100, 101, 102]⟩ (c.toNat : Int) w
  have e : ((c.toNat : Int).toNat.toUInt8) = c := by simp
  rw [e] at this
  have e2 := hexs_idx c
  rw [show (⟨#[48, 49, 50, 51, 52, 53, 54, 55, 56, 57, 97, 98, 99, 100, 101, 102]⟩ : ByteArray).data.toList = [48, 49, 50, 51, 52, 53, 54, 55, 56, 57, 97, 98, 99, 100, 101, 102] from rfl, e2] at this
  exact this
theorem inner_ext {l : Txt} (h : 2 ≤ l.length) : (B l).extract 1 (l.length - 1) = B (inner l) := by
  apply ByteArray.ext
  apply Array.ext'
  have := Lib.extract_toList (B l) 1 (l.length - 1)
  rw [toList_data, data_B] at this
  rw [this]
  unfold inner
  rw [show l.length - 1 - 1 = l.length - 2 by omega]
theorem drop_ext (l : Txt) (k : Nat) : (B l).extract k l.length = B (l.drop k) := by
  apply ByteArray.ext
  apply Array.ext'
  have := Lib.extract_toList (B l) k l.length
  rw [toList_data, data_B] at this
  rw [this, List.take_of_length_le (by rw [List.length_drop]; exact Nat.le_refl _)]

theorem infoU8' : (Tryz.prog.info? 5).map (fun i => (i.zero, i.size, i.bytes)) = some (some (.int .u8 0), 1, 1) := by kernel_rfl
/-- a row of bytes of the call's own -/
abbrev BRow (w : World) (v : Value) (l : Txt) (b : Option Nat) : Prop := Rw w 5 1 v l.length (byteCells l) b
def USt (l : Txt) (w : World) (rest : Txt) (v : Value) (wr : World) : Prop := ∃ done b, UnqS l done rest ∧ BRow wr v done b ∧ (∀ g, b = some g → w.heap.size ≤ g) ∧ Below w.heap.size w wr ∧ done.length + rest.length ≤ l.length
theorem quoted_no1 {l : Txt} (h : l.length < 2) : unquoteF l = none := by unfold unquoteF; rw [if_neg]; unfold quoted; rw [decide_eq_false (by omega)]; simp
theorem quoted_no {l : Txt} (h : quoted l = false) : unquoteF l = none := by unfold unquoteF; rw [h]; rfl
set_option maxRecDepth 100000 in
set_option maxHeartbeats 1000000 in
theorem unq_no (l : Txt) (w : World) (hl : l.length ≤ 100000) (hq : quoted l = false) : Calls Tryz.prog 82 #[.string (B l)] w (UnqV l w) := by
  have hP := Lib.hid (UnqV.none (l := l) (t := []) (w := w) (b := false) (quoted_no hq) rfl (Below.refl _ _))
  have hsz := B_size l
  by_cases h2 : l.length < 2
  · have i1 : ((B l).size : Int) < 2 := by omega
    clear hq hsz
    generalize B l = s at *
    go_enter Tryz.func82, Tryz.ntmps82
    go_wp2_with (fail)
    go_ret2
    exact hP.out
  · have i1 : decide (((B l).size : Int) < 2) = false := by simp; omega
    obtain ⟨c, hc⟩ : ∃ c, l[0]? = some c := ⟨l[0], List.getElem?_eq_getElem (by omega)⟩
    obtain ⟨d, hd⟩ : ∃ d, l[l.length - 1]? = some d := ⟨l[l.length - 1], List.getElem?_eq_getElem (by omega)⟩
    have hx := byte_at (s := B l) (l := l) (data_B l) hc
    have hd' : l[(B l).size - 1]? = some d := by rw [hsz]; exact hd
    have hy := byte_at (s := B l) (l := l) (data_B l) hd'
    have j1 : (0 : Int) < ((B l).size : Int) := by omega
    have j2 : (0 : Int) ≤ ((B l).size : Int) - 1 := by omega
    have j4 : (B l).size - 1 < (B l).size := by omega
    have j5 : 0 < (B l).size := by omega
    have j6 : ((B l).size : Int) ≤ 100000 := by omega
    have j7 : (1 : Int) ≤ ((B l).size : Int) - 1 := by omega
    have hx1 := hx j5
    have hy1 := hy j4
    have hcd : c ≠ 34 ∨ d ≠ 34 := by
      apply Classical.byContradiction
      intro h
      have h1 : c = 34 := Classical.byContradiction (fun e => h (.inl e))
      have h2' : d = 34 := Classical.byContradiction (fun e => h (.inr e))
      unfold quoted at hq
      rw [hc, hd, h1, h2', decide_eq_true (show 2 ≤ l.length by omega)] at hq
      simp at hq
    have u1 : ((c.toNat : Int) == 34) = decide (c = 34) := u8_eq c 34 (by omega)
    have u2 : ((c.toNat : Int) != 34) = !decide (c = 34) := by rw [← u1]; rfl
    have u3 : ((d.toNat : Int) == 34) = decide (d = 34) := u8_eq d 34 (by omega)
    have u4 : ((d.toNat : Int) != 34) = !decide (d = 34) := by rw [← u3]; rfl
    clear hx hy hq hc hd hd' h2
    generalize B l = s at *
    by_cases hc34 : c = 34
    · have hd34 : ¬ d = 34 := by rcases hcd with h | h; exact absurd hc34 h; exact h
      rw [decide_eq_true hc34] at u1 u2
      rw [decide_eq_false hd34] at u3 u4
      clear hcd hc34 hd34 hsz
      go_enter Tryz.func82, Tryz.ntmps82
      go_wp2_with (fail)
      go_ret2
      exact hP.out
    · rw [decide_eq_false hc34] at u1 u2
      clear hcd hc34 u3 u4 hy1 hsz
      go_enter Tryz.func82, Tryz.ntmps82
      go_wp2_with (fail)
      go_ret2
      exact hP.out

theorem quoted_ok {l : Txt} (h : quoted l = true) : 2 ≤ l.length ∧ l[0]? = some 34 ∧ l[l.length - 1]? = some 34 := by
  unfold quoted at h
  simp only [Bool.and_eq_true, decide_eq_true_eq] at h
  exact ⟨h.1.1, h.1.2, h.2⟩
theorem inner_len {l : Txt} : (inner l).length = l.length - 2 := by unfold inner; simp; omega
theorem brow_str {w : World} {a : Option Addr} {n c : Nat} {l : Txt} {b : Option Nat} (h : BRow w (.slice a n c) l b) : (convert 60 9 (.slice a n c)).run Tryz.prog w = .ok (.string (B l)) w := by
  rcases h.2 with ⟨hv, h0, _⟩ | ⟨g, cap, rest, hv, hb, hB, hc, hn, hm⟩
  · simp only [Value.slice.injEq] at hv
    obtain ⟨rfl, rfl, rfl⟩ := hv
    have : l = [] := List.eq_nil_of_length_eq_zero h0
    subst this
    exact run_convert_nil_bytes w _ _ _ 0 Tryz.underlying60 Tryz.underlying5 Tryz.underlying9
  · simp only [Value.slice.injEq] at hv
    obtain ⟨rfl, rfl, rfl⟩ := hv
    exact run_convert_bytes_back w _ _ _ ⟨g, 0, none⟩ c l Tryz.underlying60 Tryz.underlying5 Tryz.underlying9 (bytes_of_row (fr := (0, 0)) (cur := (byteCells l ++ rest).toArray) (T := 5) hB (by rw [List.toList_toArray, List.take_left' (byteCells_length l)]))
theorem BRow.app {w : World} {v : Value} {l : Txt} {c : UInt8} {b : Option Nat} {W : World} (h : AppR W 5 1 (l.length + 1) (byteCells l ++ [.int .u8 c.toNat]) b v w) : ∃ b', BRow w v (l ++ [c]) b' ∧ Upd (fun k => b = some k) W w ∧ ∀ g, b' = some g → b = some g ∨ W.heap.size ≤ g := by
  obtain ⟨b', h1, h2, h3⟩ := h
  rw [cells_snoc] at h1
  have e : l.length + 1 = (l ++ [c]).length := by simp
  rw [e] at h1
  exact ⟨b', h1, h2, h3⟩
set_option maxRecDepth 100000 in
set_option maxHeartbeats 4000000 in
theorem unq_yes (l : Txt) (w : World) (hl : l.length ≤ 100000) (hq : quoted l = true) : Calls Tryz.prog 82 #[.string (B l)] w (UnqV l w) := by
  obtain ⟨h2, h3, h4⟩ := quoted_ok hq
  have hsz := B_size l
  have h4' : l[(B l).size - 1]? = some 34 := by rw [hsz]; exact h4
  have hx0 := byte_at (s := B l) (l := l) (data_B l) h3
  have hy0 := byte_at (s := B l) (l := l) (data_B l) h4'
  have hin := inner_ext h2
  have i1 : decide (((B l).size : Int) < 2) = false := by simp; omega
  have j1 : (0 : Int) < ((B l).size : Int) := by omega
  have j2 : (0 : Int) ≤ ((B l).size : Int) - 1 := by omega
  have j6 : ((B l).size : Int) ≤ 100000 := by omega
  have j7 : (1 : Int) ≤ ((B l).size : Int) - 1 := by omega
  have j8 : (B l).size - 1 < (B l).size := by omega
  have j9 : 0 < (B l).size := by omega
  have hx := hx0 j9
  have hy := hy0 j8
  clear hx0 hy0
  rw [← hsz] at hin
  have hil := inner_len (l := l)
  generalize hsB : B l = s at *
  have HQ := Lib.hid (And.intro hq (And.intro hsz (And.intro hsB hil)))
  clear hq hsz hsB h2 h3 h4 h4' hil
  generalize hbi : B (inner l) = si at *
  have HI := Lib.hid hbi
  clear hbi
  go_enter Tryz.func82, Tryz.ntmps82
  go_wp2_with (fail)
  clear hx hy hin j8 j9 i1
  go_loopw [4, 5] (fun v4 v5 wr => ∃ (ao : Option Addr) (n c : Nat) (rest : Txt), v4 = .slice ao n c ∧ v5 = .string (B rest) ∧ Hid (USt l w rest (.slice ao n c) wr)) (fun _ v5 _ => match v5 with | .string s => s.size | _ => 0)
  case atStart => exact ⟨none, 0, 0, inner l, rfl, by rw [HI.out], Lib.hid ⟨[], none, by unfold UnqS; simp, Rw.nil _ _ _, fun g hg => (by cases hg), Below.refl _ _, by rw [HQ.out.2.2.2]; simp⟩⟩
  case round =>
    obtain ⟨ao, n, cc, rest, rfl, rfl, HS⟩ := hrel
    have hE : (B rest).toList.isEmpty = decide (rest = []) := by rw [B_list]; cases rest <;> rfl
    match rest, HS, hE with
    | [], HS, hE =>
      have hE' : (B ([] : Txt)).toList.isEmpty = true := by rw [hE]; rfl
      obtain ⟨done, b, hU, hI, hb, hB, hlen⟩ := HS.out
      have hq1 := fun w => quote_is done w (by simp at hlen; omega)
      have hfin := hU.fin HQ.out.1
      have hP : ∀ w' bv, decide (quoteT done = l) = bv → Below w.heap.size w w' → UnqV l w (.returned (.tuple #[.string (B done), .bool bv])) w' := fun w' bv hbv h => by
        subst hbv
        by_cases hd : quoteT done = l
        · rw [if_pos hd] at hfin
          rw [decide_eq_true hd]
          exact UnqV.some hfin rfl h
        · rw [if_neg hd] at hfin
          rw [decide_eq_false hd]
          exact UnqV.none hfin rfl h
      have HP := Lib.hid hP
      have HI2 := Lib.hid (And.intro hI hB)
      clear hU hI hb hB hlen hfin hP hE
      generalize B ([] : Txt) = be at *
      by_cases hd : quoteT done = l
      · have hbs : B (quoteT done) = s := by rw [hd]; exact HQ.out.2.2.1
        rw [hbs] at hq1
        have HD := Lib.hid (decide_eq_true hd)
        clear hbs hd
        generalize hbd : B done = bd at *
        have HBD := Lib.hid hbd
        clear hbd
        go_wp2_with (fail)
        refine region_J (fun _ w1 => Below wr.heap.size wr w1) (by kernel_rfl) (by kernel_rfl) ((Below.refl _ _).drew) ?_
        iterate 9
          apply wpJ_op rfl (by rfl)
          · intro f w1 hf hJ Q1 hQ
            simp only [Act.put, List.setIfInBounds_toArray, List.set_cons_zero, List.set_cons_succ] at hQ
            have hcv := brow_str (HI2.out.1.below hJ)
            rw [HBD.out] at hcv
            have HJ := Lib.hid hJ
            clear hJ
            go_wp2_with (go_at_call 25; (with_reducible refine (hq1 _).mono ?_); rintro e w2 ⟨rfl, hb2⟩)
            first
              | exact hQ _ _ rfl HJ.out
              | exact hQ _ _ rfl (HJ.out.trans (hb2.mono HJ.out.size))
          simp only [Act.put, List.setIfInBounds_toArray, List.set_cons_zero, List.set_cons_succ]
        refine wpJ_nil ?_
        intro w9 hJ9
        have H9 := Lib.hid (show Below wr.heap.size wr w9 from hJ9)
        clear hJ9
        go_wp2_with (fail)
        go_ret2
        exact HP.out _ _ HD.out (HI2.out.2.trans (H9.out.mono HI2.out.2.size))
      · have hbs : ((B (quoteT done)).toList == s.toList) = false := by rw [← HQ.out.2.2.1, B_list, B_list, beq_dec, decide_eq_false hd]
        have HD := Lib.hid (decide_eq_false hd)
        have hbn : B (quoteT done) ≠ s := by rw [← HQ.out.2.2.1]; exact fun h => hd (B_inj h)
        clear hd
        generalize hbd : B done = bd at *
        have HBD := Lib.hid hbd
        clear hbd
        generalize B (quoteT done) = bq at *
        go_wp2_with (fail)
        refine region_J (fun _ w1 => Below wr.heap.size wr w1) (by kernel_rfl) (by kernel_rfl) ((Below.refl _ _).drew) ?_
        iterate 9
          apply wpJ_op rfl (by rfl)
          · intro f w1 hf hJ Q1 hQ
            simp only [Act.put, List.setIfInBounds_toArray, List.set_cons_zero, List.set_cons_succ] at hQ
            have hcv := brow_str (HI2.out.1.below hJ)
            rw [HBD.out] at hcv
            have HJ := Lib.hid hJ
            clear hJ
            go_wp2_with (go_at_call 25; (with_reducible refine (hq1 _).mono ?_); rintro e w2 ⟨rfl, hb2⟩)
            first
              | exact hQ _ _ rfl HJ.out
              | exact hQ _ _ rfl (HJ.out.trans (hb2.mono HJ.out.size))
          simp only [Act.put, List.setIfInBounds_toArray, List.set_cons_zero, List.set_cons_succ]
        refine wpJ_nil ?_
        intro w9 hJ9
        have H9 := Lib.hid (show Below wr.heap.size wr w9 from hJ9)
        clear hJ9
        go_wp2_with (fail)
        go_ret2
        exact HP.out _ _ HD.out (HI2.out.2.trans (H9.out.mono HI2.out.2.size))
    | c :: r, HS, hE =>
      have hE' : (B (c :: r)).toList.isEmpty = false := by rw [hE]; rfl
      obtain ⟨done, b, hU, hI, hb, hB, hlen⟩ := HS.out
      have hn : done.length = n := by
        obtain ⟨a', c', hv⟩ := hI.slice
        simp only [Value.slice.injEq] at hv
        exact hv.2.1.symm
      subst hn
      have hsr := B_size (c :: r)
      have hx0 := byte_at (s := B (c :: r)) (l := c :: r) (data_B _) (i := 0) (c := c) rfl
      have hd1 := drop_ext (c :: r) 1
      have hd3 := drop_ext (c :: r) 3
      rw [← hsr] at hd1 hd3
      rw [List.drop_one, List.tail_cons] at hd1
      have k1 : (0 : Int) < ((B (c :: r)).size : Int) := by rw [hsr, List.length_cons]; omega
      have k2 : 0 < (B (c :: r)).size := by rw [hsr]; simp
      have k3 : (1 : Int) ≤ ((B (c :: r)).size : Int) := by omega
      have hx := hx0 k2
      have HL := Lib.hid (And.intro hU (And.intro hI (And.intro hb (And.intro hB hlen))))
      have hcl := UInt8.toNat_lt c
      clear hx0 hE hU hI hb hB hlen
      by_cases hc : c = 92
      · subst hc
        clear hd1
        match r, HL, hE', hsr, k1, k2, k3, hx, hd3 with
        | [], HL, hE', hsr, k1, k2, k3, hx, hd3 =>
          have hP := Lib.hid (fun w' => UnqV.none (l := l) (t := []) (w := w) (w' := w') (b := false) (HL.out.1.bad HQ.out.1 (unqF_short _ (by simp))) rfl)
          have k4 : ((B [92]).size : Int) < 3 := by rw [hsr]; decide
          clear hsr hd3 k3
          generalize B [92] = bc at *
          go_wp2_with (fail)
          go_ret2
          exact hP.out _ HL.out.2.2.2.1
        | [x], HL, hE', hsr, k1, k2, k3, hx, hd3 =>
          have hP := Lib.hid (fun w' => UnqV.none (l := l) (t := []) (w := w) (w' := w') (b := false) (HL.out.1.bad HQ.out.1 (unqF_short _ (by simp))) rfl)
          have k4 : ((B [92, x]).size : Int) < 3 := by rw [hsr]; simp
          clear hsr hd3 k3
          generalize B [92, x] = bc at *
          go_wp2_with (fail)
          go_ret2
          exact hP.out _ HL.out.2.2.2.1
        | x :: y :: r, HL, hE', hsr, k1, k2, k3, hx, hd3 =>
          have hx10 := byte_at (s := B (92 :: x :: y :: r)) (l := 92 :: x :: y :: r) (data_B _) (i := 1) (c := x) rfl
          have hx20 := byte_at (s := B (92 :: x :: y :: r)) (l := 92 :: x :: y :: r) (data_B _) (i := 2) (c := y) rfl
          have k4 : decide (((B (92 :: x :: y :: r)).size : Int) < 3) = false := by rw [hsr]; simp; omega
          have k5 : (1 : Int) < ((B (92 :: x :: y :: r)).size : Int) := by rw [hsr]; simp; omega
          have k6 : (2 : Int) < ((B (92 :: x :: y :: r)).size : Int) := by rw [hsr]; simp; omega
          have k7 : 1 < (B (92 :: x :: y :: r)).size := by omega
          have k8 : 2 < (B (92 :: x :: y :: r)).size := by omega
          have hx1 := hx10 k7
          have hx2 := hx20 k8
          clear hx10 hx20
          have k9 : (3 : Int) ≤ ((B (92 :: x :: y :: r)).size : Int) := by omega
          have hd4 : (B (92 :: x :: y :: r)).extract 3 (B (92 :: x :: y :: r)).size = B r := hd3
          have s1 := fun w => sidx x w
          have s2 := fun w => sidx y w
          have v1 := hexv_le x
          have v2 := hexv_le y
          have HB1 := Lib.hid hsr
          clear hsr hd3
          generalize hbc : B (92 :: x :: y :: r) = bc at *
          clear hbc
          by_cases hg : 0 ≤ hexv x ∧ 0 ≤ hexv y
          · have hesc := Lib.hid (HL.out.1.esc hg)
            obtain ⟨g1, g2⟩ := hg
            have hcc : ((UInt8.ofNat (16 * hexv x + hexv y).toNat).toNat : Int) = 16 * hexv x + hexv y := by
              rw [UInt8.toNat_ofNat']; omega
            have HCC := Lib.hid hcc
            clear hcc
            generalize hexv x = p1 at *
            generalize hexv y = p2 at *
            go_wp2_with (fail)
            go_quiet ((first
              | (go_at_call 96; exact Calls.quiet_of_same ((s1 _).mono fun e w2 ⟨h1, h2⟩ => ⟨h1, h2⟩))
              | (go_at_call 96; exact Calls.quiet_of_same ((s2 _).mono fun e w2 ⟨h1, h2⟩ => ⟨h1, h2⟩))))
            go_wp2_with (fail)
            obtain ⟨W0, hW0⟩ : ∃ W0, W0 = wr.drewN nq := ⟨_, rfl⟩
            rw [← hW0]
            have hb0 : Below wr.heap.size wr W0 := by rw [hW0]; exact below_drewN (Below.refl _ _) _
            clear hW0
            have HW0 := Lib.hid hb0
            obtain ⟨v', WC, hrun, hA⟩ := app_run (P := Tryz.prog) (w := (W0.alloc (.cells #[.int .u8 (16 * p1 + p2)] 5)).drew) (S := 60) 60 (.int .u8 0) 1 1 infoU8' rfl (by decide) (by decide) Tryz.underlying60 (((HL.out.2.1.below hb0).alloc (.cells #[.int .u8 (16 * p1 + p2)] 5)).below ((Below.refl _ _).drew)) ⟨W0.heap.size, 0, none⟩ 1 1 [.int .u8 (16 * p1 + p2)] rfl (new_row (W := W0) (cs := [.int .u8 (16 * p1 + p2)]) rfl) (by intro u hu; simp at hu; subst hu; rfl) (by have := HL.out.2.2.2.2; simp only [List.length_cons] at this; omega)
            rw [← HCC.out] at hA
            have hA2 := BRow.app hA
            rw [HCC.out] at hA2
            have HA := Lib.hid hA2
            clear hA hA2 hb0
            have q1 : 16 * p1 ≤ 240 := by omega
            have q2 : 0 ≤ 16 * p1 := by omega
            have q3 : 16 * p1 + p2 ≤ 255 := by omega
            have q4 : 0 ≤ 16 * p1 + p2 := by omega
            refine region_K 6 7 10 W0.drew ((W0.alloc (.cells #[.int .u8 (16 * p1 + p2)] 5)).drew) WC WC rfl (by kernel_rfl) (by kernel_rfl) ?_
            apply wpJ_op rfl (by rfl)
            · intro f w1 hf hJ Q1 hQ
              simp only [Act.put, List.setIfInBounds_toArray, List.set_cons_zero, List.set_cons_succ] at hQ
              go_wp2_with (fail)
              exact hQ _ _ rfl (hJ.other rfl hf (by decide) (by decide) (by decide))
            simp only [Act.put, List.setIfInBounds_toArray, List.set_cons_zero, List.set_cons_succ]
            apply wpJ_op rfl (by rfl)
            · intro f w1 hf hJ Q1 hQ
              simp only [Act.put, List.setIfInBounds_toArray, List.set_cons_zero, List.set_cons_succ] at hQ
              go_wp2_with (fail)
              exact hQ _ _ rfl (hJ.other rfl hf (by decide) (by decide) (by decide))
            simp only [Act.put, List.setIfInBounds_toArray, List.set_cons_zero, List.set_cons_succ]
            apply wpJ_op rfl (by rfl)
            · intro f w1 hf hJ Q1 hQ
              simp only [Act.put, List.setIfInBounds_toArray, List.set_cons_zero, List.set_cons_succ] at hQ
              go_wp2_with (fail)
              exact hQ _ _ rfl (hJ.other rfl hf (by decide) (by decide) (by decide))
            simp only [Act.put, List.setIfInBounds_toArray, List.set_cons_zero, List.set_cons_succ]
            apply wpJ_op rfl (by rfl)
            · intro f w1 hf hJ Q1 hQ
              simp only [Act.put, List.setIfInBounds_toArray, List.set_cons_zero, List.set_cons_succ] at hQ
              go_wp2_with (fail)
              exact hQ _ _ rfl (hJ.other rfl hf (by decide) (by decide) (by decide))
            simp only [Act.put, List.setIfInBounds_toArray, List.set_cons_zero, List.set_cons_succ]
            apply wpJ_op rfl (by rfl)
            · intro f w1 hf hJ Q1 hQ
              simp only [Act.put, List.setIfInBounds_toArray, List.set_cons_zero, List.set_cons_succ] at hQ
              go_wp2_with (fail)
              exact hQ _ _ rfl (hJ.other rfl hf (by decide) (by decide) (by decide))
            simp only [Act.put, List.setIfInBounds_toArray, List.set_cons_zero, List.set_cons_succ]
            apply wpJ_op rfl (by rfl)
            · intro f w1 hf hJ Q1 hQ
              simp only [Act.put, List.setIfInBounds_toArray, List.set_cons_zero, List.set_cons_succ] at hQ
              go_wp2_with (fail)
              exact hQ _ _ rfl (hJ.other rfl hf (by decide) (by decide) (by decide))
            simp only [Act.put, List.setIfInBounds_toArray, List.set_cons_zero, List.set_cons_succ]
            apply wpJ_op rfl (by rfl)
            · intro f w1 hf hJ Q1 hQ
              have hC : f 7 = false := path_no hJ.1 [6] (by kernel_rfl) (by decide) hf.1
              have hS : f 10 = false := path_no hJ.1 [7] (by kernel_rfl) (by decide) hC
              rw [hJ.atA hf.1 hC hS]
              simp only [Act.put, List.setIfInBounds_toArray, List.set_cons_zero, List.set_cons_succ] at hQ
              go_wp2_with (fail)
              exact hQ _ _ rfl (hJ.goA rfl hf hC hS (by decide) (by decide))
            simp only [Act.put, List.setIfInBounds_toArray, List.set_cons_zero, List.set_cons_succ]
            apply wpJ_op rfl (by rfl)
            · intro f w1 hf hJ Q1 hQ
              have hS : f 10 = false := path_no hJ.1 [7] (by kernel_rfl) (by decide) hf.1
              have hA : f 6 = true := up_dep hf 6 (by kernel_rfl)
              rw [hJ.atC hA hf.1 hS]
              simp only [Act.put, List.setIfInBounds_toArray, List.set_cons_zero, List.set_cons_succ] at hQ
              go_wp2_with (at_builtin; refine wp_appX rfl _ _ 60 rfl rfl rfl hrun ?_)
              exact hQ _ _ rfl (hJ.goC rfl hf hS (by decide))
            simp only [Act.put, List.setIfInBounds_toArray, List.set_cons_zero, List.set_cons_succ]
            apply wpJ_op rfl (by rfl)
            · intro f w1 hf hJ Q1 hQ
              simp only [Act.put, List.setIfInBounds_toArray, List.set_cons_zero, List.set_cons_succ] at hQ
              go_wp2_with (fail)
              exact hQ _ _ rfl (hJ.other rfl hf (by decide) (by decide) (by decide))
            simp only [Act.put, List.setIfInBounds_toArray, List.set_cons_zero, List.set_cons_succ]
            apply wpJ_op rfl (by rfl)
            · intro f w1 hf hJ Q1 hQ
              simp only [Act.put, List.setIfInBounds_toArray, List.set_cons_zero, List.set_cons_succ] at hQ
              go_wp2_with (fail)
              exact hQ _ _ rfl (hJ.other rfl hf (by decide) (by decide) (by decide))
            simp only [Act.put, List.setIfInBounds_toArray, List.set_cons_zero, List.set_cons_succ]
            apply wpJ_op rfl (by rfl)
            · intro f w1 hf hJ Q1 hQ
              have hC : f 7 = true := up_dep hf 7 (by kernel_rfl)
              rw [hJ.atS hC hf.1]
              simp only [Act.put, List.setIfInBounds_toArray, List.set_cons_zero, List.set_cons_succ] at hQ
              go_wp2_with (fail)
              exact hQ _ _ rfl (hJ.goS rfl hf)
            simp only [Act.put, List.setIfInBounds_toArray, List.set_cons_zero, List.set_cons_succ]
            apply wpJ_op rfl (by rfl)
            · intro f w1 hf hJ Q1 hQ
              simp only [Act.put, List.setIfInBounds_toArray, List.set_cons_zero, List.set_cons_succ] at hQ
              go_wp2_with (fail)
              exact hQ _ _ rfl (hJ.other rfl hf (by decide) (by decide) (by decide))
            simp only [Act.put, List.setIfInBounds_toArray, List.set_cons_zero, List.set_cons_succ]
            refine wpJ_nil ?_
            intro w9 hJ9
            rw [hJ9.fin rfl]
            clear hJ9
            go_wp2_with (fail)
            obtain ⟨b', hI3, hu3, hb3⟩ := HA.out
            rw [← HCC.out] at hu3 hb3
            obtain ⟨a3, c3, rfl⟩ := hI3.slice
            have H3 := Lib.hid (And.intro hI3 (And.intro hu3 hb3))
            have hszr := B_size r
            have hlt : (B r).size < bc.size := by rw [hszr, HB1.out]; simp only [List.length_cons]; omega
            clear hI3 hu3 hb3 hszr
            go_roundw
            case rel =>
              refine ⟨a3, _, c3, r, rfl, rfl, Lib.hid ⟨done ++ [UInt8.ofNat (16 * p1 + p2).toNat], b', hesc.out, H3.out.1, fun g hg => ?_, ?_, ?_⟩⟩
              · rcases H3.out.2.2 g hg with h | h
                · exact HL.out.2.2.1 g h
                · have h1 := HL.out.2.2.2.1.size
                  have h2 := HW0.out.size
                  simp [World.drew] at h
                  omega
              · have h0 := HL.out.2.2.2.1.trans (HW0.out.mono HL.out.2.2.2.1.size)
                have h2 := (h0.alloc h0.size (.cells #[.int .u8 ((UInt8.ofNat (16 * p1 + p2).toNat).toNat : Int)] 5)).drew
                exact h2.trans (H3.out.2.1.below h2.size (fun k hk => HL.out.2.2.1 k hk))
              · have := HL.out.2.2.2.2
                simp at this ⊢
                omega
            case measure => exact hlt
          · have hP := Lib.hid (fun w' => UnqV.none (l := l) (t := []) (w := w) (w' := w') (b := false) (HL.out.1.bad HQ.out.1 (unqF_bad _ _ _ hg)) rfl)
            have hg' : hexv x < 0 ∨ (0 ≤ hexv x ∧ hexv y < 0) := by omega
            clear hg
            generalize hexv x = p1 at *
            generalize hexv y = p2 at *
            rcases hg' with hg1 | ⟨hg1, hg2⟩
            all_goals
              go_wp2_with (fail)
              go_quiet ((first
                | (go_at_call 96; exact Calls.quiet_of_same ((s1 _).mono fun e w2 ⟨h1, h2⟩ => ⟨h1, h2⟩))
                | (go_at_call 96; exact Calls.quiet_of_same ((s2 _).mono fun e w2 ⟨h1, h2⟩ => ⟨h1, h2⟩))))
              go_wp2_with (fail)
              go_ret2
              exact hP.out _ (below_drewN HL.out.2.2.2.1 _)
      · have u1 : ((c.toNat : Int) == 92) = decide (c = 92) := u8_eq c 92 (by omega)
        have u2 : ((c.toNat : Int) != 92) = !decide (c = 92) := by rw [← u1]; rfl
        rw [decide_eq_false hc] at u1 u2
        have HC := Lib.hid hc
        clear hc hd3
        have HB1 := Lib.hid hsr
        clear hsr
        generalize hbc : B (c :: r) = bc at *
        clear hbc
        obtain ⟨v', WC, hrun, hA⟩ := app_run (P := Tryz.prog) (w := (wr.alloc (.cells #[.int .u8 c.toNat] 5)).drew) (S := 60) 60 (.int .u8 0) 1 1 infoU8' rfl (by decide) (by decide) Tryz.underlying60 ((HL.out.2.1.alloc (.cells #[.int .u8 c.toNat] 5)).below ((Below.refl _ _).drew)) ⟨wr.heap.size, 0, none⟩ 1 1 [.int .u8 c.toNat] rfl (new_row (W := wr) (cs := [.int .u8 c.toNat]) rfl) (by intro u hu; simp at hu; subst hu; rfl) (by have := HL.out.2.2.2.2; simp only [List.length_cons] at this; omega)
        have hA2 := BRow.app hA
        have HA := Lib.hid hA2
        clear hA hA2
        go_wp2_with (fail)
        refine region_K 3 4 7 wr.drew ((wr.alloc (.cells #[.int .u8 c.toNat] 5)).drew) WC WC rfl (by kernel_rfl) (by kernel_rfl) ?_
        apply wpJ_op rfl (by rfl)
        · intro f w1 hf hJ Q1 hQ
          simp only [Act.put, List.setIfInBounds_toArray, List.set_cons_zero, List.set_cons_succ] at hQ
          go_wp2_with (fail)
          exact hQ _ _ rfl (hJ.other rfl hf (by decide) (by decide) (by decide))
        simp only [Act.put, List.setIfInBounds_toArray, List.set_cons_zero, List.set_cons_succ]
        apply wpJ_op rfl (by rfl)
        · intro f w1 hf hJ Q1 hQ
          simp only [Act.put, List.setIfInBounds_toArray, List.set_cons_zero, List.set_cons_succ] at hQ
          go_wp2_with (fail)
          exact hQ _ _ rfl (hJ.other rfl hf (by decide) (by decide) (by decide))
        simp only [Act.put, List.setIfInBounds_toArray, List.set_cons_zero, List.set_cons_succ]
        apply wpJ_op rfl (by rfl)
        · intro f w1 hf hJ Q1 hQ
          simp only [Act.put, List.setIfInBounds_toArray, List.set_cons_zero, List.set_cons_succ] at hQ
          go_wp2_with (fail)
          exact hQ _ _ rfl (hJ.other rfl hf (by decide) (by decide) (by decide))
        simp only [Act.put, List.setIfInBounds_toArray, List.set_cons_zero, List.set_cons_succ]
        apply wpJ_op rfl (by rfl)
        · intro f w1 hf hJ Q1 hQ
          have hC : f 4 = false := path_no hJ.1 [3] (by kernel_rfl) (by decide) hf.1
          have hS : f 7 = false := path_no hJ.1 [4] (by kernel_rfl) (by decide) hC
          rw [hJ.atA hf.1 hC hS]
          simp only [Act.put, List.setIfInBounds_toArray, List.set_cons_zero, List.set_cons_succ] at hQ
          go_wp2_with (fail)
          exact hQ _ _ rfl (hJ.goA rfl hf hC hS (by decide) (by decide))
        simp only [Act.put, List.setIfInBounds_toArray, List.set_cons_zero, List.set_cons_succ]
        apply wpJ_op rfl (by rfl)
        · intro f w1 hf hJ Q1 hQ
          have hS : f 7 = false := path_no hJ.1 [4] (by kernel_rfl) (by decide) hf.1
          have hA : f 3 = true := up_dep hf 3 (by kernel_rfl)
          rw [hJ.atC hA hf.1 hS]
          simp only [Act.put, List.setIfInBounds_toArray, List.set_cons_zero, List.set_cons_succ] at hQ
          go_wp2_with (at_builtin; refine wp_appX rfl _ _ 60 rfl rfl rfl hrun ?_)
          exact hQ _ _ rfl (hJ.goC rfl hf hS (by decide))
        simp only [Act.put, List.setIfInBounds_toArray, List.set_cons_zero, List.set_cons_succ]
        apply wpJ_op rfl (by rfl)
        · intro f w1 hf hJ Q1 hQ
          simp only [Act.put, List.setIfInBounds_toArray, List.set_cons_zero, List.set_cons_succ] at hQ
          go_wp2_with (fail)
          exact hQ _ _ rfl (hJ.other rfl hf (by decide) (by decide) (by decide))
        simp only [Act.put, List.setIfInBounds_toArray, List.set_cons_zero, List.set_cons_succ]
        apply wpJ_op rfl (by rfl)
        · intro f w1 hf hJ Q1 hQ
          simp only [Act.put, List.setIfInBounds_toArray, List.set_cons_zero, List.set_cons_succ] at hQ
          go_wp2_with (fail)
          exact hQ _ _ rfl (hJ.other rfl hf (by decide) (by decide) (by decide))
        simp only [Act.put, List.setIfInBounds_toArray, List.set_cons_zero, List.set_cons_succ]
        apply wpJ_op rfl (by rfl)
        · intro f w1 hf hJ Q1 hQ
          have hC : f 4 = true := up_dep hf 4 (by kernel_rfl)
          rw [hJ.atS hC hf.1]
          simp only [Act.put, List.setIfInBounds_toArray, List.set_cons_zero, List.set_cons_succ] at hQ
          go_wp2_with (fail)
          exact hQ _ _ rfl (hJ.goS rfl hf)
        simp only [Act.put, List.setIfInBounds_toArray, List.set_cons_zero, List.set_cons_succ]
        apply wpJ_op rfl (by rfl)
        · intro f w1 hf hJ Q1 hQ
          simp only [Act.put, List.setIfInBounds_toArray, List.set_cons_zero, List.set_cons_succ] at hQ
          go_wp2_with (fail)
          exact hQ _ _ rfl (hJ.other rfl hf (by decide) (by decide) (by decide))
        simp only [Act.put, List.setIfInBounds_toArray, List.set_cons_zero, List.set_cons_succ]
        refine wpJ_nil ?_
        intro w9 hJ9
        rw [hJ9.fin rfl]
        clear hJ9
        go_wp2_with (fail)
        obtain ⟨b', hI3, hu3, hb3⟩ := HA.out
        obtain ⟨a3, c3, rfl⟩ := hI3.slice
        have H3 := Lib.hid (And.intro hI3 (And.intro hu3 hb3))
        have hszr := B_size r
        have hlt : (B r).size < bc.size := by rw [hszr, HB1.out]; simp
        clear hI3 hu3 hb3 hszr
        go_roundw
        case rel =>
          refine ⟨a3, _, c3, r, rfl, rfl, Lib.hid ⟨done ++ [c], b', HL.out.1.plain HC.out, H3.out.1, fun g hg => ?_, ?_, ?_⟩⟩
          · rcases H3.out.2.2 g hg with h | h
            · exact HL.out.2.2.1 g h
            · have h1 := HL.out.2.2.2.1.size
              simp [World.drew] at h
              omega
          · have h1 := HL.out.2.2.2.1
            have h2 := (h1.alloc h1.size (.cells #[.int .u8 c.toNat] 5)).drew
            exact h2.trans (H3.out.2.1.below h2.size (fun k hk => HL.out.2.2.1 k hk))
          · have := HL.out.2.2.2.2
            simp at this ⊢
            omega
        case measure => exact hlt
theorem unquote_is (l : Txt) (w : World) (hl : l.length ≤ 100000) : Calls Tryz.prog 82 #[.string (B l)] w (UnqV l w) := by
  cases hq : quoted l
  · exact unq_no l w hl hq
  · exact unq_yes l w hl hq
end Go.Proofs.YtefaaginedideaaGreatDoor
