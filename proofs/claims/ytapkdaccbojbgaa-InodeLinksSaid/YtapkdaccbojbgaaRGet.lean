/-
  The document's Get, Find.
-/
import Derived.Test.YtapkdaccbojbgaaRTab
namespace Go.Proofs.Ytapkdaccbojbgaa
set_option linter.unusedSimpArgs false
set_option linter.unusedVariables false
open Go.RowKit Own RegJ Two
open Go.Lib hiding intOf

theorem refC_0 (sb : Nat) (ns : NSt) (vs : Nat → Value) : (refC sb ns vs)[0]? = some (.pointer (some ⟨sb, 0, none⟩)) := by
  unfold refC refR
  simp only [List.getElem?_toArray, List.getElem?_cons_zero]
section
variable {w : World} {rb sb : Nat} {ns : NSt} {vs : Nat → Value} {rw' : Nat → Option Nat} {fl : List Int} {fb : Option Nat}
def findP (es : List En) (nm : Txt) (w : World) (e : Ending) (w' : World) : Prop := ((∃ (j : Nat) (x : En), es[j]? = some x ∧ x.1 = nm ∧ e = .returned (.tuple #[.int .i64 x.2, .int .i64 0])) ∨ ((∀ x ∈ es, x.1 ≠ nm) ∧ e = .returned (.tuple #[.int .i64 0, .int .i64 9]))) ∧ w = w'
set_option maxRecDepth 100000 in
theorem rFind_no (h : RT w rb sb ns vs rw' fl fb) (dir : Int) (nm : Txt) (hd : dirAt ns dir = none) : Calls Try.prog 44 #[.pointer (some ⟨rb, 0, none⟩), .int .i64 dir, .string (B nm)] w fun e w' => e = .returned (.tuple #[.int .i64 0, .int .i64 11]) ∧ w = w' := by
  have hs := rDir_is h dir
  rw [hd] at hs
  clear h hd
  generalize B nm = s at *
  go_enter Try.func44, Try.ntmps44
  go_wp2_with (go_at_call 47; refine hs.mono ?_; rintro e w' ⟨rfl, rfl⟩)
  go_returns
  exact ⟨rfl, rfl⟩
set_option maxRecDepth 100000 in
theorem rFind_yes (h : RT w rb sb ns vs rw' fl fb) (i : Nat) (nm : Txt) (nd : Nd) (hi : ns i = some nd) (hd : nd.dir = true) : Calls Try.prog 44 #[.pointer (some ⟨rb, 0, none⟩), .int .i64 i, .string (B nm)] w (findP nd.es nm w) := by
  have hs := rDir_is h i
  have hda : dirAt ns (i : Int) = some nd := by unfold dirAt ndAt; rw [if_pos (by omega)]; simp only [Int.toNat_natCast]; rw [hi]; simp [hd]
  rw [hda] at hs
  obtain ⟨h16, _, _, _, _, c4⟩ := h.cells hi
  obtain ⟨hrow, h8⟩ := h.row i nd hi
  obtain ⟨a, c, hv⟩ := hrow.slice
  rw [List.length_map] at hv
  rw [hv] at c4 hrow
  have i1 : (i : Int) < 16 := by omega
  have i2 : (0 : Int) ≤ i := by omega
  have HRD := Lib.hid (hrow.rd)
  clear h hda hrow hd hv
  generalize hLL : nd.es.length = L at *
  have HL := Lib.hid hLL
  clear hLL
  obtain ⟨s, hs0⟩ : ∃ s, B nm = s := ⟨_, rfl⟩
  rw [hs0]
  have HS := Lib.hid hs0
  clear hs0
  go_enter Try.func44, Try.ntmps44
  go_wp2_with (go_at_call 47; refine hs.mono ?_; rintro e w' ⟨rfl, rfl⟩)
  go_loopw [8] (fun v8 wr => ∃ m : Nat, m ≤ L ∧ v8 = .int .i64 m ∧ Hid (∀ j x, j < m → nd.es[j]? = some x → x.1 ≠ nm) ∧ wr = w) (fun v8 _ => L - (intOf v8).toNat)
  case atStart => exact ⟨0, Nat.zero_le _, rfl, Lib.hid (fun j x hj => by omega), rfl⟩
  case round =>
    obtain ⟨m, hm, rfl, HA, rfl⟩ := hrel
    by_cases hml : m < L
    · have d5 : decide ((m : Int) < (L : Int)) = true := by simp; omega
      have d5n : decide (m < L) = true := by simp; omega
      have i5 : (m : Int) < (L : Int) := by omega
      have i6 : (0 : Int) ≤ m := by omega
      obtain ⟨y, hy⟩ : ∃ y, nd.es[m]? = some y := ⟨_, List.getElem?_eq_getElem (by rw [HL.out]; exact hml)⟩
      obtain ⟨g, rfl, r1, r2⟩ := HRD.out m (enV y) (by rw [List.getElem?_map, hy]; rfl)
      have r1' : wr.cell? ⟨g, m * 2, none⟩ = some (.string (B y.1)) := r1
      have r2' : wr.cell? ⟨g, m * 2 + 1, none⟩ = some (.int .i64 y.2) := r2
      clear r1 r2
      have eql : ((B y.1).toList == s.toList) = decide (y.1 = nm) := by rw [← HS.out, B_list, B_list, beq_dec]
      have HY := Lib.hid hy
      clear hy
      by_cases hyn : y.1 = nm
      · rw [decide_eq_true hyn] at eql
        have HN := Lib.hid hyn
        clear hyn
        generalize B y.1 = sy at *
        go_wp2_with (fail)
        go_returns
        exact ⟨Or.inl ⟨m, y, HY.out, HN.out, rfl⟩, rfl⟩
      · rw [decide_eq_false hyn] at eql
        have HN := Lib.hid hyn
        clear hyn
        generalize B y.1 = sy at *
        go_wp2_with (fail)
        go_roundw
        case rel => exact ⟨m + 1, by omega, by go_num, Lib.hid (fun j x hj hx => by
          by_cases hjm : j < m
          · exact HA.out j x hjm hx
          · obtain rfl : j = m := by omega
            rw [HY.out] at hx; cases hx; exact HN.out), by trivial⟩
        case measure => simp [intOf]; omega
    · have d5 : decide ((m : Int) < (L : Int)) = false := by simp; omega
      have d5n : decide (m < L) = false := by simp; omega
      have HM := Lib.hid (show L ≤ m by omega)
      go_wp2_with (fail)
      go_returns
      refine ⟨Or.inr ⟨fun x hx => ?_, rfl⟩, rfl⟩
      obtain ⟨k, hk, he⟩ := List.getElem_of_mem hx
      exact HA.out k x (by have := HM.out; rw [HL.out] at hk; omega) (by rw [List.getElem?_eq_getElem hk, he])
set_option maxRecDepth 100000 in
theorem rGet_any (h : RT w rb sb ns vs rw' fl fb) (id : Int) : Calls Try.prog 45 #[.pointer (some ⟨rb, 0, none⟩), .int .i64 id] w fun e w' => e = .returned (getV ns id) ∧ Below w.heap.size w w' := by
  have hW := (Below.refl w.heap.size w).alloc (Nat.le_refl _) (.cells in0 41)
  have hT := h.below hW
  have hs := rIs_is hT id
  have hc0 := Blk.new w in0 41
  have c0 := hc0.rd
  have f0 := hc0.nf
  cases hx : ndAt ns id with
  | none =>
    rw [hx] at hs
    have HX := Lib.hid hx
    clear h hT hx
    go_enter Try.func45, Try.ntmps45
    go_wp2_with (go_at_call 46; refine hs.mono ?_; rintro e w1 ⟨rfl, rfl⟩)
    have hf := (((hc0.set 0 (.int .i64 0)).set 1 (.int .i64 0)).set 2 (.bool false)).set 3 (.int .i64 0)
    refine bodyPost_ret (v := .tuple #[.agg in0, .bool false]) (by simp [results, Try.results45, go_sem, hf.rd]) rfl ?_
    exact ⟨by unfold getV; rw [HX.out], hW⟩
  | some nd =>
    rw [hx] at hs
    obtain ⟨i, rfl, hi⟩ := ndAt_some hx
    obtain ⟨h16, c1, c2, c3, c4, c5⟩ := hT.cells hi
    obtain ⟨hrow, h8⟩ := hT.row i nd hi
    obtain ⟨a, c, hv⟩ := hrow.slice
    rw [List.length_map] at hv
    rw [hv] at c5
    have i1 : (i : Int) < 16 := by omega
    have i2 : (0 : Int) ≤ i := by omega
    have HX := Lib.hid (And.intro hx (And.intro hi hT))
    cases hd : nd.dir with
    | true =>
      rw [hd] at c2
      have hsz : (nd.es.length : Int) = sizeN nd := by unfold sizeN; rw [if_pos hd]
      have HD := Lib.hid (And.intro hsz hd)
      clear h hT hx hi hd hsz hrow hv
      generalize hnn : nd.es.length = n at *
      generalize hLL : nd.links = L at *
      generalize nd.opens = O at *
      have HE := Lib.hid (And.intro hnn hLL)
      clear hnn hLL
      go_enter Try.func45, Try.ntmps45
      go_wp2_with (go_at_call 46; refine hs.mono ?_; rintro e w1 ⟨rfl, rfl⟩)
      have hf := (Blk.new w #[.int .i64 i, .int .i64 L, .bool true, .int .i64 n] 41).alloc (.cells #[.bool true, .bool true, .int .i64 L, .int .i64 O, .slice a n c] 97)
      refine bodyPost_ret (v := .tuple #[.agg #[.int .i64 i, .int .i64 L, .bool true, .int .i64 n], .bool true]) (by simp [results, Try.results45, go_sem, hf.rd]) rfl ?_
      refine ⟨?_, ((Upd.refl (fun _ => False) w).alloc _).alloc _ |>.below (Nat.le_refl _) (fun _ h => h.elim)⟩
      unfold getV
      rw [HX.out.1]
      simp only
      rw [HE.out.2, HD.out.2, ← HD.out.1]
    | false =>
      rw [hd] at c2
      have hsz : (0 : Int) = sizeN nd := by unfold sizeN; rw [if_neg (by rw [hd]; simp)]
      have HD := Lib.hid (And.intro hsz hd)
      have hT2 := hT.below ((Below.refl _ _).alloc (Nat.le_refl _) (.cells #[.bool true, .bool false, .int .i64 nd.links, .int .i64 nd.opens, .slice a nd.es.length c] 97))
      have hss := ssize_is hT2.sto (by have := hT2.len; omega) i
      have c6 : ((w.alloc (.cells in0 41)).alloc (.cells #[.bool true, .bool false, .int .i64 nd.links, .int .i64 nd.opens, .slice a nd.es.length c] 97)).cell? ⟨rb, 0, none⟩ = some (.pointer (some ⟨sb, 0, none⟩)) := by rw [hT2.tab.rd]; exact refC_0 sb ns vs
      clear h hT hx hi hd hsz hrow hv hT2
      generalize hnn : nd.es.length = n at *
      generalize hLL : nd.links = L at *
      generalize nd.opens = O at *
      have HE := Lib.hid (And.intro hnn hLL)
      clear hnn hLL
      go_enter Try.func45, Try.ntmps45
      go_wp2_with (first
        | (go_at_call 46; refine hs.mono ?_; rintro e w1 ⟨rfl, rfl⟩)
        | (go_at_call 61; refine hss.mono ?_; rintro e w1 ⟨⟨r, rfl⟩, rfl⟩))
      have hf := (Blk.new w #[.int .i64 i, .int .i64 L, .bool false, .int .i64 0] 41).alloc (.cells #[.bool true, .bool false, .int .i64 L, .int .i64 O, .slice a n c] 97)
      refine bodyPost_ret (v := .tuple #[.agg #[.int .i64 i, .int .i64 L, .bool false, .int .i64 0], .bool true]) (by simp [results, Try.results45, go_sem, hf.rd]) rfl ?_
      refine ⟨?_, ((Upd.refl (fun _ => False) w).alloc _).alloc _ |>.below (Nat.le_refl _) (fun _ h => h.elim)⟩
      unfold getV
      rw [HX.out.1]
      simp only
      rw [HE.out.2, HD.out.2, ← HD.out.1]
end
end Go.Proofs.Ytapkdaccbojbgaa
