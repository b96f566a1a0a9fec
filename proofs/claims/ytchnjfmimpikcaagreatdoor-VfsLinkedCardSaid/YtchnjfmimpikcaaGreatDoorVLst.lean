/-
  List at the program's vfs, where it names no directory.
-/
import Derived.Test.YtchnjfmimpikcaaGreatDoorVSta
namespace Go.Proofs.YtchnjfmimpikcaaGreatDoor
set_option linter.unusedSimpArgs false
set_option linter.unusedVariables false
open Go.RowKit Own RegJ Two
open Go.Lib hiding intOf
section
variable {w w' : World} {vb tb : Nat} {ns ns' : NSt} {lo lo' : Lo} {N c d : Nat}
set_option maxRecDepth 100000 in
theorem lst_err [Inhabited CapT] (h : VV w vb tb ns lo c) (l : Txt) (hl : l.length ≤ 100000) (a e0 : Int) (hw : walkR ns l = (a, e0)) (he : e0 ≠ 0) :
    Calls Tryz.prog 23 #[.pointer (some ⟨vb, 0, none⟩), .string (B l)] w fun e w' => e = .returned (.tuple #[.slice none 0 0, .int .i64 e0]) ∧ Below w.heap.size w w' := by
  have hwk := walk_is h.1 l hl a e0 hw
  clear h hl hw
  generalize B l = L at *
  go_enter Tryz.func23, Tryz.ntmps23
  go_wp2_with (go_at_call 11; (with_reducible refine hwk.mono ?_); rintro e w1 ⟨rfl, hB⟩; have H1 := Lib.hid hB; clear hB hwk)
  go_returns
  exact ⟨rfl, H1.out⟩
set_option maxRecDepth 100000 in
theorem lst_no [Inhabited CapT] (h : VV w vb tb ns lo c) (l : Txt) (hl : l.length ≤ 100000) (a : Int) (hw : walkR ns l = (a, 0)) (hd : dirAt ns a = none) :
    Calls Tryz.prog 23 #[.pointer (some ⟨vb, 0, none⟩), .string (B l)] w fun e w' => e = .returned (.tuple #[.slice none 0 0, .int .i64 11]) ∧ Below w.heap.size w w' := by
  have hwk := walk_is h.1 l hl a 0 hw
  have H := Lib.hid (And.intro h hd)
  clear h hl hw hd
  generalize B l = L at *
  go_enter Tryz.func23, Tryz.ntmps23
  go_wp2_with (first
    | (go_at_call 11; (with_reducible refine hwk.mono ?_); rintro e w1 ⟨rfl, hB⟩; have h1 := H.out.1.below hB; have c1 := h1.1.cell; have hls := list_no h1.1.2.1 a H.out.2; have H1 := Lib.hid hB; clear hB hwk h1)
    | (go_at_call 68; (with_reducible refine hls.mono ?_); rintro e w2 ⟨rfl, rfl⟩; clear hls))
  go_returns
  exact ⟨rfl, H1.out⟩
/-- the walk of List where the path names a directory, in front of any end -/
theorem lst_yes [Inhabited CapT] (h : VV w vb tb ns lo c) (l : Txt) (hl : l.length ≤ 100000) (i : Nat) (nd : Nd) (hi : ns i = some nd) (hd : nd.dir = true) (hw : walkR ns l = ((i : Int), 0)) :
    Calls Tryz.prog 23 #[.pointer (some ⟨vb, 0, none⟩), .string (B l)] w fun e w' => ∃ w1, Below w.heap.size w w1 ∧ ListP nd.es w1 e w' := by
  have hwk := walk_is h.1 l hl i 0 hw
  have H := Lib.hid (And.intro h (And.intro hi hd))
  clear h hl hw hi hd
  have hcon : ∀ w1, Below w.heap.size w w1 → Calls Tryz.prog 68 #[.pointer (some ⟨tb, 0, none⟩), .int .i64 i] w1 (ListP nd.es w1) := fun w1 hB => list_yes (H.out.1.below hB).1.2.1 i nd H.out.2.1 H.out.2.2
  generalize B l = L at *
  generalize (i : Int) = I at *
  generalize nd.es = es at *
  go_enter Tryz.func23, Tryz.ntmps23
  go_wp2_with (first
    | (go_at_call 11; (with_reducible refine hwk.mono ?_); rintro e w1 ⟨rfl, hB⟩; have c1 := (H.out.1.below hB).1.cell; have hls := hcon w1 hB; have H1 := Lib.hid hB; clear hB hwk)
    | (go_at_call 68; (with_reducible refine hls.mono ?_); rintro e w2 ⟨v, b, rfl, hr, hb, hB2⟩; have H2 := Lib.hid (And.intro hr (And.intro hb hB2)); clear hls hr hb hB2))
  go_returns
  exact ⟨w1, H1.out, v, b, rfl, H2.out.1, H2.out.2.1, H2.out.2.2⟩
/-- List of a vfs of the call's own -/
def DLst [Inhabited CapT] (w0 : World) (vb tb fb sb : Nat) (ns : NSt) (c : Nat) (es : List En) (w : World) (e : Ending) (w' : World) : Prop := ∃ v b, e = .returned (.tuple #[v, .int .i64 0]) ∧ Row2 w' 118 v (es.map enV) b ∧ (∀ g, b = some g → w.heap.size ≤ g) ∧ DV w0 vb tb fb sb ns c w'
theorem d_list [Inhabited CapT] {w0 : World} {fb sb : Nat} (h : DV w0 vb tb fb sb ns c w) (l : Txt) (hl : l.length ≤ 100000) (i : Nat) (nd : Nd) (hi : ns i = some nd) (hd : nd.dir = true) (hw : walkR ns l = ((i : Int), 0)) (s : ByteArray) (hs : s = B l) :
    Calls Tryz.prog 23 #[.pointer (some ⟨vb, 0, none⟩), .string s] w (DLst w0 vb tb fb sb ns c nd.es w) := by
  subst hs
  have h' := h
  obtain ⟨lo, h1, h2, h3⟩ := h
  refine (lst_yes h1 l hl i nd hi hd hw).mono ?_
  rintro e w' ⟨w1, hB, v, b, rfl, hr, hb, hB2⟩
  exact ⟨v, b, rfl, hr, fun g hg => Nat.le_trans hB.size (hb g hg), h'.below (hB.trans (hB2.mono hB.size))⟩
theorem d_list_no [Inhabited CapT] {w0 : World} {fb sb : Nat} (h : DV w0 vb tb fb sb ns c w) (l : Txt) (hl : l.length ≤ 100000) (a e0 r : Int) (hw : walkR ns l = (a, e0)) (hr : (e0 ≠ 0 ∧ r = e0) ∨ (e0 = 0 ∧ dirAt ns a = none ∧ r = 11)) (s : ByteArray) (hs : s = B l) :
    Calls Tryz.prog 23 #[.pointer (some ⟨vb, 0, none⟩), .string s] w (DP w0 vb tb fb sb ns c (.tuple #[.slice none 0 0, .int .i64 r])) := by
  subst hs
  have h' := h
  obtain ⟨lo, h1, h2, h3⟩ := h
  rcases hr with ⟨he, rfl⟩ | ⟨rfl, hd, rfl⟩
  · refine (lst_err h1 l hl a _ hw he).mono ?_
    rintro e w' ⟨rfl, hB⟩
    exact ⟨rfl, h'.below hB⟩
  · refine (lst_no h1 l hl a hw hd).mono ?_
    rintro e w' ⟨rfl, hB⟩
    exact ⟨rfl, h'.below hB⟩
end
end Go.Proofs.YtchnjfmimpikcaaGreatDoor
