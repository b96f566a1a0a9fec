/-
  Where a name stands in a directory; the node that it names.
-/
import Derived.Test.YtchnjfmimpikcaaDoorIIns
namespace Go.Proofs.YtchnjfmimpikcaaDoor
set_option linter.unusedSimpArgs false
set_option linter.unusedVariables false
open Go.RowKit Own RegJ Two
open Go.Lib hiding intOf

def dirAt (ns : Nat → Option Nd) (id : Int) : Option Nd := match ndAt ns id with | some nd => if nd.dir = true then some nd else none | none => none
theorem dirAt_some {ns : Nat → Option Nd} {id : Int} {nd : Nd} (h : dirAt ns id = some nd) : ∃ i : Nat, id = i ∧ ns i = some nd ∧ nd.dir = true := by
  unfold dirAt ndAt at h
  by_cases h0 : 0 ≤ id
  · rw [if_pos h0] at h
    refine ⟨id.toNat, by omega, ?_⟩
    cases hn : ns id.toNat with
    | none => rw [hn] at h; cases h
    | some m =>
      rw [hn] at h
      simp only at h
      split at h
      · rename_i hd; cases h; exact ⟨rfl, hd⟩
      · cases h
  · rw [if_neg h0] at h; cases h
section
variable {w : World} {tb : Nat} {ns : Nat → Option Nd} {lo : Lo} {N : Nat}
set_option maxRecDepth 100000 in
theorem find_no [Inhabited CapT] (h : TB w tb ns lo N) (dir : Int) (nm : Txt) (hd : dirAt ns dir = none) : Calls Tryd.prog 61 #[.pointer (some ⟨tb, 0, none⟩), .int .i64 dir, .string (B nm)] w fun e w' => e = .returned (.tuple #[.int .i64 0, .bool false, .int .i64 11]) ∧ w = w' := by
  cases hx : ndAt ns dir with
  | none =>
    have hg := get_is h dir none (by rw [hx])
    unfold ptr at hg
    clear h hx hd
    generalize B nm = s at *
    go_enter Tryd.func61, Tryd.ntmps61
    go_wp2_with (go_at_call 36; refine hg.mono ?_; rintro e w' ⟨rfl, rfl⟩)
    go_returns
    exact ⟨rfl, rfl⟩
  | some nd =>
    have hdf : nd.dir = false := by
      unfold dirAt at hd; rw [hx] at hd
      simp only at hd
      split at hd
      · cases hd
      · rename_i e; simpa using e
    have hns : ns dir.toNat = some nd := by
      unfold ndAt at hx
      split at hx
      · exact hx
      · cases hx
    obtain ⟨k, v, k1, k2, _⟩ := h.node _ _ hns
    have hg := get_is h dir (some k) (by rw [hx]; exact k1)
    unfold ptr at hg
    have c1 := k2.rd
    rw [hdf] at c1
    clear h hx hd k2 k1 hns hdf
    generalize B nm = s at *
    go_enter Tryd.func61, Tryd.ntmps61
    go_wp2_with (go_at_call 36; refine hg.mono ?_; rintro e w' ⟨rfl, rfl⟩)
    go_returns
    exact ⟨rfl, rfl⟩
set_option maxRecDepth 100000 in
theorem find_yes [Inhabited CapT] (h : TB w tb ns lo N) (i : Nat) (nm : Txt) (nd : Nd) (hi : ns i = some nd) (hd : nd.dir = true) : Calls Tryd.prog 61 #[.pointer (some ⟨tb, 0, none⟩), .int .i64 i, .string (B nm)] w fun e w' => ∃ j : Nat, e = .returned (.tuple #[.int .i64 j, .bool (isAt nd.es nm j), .int .i64 0]) ∧ At nd.es nm j ∧ Below w.heap.size w w' := by
  obtain ⟨k, v, k1, k2, k3, k4, k5⟩ := h.node _ _ hi
  obtain ⟨a, c, rfl⟩ := k3.slice
  have hg := get_is h i (some k) (by unfold ndAt; rw [if_pos (by omega)]; simp only [Int.toNat_natCast]; rw [hi]; exact k1)
  unfold ptr at hg
  have c1 := k2.rd
  rw [hd] at c1
  have hs := search_is (w := w) (nd.es.map enV).length c k3.rd (by rw [List.length_map]) (by rw [List.length_map]; omega) k5 nm 0
  generalize (nd.es.map enV).length = n at *
  clear h hi k3 k2 k1 hd
  generalize B nm = s at *
  go_enter Tryd.func61, Tryd.ntmps61
  go_wp2_with (first
    | (go_at_call 36; refine hg.mono ?_; rintro e w' ⟨rfl, rfl⟩)
    | (go_at_call 73; refine hs.mono ?_; rintro e w1 ⟨j, rfl, hA, hB⟩; have HA := Lib.hid (And.intro hA hB); clear hA hB hs))
  go_returns
  exact ⟨j, rfl, HA.out.1, HA.out.2⟩
set_option maxRecDepth 100000 in
theorem tfind_no [Inhabited CapT] (h : TB w tb ns lo N) (dir : Int) (nm : Txt) (hd : dirAt ns dir = none) : Calls Tryd.prog 41 #[.pointer (some ⟨tb, 0, none⟩), .int .i64 dir, .string (B nm)] w fun e w' => e = .returned (.tuple #[.int .i64 0, .int .i64 11]) ∧ w = w' := by
  have hf := find_no h dir nm hd
  clear h hd
  generalize B nm = s at *
  go_enter Tryd.func41, Tryd.ntmps41
  go_wp2_with (go_at_call 61; refine hf.mono ?_; rintro e w' ⟨rfl, rfl⟩)
  go_returns
  exact ⟨rfl, rfl⟩
set_option maxRecDepth 100000 in
theorem tfind_yes [Inhabited CapT] (h : TB w tb ns lo N) (i : Nat) (nm : Txt) (nd : Nd) (hi : ns i = some nd) (hd : nd.dir = true) : Calls Tryd.prog 41 #[.pointer (some ⟨tb, 0, none⟩), .int .i64 i, .string (B nm)] w fun e w' => (∃ j : Nat, At nd.es nm j ∧ ((isAt nd.es nm j = false ∧ e = .returned (.tuple #[.int .i64 0, .int .i64 9])) ∨ ∃ x, nd.es[j]? = some x ∧ x.1 = nm ∧ e = .returned (.tuple #[.int .i64 x.2, .int .i64 0]))) ∧ Below w.heap.size w w' := by
  have hf := find_yes h i nm nd hi hd
  have H := Lib.hid (And.intro h hi)
  clear h hi
  generalize hs : B nm = s at *
  clear hs
  go_enter Tryd.func41, Tryd.ntmps41
  go_upto_region 2 with (go_at_call 61; refine hf.mono ?_; rintro e w1 ⟨j, rfl, hA, hB⟩; have HA := Lib.hid (And.intro hA hB); clear hA hB hf)
  cases hia : isAt nd.es nm j with
  | false =>
    have HI := Lib.hid hia
    clear hia
    go_wp2_with (fail)
    go_returns
    exact ⟨⟨j, HA.out.1, Or.inl ⟨HI.out, rfl⟩⟩, HA.out.2⟩
  | true =>
    obtain ⟨x, hx, hxn⟩ : ∃ x, nd.es[j]? = some x ∧ x.1 = nm := by
      unfold isAt at hia
      split at hia
      · rename_i x hx; exact ⟨x, hx, by simpa using hia⟩
      · cases hia
    have hT := H.out.1.below HA.out.2
    obtain ⟨k, v, k1, k2, k3, k4, k5⟩ := hT.node _ _ H.out.2
    obtain ⟨a, c, rfl⟩ := k3.slice
    have hg := get_is hT i (some k) (by unfold ndAt; rw [if_pos (by omega)]; simp only [Int.toNat_natCast]; rw [H.out.2]; exact k1)
    unfold ptr at hg
    obtain ⟨g, rfl, r1, r2⟩ := k3.rd j (enV x) (by rw [List.getElem?_map, hx]; rfl)
    have hjl : j < (nd.es.map enV).length := by rw [List.length_map]; exact (List.getElem?_eq_some_iff.1 hx).1
    generalize (nd.es.map enV).length = n at *
    have i1 : (j : Int) < (n : Int) := by omega
    have i2 : (0 : Int) ≤ j := by omega
    have c1 := k2.rd
    have r2' : w1.cell? ⟨g, j * 2 + 1, none⟩ = some (.int .i64 x.2) := r2
    have HX := Lib.hid (And.intro hx hxn)
    clear hia hT k3 k2 k1 hx hxn r1 r2
    go_wp2_with (go_at_call 36; refine hg.mono ?_; rintro e w' ⟨rfl, rfl⟩)
    go_returns
    exact ⟨⟨j, HA.out.1, Or.inr ⟨x, HX.out.1, HX.out.2, rfl⟩⟩, HA.out.2⟩
end
end Go.Proofs.YtchnjfmimpikcaaDoor
