/-
  The document's store: Write, the cases that write nothing; pieces of the other.
-/
import Derived.Test.YtchnjfmimpikcaaGreatDoorQDr
import Derived.Laws.CopyOwn
namespace Go.Proofs.YtchnjfmimpikcaaGreatDoor
set_option linter.unusedSimpArgs false
set_option linter.unusedVariables false
open Go.RowKit Own RegC Three Two
open RegJ hiding Up
open RegF hiding put_size

theorem cells3_set1 : ∀ (xs : List V3) (k : Nat) (x : V3) (a : Value), xs[k]? = some x → cells3 (xs.set k (x.1, a, x.2.2)) = (cells3 xs).set (k * 3 + 1) a
  | [], _, _, _, h => by simp at h
  | y :: r, 0, x, a, h => by simp at h; subst h; simp [cells3]
  | y :: r, k + 1, x, a, h => by
    have ih := cells3_set1 r k x a (by simpa using h)
    have e : cells3 (y :: r) = y.1 :: y.2.1 :: y.2.2 :: cells3 r := rfl
    have e2 : cells3 (y :: r.set k (x.1, a, x.2.2)) = y.1 :: y.2.1 :: y.2.2 :: cells3 (r.set k (x.1, a, x.2.2)) := rfl
    rw [List.set_cons_succ, e2, ih, e, show (k + 1) * 3 + 1 = (k * 3 + 1) + 1 + 1 + 1 by omega]
    simp only [List.set_cons_succ]
theorem cells3_set2 : ∀ (xs : List V3) (k : Nat) (x : V3) (a : Value), xs[k]? = some x → cells3 (xs.set k (x.1, x.2.1, a)) = (cells3 xs).set (k * 3 + 2) a
  | [], _, _, _, h => by simp at h
  | y :: r, 0, x, a, h => by simp at h; subst h; simp [cells3]
  | y :: r, k + 1, x, a, h => by
    have ih := cells3_set2 r k x a (by simpa using h)
    have e : cells3 (y :: r) = y.1 :: y.2.1 :: y.2.2 :: cells3 r := rfl
    have e2 : cells3 (y :: r.set k (x.1, x.2.1, a)) = y.1 :: y.2.1 :: y.2.2 :: cells3 (r.set k (x.1, x.2.1, a)) := rfl
    rw [List.set_cons_succ, e2, ih, e, show (k + 1) * 3 + 2 = (k * 3 + 2) + 1 + 1 + 1 by omega]
    simp only [List.set_cons_succ]
theorem blk3_set1 {w : World} {g : Nat} {xs : List V3} {rest : List Value} {T : TypeId} (hB : Blk w g (cells3 xs ++ rest).toArray T) {k : Nat} {x : V3} (hx : xs[k]? = some x) (a : Value) : Blk (w.setCell ⟨g, k * 3 + 1, none⟩ a) g (cells3 (xs.set k (x.1, a, x.2.2)) ++ rest).toArray T := by
  refine Blk.of (hB.set _ _) ?_
  have hk := (List.getElem?_eq_some_iff.1 hx).1
  have hl := cells3_len xs
  rw [cells3_set1 xs k x a hx, List.setIfInBounds_toArray, List.set_append, if_pos (by omega)]
theorem blk3_set2 {w : World} {g : Nat} {xs : List V3} {rest : List Value} {T : TypeId} (hB : Blk w g (cells3 xs ++ rest).toArray T) {k : Nat} {x : V3} (hx : xs[k]? = some x) (a : Value) : Blk (w.setCell ⟨g, k * 3 + 2, none⟩ a) g (cells3 (xs.set k (x.1, x.2.1, a)) ++ rest).toArray T := by
  refine Blk.of (hB.set _ _) ?_
  have hk := (List.getElem?_eq_some_iff.1 hx).1
  have hl := cells3_len xs
  rw [cells3_set2 xs k x a hx, List.setIfInBounds_toArray, List.set_append, if_pos (by omega)]
/-- a source of bytes beside the document's side -/
def SrcD (w : World) (O : Nat → Prop) (v : Value) (b : List Int) : Prop := ∃ a c, v = .slice a b.length c ∧ b.length ≤ c ∧ (0 < b.length → ∃ g q, a = some ⟨g, q, none⟩ ∧ RdV w (some ⟨g, q, none⟩) (ucells b) ∧ ¬ O g ∧ g < w.heap.size)
section
variable {w w' : World} {O O' F : Nat → Prop} {sb fb tb bb n N fr : Nat} {fls : List Fil} {tk : List Bool} {back : List Int} {fs : Sfs} {v : Value} {g : Option Nat} {vals : List V3}
theorem qat_yes (h : SD w O sb fb tb bb n fls tk back fr) (hk : SCore n N fs fls tk back fr) (hN : N ≤ 1000) {j : Nat} {f : Fil} (hj : fls[j]? = some f) : Calls Tryz.prog 98 #[.pointer (some ⟨sb, 0, none⟩), .int .i64 f.id] w fun e w' => e = .returned (.int .i64 j) ∧ w = w' := by
  refine (qat_is h (by have := hk.most; omega) f.id).mono ?_
  rintro e w' ⟨⟨r, rfl, hq⟩, rfl⟩
  rcases hq with ⟨_, hno⟩ | ⟨k, g, rfl, hg, he⟩
  · exact absurd rfl (hno j f hj)
  · rw [hk.r3 k j g f hg hj he]; exact ⟨rfl, rfl⟩
theorem qat_no (h : SD w O sb fb tb bb n fls tk back fr) (hk : SCore n N fs fls tk back fr) (hN : N ≤ 1000) {id : Int} (hn : fsAt fs id = none) : Calls Tryz.prog 98 #[.pointer (some ⟨sb, 0, none⟩), .int .i64 id] w fun e w' => e = .returned (.int .i64 (-1)) ∧ w = w' := by
  refine (qat_is h (by have := hk.most; omega) id).mono ?_
  rintro e w' ⟨⟨r, rfl, hq⟩, rfl⟩
  rcases hq with ⟨rfl, hno⟩ | ⟨k, g, rfl, hg, rfl⟩
  · exact ⟨rfl, rfl⟩
  · rw [hk.some' hg] at hn; cases hn
theorem SCore.find (hk : SCore n N fs fls tk back fr) {id : Int} {bs : List Int} (h : fsAt fs id = some bs) : ∃ (j : Nat) (f : Fil), fls[j]? = some f ∧ f.id = id ∧ f.bs = bs := by
  obtain ⟨i, rfl, hi⟩ := fsAt_some h
  obtain ⟨j, f, hj, he⟩ := hk.r2 i bs hi
  have := (hk.r1 j f hj).2
  rw [he, Int.toNat_natCast, hi] at this
  exact ⟨j, f, hj, he, (Option.some.inj this).symm⟩
theorem SQ.same {r : Int} (h : SS w O sb n N fs) : SQ w O sb n N fs (.int .i64 r) (.returned (.int .i64 r)) w := ⟨rfl, h.mono (nx_keep (Nat.le_refl _)), Upd.refl _ _⟩
set_option maxRecDepth 100000 in
theorem qwrite_no (h : SS w O sb n N fs) (hN : N ≤ 1000) (id off : Int) (v : Value) (hn : fsAt fs id = none) : Calls Tryz.prog 62 #[.pointer (some ⟨sb, 0, none⟩), .int .i64 id, .int .i64 off, v] w (SQ w O sb n N fs (.int .i64 4)) := by
  have h0 := Lib.hid h
  obtain ⟨fb, tb, bb, fls, tk, back, fr, h, hk⟩ := h
  have ha := qat_no h hk.core hN hn
  clear h hk hn hN
  go_enter Tryz.func62, Tryz.ntmps62
  go_wp2_with (go_at_call 98; refine ha.mono ?_; rintro e w' ⟨rfl, rfl⟩; clear ha)
  go_ret
  exact SQ.same h0.out
set_option maxRecDepth 100000 in
theorem qwrite_neg (h : SS w O sb n N fs) (hN : N ≤ 1000) (id off : Int) (v : Value) (bs : List Int) (hn : fsAt fs id = some bs) (ho : off < 0) : Calls Tryz.prog 62 #[.pointer (some ⟨sb, 0, none⟩), .int .i64 id, .int .i64 off, v] w (SQ w O sb n N fs (.int .i64 19)) := by
  have h0 := Lib.hid h
  obtain ⟨fb, tb, bb, fls, tk, back, fr, h, hk⟩ := h
  obtain ⟨j, f, hj, rfl, -⟩ := hk.core.find hn
  have ha := qat_yes h hk.core hN hj
  have d1 : decide (off < 0) = true := by simpa using ho
  have d0 : decide ((j : Int) < 0) = false := by simp
  clear h hk hn hN hj ho
  generalize f.id = id at *
  go_enter Tryz.func62, Tryz.ntmps62
  go_wp2_with (go_at_call 98; refine ha.mono ?_; rintro e w' ⟨rfl, rfl⟩; clear ha)
  go_ret
  exact SQ.same h0.out
set_option maxRecDepth 100000 in
theorem qwrite_nil (h : SS w O sb n N fs) (hN : N ≤ 1000) (id off : Int) (a : Option Addr) (c : Nat) (bs : List Int) (hn : fsAt fs id = some bs) (ho : ¬ off < 0) : Calls Tryz.prog 62 #[.pointer (some ⟨sb, 0, none⟩), .int .i64 id, .int .i64 off, .slice a 0 c] w (SQ w O sb n N fs (.int .i64 0)) := by
  have h0 := Lib.hid h
  obtain ⟨fb, tb, bb, fls, tk, back, fr, h, hk⟩ := h
  obtain ⟨j, f, hj, rfl, -⟩ := hk.core.find hn
  have ha := qat_yes h hk.core hN hj
  have d1 : decide (off < 0) = false := by simpa using ho
  have d0 : decide ((j : Int) < 0) = false := by simp
  clear h hk hn hN hj ho
  generalize f.id = id at *
  go_enter Tryz.func62, Tryz.ntmps62
  go_wp2_with (go_at_call 98; refine ha.mono ?_; rintro e w' ⟨rfl, rfl⟩; clear ha)
  go_ret
  exact SQ.same h0.out
set_option maxRecDepth 100000 in
theorem qwrite_far (h : SS w O sb n N fs) (hN : N ≤ 1000) (id off : Int) (a : Option Addr) (bl c : Nat) (bs : List Int) (hn : fsAt fs id = some bs) (ho : ¬ off < 0) (hb : bl ≠ 0) (hbl : bl ≤ 1000000) (hf : 512 < bl ∨ 512 - (bl : Int) < off) : Calls Tryz.prog 62 #[.pointer (some ⟨sb, 0, none⟩), .int .i64 id, .int .i64 off, .slice a bl c] w (SQ w O sb n N fs (.int .i64 15)) := by
  have h0 := Lib.hid h
  obtain ⟨fb, tb, bb, fls, tk, back, fr, h, hk⟩ := h
  obtain ⟨j, f, hj, rfl, -⟩ := hk.core.find hn
  have ha := qat_yes h hk.core hN hj
  have d1 : decide (off < 0) = false := by simpa using ho
  have d0 : decide ((j : Int) < 0) = false := by simp
  have d2 : ((bl : Int) == 0) = false := by simpa using hb
  have d2n : (bl == 0) = false := by simpa using hb
  by_cases h5 : 512 < off
  · have d3 : decide (off > 512) = true := by simpa using h5
    clear h hk hn hN hj ho hf hb h5
    generalize f.id = id at *
    go_enter Tryz.func62, Tryz.ntmps62
    go_wp2_with (go_at_call 98; refine ha.mono ?_; rintro e w' ⟨rfl, rfl⟩; clear ha)
    go_ret
    exact SQ.same h0.out
  · have d3 : decide (off > 512) = false := by simpa using h5
    obtain ⟨o, rfl⟩ : ∃ o : Nat, off = o := ⟨off.toNat, by omega⟩
    obtain ⟨R, hR⟩ : ∃ R : Nat, (512 : Int) - o = R := ⟨512 - o, by omega⟩
    have d4 : decide ((bl : Int) > (R : Int)) = true := by simp; omega
    have d4n : decide (bl > R) = true := by simp; omega
    clear h hk hn hN hj ho hf hb h5
    generalize f.id = id at *
    go_enter Tryz.func62, Tryz.ntmps62
    go_wp2_with (go_at_call 98; refine ha.mono ?_; rintro e w' ⟨rfl, rfl⟩; clear ha)
    go_ret
    exact SQ.same h0.out
end
end Go.Proofs.YtchnjfmimpikcaaGreatDoor
