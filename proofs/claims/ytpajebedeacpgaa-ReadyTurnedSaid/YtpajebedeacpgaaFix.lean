/-
  container/heap's Fix; the heap's Drop and Move.
-/
import Derived.Test.YtpajebedeacpgaaRem
namespace Go.Proofs.Ytpajebedeacpgaa
set_option linter.unusedSimpArgs false
set_option linter.unusedVariables false
open Go.RowKit Go.Lib Own
open RegJ hiding Up
open RegF hiding put_size

theorem at_no {w : World} {bh : Nat} {xs : List It} {b : Option Nat} (h : Hh w bh xs b) (id : Int) (hno : hasB xs id = false) :
    Calls Try.prog 47 #[.pointer (some ⟨bh, 0, none⟩), .int .i64 id] w fun e w' => e = .returned (.int .i64 (-1)) ∧ Below w.heap.size w w' := by
  refine (at_is h id).mono ?_
  rintro e w' ⟨j, rfl, hj, hB⟩
  rcases hj with ⟨rfl, _⟩ | ⟨m, hm, rfl, hx⟩
  · exact ⟨rfl, hB⟩
  · rw [(hasB_iff xs id).2 ⟨m, hm, hx⟩] at hno; cases hno
theorem at_yes {w : World} {bh : Nat} {xs : List It} {b : Option Nat} (h : Hh w bh xs b) (id : Int) (hy : hasB xs id = true) :
    Calls Try.prog 47 #[.pointer (some ⟨bh, 0, none⟩), .int .i64 id] w fun e w' => (∃ m : Nat, e = .returned (.int .i64 m) ∧ m < xs.length ∧ (X xs m).1 = id) ∧ Below w.heap.size w w' := by
  refine (at_is h id).mono ?_
  rintro e w' ⟨j, rfl, hj, hB⟩
  rcases hj with ⟨rfl, hno⟩ | ⟨m, hm, rfl, hx⟩
  · obtain ⟨c, hc, he⟩ := (hasB_iff xs id).1 hy
    exact absurd he (hno c hc)
  · exact ⟨⟨m, rfl, hm, hx⟩, hB⟩
theorem drop_no {w : World} {bh : Nat} {xs : List It} {b : Option Nat} (h : Hh w bh xs b) (id : Int) (hno : hasB xs id = false) :
    Calls Try.prog 33 #[.pointer (some ⟨bh, 0, none⟩), .int .i64 id] w (BoolB false w) := by
  have ha := at_no h id hno
  clear h hno
  go_enter Try.func33, Try.ntmps33
  go_wp2_with (go_at_call 47; refine ha.mono ?_; rintro e w' ⟨rfl, hB⟩)
  go_ret
  exact ⟨rfl, hB⟩
def DropP (bh : Nat) (b : Option Nat) (w : World) (xs : List It) (id : Int) (e : Ending) (w' : World) : Prop := e = .returned (.bool true) ∧ ∃ ys k, (ys ++ [(id, k)]).Perm xs ∧ Hp w' bh ys b ∧ HFr bh b b w w'
set_option maxRecDepth 100000 in
theorem drop_yes {w : World} {bh : Nat} {xs : List It} {b : Option Nat} (h : Hp w bh xs b) (id : Int) (hy : hasB xs id = true) :
    Calls Try.prog 33 #[.pointer (some ⟨bh, 0, none⟩), .int .i64 id] w (DropP bh b w xs id) := by
  have ha := at_yes h.1 id hy
  have H := Lib.hid h
  clear h hy
  go_enter Try.func33, Try.ntmps33
  go_wp2_with (first
    | (go_at_call 47; refine ha.mono ?_; rintro e w1 ⟨⟨m, rfl, hm, hx⟩, hB⟩; clear ha; have hr := hremove ⟨H.out.1.below hB, H.out.2⟩ m hm; have d1 : decide ((m : Int) ≥ 0) = true := (by simp); have HX := Lib.hid (And.intro hx hB); clear hx hB)
    | (go_at_call 48; refine hr.mono ?_; rintro e w2 ⟨⟨v, rfl⟩, ys, hp, hh, hf⟩; clear hr; have HR := Lib.hid (And.intro hp (And.intro hh hf)); clear hp hh hf))
  go_ret
  refine ⟨by simp, ys, (X xs m).2, ?_, HR.out.2.1, (HFr.of_below HX.out.2).trans HR.out.2.2⟩
  have e : (id, (X xs m).2) = X xs m := by rw [← HX.out.1]
  rw [e]; exact HR.out.1
end Go.Proofs.Ytpajebedeacpgaa
