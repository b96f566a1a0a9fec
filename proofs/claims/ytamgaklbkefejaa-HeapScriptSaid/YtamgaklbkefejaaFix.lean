/-
  container/heap's Fix; the heap's Drop and Move.
-/
import Derived.Test.YtamgaklbkefejaaRem
namespace Go.Proofs.Ytamgaklbkefejaa
set_option linter.unusedSimpArgs false
set_option linter.unusedVariables false
open Go.RowKit Go.Lib Own
open RegJ hiding Up
open RegF hiding put_size

def HFixP (bh : Nat) (g : Nat) (w : World) (zs : List It) (e : Ending) (w' : World) : Prop := (∃ v, e = .returned v) ∧ ∃ ys, ys.Perm zs ∧ Hp w' bh ys (some g) ∧ HFr bh (some g) (some g) w w'
set_option maxRecDepth 100000 in
theorem hfix {w : World} {bh g cap N : Nat} {zs : List It} {rest : List Value} (hs : HS w bh g cap N zs rest) (hc : cap * 2 = N * 2 + rest.length) (hm : cap ≤ maxLen) (hmax : N ≤ 2000) (i : Nat) (hi : i < N) (hd : OkDn zs N i False) :
    Calls Try.prog 32 #[.iface 60 (.pointer (some ⟨bh, 0, none⟩)), .int .i64 i] w (HFixP bh g w zs) := by
  have hm1 := m_len bh (.slice (some ⟨g, 0, none⟩) N cap)
  have c1 := hs.hb.rd
  have hdn := down_is hs N i (Nat.le_refl _) (by omega) hd
  have H0 := Lib.hid (And.intro hc hm)
  clear hs hc hm hd
  go_enter Try.func32, Try.ntmps32
  go_wp2_with (first
    | (go_at_call 77; (with_reducible refine (len_hs .nilFunc _ _ _ _).mono ?_); rintro e w2 ⟨rfl, rfl⟩)
    | (go_at_call 37; (with_reducible refine hdn.mono ?_); rintro e w2 ⟨m, ys, rfl, hp2, hd2, hs2, hu2, ho2, ho3⟩; clear hdn; have H2 := Lib.hid (And.intro hp2 (And.intro hs2 (And.intro hu2 (And.intro ho2 ho3)))); clear hp2 hd2 hs2 hu2 ho2 ho3)
    | (go_at_call 36; have hm0 : m = false := (by simp_all); obtain ⟨rfl, hou⟩ := H2.out.2.2.2.2 hm0; refine (up_is H2.out.2.1 N i (Nat.le_refl _) hi hou).mono ?_; rintro e w3 ⟨⟨v3, rfl⟩, us, hp3, hd3, ho3, hs3, hu3⟩; have H3 := Lib.hid (show HFixP bh g w ys (.returned v3) w3 from ⟨⟨_, rfl⟩, us, hp3, ⟨hs_hh hs3 H0.out.1 H0.out.2 hmax, by rw [hs3.len]; exact ho3⟩, ⟨(H2.out.2.2.1.trans hu3 (fun _ _ h => h)).mono (fun _ _ h => Or.inr (by rw [h])), fun g hg => Or.inl hg⟩⟩); clear hp3 hd3 ho3 hs3 hu3))
  · go_returns
    exact ⟨⟨_, rfl⟩, H3.out.2⟩
  · have hm0 : m = true := by simp_all
    go_returns
    exact ⟨⟨_, rfl⟩, ys, H2.out.1, ⟨hs_hh H2.out.2.1 H0.out.1 H0.out.2 hmax, by rw [H2.out.2.1.len]; exact H2.out.2.2.2.1 (Or.inl hm0)⟩, ⟨H2.out.2.2.1.mono (fun _ _ h => Or.inr (by rw [h])), fun g hg => Or.inl hg⟩⟩
theorem at_no {w : World} {bh : Nat} {xs : List It} {b : Option Nat} (h : Hh w bh xs b) (id : Int) (hno : hasB xs id = false) :
    Calls Try.prog 30 #[.pointer (some ⟨bh, 0, none⟩), .int .i64 id] w fun e w' => e = .returned (.int .i64 (-1)) ∧ Below w.heap.size w w' := by
  refine (at_is h id).mono ?_
  rintro e w' ⟨j, rfl, hj, hB⟩
  rcases hj with ⟨rfl, _⟩ | ⟨m, hm, rfl, hx⟩
  · exact ⟨rfl, hB⟩
  · rw [(hasB_iff xs id).2 ⟨m, hm, hx⟩] at hno; cases hno
theorem at_yes {w : World} {bh : Nat} {xs : List It} {b : Option Nat} (h : Hh w bh xs b) (id : Int) (hy : hasB xs id = true) :
    Calls Try.prog 30 #[.pointer (some ⟨bh, 0, none⟩), .int .i64 id] w fun e w' => (∃ m : Nat, e = .returned (.int .i64 m) ∧ m < xs.length ∧ (X xs m).1 = id) ∧ Below w.heap.size w w' := by
  refine (at_is h id).mono ?_
  rintro e w' ⟨j, rfl, hj, hB⟩
  rcases hj with ⟨rfl, hno⟩ | ⟨m, hm, rfl, hx⟩
  · obtain ⟨c, hc, he⟩ := (hasB_iff xs id).1 hy
    exact absurd he (hno c hc)
  · exact ⟨⟨m, rfl, hm, hx⟩, hB⟩
theorem drop_no {w : World} {bh : Nat} {xs : List It} {b : Option Nat} (h : Hh w bh xs b) (id : Int) (hno : hasB xs id = false) :
    Calls Try.prog 16 #[.pointer (some ⟨bh, 0, none⟩), .int .i64 id] w (BoolB false w) := by
  have ha := at_no h id hno
  clear h hno
  go_enter Try.func16, Try.ntmps16
  go_wp2_with (go_at_call 30; refine ha.mono ?_; rintro e w' ⟨rfl, hB⟩)
  go_ret
  exact ⟨rfl, hB⟩
theorem move_no {w : World} {bh : Nat} {xs : List It} {b : Option Nat} (h : Hh w bh xs b) (id k : Int) (hno : hasB xs id = false) :
    Calls Try.prog 17 #[.pointer (some ⟨bh, 0, none⟩), .int .i64 id, .int .i64 k] w (BoolB false w) := by
  have ha := at_no h id hno
  clear h hno
  go_enter Try.func17, Try.ntmps17
  go_wp2_with (go_at_call 30; refine ha.mono ?_; rintro e w' ⟨rfl, hB⟩)
  go_ret
  exact ⟨rfl, hB⟩
def DropP (bh : Nat) (b : Option Nat) (w : World) (xs : List It) (id : Int) (e : Ending) (w' : World) : Prop := e = .returned (.bool true) ∧ ∃ ys k, (ys ++ [(id, k)]).Perm xs ∧ Hp w' bh ys b ∧ HFr bh b b w w'
set_option maxRecDepth 100000 in
theorem drop_yes {w : World} {bh : Nat} {xs : List It} {b : Option Nat} (h : Hp w bh xs b) (id : Int) (hy : hasB xs id = true) :
    Calls Try.prog 16 #[.pointer (some ⟨bh, 0, none⟩), .int .i64 id] w (DropP bh b w xs id) := by
  have ha := at_yes h.1 id hy
  have H := Lib.hid h
  clear h hy
  go_enter Try.func16, Try.ntmps16
  go_wp2_with (first
    | (go_at_call 30; refine ha.mono ?_; rintro e w1 ⟨⟨m, rfl, hm, hx⟩, hB⟩; clear ha; have hr := hremove ⟨H.out.1.below hB, H.out.2⟩ m hm; have d1 : decide ((m : Int) ≥ 0) = true := (by simp); have HX := Lib.hid (And.intro hx hB); clear hx hB)
    | (go_at_call 31; refine hr.mono ?_; rintro e w2 ⟨⟨v, rfl⟩, ys, hp, hh, hf⟩; clear hr; have HR := Lib.hid (And.intro hp (And.intro hh hf)); clear hp hh hf))
  go_ret
  refine ⟨by simp, ys, (X xs m).2, ?_, HR.out.2.1, (HFr.of_below HX.out.2).trans HR.out.2.2⟩
  have e : (id, (X xs m).2) = X xs m := by rw [← HX.out.1]
  rw [e]; exact HR.out.1
end Go.Proofs.Ytamgaklbkefejaa
