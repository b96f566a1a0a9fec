/-
  container/heap's Remove and Fix.
-/
import Derived.Test.YtpajebedeacpgaaAll
namespace Go.Proofs.Ytpajebedeacpgaa
set_option linter.unusedSimpArgs false
set_option linter.unusedVariables false
open Go.RowKit Go.Lib Own
open RegJ hiding Up
open RegF hiding put_size

theorem ok_dn_at {xs : List It} {n i : Nat} (h : HeapOk xs (n + 1)) (hl : xs.length = n + 1) (hi : i < n) : OkDn (swapL xs i n) n i False := by
  have hsw := swapL_at xs i n (by omega) (by omega)
  refine ⟨fun c hc hcn h0 hp => ?_, fun c hc hcn hp h1 => ?_, fun h => h.elim⟩
  · rw [hsw, hsw, if_neg (by omega), if_neg hp, if_neg (by omega), if_neg h0]
    exact h c hc (by omega)
  · rw [hsw, hsw, if_neg (by omega), if_neg (by omega), if_neg (by omega), if_neg (by omega)]
    have a := h i h1 (by omega)
    have b := h c hc (by omega)
    rw [hp] at b
    exact le_trans a b
theorem X_set (xs : List It) (i c : Nat) (a : It) (hc : c ≠ i) : X (xs.set i a) c = X xs c := by
  unfold X; simp [List.getElem?_set, Ne.symm hc]
theorem ok_dn_set {xs : List It} {n i : Nat} (h : HeapOk xs n) (hi : i < n) (a : It) : OkDn (xs.set i a) n i False := by
  refine ⟨fun c hc hcn h0 hp => ?_, fun c hc hcn hp h1 => ?_, fun h => h.elim⟩
  · rw [X_set _ _ _ _ h0, X_set _ _ _ _ hp]
    exact h c hc hcn
  · rw [X_set _ _ _ _ (by omega), X_set _ _ _ _ (by omega)]
    have a := h i h1 (by omega)
    have b := h c hc (by omega)
    rw [hp] at b
    exact le_trans a b
def HRemP (bh : Nat) (b : Option Nat) (w : World) (xs : List It) (i : Nat) (e : Ending) (w' : World) : Prop := (∃ v, e = .returned v) ∧ ∃ ys, (ys ++ [X xs i]).Perm xs ∧ Hp w' bh ys b ∧ HFr bh b b w w'
/-- what lies behind the walk of down and up -/
structure Mid (w w' : World) (bh g cap n : Nat) (xs ys : List It) (i : Nat) (rest : List Value) : Prop where
  perm : ys.Perm xs
  last : X ys n = X xs i
  heap : HeapOk ys n
  hs : HS w' bh g cap (n + 1) ys rest
  upd : Upd (fun k => k = g) w w'
theorem mid_pop {w w1 : World} {bh g cap n i : Nat} {xs ys : List It} {rest : List Value} (h : Mid w w1 bh g cap n xs ys i rest) (hc : cap * 2 = (n + 1) * 2 + rest.length) (hm : cap ≤ maxLen) (hmax : n + 1 ≤ 2000) :
    Calls Try.prog 116 #[.pointer (some ⟨bh, 0, none⟩)] w1 (HRemP bh (some g) w xs i) := by
  have hh := hs_hh h.hs hc hm hmax
  have hy := last_split h.hs.len
  rw [hy] at hh
  refine (pop_m hh).mono ?_
  rintro e w' ⟨rfl, hh3, hf3⟩
  have hlt : (ys.take n).length = n := by rw [List.length_take, h.hs.len]; omega
  refine ⟨⟨_, rfl⟩, ys.take n, by rw [← h.last, ← hy]; exact h.perm, ⟨hh3, ?_⟩, ?_⟩
  · rw [hlt]
    intro c hc hcn
    rw [X_take _ _ _ (by omega), X_take _ _ _ (by omega)]
    exact h.heap c hc hcn
  · exact HFr.trans (show HFr bh (some g) (some g) w w1 from ⟨h.upd.mono (fun _ _ h => Or.inr (by rw [h])), fun g hg => Or.inl hg⟩) hf3
set_option maxRecDepth 100000 in
set_option maxHeartbeats 1000000 in
theorem hremove {w : World} {bh : Nat} {xs : List It} {b : Option Nat} (h : Hp w bh xs b) (i : Nat) (hi : i < xs.length) :
    Calls Try.prog 48 #[.iface 89 (.pointer (some ⟨bh, 0, none⟩)), .int .i64 i] w (HRemP bh b w xs i) := by
  obtain ⟨hh, ho⟩ := h
  have hne : xs ≠ [] := by intro e; rw [e] at hi; simp at hi
  have hmx := hh
  obtain ⟨_, _, _, _, hmax⟩ := hmx
  obtain ⟨g, cap, rest, rfl, hs, hc, hm⟩ := hh_hs hh hne
  obtain ⟨n, hn⟩ : ∃ n, xs.length = n + 1 := ⟨xs.length - 1, by omega⟩
  rw [hn] at hs hc hmax ho hi
  have hm1 := m_len bh (.slice (some ⟨g, 0, none⟩) (n + 1) cap)
  have hm2 := m_swap bh (.slice (some ⟨g, 0, none⟩) (n + 1) cap)
  have hm3 := m_pop (.pointer (some ⟨bh, 0, none⟩))
  have c1 := hs.hb.rd
  by_cases hin : i = n
  · subst hin
    have hmid : Mid w w bh g cap i xs xs i rest := ⟨List.Perm.refl _, rfl, fun c h1 h2 => ho c h1 (by omega), hs, Upd.refl _ _⟩
    have hpp := mid_pop hmid hc hm hmax
    have e1 : ((i : Int) != (i : Int)) = false := by simp
    clear hh ho hs hc hm hne hn hmid hi
    go_enter Try.func48, Try.ntmps48
    go_wp2_with (first
      | (go_at_call 113; (with_reducible refine (len_hs .nilFunc _ _ _ _).mono ?_); rintro e w2 ⟨rfl, rfl⟩)
      | (go_at_call 116; (with_reducible refine hpp.mono ?_); rintro e w3 ⟨⟨v, rfl⟩, hR⟩))
    go_ret
    exact ⟨⟨_, rfl⟩, hR⟩
  · have hin' : i < n := by omega
    have hsw := swap_hs hs i n i n rfl rfl (by omega) (by omega)
    have HD := Lib.hid (ok_dn_at ho hn hin')
    have H0 := Lib.hid (And.intro hn (And.intro hc hm))
    have e1 : ((n : Int) != (i : Int)) = true := by simp; omega
    clear hh ho hs hc hm hne hn
    go_enter Try.func48, Try.ntmps48
    go_wp2_with (first
      | (go_at_call 113; (with_reducible refine (len_hs .nilFunc _ _ _ _).mono ?_); rintro e w2 ⟨rfl, rfl⟩)
      | (go_at_call 115; (with_reducible refine hsw.mono ?_); rintro e w1 ⟨⟨v, rfl⟩, hs1, hu1⟩; clear hsw c1; have hd := down_is hs1 n i (by omega) (by omega) HD.out; have HU1 := Lib.hid hu1; clear hs1 hu1)
      | (go_at_call 67; (with_reducible refine hd.mono ?_); rintro e w2 ⟨m, ys, rfl, hp2, hd2, hs2, hu2, ho2, ho3⟩; clear hd; have H2 := Lib.hid (And.intro hp2 (And.intro hd2 (And.intro hs2 (And.intro hu2 (And.intro ho2 ho3))))); clear hp2 hd2 hs2 hu2 ho2 ho3)
      | (go_at_call 68; have hm0 : m = false := (by simp_all); obtain ⟨rfl, hou⟩ := H2.out.2.2.2.2.2 hm0; refine (up_is H2.out.2.2.1 n i (by omega) hin' hou).mono ?_; rintro e w3 ⟨⟨v3, rfl⟩, zs, hp3, hd3, ho3, hs3, hu3⟩; have hmid : Mid w w3 bh g cap n xs zs i rest := ⟨hp3.trans (swapL_perm xs i n (by rw [H0.out.1]; omega) (by rw [H0.out.1]; omega)), (by rw [X_drop zs n, hd3, ← X_drop, swapL_at xs i n (by rw [H0.out.1]; omega) (by rw [H0.out.1]; omega), if_pos rfl]), ho3, hs3, (HU1.out.trans H2.out.2.2.2.1 (fun _ _ h => h)).trans hu3 (fun _ _ h => h)⟩; have hpp := mid_pop hmid H0.out.2.1 H0.out.2.2 hmax; clear hp3 hd3 ho3 hs3 hu3 hmid)
      | (go_at_call 116; (with_reducible refine hpp.mono ?_); rintro e w4 ⟨⟨v4, rfl⟩, hR⟩; clear hpp)
      | (go_at_call 116; have hm0 : m = true := (by simp_all); have hmid : Mid w w2 bh g cap n xs ys i rest := ⟨H2.out.1.trans (swapL_perm xs i n (by rw [H0.out.1]; omega) (by rw [H0.out.1]; omega)), (by rw [X_drop ys n, H2.out.2.1, ← X_drop, swapL_at xs i n (by rw [H0.out.1]; omega) (by rw [H0.out.1]; omega), if_pos rfl]), H2.out.2.2.2.2.1 (Or.inl hm0), H2.out.2.2.1, HU1.out.trans H2.out.2.2.2.1 (fun _ _ h => h)⟩; have hpp := mid_pop hmid H0.out.2.1 H0.out.2.2 hmax; clear hmid; (with_reducible refine hpp.mono ?_); rintro e w4 ⟨⟨v4, rfl⟩, hR⟩; clear hpp))
    all_goals (go_ret; exact ⟨⟨_, rfl⟩, hR⟩)
end Go.Proofs.Ytpajebedeacpgaa
/-
  container/heap's Fix; the heap's Drop and Move.
-/
namespace Go.Proofs.Ytpajebedeacpgaa
set_option linter.unusedSimpArgs false
set_option linter.unusedVariables false
open Go.RowKit Go.Lib Own
open RegJ hiding Up
open RegF hiding put_size

theorem at_no {w : World} {bh : Nat} {xs : List It} {b : Option Nat} (h : Hh w bh xs b) (id : Int) (hno : hasB xs id = false) :
    Calls Try.prog 47 #[.pointer (some ⟨bh, 0, none⟩), .int .i64 id] w fun e w' => e = .returned (.int .i64 (-1)) ∧ Below w.heap.size w w' := by
  refine (at_is h id).mono ?_
  rintro e w' ⟨j, rfl, hj, hB⟩
  rcases hj with ⟨rfl, _⟩ | ⟨m, hm, rfl, hx⟩
  · exact ⟨rfl, hB⟩
  · rw [(hasB_iff xs id).2 ⟨m, hm, hx⟩] at hno; cases hno
theorem at_yes {w : World} {bh : Nat} {xs : List It} {b : Option Nat} (h : Hh w bh xs b) (id : Int) (hy : hasB xs id = true) :
    Calls Try.prog 47 #[.pointer (some ⟨bh, 0, none⟩), .int .i64 id] w fun e w' => (∃ m : Nat, e = .returned (.int .i64 m) ∧ m < xs.length ∧ (X xs m).1 = id) ∧ Below w.heap.size w w' := by
  refine (at_is h id).mono ?_
  rintro e w' ⟨j, rfl, hj, hB⟩
  rcases hj with ⟨rfl, hno⟩ | ⟨m, hm, rfl, hx⟩
  · obtain ⟨c, hc, he⟩ := (hasB_iff xs id).1 hy
    exact absurd he (hno c hc)
  · exact ⟨⟨m, rfl, hm, hx⟩, hB⟩
theorem drop_no {w : World} {bh : Nat} {xs : List It} {b : Option Nat} (h : Hh w bh xs b) (id : Int) (hno : hasB xs id = false) :
    Calls Try.prog 33 #[.pointer (some ⟨bh, 0, none⟩), .int .i64 id] w (BoolB false w) := by
  have ha := at_no h id hno
  clear h hno
  go_enter Try.func33, Try.ntmps33
  go_wp2_with (go_at_call 47; refine ha.mono ?_; rintro e w' ⟨rfl, hB⟩)
  go_ret
  exact ⟨rfl, hB⟩
def DropP (bh : Nat) (b : Option Nat) (w : World) (xs : List It) (id : Int) (e : Ending) (w' : World) : Prop := e = .returned (.bool true) ∧ ∃ ys k, (ys ++ [(id, k)]).Perm xs ∧ Hp w' bh ys b ∧ HFr bh b b w w'
set_option maxRecDepth 100000 in
theorem drop_yes {w : World} {bh : Nat} {xs : List It} {b : Option Nat} (h : Hp w bh xs b) (id : Int) (hy : hasB xs id = true) :
    Calls Try.prog 33 #[.pointer (some ⟨bh, 0, none⟩), .int .i64 id] w (DropP bh b w xs id) := by
  have ha := at_yes h.1 id hy
  have H := Lib.hid h
  clear h hy
  go_enter Try.func33, Try.ntmps33
  go_wp2_with (first
    | (go_at_call 47; refine ha.mono ?_; rintro e w1 ⟨⟨m, rfl, hm, hx⟩, hB⟩; clear ha; have hr := hremove ⟨H.out.1.below hB, H.out.2⟩ m hm; have d1 : decide ((m : Int) ≥ 0) = true := (by simp); have HX := Lib.hid (And.intro hx hB); clear hx hB)
    | (go_at_call 48; refine hr.mono ?_; rintro e w2 ⟨⟨v, rfl⟩, ys, hp, hh, hf⟩; clear hr; have HR := Lib.hid (And.intro hp (And.intro hh hf)); clear hp hh hf))
  go_ret
  refine ⟨by simp, ys, (X xs m).2, ?_, HR.out.2.1, (HFr.of_below HX.out.2).trans HR.out.2.2⟩
  have e : (id, (X xs m).2) = X xs m := by rw [← HX.out.1]
  rw [e]; exact HR.out.1
end Go.Proofs.Ytpajebedeacpgaa
