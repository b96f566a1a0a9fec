/-
  container/heap's Push and Pop; a heap that is in order.
-/
import Derived.Test.YtpajebedeacpgaaHeapQ
namespace Go.Proofs.Ytpajebedeacpgaa
set_option linter.unusedSimpArgs false
set_option linter.unusedVariables false
open Go.RowKit Go.Lib Own
open RegJ hiding Up
open RegF hiding put_size

theorem hh_hs {w : World} {bh : Nat} {xs : List It} {b : Option Nat} (h : Hh w bh xs b) (hne : xs ≠ []) : ∃ g cap rest, b = some g ∧ HS w bh g cap xs.length xs rest ∧ cap * 2 = xs.length * 2 + rest.length ∧ cap ≤ maxLen := by
  obtain ⟨v, hb, hI, hn, hmax⟩ := h
  rcases hI with ⟨_, h0, _⟩ | ⟨g, cap, rest, rfl, rfl, hB, hc, hm⟩
  · exact absurd h0 hne
  · exact ⟨g, cap, rest, rfl, ⟨hb, hB, hn g rfl, rfl, by omega⟩, by rw [hc, List.length_append, pcells_len], hm⟩
theorem hs_hh {w : World} {bh g cap N : Nat} {ys : List It} {rest : List Value} (h : HS w bh g cap N ys rest) (hc : cap * 2 = N * 2 + rest.length) (hm : cap ≤ maxLen) (hN : N ≤ 2000) : Hh w bh ys (some g) :=
  ⟨_, h.hb, Or.inr ⟨g, cap, rest, by rw [h.len], rfl, h.hg, by rw [List.length_append, pcells_len, h.len]; exact hc, hm⟩, fun g' hg' => by cases hg'; exact h.ne, by rw [h.len]; exact hN⟩
theorem X_app (xs : List It) (y : It) (c : Nat) (h : c < xs.length) : X (xs ++ [y]) c = X xs c := by unfold X; simp [h, List.getElem?_append_left h]
theorem ok_app {xs : List It} (h : HeapOk xs xs.length) (y : It) : OkUp (xs ++ [y]) (xs.length + 1) xs.length := by
  refine ⟨fun c hc hcn hne => ?_, fun c hc hcn hp => by omega⟩
  rw [X_app _ _ _ (by omega), X_app _ _ _ (by omega)]
  exact h c hc (by omega)
/-- a heap in order -/
def Hp (w : World) (bh : Nat) (xs : List It) (b : Option Nat) : Prop := Hh w bh xs b ∧ HeapOk xs xs.length
def HPushP (bh : Nat) (b : Option Nat) (w : World) (xs : List It) (e : Ending) (w' : World) : Prop := (∃ v, e = .returned v) ∧ ∃ ys b', ys.Perm xs ∧ Hp w' bh ys b' ∧ HFr bh b b' w w'
set_option maxRecDepth 100000 in
theorem hpush {w : World} {bh : Nat} {xs : List It} {b : Option Nat} (h : Hp w bh xs b) (hlen : xs.length ≤ 1000) (i k : Int) :
    Calls Try.prog 60 #[.iface 89 (.pointer (some ⟨bh, 0, none⟩)), .iface 72 (.agg #[.int .i64 i, .int .i64 k])] w (HPushP bh b w (xs ++ [(i, k)])) := by
  obtain ⟨hh, ho⟩ := h
  have hp := push_m hh hlen i k
  have hm1 := m_push (.pointer (some ⟨bh, 0, none⟩))
  have HO := Lib.hid ho
  clear hh ho
  go_enter Try.func60, Try.ntmps60
  go_wp2_with (first
    | (go_at_call 117; (with_reducible refine hp.mono ?_); rintro e w1 ⟨⟨v, rfl⟩, b1, hh1, hf1⟩; clear hp hm1; obtain ⟨g, cap, rest, rfl, hs, hc, hm⟩ := hh_hs hh1 (by simp); have hL : (xs ++ [(i, k)]).length = xs.length + 1 := (by simp); rw [hL] at hs hc; have c1 := hs.hb.rd; have hm2 := m_len bh (.slice (some ⟨g, 0, none⟩) (xs.length + 1) cap); have hup := up_is hs (xs.length + 1) xs.length (Nat.le_refl _) (by omega) (ok_app HO.out _); have H1 := Lib.hid (And.intro hf1 (And.intro hc hm)); clear hh1 hf1 hc hm hs hL)
    | (go_at_call 113; (with_reducible refine (len_hs .nilFunc _ _ _ _).mono ?_); rintro e w2 ⟨rfl, rfl⟩)
    | (go_at_call 68; refine hup.mono ?_; rintro e w3 ⟨⟨v3, rfl⟩, ys, hp3, hd3, ho3, hs3, hu3⟩; have H3 := Lib.hid (And.intro hp3 (And.intro ho3 (And.intro hs3 hu3))); clear hup hp3 hd3 ho3 hs3 hu3))
  go_returns
  have hN := H3.out.2.2.1.len
  exact ⟨⟨_, rfl⟩, ys, some g, H3.out.1, ⟨hs_hh H3.out.2.2.1 H1.out.2.1 H1.out.2.2 (by omega), by rw [hN]; exact H3.out.2.1⟩, H1.out.1.trans ⟨H3.out.2.2.2.mono (fun _ _ h => Or.inr (by rw [h])), fun g hg => Or.inl hg⟩⟩

/-! ### Pop -/
theorem X_drop (xs : List It) (n : Nat) : X xs n = X (xs.drop n) 0 := by unfold X; simp
theorem X_take (xs : List It) (n c : Nat) (h : c < n) : X (xs.take n) c = X xs c := by unfold X; simp [List.getElem?_take, h]
theorem last_split {ys : List It} {n : Nat} (h : ys.length = n + 1) : ys = ys.take n ++ [X ys n] := by
  have h1 : n < ys.length := by omega
  have e : X ys n = ys[n] := by unfold X; simp [h1]
  rw [e]
  have := List.take_succ_eq_append_getElem h1
  rw [← this, ← h, List.take_length]
theorem ok_dn {xs : List It} {n : Nat} (h : HeapOk xs (n + 1)) (hl : xs.length = n + 1) : OkDn (swapL xs 0 n) n 0 False := by
  have hsw := swapL_at xs 0 n (by omega) (by omega)
  refine ⟨fun c hc hcn h0 hp => ?_, fun c hc hcn hp h1 => by omega, fun h => h.elim⟩
  rw [hsw, hsw, if_neg (by omega), if_neg hp, if_neg (by omega), if_neg h0]
  exact h c hc (by omega)
def HPopP (bh : Nat) (b : Option Nat) (w : World) (xs : List It) (e : Ending) (w' : World) : Prop := e = .returned (.iface 72 (.agg #[.int .i64 (X xs 0).1, .int .i64 (X xs 0).2])) ∧ ∃ ys, (ys ++ [X xs 0]).Perm xs ∧ Hp w' bh ys b ∧ HFr bh b b w w'
set_option maxRecDepth 100000 in
theorem hpop {w : World} {bh : Nat} {xs : List It} {b : Option Nat} (h : Hp w bh xs b) (hne : xs ≠ []) :
    Calls Try.prog 112 #[.iface 89 (.pointer (some ⟨bh, 0, none⟩))] w (HPopP bh b w xs) := by
  obtain ⟨hh, ho⟩ := h
  have hmx := hh
  obtain ⟨_, _, _, _, hmax⟩ := hmx
  obtain ⟨g, cap, rest, rfl, hs, hc, hm⟩ := hh_hs hh hne
  obtain ⟨n, hn⟩ : ∃ n, xs.length = n + 1 := ⟨xs.length - 1, by have := List.length_pos_iff.2 hne; omega⟩
  rw [hn] at hs hc hmax ho
  have hm1 := m_len bh (.slice (some ⟨g, 0, none⟩) (n + 1) cap)
  have hm2 := m_swap bh (.slice (some ⟨g, 0, none⟩) (n + 1) cap)
  have hm3 := m_pop (.pointer (some ⟨bh, 0, none⟩))
  have c1 := hs.hb.rd
  have hsw := swap_hs hs 0 n 0 n rfl rfl (by omega) (by omega)
  have hdn := ok_dn ho hn
  have H0 := Lib.hid (And.intro hn (And.intro hc hm))
  have HD := Lib.hid hdn
  clear hh ho hs hc hm hne hdn hn
  go_enter Try.func112, Try.ntmps112
  go_wp2_with (first
    | (go_at_call 113; (with_reducible refine (len_hs .nilFunc _ _ _ _).mono ?_); rintro e w2 ⟨rfl, rfl⟩)
    | (go_at_call 115; (with_reducible refine hsw.mono ?_); rintro e w1 ⟨⟨v, rfl⟩, hs1, hu1⟩; clear hsw c1; have hd := down_is hs1 n 0 (by omega) (by omega) HD.out; have HU1 := Lib.hid hu1; have HL1 := Lib.hid hs1.len; clear hs1 hu1)
    | (go_at_call 67; refine hd.mono ?_; rintro e w2 ⟨m, ys, rfl, hp2, hd2, hs2, hu2, ho2, -⟩; clear hd; have hy := last_split hs2.len; have hX : X ys n = X xs 0 := (by rw [X_drop ys n, hd2, ← X_drop, swapL_at xs 0 n (by rw [H0.out.1]; omega) (by rw [H0.out.1]; omega), if_pos rfl]); rw [hX] at hy; have hh2 := hs_hh hs2 H0.out.2.1 H0.out.2.2 (by omega); rw [hy] at hh2; have hpm := pop_m hh2; have H2 := Lib.hid (And.intro hp2 (And.intro hy (And.intro hu2 (And.intro (ho2 (Or.inr rfl)) hs2.len)))); clear hp2 hd2 hs2 hu2 ho2 hy hX hh2)
    | (go_at_call 116; (with_reducible refine hpm.mono ?_); rintro e w3 ⟨rfl, hh3, hf3⟩; have H3 := Lib.hid (And.intro hh3 hf3); clear hpm hh3 hf3))
  go_ret
  have hlt : (ys.take n).length = n := by rw [List.length_take, H2.out.2.2.2.2]; omega
  refine ⟨rfl, ys.take n, ?_, ⟨H3.out.1, ?_⟩, ?_⟩
  · rw [← H2.out.2.1]
    exact H2.out.1.trans (swapL_perm xs 0 n (by rw [H0.out.1]; omega) (by rw [H0.out.1]; omega))
  · rw [hlt]
    intro c hc hcn
    rw [X_take _ _ _ (by omega), X_take _ _ _ (by omega)]
    exact H2.out.2.2.2.1 c hc hcn
  · exact (HFr.trans ⟨HU1.out.mono (fun _ _ h => Or.inr (by rw [h])), fun g hg => Or.inl hg⟩ ⟨H2.out.2.2.1.mono (fun _ _ h => Or.inr (by rw [h])), fun g hg => Or.inl hg⟩ : HFr bh (some g) (some g) w w2).trans H3.out.2
end Go.Proofs.Ytpajebedeacpgaa
