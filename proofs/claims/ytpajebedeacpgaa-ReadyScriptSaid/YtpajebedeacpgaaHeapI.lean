/-
  One more item behind a row; the last one off.
-/
import Derived.Test.YtpajebedeacpgaaHeapD
import Derived.Test.YtpajebedeacpgaaRegF
import Derived.ArgAppend
import Derived.OwnWalk
namespace Go.Proofs.Ytpajebedeacpgaa
set_option linter.unusedSimpArgs false
set_option linter.unusedVariables false
open Go.RowKit Go.Lib Own
open RegJ hiding Up
open RegF hiding put_size

theorem Try.infoItem : (Try.prog.info? 72).map (fun i => (i.zero, i.size, i.bytes)) = some (some (.agg #[.int .i64 0, .int .i64 0]), 2, 16) := by kernel_rfl
theorem Its.of_own {w : World} {base : Nat} {v : Value} {xs : List It} {n : Nat} (hn : xs.length = n) (h : w.ownsRow base 72 2 v n (pcells xs)) : ∃ b, Its w v xs b ∧ ∀ g, b = some g → base ≤ g := by
  obtain ⟨hl, h⟩ := h
  rcases h with ⟨hv, h0⟩ | ⟨g, cap, cur, hv, hg, hh, hnc, hm, hs, ht⟩
  · refine ⟨none, Or.inl ⟨hv, ?_, rfl⟩, fun g hg => by cases hg⟩
    apply List.eq_nil_of_length_eq_zero; omega
  · refine ⟨some g, Or.inr ⟨g, cap, cur.toList.drop (n * 2), by rw [hn]; exact hv, rfl, ?_, ?_, hm⟩, fun g' hg' => by cases hg'; exact hg⟩
    · show w.heap[g]? = _
      rw [hh]
      have e : pcells xs ++ cur.toList.drop (n * 2) = cur.toList := by rw [← ht]; exact List.take_append_drop _ _
      rw [e]
    · have hp := pcells_len xs
      have hcs : cur.toList.length = cap * 2 := by simpa using hs
      rw [List.length_append, hp, List.length_drop, hcs]; omega
theorem Its.own {w : World} {v : Value} {xs : List It} {b : Option Nat} (h : Its w v xs b) : w.ownsRow 0 72 2 v xs.length (pcells xs) := by
  have hp := pcells_len xs
  refine ⟨hp, ?_⟩
  rcases h with ⟨hv, h0, _⟩ | ⟨g, cap, rest, hv, hg, hB, hc, hm⟩
  · exact Or.inl ⟨hv, by rw [h0]; rfl⟩
  · refine Or.inr ⟨g, cap, _, hv, Nat.zero_le _, hB, ?_, hm, ?_, ?_⟩
    · rw [List.length_append, hp] at hc; omega
    · simpa using hc.symm
    · rw [← hp]; simp
/-- one more item behind a row of the call's own -/
theorem wp_appI {ops : Array Oper} {rest : List Oper} {o : Oper} {a : Act} {Q : Exit → Act → World → Prop} {w : World} (hgd : o.guard = none) (s x : Operand)
    (ho : o.op = .call { callee := .builtin .append, args := #[s, x], argTypes := #[81, 81] }) (v : Value) (xs : List It) (B : Option Nat) (hs : a.eval s = v) (hI : Its w v xs B)
    (b : Nat) (y : It) (hx : a.eval x = .slice (some ⟨b, 0, none⟩) 1 1) (hB : Blk w b #[.int .i64 y.1, .int .i64 y.2] 72) (hlen : xs.length ≤ 2000)
    (h : ∀ v' w' B', Its w' v' (xs ++ [y]) B' → (∀ g, B' = some g → B = some g ∨ w.heap.size ≤ g) → Upd (fun k => B = some k) w w' → wpList Try.prog ops Q rest (a.put o.dst v') w') : wpList Try.prog ops Q (o :: rest) a w := by
  obtain ⟨i0, hi, hz0, hz1, hz2⟩ := info_parts Try.infoItem
  have hp := pcells_len xs
  have hnews : ∀ (j : Nat) (u : Value), ([.int .i64 y.1, .int .i64 y.2] : List Value)[j]? = some u → w.cell? (Addr.add ⟨b, 0, none⟩ j) = some u := by
    intro j u hj
    match j, hj with
    | 0, hj => simp at hj; subst hj; simpa [Addr.add] using (hB.cell (i := 0) rfl)
    | 1, hj => simp at hj; subst hj; simpa [Addr.add] using (hB.cell (i := 1) rfl)
  have hone : ∀ u ∈ ([.int .i64 y.1, .int .i64 y.2] : List Value), u.oneCell' = true := by
    intro u hu; simp at hu; rcases hu with rfl | rfl <;> rfl
  have hpy : pcells xs ++ [.int .i64 y.1, .int .i64 y.2] = pcells (xs ++ [y]) := by rw [pcells_app]; rfl
  have hown := hI.own
  rcases hI with ⟨rfl, rfl, rfl⟩ | ⟨g, cap, rst, rfl, rfl, hBg, hc, hm⟩
  · refine wpList_append_grows w hgd s x 81 ho 72 i0 _ 2 16 Try.underlying81 hi hz0 hz1 hz2 rfl (by decide) none 0 0 [] hs (fun _ => ⟨rfl, rfl⟩) rfl (fun b hb => by cases hb) ⟨b, 0, none⟩ 1 1 _ hx rfl hnews hone (by omega) (by unfold maxLen; omega) (by omega) ?_
    intro v' w' h1 h2
    obtain ⟨B', hI', hb'⟩ := Its.of_own (xs := [y]) rfl h1
    exact h v' w' B' hI' (fun g hg => Or.inr (hb' g hg)) (Upd.grown h2 (fun k hk => by cases hk))
  · by_cases hf : xs.length + 1 ≤ cap
    · refine wpList_append_fits w hgd s x 81 ho 0 72 i0 2 Try.underlying81 hi hz1 g xs.length cap (pcells xs) hs hown ⟨b, 0, none⟩ 1 1 _ hx rfl hnews hone hf ?_
      intro w' h1 h2
      rw [hpy] at h1
      obtain ⟨B', hI', hb'⟩ := Its.of_own (xs := xs ++ [y]) (by simp) h1
      have hB' : B' = some g := by
        rcases hI' with ⟨hv, _⟩ | ⟨g', _, _, hv, rfl, _⟩
        · cases hv
        · simp only [Value.slice.injEq, Option.some.injEq, Addr.mk.injEq] at hv
          rw [hv.1.1]
      exact h _ w' B' hI' (fun g' hg' => Or.inl (by rw [← hg', hB'])) (Upd.grown h2 (fun k hk => by cases hk; rfl))
    · refine wpList_append_grows w hgd s x 81 ho 72 i0 _ 2 16 Try.underlying81 hi hz0 hz1 hz2 rfl (by decide) (some ⟨g, 0, none⟩) xs.length cap (pcells xs) hs (fun h => by cases h) hp ?_ ⟨b, 0, none⟩ 1 1 _ hx rfl hnews hone (by omega) (by unfold maxLen; omega) (by omega) ?_
      · intro b' hb' j u hj
        cases hb'
        have hjl : j < (pcells xs).length := (List.getElem?_eq_some_iff.1 hj).1
        have : (⟨g, 0, none⟩ : Addr).add j = ⟨g, j, none⟩ := by
          unfold Addr.add; by_cases h0 : j = 0
          · subst h0; rfl
          · rw [if_neg h0]; simp
        rw [this, hBg.rd]
        simp only [List.getElem?_toArray]
        rw [List.getElem?_append_left hjl]; exact hj
      · intro v' w' h1 h2
        rw [hpy] at h1
        obtain ⟨B', hI', hb'⟩ := Its.of_own (xs := xs ++ [y]) (by simp) h1
        exact h v' w' B' hI' (fun g' hg' => Or.inr (hb' g' hg')) (Upd.grown h2 (fun k hk => by cases hk))
end Go.Proofs.Ytpajebedeacpgaa
