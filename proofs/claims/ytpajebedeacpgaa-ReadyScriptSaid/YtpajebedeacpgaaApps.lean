/-
  Rows of integers of the call's own: more behind one, out of a stretch that can be read. Program-independent.
-/
import Derived.Test.YtpajebedeacpgaaOwn
import Derived.Laws.AppendOwn
import Derived.ArgAppend
import Derived.OwnWalk
import Derived.Deep.Upon
namespace Go.Proofs.Ytpajebedeacpgaa
set_option linter.unusedSimpArgs false
set_option linter.unusedVariables false
open Go.RowKit Own RegJ

/-- more behind a row of the call's own, out of a stretch that can be read (there may be none) -/
theorem wp_apps {P : Program} {ops : Array Oper} {rest : List Oper} {o : Oper} {a : Act} {Q : Exit → Act → World → Prop} {w : World} (hgd : o.guard = none) (s x : Operand) (S T : TypeId) (z : Value) (bytes : Nat)
    (hinf : (P.info? T).map (fun i => (i.zero, i.size, i.bytes)) = some (some z, 1, bytes)) (hz2 : z.cells.size = 1) (hb2 : bytes ≤ 64) (hS : P.underlying S = some (.slice T))
    (ho : o.op = .call { callee := .builtin .append, args := #[s, x], argTypes := #[S, S] }) (v : Value) (xs : List Int) (b : Option Nat) (hs : a.eval s = v) (hI : Ints w T v xs b)
    (ad : Option Addr) (m c : Nat) (ys : List Int) (hm : ys.length = m) (hx : a.eval x = .slice ad m c) (hnews : 0 < m → ∃ A, ad = some A ∧ ∀ (j : Nat) (u : Value), (icells ys)[j]? = some u → w.cell? (A.add j) = some u) (hlen : xs.length + ys.length ≤ 3000)
    (h : ∀ v' w' b', Ints w' T v' (xs ++ ys) b' → (∀ g, b' = some g → b = some g ∨ w.heap.size ≤ g) → Upd (fun k => b = some k) w w' → wpList P ops Q rest (a.put o.dst v') w') : wpList P ops Q (o :: rest) a w := by
  subst hm
  obtain ⟨i0, hi, hz0, hz1, hzb⟩ := info_parts hinf
  have hp : (icells xs).length = xs.length * 1 := by simp
  have hq : (icells ys).length = ys.length * 1 := by simp
  have hcone : ∀ u ∈ icells ys, u.oneCell' = true := by
    intro u hu
    simp only [icells, List.mem_map] at hu
    obtain ⟨y, _, rfl⟩ := hu
    rfl
  have hpy : icells xs ++ icells ys = icells (xs ++ ys) := by simp [icells]
  have hown := hI.own (base := 0) (fun _ _ => Nat.zero_le _)
  by_cases hpos : 0 < ys.length
  · obtain ⟨ad, rfl, hnw⟩ := hnews hpos
    rcases hI with ⟨rfl, rfl, rfl⟩ | ⟨g, cap, rst, rfl, rfl, hBg, hc, hmx⟩
    · refine wpList_append_grows w hgd s x S ho T i0 z 1 bytes hS hi hz0 hz1 hzb hz2 (by decide) none 0 0 [] hs (fun _ => ⟨rfl, rfl⟩) rfl (fun b hb => by cases hb) ad ys.length c _ hx hq hnw hcone (by omega) (by unfold maxLen; simp at hlen; omega) (by simp at hlen; have : (0 + ys.length) * bytes ≤ 3000 * 64 := Nat.mul_le_mul (by omega) hb2; omega) ?_
      intro v' w' h1 h2
      obtain ⟨B', hI', hb'⟩ := Ints.of_own (xs := ys) h1
      exact h v' w' B' hI' (fun g hg => Or.inr (hb' g hg)) (Upd.grown h2 (fun k hk => by cases hk))
    · by_cases hf : xs.length + ys.length ≤ cap
      · refine wpList_append_fits w hgd s x S ho 0 T i0 1 hS hi hz1 g xs.length cap (icells xs) hs hown ad ys.length c _ hx hq hnw hcone hf ?_
        intro w' h1 h2
        rw [hpy] at h1
        obtain ⟨B', hI', hb'⟩ := Ints.of_own (xs := xs ++ ys) h1
        have hB' : B' = some g := by
          rcases hI' with ⟨hv, _⟩ | ⟨g', _, _, hv, rfl, _⟩
          · cases hv
          · simp only [Value.slice.injEq, Option.some.injEq, Addr.mk.injEq] at hv
            rw [hv.1.1]
        exact h _ w' B' hI' (fun g' hg' => Or.inl (by rw [← hg', hB'])) (Upd.grown h2 (fun k hk => by cases hk; rfl))
      · refine wpList_append_grows w hgd s x S ho T i0 z 1 bytes hS hi hz0 hz1 hzb hz2 (by decide) (some ⟨g, 0, none⟩) xs.length cap (icells xs) hs (fun h => by cases h) hp ?_ ad ys.length c _ hx hq hnw hcone (by omega) (by unfold maxLen; omega) (by have : (xs.length + ys.length) * bytes ≤ 3000 * 64 := Nat.mul_le_mul (by omega) hb2; omega) ?_
        · intro b' hb' j u hj
          cases hb'
          have hjl : j < (icells xs).length := (List.getElem?_eq_some_iff.1 hj).1
          have : (⟨g, 0, none⟩ : Addr).add j = ⟨g, j, none⟩ := by
            unfold Addr.add; by_cases h0 : j = 0
            · subst h0; rfl
            · rw [if_neg h0]; simp
          rw [this, hBg.rd]
          simp only [List.getElem?_toArray]
          rw [List.getElem?_append_left hjl]; exact hj
        · intro v' w' h1 h2
          rw [hpy] at h1
          obtain ⟨B', hI', hb'⟩ := Ints.of_own (xs := xs ++ ys) h1
          exact h v' w' B' hI' (fun g' hg' => Or.inr (hb' g' hg')) (Upd.grown h2 (fun k hk => by cases hk))
  · obtain rfl : ys = [] := List.eq_nil_of_length_eq_zero (by omega)
    have e : ∃ base n cap, v = .slice base n cap ∧ n ≤ cap := by
      rcases hI with ⟨rfl, _⟩ | ⟨g, cap, rst, rfl, _, _, hc, _⟩
      · exact ⟨none, 0, 0, rfl, Nat.le_refl _⟩
      · exact ⟨_, _, _, rfl, by rw [List.length_append, hp] at hc; omega⟩
    obtain ⟨base, n, cap, rfl, hle⟩ := e
    have hsrc : Src P i0.size S (.slice ad 0 c) 0 [] w := by
      cases ad with
      | none => exact Src.ofNil w hS c
      | some A => exact Src.ofSlice w hS A 0 c [] (by simp) (fun j u hj => by simp at hj) (fun u hu => by cases hu)
    have hrun := run_append_nothing (P := P) w S S o.type T i0 hS hi base n cap hle (.slice ad 0 c) hsrc
    refine wpList_plain hgd fun K hK => ?_
    unfold Oper.wp
    simp only [List.length_nil] at hx
    simp [execOp, ho, resolve, invoke, builtin, hs, hx, hrun, Result.andThen]
    exact hK _ _ (h _ w b (by simpa using hI) (fun g hg => Or.inl hg) (Upd.refl _ _))
end Go.Proofs.Ytpajebedeacpgaa
