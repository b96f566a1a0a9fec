/-
  Rows of things of three cells, owned by the call: plain facts, program-independent.
-/
import Derived.Test.YtchnjfmimpikcaaGreatDoorOwn
import Derived.Laws.AppendOwn
import Derived.ArgAppend
import Derived.OwnWalk
import Derived.Deep.Upon
namespace Go.Proofs.YtchnjfmimpikcaaGreatDoor.Three
set_option linter.unusedSimpArgs false
set_option linter.unusedVariables false
open Go.RowKit Own RegJ

abbrev V3 := Value × Value × Value
/-- the cells that hold these -/
def cells3 (xs : List V3) : List Value := xs.flatMap fun a => [a.1, a.2.1, a.2.2]
theorem cells3_len (xs : List V3) : (cells3 xs).length = xs.length * 3 := by
  unfold cells3
  induction xs with
  | nil => rfl
  | cons a r ih => simp only [List.flatMap_cons, List.length_append, List.length_cons, List.length_nil]; omega
theorem cells3_app (xs ys : List V3) : cells3 (xs ++ ys) = cells3 xs ++ cells3 ys := by unfold cells3; simp
theorem cells3_at (xs : List V3) (j : Nat) (a : V3) (h : xs[j]? = some a) : (cells3 xs)[j * 3]? = some a.1 ∧ (cells3 xs)[j * 3 + 1]? = some a.2.1 ∧ (cells3 xs)[j * 3 + 2]? = some a.2.2 := by
  unfold cells3
  induction xs generalizing j with
  | nil => simp at h
  | cons b r ih =>
    cases j with
    | zero => simp at h; subst h; simp
    | succ j =>
      have := ih j (by simpa using h)
      simp only [List.flatMap_cons]
      rw [show (j + 1) * 3 = (j * 3 + 2) + 1 by omega, show (j * 3 + 2) + 1 + 1 = (j * 3 + 1 + 2) + 1 by omega, show (j * 3 + 2) + 1 + 2 = (j * 3 + 2 + 2) + 1 by omega]
      simpa using this
/-- each of one cell -/
def One3 (xs : List V3) : Prop := ∀ a ∈ xs, a.1.oneCell' = true ∧ a.2.1.oneCell' = true ∧ a.2.2.oneCell' = true
theorem One3.cells {xs : List V3} (h : One3 xs) : ∀ u ∈ cells3 xs, u.oneCell' = true := by
  intro u hu
  unfold cells3 at hu
  rw [List.mem_flatMap] at hu
  obtain ⟨a, ha, hu⟩ := hu
  simp at hu
  rcases hu with rfl | rfl | rfl
  · exact (h a ha).1
  · exact (h a ha).2.1
  · exact (h a ha).2.2

/-- a row in a block of its own (b), or none at all -/
def Row3 (w : World) (T : TypeId) (v : Value) (xs : List V3) (b : Option Nat) : Prop :=
  (v = .slice none 0 0 ∧ xs = [] ∧ b = none) ∨
  ∃ g cap rest, v = .slice (some ⟨g, 0, none⟩) xs.length cap ∧ b = some g ∧ Blk w g (cells3 xs ++ rest).toArray T ∧ cap * 3 = (cells3 xs ++ rest).length ∧ cap ≤ maxLen
section
variable {w w' : World} {T : TypeId} {v : Value} {xs : List V3} {b : Option Nat}
theorem Row3.upd {F : Nat → Prop} (h : Row3 w T v xs b) (hu : Upd F w w') (hf : ∀ g, b = some g → ¬ F g) : Row3 w' T v xs b := by
  rcases h with h | ⟨g, cap, rest, hv, hb, hB, hc, hm⟩
  · exact Or.inl h
  · exact Or.inr ⟨g, cap, rest, hv, hb, Blk.upd hu hB (hf g hb), hc, hm⟩
theorem Row3.below (h : Row3 w T v xs b) (hb : Below w.heap.size w w') : Row3 w' T v xs b := h.upd (Upd.of_below (F := fun _ => False) hb) (fun _ _ h => h)
theorem Row3.lt (h : Row3 w T v xs b) (g : Nat) (hg : b = some g) : g < w.heap.size := by
  rcases h with ⟨_, _, hb⟩ | ⟨g', cap, rest, hv, hb, hB, hc, hm⟩
  · rw [hb] at hg; cases hg
  · rw [hb] at hg; cases hg; exact hB.lt
theorem Row3.slice (h : Row3 w T v xs b) : ∃ a c, v = .slice a xs.length c := by
  rcases h with ⟨rfl, rfl, _⟩ | ⟨g, cap, rest, rfl, _⟩
  · exact ⟨_, _, rfl⟩
  · exact ⟨_, _, rfl⟩
theorem Row3.cap {a : Option Addr} {n c : Nat} (h : Row3 w T (.slice a n c) xs b) : n ≤ c ∧ n = xs.length ∧ c ≤ maxLen := by
  rcases h with ⟨h, rfl, _⟩ | ⟨g, cap, rest, hv, hb, hB, hc, hm⟩
  · cases h; exact ⟨Nat.le_refl _, rfl, Nat.zero_le _⟩
  · simp only [Value.slice.injEq] at hv
    obtain ⟨rfl, rfl, rfl⟩ := hv
    rw [List.length_append, cells3_len] at hc
    exact ⟨by omega, rfl, hm⟩
theorem blk_row {g : Nat} {rest : List Value} (hB : Blk w g (cells3 xs ++ rest).toArray T) (k : Nat) (x : V3) (hx : xs[k]? = some x) : w.cell? ⟨g, k * 3, none⟩ = some x.1 ∧ w.cell? ⟨g, k * 3 + 1, none⟩ = some x.2.1 ∧ w.cell? ⟨g, k * 3 + 2, none⟩ = some x.2.2 := by
  have hk : k < xs.length := (List.getElem?_eq_some_iff.1 hx).1
  have hl := cells3_len xs
  obtain ⟨h1, h2, h3⟩ := cells3_at xs k x hx
  rw [hB.rd, hB.rd, hB.rd]
  simp only [List.getElem?_toArray]
  rw [List.getElem?_append_left (by omega), List.getElem?_append_left (by omega), List.getElem?_append_left (by omega)]
  exact ⟨h1, h2, h3⟩
theorem Row3.of_own {base n : Nat} (hn : xs.length = n) (h : w.ownsRow base T 3 v n (cells3 xs)) : ∃ b, Row3 w T v xs b ∧ ∀ g, b = some g → base ≤ g := by
  obtain ⟨hl, h⟩ := h
  rcases h with ⟨hv, h0⟩ | ⟨g, cap, cur, hv, hg, hh, hnc, hm, hs, ht⟩
  · refine ⟨none, Or.inl ⟨hv, ?_, rfl⟩, fun g hg => by cases hg⟩
    apply List.eq_nil_of_length_eq_zero; omega
  · refine ⟨some g, Or.inr ⟨g, cap, cur.toList.drop (n * 3), by rw [hn]; exact hv, rfl, ?_, ?_, hm⟩, fun g' hg' => by cases hg'; exact hg⟩
    · show w.heap[g]? = _
      rw [hh]
      have e : cells3 xs ++ cur.toList.drop (n * 3) = cur.toList := by rw [← ht]; exact List.take_append_drop _ _
      rw [e]
    · have hp := cells3_len xs
      have hcs : cur.toList.length = cap * 3 := by simpa using hs
      rw [List.length_append, hp, List.length_drop, hcs]; omega
theorem Row3.own (h : Row3 w T v xs b) : w.ownsRow 0 T 3 v xs.length (cells3 xs) := by
  have hp := cells3_len xs
  refine ⟨hp, ?_⟩
  rcases h with ⟨hv, h0, _⟩ | ⟨g, cap, rest, hv, hg, hB, hc, hm⟩
  · exact Or.inl ⟨hv, by rw [h0]; rfl⟩
  · refine Or.inr ⟨g, cap, _, hv, Nat.zero_le _, hB, ?_, hm, ?_, ?_⟩
    · rw [List.length_append, hp] at hc; omega
    · simpa using hc.symm
    · rw [← hp]; simp
end
/-- more behind a row of the call's own, out of a stretch that can be read (there may be none) -/
theorem wp_app3 {P : Program} {ops : Array Oper} {rest : List Oper} {o : Oper} {a : Act} {Q : Exit → Act → World → Prop} {w : World} (hgd : o.guard = none) (s x : Operand) (S T : TypeId) (z : Value) (bytes : Nat)
    (hinf : (P.info? T).map (fun i => (i.zero, i.size, i.bytes)) = some (some z, 3, bytes)) (hz2 : z.cells.size = 3) (hb2 : bytes ≤ 64) (hS : P.underlying S = some (.slice T))
    (ho : o.op = .call { callee := .builtin .append, args := #[s, x], argTypes := #[S, S] }) (v : Value) (xs : List V3) (b : Option Nat) (hs : a.eval s = v) (hI : Row3 w T v xs b)
    (ad : Option Addr) (m c : Nat) (ys : List V3) (hm : ys.length = m) (hx : a.eval x = .slice ad m c) (hnews : 0 < m → ∃ A, ad = some A ∧ ∀ (j : Nat) (u : Value), (cells3 ys)[j]? = some u → w.cell? (A.add j) = some u) (hone : One3 ys) (hlen : xs.length + ys.length ≤ 3000)
    (h : ∀ v' w' b', Row3 w' T v' (xs ++ ys) b' → (∀ g, b' = some g → b = some g ∨ w.heap.size ≤ g) → Upd (fun k => b = some k) w w' → wpList P ops Q rest (a.put o.dst v') w') : wpList P ops Q (o :: rest) a w := by
  subst hm
  obtain ⟨i0, hi, hz0, hz1, hzb⟩ := info_parts hinf
  have hp := cells3_len xs
  have hq := cells3_len ys
  have hcone := hone.cells
  have hpy : cells3 xs ++ cells3 ys = cells3 (xs ++ ys) := (cells3_app xs ys).symm
  have hown := hI.own
  by_cases hpos : 0 < ys.length
  · obtain ⟨ad, rfl, hnw⟩ := hnews hpos
    rcases hI with ⟨rfl, rfl, rfl⟩ | ⟨g, cap, rst, rfl, rfl, hBg, hc, hmx⟩
    · refine wpList_append_grows w hgd s x S ho T i0 z 3 bytes hS hi hz0 hz1 hzb hz2 (by decide) none 0 0 [] hs (fun _ => ⟨rfl, rfl⟩) rfl (fun b hb => by cases hb) ad ys.length c _ hx hq hnw hcone (by omega) (by unfold maxLen; simp at hlen; omega) (by simp at hlen; have : (0 + ys.length) * bytes ≤ 3000 * 64 := Nat.mul_le_mul (by omega) hb2; omega) ?_
      intro v' w' h1 h2
      obtain ⟨B', hI', hb'⟩ := Row3.of_own (xs := ys) (by simp) h1
      exact h v' w' B' hI' (fun g hg => Or.inr (hb' g hg)) (Upd.grown h2 (fun k hk => by cases hk))
    · by_cases hf : xs.length + ys.length ≤ cap
      · refine wpList_append_fits w hgd s x S ho 0 T i0 3 hS hi hz1 g xs.length cap (cells3 xs) hs hown ad ys.length c _ hx hq hnw hcone hf ?_
        intro w' h1 h2
        rw [hpy] at h1
        obtain ⟨B', hI', hb'⟩ := Row3.of_own (xs := xs ++ ys) (by simp) h1
        have hB' : B' = some g := by
          rcases hI' with ⟨hv, _⟩ | ⟨g', _, _, hv, rfl, _⟩
          · cases hv
          · simp only [Value.slice.injEq, Option.some.injEq, Addr.mk.injEq] at hv
            rw [hv.1.1]
        exact h _ w' B' hI' (fun g' hg' => Or.inl (by rw [← hg', hB'])) (Upd.grown h2 (fun k hk => by cases hk; rfl))
      · refine wpList_append_grows w hgd s x S ho T i0 z 3 bytes hS hi hz0 hz1 hzb hz2 (by decide) (some ⟨g, 0, none⟩) xs.length cap (cells3 xs) hs (fun h => by cases h) hp ?_ ad ys.length c _ hx hq hnw hcone (by omega) (by unfold maxLen; omega) (by have : (xs.length + ys.length) * bytes ≤ 3000 * 64 := Nat.mul_le_mul (by omega) hb2; omega) ?_
        · intro b' hb' j u hj
          cases hb'
          have hjl : j < (cells3 xs).length := (List.getElem?_eq_some_iff.1 hj).1
          have : (⟨g, 0, none⟩ : Addr).add j = ⟨g, j, none⟩ := by
            unfold Addr.add; by_cases h0 : j = 0
            · subst h0; rfl
            · rw [if_neg h0]; simp
          rw [this, hBg.rd]
          simp only [List.getElem?_toArray]
          rw [List.getElem?_append_left hjl]; exact hj
        · intro v' w' h1 h2
          rw [hpy] at h1
          obtain ⟨B', hI', hb'⟩ := Row3.of_own (xs := xs ++ ys) (by simp) h1
          exact h v' w' B' hI' (fun g' hg' => Or.inr (hb' g' hg')) (Upd.grown h2 (fun k hk => by cases hk))
  · obtain rfl : ys = [] := List.eq_nil_of_length_eq_zero (by omega)
    have e : ∃ base n cap, v = .slice base n cap ∧ n ≤ cap := by
      rcases hI with ⟨rfl, _⟩ | ⟨g, cap, rst, rfl, _, _, hc, _⟩
      · exact ⟨none, 0, 0, rfl, Nat.le_refl _⟩
      · exact ⟨_, _, _, rfl, by rw [List.length_append, hp] at hc; omega⟩
    obtain ⟨base, n, cap, rfl, hle⟩ := e
    have hsrc : Src P i0.size S (.slice ad 0 c) 0 [] w := by
      cases ad with
      | none => exact Src.ofNil w hS c
      | some A => exact Src.ofSlice w hS A 0 c [] (by simp) (fun j u hj => by simp at hj) (fun u hu => by cases hu)
    have hrun := run_append_nothing (P := P) w S S o.type T i0 hS hi base n cap hle (.slice ad 0 c) hsrc
    refine wpList_plain hgd fun K hK => ?_
    unfold Oper.wp
    simp only [List.length_nil] at hx
    simp [execOp, ho, resolve, invoke, builtin, hs, hx, hrun, Result.andThen]
    exact hK _ _ (h _ w b (by simpa using hI) (fun g hg => Or.inl hg) (Upd.refl _ _))
end Go.Proofs.YtchnjfmimpikcaaGreatDoor.Three
