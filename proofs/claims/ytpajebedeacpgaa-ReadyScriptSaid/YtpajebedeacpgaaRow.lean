/-
  A row of items of the call's own: which one stands ahead, two change places.
-/
import Derived.Test.YtpajebedeacpgaaItem
import Derived.Laws.AppendOwn
namespace Go.Proofs.Ytpajebedeacpgaa
set_option linter.unusedSimpArgs false
set_option linter.unusedVariables false
open Go.RowKit Go.Lib Own RegJ

/-- the cells that hold these items -/
def pcells (xs : List It) : List Value := xs.flatMap fun a => [.int .i64 a.1, .int .i64 a.2]
theorem pcells_len (xs : List It) : (pcells xs).length = xs.length * 2 := by
  unfold pcells
  induction xs with
  | nil => rfl
  | cons a r ih => simp only [List.flatMap_cons, List.length_append, List.length_cons, List.length_nil]; omega
theorem pcells_app (xs ys : List It) : pcells (xs ++ ys) = pcells xs ++ pcells ys := by unfold pcells; simp
theorem pcells_at (xs : List It) (j : Nat) (h : j < xs.length) : (pcells xs)[j * 2]? = some (.int .i64 (xs.getD j (0, 0)).1) ∧ (pcells xs)[j * 2 + 1]? = some (.int .i64 (xs.getD j (0, 0)).2) := by
  unfold pcells
  induction xs generalizing j with
  | nil => simp at h
  | cons a r ih =>
    cases j with
    | zero => simp
    | succ j =>
      have := ih j (by simpa using h)
      simp only [List.flatMap_cons, List.getD_cons_succ]
      rw [show (j + 1) * 2 = (j * 2 + 1) + 1 by omega, show (j * 2 + 1) + 1 + 1 = (j * 2 + 1 + 1) + 1 by omega]
      simpa using this
theorem pcells_set (xs : List It) (j : Nat) (h : j < xs.length) (a : It) : ((pcells xs).set (j * 2) (.int .i64 a.1)).set (j * 2 + 1) (.int .i64 a.2) = pcells (xs.set j a) := by
  unfold pcells
  induction xs generalizing j with
  | nil => simp at h
  | cons b r ih =>
    cases j with
    | zero => simp
    | succ j =>
      have := ih j (by simpa using h)
      simp only [List.flatMap_cons, List.set_cons_succ]
      rw [show (j + 1) * 2 = (j * 2 + 1) + 1 by omega, show (j * 2 + 1) + 1 + 1 = (j * 2 + 1 + 1) + 1 by omega]
      simpa using this

/-- a row of items in a block of its own (b), or none at all -/
def Its (w : World) (v : Value) (xs : List It) (b : Option Nat) : Prop :=
  (v = .slice none 0 0 ∧ xs = [] ∧ b = none) ∨
  ∃ g cap rest, v = .slice (some ⟨g, 0, none⟩) xs.length cap ∧ b = some g ∧ Blk w g (pcells xs ++ rest).toArray 72 ∧ cap * 2 = (pcells xs ++ rest).length ∧ cap ≤ maxLen
theorem Its.upd {w w' : World} {F : Nat → Prop} {v : Value} {xs : List It} {b : Option Nat} (h : Its w v xs b) (hu : Upd F w w') (hf : ∀ g, b = some g → ¬ F g) : Its w' v xs b := by
  rcases h with h | ⟨g, cap, rest, hv, hb, hB, hc, hm⟩
  · exact Or.inl h
  · exact Or.inr ⟨g, cap, rest, hv, hb, Blk.upd hu hB (hf g hb), hc, hm⟩
theorem Its.below {w w' : World} {v : Value} {xs : List It} {b : Option Nat} (h : Its w v xs b) (hb : Below w.heap.size w w') : Its w' v xs b := h.upd (Upd.of_below (F := fun _ => False) hb) (fun _ _ h => h)
theorem Its.lt {w : World} {v : Value} {xs : List It} {b : Option Nat} (h : Its w v xs b) (g : Nat) (hg : b = some g) : g < w.heap.size := by
  rcases h with ⟨_, _, hb⟩ | ⟨g', cap, rest, hv, hb, hB, hc, hm⟩
  · rw [hb] at hg; cases hg
  · rw [hb] at hg; cases hg; exact hB.lt
theorem blk_its {w : World} {g : Nat} {xs : List It} {rest : List Value} (hB : Blk w g (pcells xs ++ rest).toArray 72) (j : Nat) (h : j < xs.length) :
    w.cell? ⟨g, j * 2, none⟩ = some (.int .i64 (xs.getD j (0, 0)).1) ∧ w.cell? ⟨g, j * 2 + 1, none⟩ = some (.int .i64 (xs.getD j (0, 0)).2) := by
  have hl := pcells_len xs
  have := pcells_at xs j h
  rw [hB.rd, hB.rd]
  simp only [List.getElem?_toArray]
  rw [List.getElem?_append_left (by omega), List.getElem?_append_left (by omega)]
  exact this
theorem blk_set {w : World} {g : Nat} {xs : List It} {rest : List Value} (hB : Blk w g (pcells xs ++ rest).toArray 72) (j : Nat) (h : j < xs.length) (a : It) :
    Blk ((w.setCell ⟨g, j * 2, none⟩ (.int .i64 a.1)).setCell ⟨g, j * 2 + 1, none⟩ (.int .i64 a.2)) g (pcells (xs.set j a) ++ rest).toArray 72 := by
  have hl := pcells_len xs
  refine Blk.of ((hB.set (j * 2) (.int .i64 a.1)).set (j * 2 + 1) (.int .i64 a.2)) ?_
  simp only [List.setIfInBounds_toArray]
  congr 1
  rw [List.set_append_left _ _ (by omega), List.set_append_left _ _ (by simp; omega), pcells_set xs j h a]
set_option maxRecDepth 100000 in
theorem less_raw (g n c i k : Nat) (a b x y : Int) (w : World) (hn : n ≤ maxLen) (hi : i < n) (hk : k < n) (c1 : w.cell? ⟨g, i * 2, none⟩ = some (.int .i64 a)) (c2 : w.cell? ⟨g, i * 2 + 1, none⟩ = some (.int .i64 b)) (c3 : w.cell? ⟨g, k * 2, none⟩ = some (.int .i64 x)) (c4 : w.cell? ⟨g, k * 2 + 1, none⟩ = some (.int .i64 y)) :
    Calls Try.prog 114 #[.slice (some ⟨g, 0, none⟩) n c, .int .i64 i, .int .i64 k] w fun e w' => e = .returned (.bool (decide (lt (a, b) (x, y)))) ∧ Below w.heap.size w w' := by
  unfold maxLen at hn
  have i1 : (i : Int) < (n : Int) := by omega
  have i2 : (k : Int) < (n : Int) := by omega
  have hg : g < w.heap.size := by
    rcases Nat.lt_or_ge g w.heap.size with h | h
    · exact h
    · unfold World.cell? at c1; simp [Array.getElem?_eq_none h] at c1
  rw [← befF_lt]
  go_enter Try.func114, Try.ntmps114
  go_wp2
  refine region_J (fun _ w' => Below w.heap.size w w') (by kernel_rfl) (by kernel_rfl) ?_ ?_
  · exact (Below.refl _ _).drew
  · iterate 11
      apply wpJ_op rfl (by rfl)
      · intro f w' hf hJ Q1 hQ
        have d1 := (hJ.cell (p := ⟨g, i * 2, none⟩) hg).trans c1
        have d2 := (hJ.cell (p := ⟨g, i * 2 + 1, none⟩) hg).trans c2
        have d3 := (hJ.cell (p := ⟨g, k * 2, none⟩) hg).trans c3
        have d4 := (hJ.cell (p := ⟨g, k * 2 + 1, none⟩) hg).trans c4
        simp only [Act.put, List.setIfInBounds_toArray, List.set_cons_zero, List.set_cons_succ] at hQ
        go_wp2_with (go_at_call 52; refine (before_is a b x y w').mono ?_; rintro e w2 ⟨rfl, hb2⟩)
        first | exact hQ _ _ rfl hJ | exact hQ _ _ rfl (hJ.trans (hb2.mono hJ.size))
      simp only [Act.put, List.setIfInBounds_toArray, List.set_cons_zero, List.set_cons_succ]
    refine wpJ_nil ?_
    intro w3 hJ3
    go_wp2
    go_ret
    exact ⟨rfl, hJ3⟩
def SwapP (g i k : Nat) (a b x y : Int) (w : World) (e : Ending) (w' : World) : Prop := (∃ v, e = .returned v) ∧ ∃ q, w' = ((((w.setCell ⟨g, i * 2, none⟩ (.int .i64 x)).setCell ⟨g, i * 2 + 1, none⟩ (.int .i64 y)).setCell ⟨g, k * 2, none⟩ (.int .i64 a)).setCell ⟨g, k * 2 + 1, none⟩ (.int .i64 b)).drewN q
theorem set_ne (W : World) (g p q : Nat) (u : Value) (h : q ≠ p) : (W.setCell ⟨g, p, none⟩ u).cell? ⟨g, q, none⟩ = W.cell? ⟨g, q, none⟩ := World.cell?_setCell_other _ _ _ _ (by intro h'; cases h'; exact h rfl)
theorem set_eq (W : World) (g p : Nat) (u v : Value) (h : W.cell? ⟨g, p, none⟩ = some v) : (W.setCell ⟨g, p, none⟩ u).cell? ⟨g, p, none⟩ = some u := by exact (World.cell?_setCell_same _ _ _ h)
set_option maxRecDepth 100000 in
theorem swap_raw (g n c i k : Nat) (a b x y : Int) (w : World) (hn : n ≤ maxLen) (hi : i < n) (hk : k < n) (nf : ∀ j, w.frozen? ⟨g, j, none⟩ = false) (c1 : w.cell? ⟨g, i * 2, none⟩ = some (.int .i64 a)) (c2 : w.cell? ⟨g, i * 2 + 1, none⟩ = some (.int .i64 b)) (c3 : w.cell? ⟨g, k * 2, none⟩ = some (.int .i64 x)) (c4 : w.cell? ⟨g, k * 2 + 1, none⟩ = some (.int .i64 y)) :
    Calls Try.prog 115 #[.slice (some ⟨g, 0, none⟩) n c, .int .i64 i, .int .i64 k] w (SwapP g i k a b x y w) := by
  unfold maxLen at hn
  have i1 : (i : Int) < (n : Int) := by omega
  have i2 : (k : Int) < (n : Int) := by omega
  by_cases hik : i = k
  · subst hik
    have e5 := Option.some.inj (c1.symm.trans c3)
    have e6 := Option.some.inj (c2.symm.trans c4)
    simp only [Value.int.injEq, true_and] at e5 e6
    subst e5; subst e6
    have e1 := set_eq w g (i * 2) (.int .i64 a) _ c1
    have e2 : ∀ u, (w.setCell ⟨g, i * 2, none⟩ u).cell? ⟨g, i * 2 + 1, none⟩ = some (.int .i64 b) := fun u => (set_ne w g _ _ u (by omega)).trans c2
    have e3 := set_eq _ g (i * 2 + 1) (.int .i64 b) _ (e2 (.int .i64 a))
    have e4 : ∀ W : World, ∀ u v, (W.setCell ⟨g, i * 2 + 1, none⟩ u).cell? ⟨g, i * 2, none⟩ = W.cell? ⟨g, i * 2, none⟩ := fun W u v => set_ne W g _ _ u (by omega)
    go_enter Try.func115, Try.ntmps115
    go_wp2
    go_region
    all_goals go_wp2
    all_goals go_returns
    all_goals exact ⟨⟨_, rfl⟩, 1, rfl⟩
  · have e1 : ∀ (W : World) u, (W.setCell ⟨g, i * 2, none⟩ u).cell? ⟨g, k * 2, none⟩ = W.cell? ⟨g, k * 2, none⟩ := fun W u => set_ne W g _ _ u (by omega)
    have e2 : ∀ (W : World) u, (W.setCell ⟨g, i * 2 + 1, none⟩ u).cell? ⟨g, k * 2 + 1, none⟩ = W.cell? ⟨g, k * 2 + 1, none⟩ := fun W u => set_ne W g _ _ u (by omega)
    clear hik
    go_enter Try.func115, Try.ntmps115
    go_wp2
    go_region
    all_goals go_wp2
    all_goals go_returns
    all_goals exact ⟨⟨_, rfl⟩, 1, rfl⟩
end Go.Proofs.Ytpajebedeacpgaa
