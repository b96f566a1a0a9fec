/-
  The queue of numbers, as it lies: which blocks it owns, what they hold.
-/
import Derived.Test.YtpajebedeacpgaaWAll
import Derived.Test.YtpajebedeacpgaaSlQ
import Derived.Test.YtpajebedeacpgaaMapI
import Derived.Test.YtpajebedeacpgaaHeapU
import Derived.Test.YtpajebedeacpgaaJone
namespace Go.Proofs.Ytpajebedeacpgaa
set_option linter.unusedSimpArgs false
set_option linter.unusedVariables false
open Go.RowKit Own
open RegJ hiding Up
open RegF hiding put_size

/-- what a block of the queue's is for -/
inductive Rl where
  | q | mp | hp | hr
  | row (i : Nat)
abbrev Lo := Rl → Option Nat
/-- the queue's cells -/
def rowC (R : Nat → Value) : Array Value := ((List.range 132).map R).toArray
theorem rowC_at (R : Nat → Value) (j : Nat) (h : j < 132) : (rowC R)[j]? = some (R j) := by unfold rowC; simp [h]
def putF {α : Type} (R : Nat → α) (j : Nat) (v : α) : Nat → α := fun k => if k = j then v else R k
theorem putF_eq {α : Type} (R : Nat → α) (j : Nat) (v : α) : putF R j v j = v := by unfold putF; rw [if_pos rfl]
theorem putF_ne {α : Type} (R : Nat → α) (j : Nat) (v : α) {k : Nat} (h : k ≠ j) : putF R j v k = R k := by unfold putF; rw [if_neg h]
theorem rowC_set (R : Nat → Value) (j : Nat) (h : j < 132) (v : Value) : (rowC R).setIfInBounds j v = rowC (putF R j v) := by
  unfold rowC
  apply Array.ext_getElem?
  intro k
  simp only [List.setIfInBounds_toArray, List.getElem?_toArray, List.getElem?_set, List.length_map, List.length_range, List.getElem?_map]
  by_cases e : j = k
  · subst e
    rw [if_pos rfl, if_pos h, List.getElem?_range h]
    simp [putF]
  · rw [if_neg e]
    by_cases hk : k < 132
    · rw [List.getElem?_range hk]; simp [putF_ne R j v (fun h => e h.symm)]
    · rw [List.getElem?_eq_none (by simp; omega)]; rfl
/-- where rows of kind r (0: fixed, 1: best) begin -/
def ro (r : Nat) : Nat := 1 + 65 * r
structure QB (w : World) (qb : Nat) (R : Nat → Value) (F : Nat → List Int) (W : Nat → Nat) (m : Int → Option Value) (s : Nat) (hs : List It) (lo : Lo) (N : Nat) : Prop where
  inj : ∀ r r' k, lo r = some k → lo r' = some k → r = r'
  lt : ∀ r k, lo r = some k → k < w.heap.size
  at' : lo .q = some qb
  map : ∃ mb n, lo .mp = some mb ∧ R 0 = .map (some mb) ∧ MapI w Try.prog 3 mb n s m ∧ n ≤ N
  heap : ∃ hb, lo .hp = some hb ∧ R 131 = .pointer (some ⟨hb, 0, none⟩) ∧ ∃ xs, xs.Perm hs ∧ Hp w hb xs (lo .hr)
  blk : Blk w qb (rowC R) 62
  word : ∀ r, r < 2 → R (ro r) = .int .u64 (W r)
  row : ∀ r i, r < 2 → i < 64 → Ints w 3 (R (ro r + 1 + i)) (F (64 * r + i)) (lo (.row (64 * r + i)))
  far : ∀ i, 128 ≤ i → lo (.row i) = none
  len : ∀ i, (F i).length ≤ N
/-- a step from lo to lo' -/
def QFr (lo lo' : Lo) (w w' : World) : Prop := Upd (fun k => ∃ r, lo r = some k) w w' ∧ ∀ r k, lo' r = some k → (∃ r', lo r' = some k) ∨ w.heap.size ≤ k
theorem QFr.refl (lo : Lo) (w : World) : QFr lo lo w w := ⟨Upd.refl _ _, fun r k h => Or.inl ⟨r, h⟩⟩
theorem QFr.trans {a b c : Lo} {w1 w2 w3 : World} (h : QFr a b w1 w2) (g : QFr b c w2 w3) : QFr a c w1 w3 := by
  have z := h.1.size
  refine ⟨h.1.trans g.1 (fun k hk ⟨r, hr⟩ => ?_), fun r k hr => ?_⟩
  · rcases h.2 r k hr with h1 | h1
    · exact h1
    · omega
  · rcases g.2 r k hr with ⟨r', h1⟩ | h1
    · exact h.2 r' k h1
    · exact Or.inr (by omega)
theorem QFr.of_below {lo : Lo} {w w' : World} (h : Below w.heap.size w w') : QFr lo lo w w' := ⟨Upd.of_below h, fun r k h => Or.inl ⟨r, h⟩⟩
section
variable {w w' : World} {qb : Nat} {R : Nat → Value} {F : Nat → List Int} {W : Nat → Nat} {m : Int → Option Value} {s : Nat} {hs : List It} {lo : Lo} {N : Nat}
theorem Hp.upd {w w' : World} {bh : Nat} {xs : List It} {b : Option Nat} {F : Nat → Prop} (h : Hp w bh xs b) (hu : Upd F w w') (h1 : ¬ F bh) (h2 : ∀ g, b = some g → ¬ F g) : Hp w' bh xs b := ⟨h.1.upd hu h1 h2, h.2⟩
theorem QB.upd {G : Nat → Prop} (h : QB w qb R F W m s hs lo N) (hu : Upd G w w') (hG : ∀ r k, lo r = some k → ¬ G k) : QB w' qb R F W m s hs lo N := by
  obtain ⟨mb, n, m1, m2, m3, m4⟩ := h.map
  obtain ⟨hb, h1, h2, xs, h3, h4⟩ := h.heap
  exact ⟨h.inj, fun r k hk => Nat.lt_of_lt_of_le (h.lt r k hk) hu.size, h.at', ⟨mb, n, m1, m2, m3.upd hu (hG _ _ m1), m4⟩, ⟨hb, h1, h2, xs, h3, h4.upd hu (hG _ _ h1) (fun g hg => hG _ _ hg)⟩, Blk.upd hu h.blk (hG _ _ h.at'), h.word, fun r i hr hi => (h.row r i hr hi).upd hu (fun g hg => hG _ _ hg), h.far, h.len⟩
theorem QB.below (h : QB w qb R F W m s hs lo N) (hB : Below w.heap.size w w') : QB w' qb R F W m s hs lo N := h.upd (Upd.of_below (F := fun _ => False) hB) (fun _ _ _ h => h)
theorem QB.more {N' : Nat} (h : QB w qb R F W m s hs lo N) (hN : N ≤ N') : QB w qb R F W m s hs lo N' := by
  obtain ⟨mb, n, m1, m2, m3, m4⟩ := h.map
  exact ⟨h.inj, h.lt, h.at', ⟨mb, n, m1, m2, m3, by omega⟩, h.heap, h.blk, h.word, h.row, h.far, fun i => Nat.le_trans (h.len i) hN⟩
theorem QB.cell (h : QB w qb R F W m s hs lo N) (j : Nat) (hj : j < 132) : w.cell? ⟨qb, j, none⟩ = some (R j) := by rw [h.blk.rd, rowC_at R j hj]
/-- another row in a row's place -/
def loRow (lo : Lo) (j : Nat) (b : Option Nat) : Lo := fun r => match r with
  | .row i => if i = j then b else lo (.row i)
  | .q => lo .q
  | .mp => lo .mp
  | .hp => lo .hp
  | .hr => lo .hr
theorem loRow_old {j : Nat} {b : Option Nat} {r : Rl} {k : Nat} (h : loRow lo j b r = some k) : (lo r = some k ∧ r ≠ .row j) ∨ (r = .row j ∧ b = some k) := by
  cases r <;> simp only [loRow] at h
  case row i =>
    by_cases e : i = j
    · rw [if_pos e] at h; exact Or.inr ⟨by rw [e], h⟩
    · rw [if_neg e] at h; exact Or.inl ⟨h, fun e2 => e (by injection e2)⟩
  all_goals exact Or.inl ⟨h, fun e => by cases e⟩
theorem ro_lt {r i : Nat} (hr : r < 2) (hi : i < 64) : ro r + 1 + i < 131 ∧ 1 ≤ ro r := by unfold ro; omega
theorem QB.setRow (h : QB w qb R F W m s hs lo N) {r i : Nat} (hr : r < 2) (hi : i < 64) {v : Value} {xs : List Int} {b : Option Nat}
    (hu : Upd (fun k => k = qb ∨ lo (.row (64 * r + i)) = some k) w w') (hb : Blk w' qb (rowC (putF R (ro r + 1 + i) v)) 62) (hI : Ints w' 3 v xs b) (hn : ∀ g, b = some g → lo (.row (64 * r + i)) = some g ∨ w.heap.size ≤ g) (hl : xs.length ≤ N) :
    QB w' qb (putF R (ro r + 1 + i) v) (putF F (64 * r + i) xs) W m s hs (loRow lo (64 * r + i) b) N ∧ QFr lo (loRow lo (64 * r + i) b) w w' := by
  obtain ⟨mb, n, m1, m2, m3, m4⟩ := h.map
  obtain ⟨hb', h1, h2, xs', h3, h4⟩ := h.heap
  have hq := h.lt _ _ h.at'
  obtain ⟨q1, q2⟩ := ro_lt hr hi
  have nG : ∀ r' k, lo r' = some k → r' ≠ .q → r' ≠ .row (64 * r + i) → ¬ (k = qb ∨ lo (.row (64 * r + i)) = some k) := fun r' k hk e1 e2 e => by
    rcases e with e | e
    · rw [e] at hk; exact e1 (h.inj _ _ _ hk h.at')
    · exact e2 (h.inj _ _ _ hk e)
  have inj' : ∀ g, b = some g → ∀ r', lo r' = some g → r' = .row (64 * r + i) := fun g hg r' hr' => by
    rcases hn g hg with h5 | h5
    · exact h.inj _ _ _ hr' h5
    · have := h.lt _ _ hr'; omega
  have hz := hu.size
  refine ⟨⟨fun a c k ha hc => ?_, fun a k ha => ?_, h.at', ⟨mb, n, m1, by rw [putF_ne _ _ _ (by omega)]; exact m2, m3.upd hu (nG _ _ m1 (fun e => by cases e) (fun e => by cases e)), m4⟩, ⟨hb', h1, by rw [putF_ne _ _ _ (by omega)]; exact h2, xs', h3, h4.upd hu (nG _ _ h1 (fun e => by cases e) (fun e => by cases e)) (fun g hg => nG _ _ hg (fun e => by cases e) (fun e => by cases e))⟩, hb, fun r' hr' => ?_, fun r' i' hr' hi' => ?_, fun j hj => ?_, fun j => ?_⟩, hu.mono (fun k _ e => ?_), fun a k ha => ?_⟩
  · rcases loRow_old ha with ⟨a1, na⟩ | ⟨e1, a1⟩ <;> rcases loRow_old hc with ⟨c1, nc⟩ | ⟨e2, c1⟩
    · exact h.inj _ _ _ a1 c1
    · exact absurd (inj' k c1 a a1) na
    · exact absurd (inj' k a1 c c1) nc
    · rw [e1, e2]
  · rcases loRow_old ha with ⟨a1, na⟩ | ⟨e1, a1⟩
    · have := h.lt _ _ a1; omega
    · exact hI.lt k a1
  · rw [putF_ne _ _ _ (by unfold ro at *; omega)]; exact h.word r' hr'
  · by_cases e : 64 * r' + i' = 64 * r + i
    · have e1 : r' = r := by omega
      have e2 : i' = i := by omega
      subst e1; subst e2
      rw [putF_eq, putF_eq]
      show Ints w' _ v xs (if 64 * r' + i' = 64 * r' + i' then b else _)
      rw [if_pos rfl]; exact hI
    · rw [putF_ne _ _ _ (by unfold ro; omega), putF_ne _ _ _ e]
      show Ints w' _ _ _ (if 64 * r' + i' = 64 * r + i then b else _)
      rw [if_neg e]
      exact (h.row r' i' hr' hi').upd hu (fun g hg => nG _ _ hg (fun e => by cases e) (fun e2 => e (by injection e2)))
  · show (if j = 64 * r + i then b else lo (.row j)) = none
    rw [if_neg (by omega)]; exact h.far j hj
  · by_cases e : j = 64 * r + i
    · rw [e, putF_eq]; exact hl
    · rw [putF_ne _ _ _ e]; exact h.len j
  · rcases e with e | e
    · exact ⟨.q, by rw [e]; exact h.at'⟩
    · exact ⟨_, e⟩
  · rcases loRow_old ha with ⟨a1, _⟩ | ⟨e1, a1⟩
    · exact Or.inl ⟨_, a1⟩
    · rcases hn k a1 with h5 | h5
      · exact Or.inl ⟨_, h5⟩
      · exact Or.inr h5
/-- another word -/
theorem QB.setWord (h : QB w qb R F W m s hs lo N) {r : Nat} (hr : r < 2) (x : Nat) :
    QB (w.setCell ⟨qb, ro r, none⟩ (.int .u64 x)) qb (putF R (ro r) (.int .u64 x)) F (putF W r x) m s hs lo N ∧ QFr lo lo w (w.setCell ⟨qb, ro r, none⟩ (.int .u64 x)) := by
  obtain ⟨mb, n, m1, m2, m3, m4⟩ := h.map
  obtain ⟨hb', h1, h2, xs', h3, h4⟩ := h.heap
  have hu : Upd (fun k => k = qb) w (w.setCell ⟨qb, ro r, none⟩ (.int .u64 x)) := (Upd.refl (fun k => k = qb) w).setCell (p := ⟨qb, ro r, none⟩) (fun _ => rfl) _
  have nG : ∀ r' k, lo r' = some k → r' ≠ .q → ¬ (k = qb) := fun r' k hk e1 e => by
    rw [e] at hk; exact e1 (h.inj _ _ _ hk h.at')
  have hrl : ro r < 132 ∧ 1 ≤ ro r := by unfold ro; omega
  refine ⟨⟨h.inj, fun r k hk => Nat.lt_of_lt_of_le (h.lt r k hk) hu.size, h.at', ⟨mb, n, m1, by rw [putF_ne _ _ _ (by omega)]; exact m2, m3.upd hu (nG _ _ m1 (fun e => by cases e)), m4⟩, ⟨hb', h1, by rw [putF_ne _ _ _ (by unfold ro; omega)]; exact h2, xs', h3, h4.upd hu (nG _ _ h1 (fun e => by cases e)) (fun g hg => nG _ _ hg (fun e => by cases e))⟩, Blk.of (h.blk.set _ _) (rowC_set R _ hrl.1 _), fun r' hr' => ?_, fun r' i' hr' hi' => ?_, h.far, h.len⟩, hu.mono (fun k _ e => ⟨.q, by rw [e]; exact h.at'⟩), fun r k hk => Or.inl ⟨r, hk⟩⟩
  · by_cases e : r' = r
    · subst e; rw [putF_eq, putF_eq]
    · rw [putF_ne _ _ _ (by unfold ro; omega), putF_ne _ _ _ e]; exact h.word r' hr'
  · rw [putF_ne _ _ _ (by unfold ro; omega)]
    exact (h.row r' i' hr' hi').upd hu (fun g hg => nG _ _ hg (fun e => by cases e))
end
end Go.Proofs.Ytpajebedeacpgaa
