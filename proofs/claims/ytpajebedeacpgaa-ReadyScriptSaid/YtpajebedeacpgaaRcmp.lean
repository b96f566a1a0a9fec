/-
  prio.Compare; priorities that can be read; who comes in by turns (plain).
-/
import Derived.Test.YtpajebedeacpgaaRaw
namespace Go.Proofs.Ytpajebedeacpgaa
set_option linter.unusedSimpArgs false
set_option linter.unusedVariables false
open Go.RowKit Own Sl
open RegJ hiding Up
open RegF hiding put_size

def cmpP (p q : Pr) : Int := if p.1 ≠ q.1 then cmpF p.1 q.1 else if p.1 = 1 then cmpF q.2.2 p.2.2 else cmpF p.2.1 q.2.1
theorem high_is (p q : Pr) (w : World) : Calls Try.prog 39 #[prV p, prV q] w (ValB (.int .i64 (cmpF p.2.1 q.2.1)) w) := by
  obtain ⟨c, l, d⟩ := p
  obtain ⟨c', l', d'⟩ := q
  unfold prV
  simp only
  go_enter Try.func39, Try.ntmps39
  go_wp2_with (go_at_call 38; refine (compare_is _ _ _).mono ?_; rintro e w' ⟨rfl, rfl⟩)
  go_ret
  exact ⟨rfl, ((Below.refl _ _).alloc (Nat.le_refl _) _).alloc (by simp) _⟩
theorem due_is (p q : Pr) (w : World) : Calls Try.prog 40 #[prV p, prV q] w (ValB (.int .i64 (cmpF q.2.2 p.2.2)) w) := by
  obtain ⟨c, l, d⟩ := p
  obtain ⟨c', l', d'⟩ := q
  unfold prV
  simp only
  go_enter Try.func40, Try.ntmps40
  go_wp2_with (go_at_call 38; refine (compare_is _ _ _).mono ?_; rintro e w' ⟨rfl, rfl⟩)
  go_ret
  exact ⟨rfl, ((Below.refl _ _).alloc (Nat.le_refl _) _).alloc (by simp) _⟩
theorem blk33 (w : World) (c l d c' l' d' : Int) : Below w.heap.size w ((w.alloc (.cells #[.int .i64 c, .int .i64 l, .int .i64 d] 31)).alloc (.cells #[.int .i64 c', .int .i64 l', .int .i64 d'] 31)) := ((Below.refl _ _).alloc (Nat.le_refl _) _).alloc (by simp) _
set_option maxRecDepth 100000 in
theorem pcmp_is (p q : Pr) (w : World) : Calls Try.prog 25 #[prV p, prV q] w (ValB (.int .i64 (cmpP p q)) w) := by
  obtain ⟨c, l, d⟩ := p
  obtain ⟨c', l', d'⟩ := q
  have hhi := high_is (c, l, d) (c', l', d')
  have hdu := due_is (c, l, d) (c', l', d')
  have hB := Lib.hid (blk33 w c l d c' l' d')
  unfold prV at *
  simp only at *
  by_cases h1 : c = c'
  · subst h1
    have d1 : (c != c) = false := by simp
    by_cases h2 : c = 1
    · subst h2
      have e : cmpP (1, l, d) (1, l', d') = cmpF d' d := by unfold cmpP; simp
      rw [e]
      clear e d1 hhi
      go_enter Try.func25, Try.ntmps25
      go_wp2_with (go_at_call 40; refine (hdu _).mono ?_; rintro e w1 ⟨rfl, hB1⟩; have HB1 := Lib.hid hB1; clear hB1 hdu)
      go_returns
      exact ⟨rfl, hB.out.trans (HB1.out.mono hB.out.size)⟩
    · have d2 : (c == 1) = false := by simpa using h2
      have e : cmpP (c, l, d) (c, l', d') = cmpF l l' := by unfold cmpP; simp [h2]
      rw [e]
      clear e hdu h2
      go_enter Try.func25, Try.ntmps25
      go_wp2_with (go_at_call 39; refine (hhi _).mono ?_; rintro e w1 ⟨rfl, hB1⟩; have HB1 := Lib.hid hB1; clear hB1 hhi)
      go_returns
      exact ⟨rfl, hB.out.trans (HB1.out.mono hB.out.size)⟩
  · have d1 : (c != c') = true := by simpa using h1
    have e : cmpP (c, l, d) (c', l', d') = cmpF c c' := by unfold cmpP; simp [h1]
    rw [e]
    clear e h1 hhi hdu
    go_enter Try.func25, Try.ntmps25
    go_wp2_with (go_at_call 38; refine (compare_is _ _ _).mono ?_; rintro e w' ⟨rfl, rfl⟩)
    go_returns
    exact ⟨rfl, hB.out⟩
theorem cmpF_pos {x y : Int} : 0 < cmpF x y ↔ y < x := by
  unfold cmpF
  split
  · omega
  · split <;> omega
theorem cmpF_neg {x y : Int} : cmpF x y < 0 ↔ x < y := by
  unfold cmpF
  split
  · omega
  · split <;> omega
theorem cmpP_pos {p q : Pr} : 0 < cmpP p q ↔ gtP p q := by
  unfold cmpP gtP
  split
  · exact cmpF_pos
  · split <;> exact cmpF_pos
theorem cmpP_neg {p q : Pr} : cmpP p q < 0 ↔ gtP q p := by
  unfold cmpP gtP
  by_cases h : p.1 = q.1
  · have e1 : ¬ p.1 ≠ q.1 := fun e => e h
    have e2 : ¬ q.1 ≠ p.1 := fun e => e h.symm
    rw [if_neg e1, if_neg e2]
    by_cases h1 : p.1 = 1
    · rw [if_pos h1, if_pos (h ▸ h1)]
      exact cmpF_neg
    · rw [if_neg h1, if_neg (fun e => h1 (h.trans e))]
      exact cmpF_neg
  · rw [if_pos h, if_pos (fun e => h e.symm)]
    exact cmpF_neg
theorem cmp_ahd {x y : One} (h : ahd x y) : ¬ cmpP x.2 y.2 < 0 ∧ (cmpP x.2 y.2 = 0 → x.1 < y.1) := by
  rw [cmpP_neg]
  rcases h with h | ⟨h1, h2⟩
  · exact ⟨gt_asym h, fun e => by have := cmpP_pos.2 h; omega⟩
  · exact ⟨h1, fun _ => h2⟩

/-! ### priorities that can be read -/
def Rd3 (w : World) (g a : Nat) (p : Pr) : Prop := w.cell? ⟨g, a, none⟩ = some (.int .i64 p.1) ∧ w.cell? ⟨g, a + 1, none⟩ = some (.int .i64 p.2.1) ∧ w.cell? ⟨g, a + 2, none⟩ = some (.int .i64 p.2.2)
def Prios (w : World) (av : Option Addr) (len : Nat) : Prop := ∀ i, i < len → ∃ g o c l d, av = some ⟨g, o, none⟩ ∧ w.cell? ⟨g, o + i * 3, none⟩ = some (.int .i64 c) ∧ w.cell? ⟨g, o + i * 3 + 1, none⟩ = some (.int .i64 l) ∧ w.cell? ⟨g, o + i * 3 + 2, none⟩ = some (.int .i64 d)
def PrAt (w : World) (av : Option Addr) (len : Nat) (P : Nat → Pr) : Prop := ∀ i, i < len → ∃ g o, av = some ⟨g, o, none⟩ ∧ Rd3 w g (o + i * 3) (P i)
theorem Prios.fn {w : World} {av : Option Addr} {len : Nat} (h : Prios w av len) : ∃ P, PrAt w av len P := by
  have h1 : ∀ i, ∃ p : Pr, i < len → ∃ g o, av = some ⟨g, o, none⟩ ∧ Rd3 w g (o + i * 3) p := fun i => by
    by_cases hi : i < len
    · obtain ⟨g, o, c, l, d, h1, h2, h3, h4⟩ := h i hi
      exact ⟨(c, l, d), fun _ => ⟨g, o, h1, h2, h3, h4⟩⟩
    · exact ⟨(0, 0, 0), fun h => absurd h hi⟩
  exact ⟨fun i => (h1 i).choose, fun i hi => (h1 i).choose_spec hi⟩
theorem cell_lt {w : World} {a : Addr} {v : Value} (h : w.cell? a = some v) : a.block < w.heap.size := by
  rcases Nat.lt_or_ge a.block w.heap.size with h' | h'
  · exact h'
  · unfold World.cell? at h; simp [Array.getElem?_eq_none h'] at h
theorem below_cell {B : Nat} {w w' : World} (hb : Below B w w') (hB : w.heap.size ≤ B) {a : Addr} {v : Value} (h : w.cell? a = some v) : w'.cell? a = some v := (hb.cell (Nat.lt_of_lt_of_le (cell_lt h) hB)).trans h
theorem Rd3.below {B : Nat} {w w' : World} {g a : Nat} {p : Pr} (h : Rd3 w g a p) (hb : Below B w w') (hB : w.heap.size ≤ B) : Rd3 w' g a p := ⟨below_cell hb hB h.1, below_cell hb hB h.2.1, below_cell hb hB h.2.2⟩

/-! ### who comes in by turns -/
def addAll (P : Nat → Pr) : Nat → List One
  | 0 => []
  | k + 1 => addL (addAll P k) ((k : Int), P k)
variable {P : Nat → Pr}
theorem addL_mem {L : List One} {x y : One} (h : y ∈ addL L x) : y = x ∨ y ∈ L := by
  unfold addL at h
  split at h
  · rcases List.mem_cons.1 ((insA_perm L x).mem_iff.1 h) with h | h
    · exact Or.inl h
    · exact Or.inr h
  · exact Or.inr h
theorem addAll_in : ∀ {k : Nat} {x : One}, x ∈ addAll P k → ∃ j : Nat, j < k ∧ x = ((j : Int), P j)
  | 0, x, h => by cases h
  | k + 1, x, h => by
    rcases addL_mem h with rfl | h
    · exact ⟨k, by omega, rfl⟩
    · obtain ⟨j, hj, e⟩ := addAll_in h
      exact ⟨j, by omega, e⟩
theorem addAll_no (k : Nat) : hasO (addAll P k) k = false := by
  cases h : hasO (addAll P k) k with
  | false => rfl
  | true =>
    obtain ⟨x, hx, e⟩ := List.mem_map.1 (hasO_iff.1 h)
    obtain ⟨j, hj, rfl⟩ := addAll_in hx
    simp only at e
    omega
theorem addAll_n (k : Nat) : addN (addAll P k) ((k : Int), P k) = if may (P k) = true then 0 else 2 := by
  unfold addN
  simp only
  rw [addAll_no k]
  cases h : may (P k) with
  | false => rw [if_pos (Or.inr rfl)]; rfl
  | true => rw [if_neg (fun e => by rcases e with e | e; omega; cases e), if_neg (by simp), if_pos rfl]
theorem addAll_len (k : Nat) : (addAll P (k + 1)).length = (addAll P k).length + (if may (P k) = true then 1 else 0) := by
  show (addL (addAll P k) ((k : Int), P k)).length = _
  unfold addL
  rw [addAll_n k]
  cases h : may (P k) with
  | false => rw [if_neg (by simp), if_neg (by simp)]; rfl
  | true => rw [if_pos rfl, if_pos rfl, if_pos rfl, insA_len]
theorem addAll_le : ∀ k, (addAll P k).length ≤ k
  | 0 => Nat.le_refl _
  | k + 1 => by rw [addAll_len]; have := addAll_le k; split <;> omega
theorem delA_head {x : One} {t : List One} (h : Gd (x :: t)) : delA (x :: t) x.1 = t := by
  have hn := h.ids
  rw [List.map_cons, List.nodup_cons] at hn
  unfold delA
  rw [List.filter_cons_of_neg (by simp)]
  refine List.filter_eq_self.2 (fun y hy => ?_)
  have : y.1 ≠ x.1 := fun e => hn.1 (by rw [← e]; exact List.mem_map_of_mem hy)
  simpa using this
theorem hasO_head {x : One} {t : List One} (h : Gd (x :: t)) : hasO (x :: t) x.1 = true ∧ hasO t x.1 = false := by
  have hn := h.ids
  rw [List.map_cons, List.nodup_cons] at hn
  refine ⟨hasO_iff.2 (by simp), ?_⟩
  cases hh : hasO t x.1 with
  | false => rfl
  | true => exact absurd (hasO_iff.1 hh) hn.1
theorem wf_nat {n : Nat} (h : n ≤ 1000) : (Lit.int .i64 (n : Int)).wf = true := by
  simp [Lit.wf, IntKind.min, IntKind.max, IntKind.signed, IntKind.bits]
  omega
end Go.Proofs.Ytpajebedeacpgaa
