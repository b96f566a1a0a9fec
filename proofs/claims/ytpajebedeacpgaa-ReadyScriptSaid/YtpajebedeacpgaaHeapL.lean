/-
  A heap as a list: what going up and going down do to its order. Plain.
-/
import Derived.Test.YtpajebedeacpgaaRow
namespace Go.Proofs.Ytpajebedeacpgaa
set_option linter.unusedSimpArgs false
set_option linter.unusedVariables false

def le (a b : It) : Prop := ¬ lt b a
theorem le_trans {a b c : It} (h : le a b) (k : le b c) : le a c := by unfold le lt at *; omega
theorem lt_le {a b : It} (h : lt a b) : le a b := by unfold le lt at *; omega
theorem le_total {a b : It} (h : ¬ lt a b) : le b a := h
theorem le_refl (a : It) : le a a := by unfold le lt; omega
def X (xs : List It) (j : Nat) : It := xs.getD j (0, 0)
def swapL (xs : List It) (i k : Nat) : List It := (xs.set i (X xs k)).set k (X xs i)
theorem swapL_len (xs : List It) (i k : Nat) : (swapL xs i k).length = xs.length := by unfold swapL; simp
theorem swapL_at (xs : List It) (i k : Nat) (hi : i < xs.length) (hk : k < xs.length) (j : Nat) : X (swapL xs i k) j = if j = k then X xs i else if j = i then X xs k else X xs j := by
  unfold swapL X
  simp only [List.getD_eq_getElem?_getD, List.getElem?_set, List.length_set]
  by_cases h1 : j = k
  · subst h1; simp [hk]
  · by_cases h2 : j = i
    · subst h2; simp [h1, hi, Ne.symm h1]
    · simp [h1, h2, Ne.symm h1, Ne.symm h2]
theorem swapL_perm (xs : List It) (i k : Nat) (hi : i < xs.length) (hk : k < xs.length) : (swapL xs i k).Perm xs := by
  have h := Array.swap_perm (xs := xs.toArray) (i := i) (j := k) (by simpa using hi) (by simpa using hk)
  have e : swapL xs i k = (xs.toArray.swap i k (by simpa using hi) (by simpa using hk)).toList := by
    unfold swapL X
    simp [Array.swap, hi, hk]
  rw [e]
  exact Array.perm_iff_toList_perm.1 h
theorem swapL_drop (xs : List It) (i k n : Nat) (hi : i < n) (hk : k < n) : (swapL xs i k).drop n = xs.drop n := by
  unfold swapL
  rw [List.drop_set_of_lt hk, List.drop_set_of_lt hi]

def HeapOk (xs : List It) (n : Nat) : Prop := ∀ c, 1 ≤ c → c < n → le (X xs ((c - 1) / 2)) (X xs c)
structure OkUp (xs : List It) (n j : Nat) : Prop where
  rest : ∀ c, 1 ≤ c → c < n → c ≠ j → le (X xs ((c - 1) / 2)) (X xs c)
  kids : ∀ c, 1 ≤ c → c < n → (c - 1) / 2 = j → 1 ≤ j → le (X xs ((j - 1) / 2)) (X xs c)
theorem up_step {xs : List It} {n j : Nat} (h : OkUp xs n j) (hn : n ≤ xs.length) (hj : 1 ≤ j) (hjn : j < n) (hl : lt (X xs j) (X xs ((j - 1) / 2))) : OkUp (swapL xs ((j - 1) / 2) j) n ((j - 1) / 2) := by
  have hsw := swapL_at xs ((j - 1) / 2) j (by omega) (by omega)
  generalize hp : (j - 1) / 2 = p at *
  have hpj : p < j := by omega
  refine ⟨fun c hc hcn hne => ?_, fun c hc hcn hpc hp1 => ?_⟩
  · rw [hsw, hsw]
    by_cases h1 : c = j
    · subst h1
      rw [hp, if_neg (by omega), if_pos rfl, if_pos rfl]; exact lt_le hl
    · rw [if_neg h1, if_neg hne]
      by_cases h2 : (c - 1) / 2 = j
      · rw [if_pos h2]
        have := h.kids c hc hcn h2 hj
        rw [hp] at this; exact this
      · rw [if_neg h2]
        by_cases h3 : (c - 1) / 2 = p
        · rw [if_pos h3]
          have := h.rest c hc hcn h1
          rw [h3] at this
          exact le_trans (lt_le hl) this
        · rw [if_neg h3]; exact h.rest c hc hcn h1
  · rw [hsw, hsw, if_neg (by omega), if_neg (by omega)]
    have h0 := h.rest p hp1 (by omega) (by omega)
    by_cases h1 : c = j
    · rw [if_pos h1]; exact h0
    · rw [if_neg h1, if_neg (by omega)]
      have := h.rest c hc hcn h1
      rw [hpc] at this
      exact le_trans h0 this
theorem up_stop {xs : List It} {n j : Nat} (h : OkUp xs n j) (hs : j = 0 ∨ ¬ lt (X xs j) (X xs ((j - 1) / 2))) : HeapOk xs n := by
  intro c hc hcn
  by_cases h1 : c = j
  · subst h1
    rcases hs with hs | hs
    · omega
    · exact hs
  · exact h.rest c hc hcn h1
structure OkDn (xs : List It) (n i : Nat) (moved : Prop) : Prop where
  rest : ∀ c, 1 ≤ c → c < n → c ≠ i → (c - 1) / 2 ≠ i → le (X xs ((c - 1) / 2)) (X xs c)
  kids : ∀ c, 1 ≤ c → c < n → (c - 1) / 2 = i → 1 ≤ i → le (X xs ((i - 1) / 2)) (X xs c)
  top : moved → 1 ≤ i → le (X xs ((i - 1) / 2)) (X xs i)
/-- j is the child of i that stands ahead of the other one -/
def Kid (xs : List It) (n i j : Nat) : Prop := j < n ∧ (j - 1) / 2 = i ∧ 1 ≤ j ∧ ∀ c, 1 ≤ c → c < n → (c - 1) / 2 = i → le (X xs j) (X xs c)
theorem dn_step {xs : List It} {n i j : Nat} {m : Prop} (h : OkDn xs n i m) (hn : n ≤ xs.length) (hk : Kid xs n i j) (hl : lt (X xs j) (X xs i)) : OkDn (swapL xs i j) n j True := by
  obtain ⟨hjn, hji, hj1, hmin⟩ := hk
  have hij : i < j := by omega
  have hsw := swapL_at xs i j (by omega) (by omega)
  refine ⟨fun c hc hcn hne hpj => ?_, fun c hc hcn hpc hp1 => ?_, fun _ _ => ?_⟩
  · rw [hsw, hsw, if_neg hpj, if_neg hne]
    by_cases h1 : c = i
    · subst h1
      rw [if_pos rfl, if_neg (by omega)]
      exact h.kids j hj1 hjn hji hc
    · rw [if_neg h1]
      by_cases h2 : (c - 1) / 2 = i
      · rw [if_pos h2]; exact hmin c hc hcn h2
      · rw [if_neg h2]; exact h.rest c hc hcn h1 h2
  · rw [hsw, hsw, hji, if_neg (by omega), if_pos rfl, if_neg (by omega), if_neg (by omega)]
    have := h.rest c hc hcn (by omega) (by omega)
    rw [hpc] at this; exact this
  · rw [hsw, hsw, hji, if_neg (by omega), if_pos rfl, if_pos rfl]
    exact lt_le hl
/-- no child stands ahead of i -/
def Done (xs : List It) (n i : Nat) : Prop := ∀ c, 1 ≤ c → c < n → (c - 1) / 2 = i → le (X xs i) (X xs c)
theorem done_none {xs : List It} {n i : Nat} (h : n ≤ 2 * i + 1) : Done xs n i := fun c hc hcn hp => by omega
theorem done_kid {xs : List It} {n i j : Nat} (hk : Kid xs n i j) (hl : ¬ lt (X xs j) (X xs i)) : Done xs n i := fun c hc hcn hp => le_trans hl (hk.2.2.2 c hc hcn hp)
theorem dn_heap {xs : List It} {n i : Nat} {m : Prop} (h : OkDn xs n i m) (hd : Done xs n i) (hm : m ∨ i = 0) : HeapOk xs n := by
  intro c hc hcn
  by_cases h1 : c = i
  · subst h1
    rcases hm with hm | hm
    · exact h.top hm hc
    · omega
  · by_cases h2 : (c - 1) / 2 = i
    · rw [h2]; exact hd c hc hcn h2
    · exact h.rest c hc hcn h1 h2
theorem dn_up {xs : List It} {n i : Nat} {m : Prop} (h : OkDn xs n i m) (hd : Done xs n i) : OkUp xs n i := by
  refine ⟨fun c hc hcn h1 => ?_, h.kids⟩
  by_cases h2 : (c - 1) / 2 = i
  · rw [h2]; exact hd c hc hcn h2
  · exact h.rest c hc hcn h1 h2
theorem kid_one {xs : List It} {n i : Nat} (h : 2 * i + 1 < n) (h2 : n ≤ 2 * i + 2 ∨ ¬ lt (X xs (2 * i + 2)) (X xs (2 * i + 1))) : Kid xs n i (2 * i + 1) := by
  refine ⟨h, by omega, by omega, fun c hc hcn hp => ?_⟩
  have : c = 2 * i + 1 ∨ c = 2 * i + 2 := by omega
  rcases this with rfl | rfl
  · exact le_refl _
  · rcases h2 with h2 | h2
    · omega
    · exact h2
theorem kid_two {xs : List It} {n i : Nat} (h : 2 * i + 2 < n) (h2 : lt (X xs (2 * i + 2)) (X xs (2 * i + 1))) : Kid xs n i (2 * i + 2) := by
  refine ⟨h, by omega, by omega, fun c hc hcn hp => ?_⟩
  have : c = 2 * i + 1 ∨ c = 2 * i + 2 := by omega
  rcases this with rfl | rfl
  · exact lt_le h2
  · exact le_refl _
/-- the first one of a heap stands ahead of nobody behind -/
theorem heap_min {xs : List It} {n : Nat} (h : HeapOk xs n) (c : Nat) (hc : c < n) : le (X xs 0) (X xs c) := by
  induction c using Nat.strongRecOn with
  | _ c ih =>
    by_cases h0 : c = 0
    · subst h0; exact le_refl _
    · exact le_trans (ih ((c - 1) / 2) (by omega) (by omega)) (h c (by omega) hc)
end Go.Proofs.Ytpajebedeacpgaa
