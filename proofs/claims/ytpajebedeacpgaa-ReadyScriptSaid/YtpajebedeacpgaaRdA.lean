/-
  Numbers by priorities: all of them in order, level by level: plain.
-/
import Derived.Test.YtpajebedeacpgaaRdL
namespace Go.Proofs.Ytpajebedeacpgaa
set_option linter.unusedSimpArgs false
set_option linter.unusedVariables false
open Go.RowKit Own

theorem fm_congr {α β : Type} {f g : α → List β} : ∀ {l : List α}, (∀ x ∈ l, f x = g x) → l.flatMap f = l.flatMap g
  | [], _ => rfl
  | a :: r, h => by rw [List.flatMap_cons, List.flatMap_cons, h a (List.mem_cons_self ..), fm_congr (fun x hx => h x (List.mem_cons_of_mem _ hx))]
def dn : Nat → List Nat
  | 0 => []
  | k + 1 => k :: dn k
theorem lev_dn {β : Type} {f : Nat → Bool} {G : Nat → List β} : ∀ k, (∀ i, i < k → f i = false → G i = []) → (levF f k).flatMap G = (dn k).flatMap G
  | 0, _ => rfl
  | k + 1, h => by
    have ih := lev_dn k (fun i hi => h i (by omega))
    unfold levF dn
    cases hf : f k with
    | true => simp only [if_true, List.flatMap_cons]; rw [ih]
    | false => simp only [Bool.false_eq_true, if_false, List.flatMap_cons]; rw [h k (by omega) hf, ih]; rfl
theorem part {α : Type} {p : α → Bool} : ∀ {L : List α}, L.Pairwise (fun a b => p b = true → p a = true) → L = L.filter p ++ L.filter (fun x => !p x)
  | [], _ => rfl
  | a :: r, h => by
    rw [List.pairwise_cons] at h
    cases hp : p a with
    | true =>
      rw [List.filter_cons_of_pos hp, List.filter_cons_of_neg (by simp [hp]), List.cons_append, ← part h.2]
    | false =>
      have h0 : r.filter p = [] := List.filter_eq_nil_iff.2 (fun x hx hpx => by have := h.1 x hx hpx; rw [hp] at this; cases this)
      rw [List.filter_cons_of_neg (by simp [hp]), h0, List.nil_append, List.filter_cons_of_pos (by simp [hp])]
      congr 1
      exact (List.filter_eq_self.2 (fun x hx => by
        cases hpx : p x with
        | false => rfl
        | true => have := h.1 x hx hpx; rw [hp] at this; cases this)).symm
theorem split_keys {α : Type} (key : α → Nat) : ∀ (k : Nat) (L : List α), (∀ x ∈ L, key x < k) → L.Pairwise (fun a b => key b ≤ key a) → L = (dn k).flatMap (fun i => L.filter (fun x => decide (key x = i)))
  | 0, L, h, _ => by
    cases L with
    | nil => rfl
    | cons a r => have := h a (List.mem_cons_self ..); omega
  | k + 1, L, h, hs => by
    have h1 := part (p := fun x => decide (key x = k)) (L := L) (hs.imp_of_mem (fun {a b} ha hb hab hk => by
      have := h a ha
      simp only [decide_eq_true_eq] at hk ⊢
      omega))
    have hm : ∀ x ∈ L.filter (fun x => !decide (key x = k)), key x < k := fun x hx => by
      have := List.mem_filter.1 hx
      have h2 := h x this.1
      have h3 := this.2
      simp at h3
      omega
    have ih := split_keys key k _ hm (hs.sublist List.filter_sublist)
    have e : (dn k).flatMap (fun i => (L.filter (fun x => !decide (key x = k))).filter (fun x => decide (key x = i))) = (dn k).flatMap (fun i => L.filter (fun x => decide (key x = i))) := by
      have hd : ∀ n, ∀ i ∈ dn n, i < n := by
        intro n
        induction n with
        | zero => intro i hi; cases hi
        | succ n ihn =>
          intro i hi
          rcases List.mem_cons.1 hi with rfl | hi
          · omega
          · have := ihn i hi; omega
      refine fm_congr (fun i hi => ?_)
      have := hd k i hi
      rw [List.filter_filter]
      refine List.filter_congr (fun x _ => ?_)
      by_cases hx : key x = i
      · have : key x ≠ k := by omega
        simp [hx]; omega
      · simp [hx]
    rw [e] at ih
    show L = L.filter (fun x => decide (key x = k)) ++ (dn k).flatMap (fun i => L.filter (fun x => decide (key x = i)))
    rw [← ih]
    exact h1
def keyO (x : One) : Nat := if x.2.1 = 2 then 65 + x.2.2.1.toNat else if x.2.1 = 1 then 64 else x.2.2.1.toNat
theorem dn_split : dn 129 = (dn 64).map (· + 65) ++ 64 :: dn 64 := by decide +kernel
theorem key_ok {L : List One} (h : Gd L) : (∀ x ∈ L, keyO x < 129) ∧ L.Pairwise (fun a b => keyO b ≤ keyO a) := by
  refine ⟨fun x hx => ?_, h.srt.imp_of_mem (fun {a b} ha hb hab => ?_)⟩
  · have := may_cases (h.ok x hx).2
    unfold keyO
    split
    · omega
    · split <;> omega
  · have ma := may_cases (h.ok a ha).2
    have mb := may_cases (h.ok b hb).2
    unfold ahd at hab
    unfold keyO
    rcases hab with hab | ⟨hab, _⟩
    · unfold gtP at hab
      split at hab
      · split <;> split <;> (try split) <;> (try split) <;> omega
      · split at hab
        · split <;> split <;> (try split) <;> (try split) <;> omega
        · split <;> split <;> (try split) <;> (try split) <;> omega
    · unfold gtP at hab
      split at hab
      · split <;> split <;> (try split) <;> (try split) <;> omega
      · split at hab
        · split <;> split <;> (try split) <;> (try split) <;> omega
        · split <;> split <;> (try split) <;> (try split) <;> omega
theorem catF_dn (L : List One) (r : Nat) : catF (FL L) r = (dn 64).flatMap (fun i => FL L (64 * r + i)) := by
  unfold catF catL
  refine lev_dn 64 (fun i _ hf => ?_)
  unfold hasL at hf
  simpa using hf
theorem all_eq {L : List One} (h : Gd L) : L.map Prod.fst = catF (FL L) 0 ++ (HL L).map Prod.fst ++ catF (FL L) 1 := by
  obtain ⟨k1, k2⟩ := key_ok h
  have hs := split_keys keyO 129 L k1 k2
  rw [dn_split, List.flatMap_append, List.flatMap_cons, List.flatMap_map] at hs
  have e := congrArg (List.map Prod.fst) hs
  rw [e, List.map_append, List.map_append, List.map_flatMap, List.map_flatMap, catF_dn, catF_dn, List.append_assoc]
  have hdl : ∀ i ∈ dn 64, i < 64 := by decide +kernel
  congr 1
  · refine fm_congr (fun i hi => ?_)
    have hi64 := hdl i hi
    unfold FL
    rw [if_pos (by omega)]
    congr 1
    refine List.filter_congr (fun x hx => ?_)
    have mx := may_cases (h.ok x hx).2
    unfold inRow keyO
    rw [if_pos (show 64 * 0 + i < 64 by omega), show (64 * 0 + i) % 64 = i by omega]
    by_cases c2 : x.2.1 = 2
    · rw [if_pos c2]
      simp only [c2, decide_true, Bool.true_and]
      rw [decide_eq_decide]; omega
    · rw [if_neg c2]
      have : decide (x.2.1 = 2) = false := by simpa using c2
      rw [this, Bool.false_and, decide_eq_false_iff_not]
      split <;> omega
  · congr 1
    · unfold HL
      rw [List.map_map]
      have : (L.filter fun x => decide (keyO x = 64)) = L.filter fun x => decide (x.2.1 = 1) := by
        refine List.filter_congr (fun x hx => ?_)
        have mx := may_cases (h.ok x hx).2
        unfold keyO
        rw [decide_eq_decide]
        split
        · omega
        · split <;> omega
      rw [this]
      rfl
    · refine fm_congr (fun i hi => ?_)
      have hi64 := hdl i hi
      unfold FL
      rw [if_pos (by omega)]
      congr 1
      refine List.filter_congr (fun x hx => ?_)
      have mx := may_cases (h.ok x hx).2
      unfold inRow keyO
      rw [if_neg (show ¬ 64 * 1 + i < 64 by omega), show (64 * 1 + i) % 64 = i by omega]
      by_cases c0 : x.2.1 = 0
      · rw [if_neg (by omega), if_neg (by omega)]
        simp only [c0, decide_true, Bool.true_and]
        rw [decide_eq_decide]; omega
      · have : decide (x.2.1 = 0) = false := by simpa using c0
        rw [this, Bool.false_and, decide_eq_false_iff_not]
        split
        · omega
        · split <;> omega
theorem le_anti {a b : It} (h : le a b) (k : le b a) : a = b := by
  unfold le lt at *
  apply Prod.ext <;> omega
theorem order_eq : ∀ {xs ys : List It}, InOrder xs → InOrder ys → xs.Perm ys → xs = ys
  | [], ys, _, _, hp => (List.nil_perm.1 hp).symm
  | x :: xs, [], _, _, hp => by have := hp.length_eq; simp at this
  | x :: xs, y :: ys, hx, hy, hp => by
    have hx' := List.pairwise_cons.1 hx
    have hy' := List.pairwise_cons.1 hy
    have h1 : x ∈ y :: ys := hp.mem_iff.1 (by simp)
    have h2 : y ∈ x :: xs := hp.mem_iff.2 (by simp)
    have e : x = y := by
      rw [List.mem_cons] at h1 h2
      rcases h1 with h1 | h1
      · exact h1
      · rcases h2 with h2 | h2
        · exact h2.symm
        · exact le_anti (hx'.1 y h2) (hy'.1 x h1)
    subst e
    rw [order_eq hx'.2 hy'.2 ((List.perm_cons x).1 hp)]
theorem HL_ord {L : List One} (h : Gd L) : InOrder (HL L) := by
  unfold InOrder HL
  rw [List.pairwise_map]
  have h1 : (L.filter fun x => decide (x.2.1 = 1)).Pairwise ahd := h.srt.sublist List.filter_sublist
  refine h1.imp_of_mem (fun {a b} ha hb hab => ?_)
  have ea : a.2.1 = 1 := by simpa using (List.mem_filter.1 ha).2
  have eb : b.2.1 = 1 := by simpa using (List.mem_filter.1 hb).2
  unfold ahd gtP at hab
  unfold le lt
  simp only
  rw [ea, eb] at hab
  simp only [ne_eq, not_true_eq_false, if_false, if_true] at hab
  omega
theorem HL_ins {L : List One} (x : One) : (HL (insA L x)).Perm (if x.2.1 = 1 then (x.1, x.2.2.2) :: HL L else HL L) := by
  unfold HL
  have h1 := ((insA_perm L x).filter (fun x => decide (x.2.1 = 1))).map (fun x => ((x.1, x.2.2.2) : It))
  by_cases e : x.2.1 = 1
  · rw [if_pos e]
    rw [List.filter_cons_of_pos (by simpa using e)] at h1
    exact h1
  · rw [if_neg e]
    rw [List.filter_cons_of_neg (by simpa using e)] at h1
    exact h1
theorem HL_hasB {L : List One} {id : Int} : hasB (HL L) id = true ↔ ∃ x ∈ L, x.1 = id ∧ x.2.1 = 1 := by
  unfold hasB HL
  rw [List.any_eq_true]
  constructor
  · rintro ⟨p, hp, he⟩
    obtain ⟨x, hx, rfl⟩ := List.mem_map.1 hp
    have := List.mem_filter.1 hx
    exact ⟨x, this.1, by simpa using he, by simpa using this.2⟩
  · rintro ⟨x, hx, rfl, h1⟩
    exact ⟨(x.1, x.2.2.2), List.mem_map.2 ⟨x, List.mem_filter.2 ⟨hx, by simpa using h1⟩, rfl⟩, by simp⟩
theorem HL_del {L : List One} (h : Gd L) {x : One} (hx : x ∈ L) : (if x.2.1 = 1 then (HL (delA L x.1) ++ [(x.1, x.2.2.2)]) else HL (delA L x.1)).Perm (HL L) := by
  have hp : L.Perm (x :: delA L x.1) := by
    have hn := h.ids
    clear h
    induction L with
    | nil => cases hx
    | cons a r ih =>
      rw [List.map_cons, List.nodup_cons] at hn
      unfold delA
      by_cases e : a.1 = x.1
      · rw [List.filter_cons_of_neg (by simp [e])]
        have hxa : x = a := by
          rcases List.mem_cons.1 hx with h1 | h1
          · exact h1
          · exact absurd (by rw [e]; exact List.mem_map_of_mem h1) hn.1
        rw [hxa]
        have : r.filter (fun y => !(y.1 == a.1)) = r := List.filter_eq_self.2 (fun y hy => by
          have : y.1 ≠ a.1 := fun e2 => hn.1 (by rw [← e2]; exact List.mem_map_of_mem hy)
          simpa using this)
        rw [this]
      · rw [List.filter_cons_of_pos (by simpa using e)]
        rcases List.mem_cons.1 hx with h1 | h1
        · exact absurd (by rw [h1]) e
        · exact ((ih h1 hn.2).cons a).trans (List.Perm.swap x a _)
  have h2 := (hp.filter (fun x => decide (x.2.1 = 1))).map (fun x => ((x.1, x.2.2.2) : It))
  by_cases e : x.2.1 = 1
  · rw [if_pos e]
    rw [List.filter_cons_of_pos (by simpa using e), List.map_cons] at h2
    exact (List.perm_append_singleton _ _).trans h2.symm
  · rw [if_neg e]
    rw [List.filter_cons_of_neg (by simpa using e)] at h2
    exact h2.symm
theorem delA_len {L : List One} (h : Gd L) {x : One} (hx : x ∈ L) : (delA L x.1).length + 1 = L.length := by
  have hn := h.ids
  clear h
  induction L with
  | nil => cases hx
  | cons a r ih =>
    rw [List.map_cons, List.nodup_cons] at hn
    unfold delA
    by_cases e : a.1 = x.1
    · rw [List.filter_cons_of_neg (by simp [e])]
      have : r.filter (fun y => !(y.1 == x.1)) = r := List.filter_eq_self.2 (fun y hy => by
        have : y.1 ≠ x.1 := fun e2 => hn.1 (by rw [e, ← e2]; exact List.mem_map_of_mem hy)
        simpa using this)
      rw [this]; rfl
    · rw [List.filter_cons_of_pos (by simpa using e)]
      rcases List.mem_cons.1 hx with h1 | h1
      · exact absurd (by rw [h1]) e
      · have := ih h1 hn.2
        unfold delA at this
        rw [List.length_cons, List.length_cons]; omega
end Go.Proofs.Ytpajebedeacpgaa
