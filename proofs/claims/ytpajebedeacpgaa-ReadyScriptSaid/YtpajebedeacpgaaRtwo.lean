/-
  Two queues beside one another.
-/
import Derived.Test.YtpajebedeacpgaaRcmp
import Derived.Test.YtpajebedeacpgaaLow
import Derived.Test.YtpajebedeacpgaaPair
namespace Go.Proofs.Ytpajebedeacpgaa
set_option linter.unusedSimpArgs false
set_option linter.unusedVariables false
open Go.RowKit Own Sl Pair
open RegJ hiding Up
open RegF hiding put_size

/-- a queue of the program -/
def QPa (qb : Nat) (L : List One) (N : Nat) : Party where
  at' w O := L.length ≤ N ∧ ∃ lo, QA w qb L lo N ∧ O = fun k => ∃ r, lo r = some k
  lt := by
    rintro w O ⟨_, lo, h, rfl⟩ k ⟨r, hr⟩
    obtain ⟨R, W, hQ, _⟩ := h.ex
    exact hQ.lt r k hr
  keep := by
    rintro w w' O F ⟨hl, lo, h, rfl⟩ hu hF
    exact ⟨hl, lo, h.upd hu (fun r k hr => hF k ⟨r, hr⟩), rfl⟩
theorem qx_step {W1 w : World} {qb : Nat} {L : List One} {lo : Lo} {N : Nat} (h : QX W1 qb L lo N w) (hl : L.length ≤ N) : Step (QPa qb L N) (fun k => ∃ r, lo r = some k) W1 w := by
  obtain ⟨lo', h1, h2⟩ := h
  exact ⟨_, ⟨hl, lo', h1, rfl⟩, fun k ⟨r, hr⟩ => h2.2 r k hr, h2.1⟩
theorem addL_le (L : List One) (x : One) : (addL L x).length ≤ L.length + 1 := by
  unfold addL
  split
  · rw [insA_len]; exact Nat.le_refl _
  · omega
theorem delA_le (L : List One) (id : Int) : (delA L id).length ≤ L.length := List.length_filter_le _ _
theorem chgL_le (L : List One) (x : One) : (chgL L x).length ≤ L.length + 1 := by
  unfold chgL
  split
  · rw [insA_len]; have := delA_le L x.1; omega
  · omega
theorem dropL_le (L : List One) (id : Int) : (dropL L id).length ≤ L.length := by
  unfold dropL
  split
  · exact delA_le L id
  · exact Nat.le_refl _
section
variable {W w : World} {qb : Nat} {L : List One} {N : Nat} {q : Party} {E : Nat → Prop}
theorem p_add {O : Nat → Prop} (h : (QPa qb L N).at' w O) (x : One) (hid : (Lit.int .i64 x.1).wf = true) (hN : N < 1000) :
    Calls Try.prog 10 #[.pointer (some ⟨qb, 0, none⟩), .int .i64 x.1, prV x.2] w (fun e w' => e = .returned (.int .i64 (addN L x)) ∧ Step (QPa qb (addL L x) (N + 1)) O w w') := by
  obtain ⟨hl, lo, hq, rfl⟩ := h
  exact (qadd_is hq x hid hN hl).mono fun e w' ⟨h1, h2⟩ => ⟨h1, qx_step h2 (by have := addL_le L x; omega)⟩
theorem p_drop {O : Nat → Prop} (h : (QPa qb L N).at' w O) (id : Int) (hid : (Lit.int .i64 id).wf = true) (hN : N ≤ 1000) :
    Calls Try.prog 12 #[.pointer (some ⟨qb, 0, none⟩), .int .i64 id] w (fun e w' => e = .returned (.bool (hasO L id)) ∧ Step (QPa qb (dropL L id) N) O w w') := by
  obtain ⟨hl, lo, hq, rfl⟩ := h
  exact (qdrop_is hq id hid hN).mono fun e w' ⟨h1, h2⟩ => ⟨h1, qx_step h2 (by have := dropL_le L id; omega)⟩
theorem p_chg {O : Nat → Prop} (h : (QPa qb L N).at' w O) (x : One) (hid : (Lit.int .i64 x.1).wf = true) (hN : N < 1000) :
    Calls Try.prog 14 #[.pointer (some ⟨qb, 0, none⟩), .int .i64 x.1, prV x.2] w (fun e w' => e = .returned (.int .i64 (chgN L x)) ∧ Step (QPa qb (chgL L x) (N + 1)) O w w') := by
  obtain ⟨hl, lo, hq, rfl⟩ := h
  exact (qchg_is hq x hid hN hl).mono fun e w' ⟨h1, h2⟩ => ⟨h1, qx_step h2 (by have := chgL_le L x; omega)⟩
theorem p_gd {O : Nat → Prop} (h : (QPa qb L N).at' w O) : Gd L := by
  obtain ⟨hl, lo, hq, rfl⟩ := h
  exact hq.gd
theorem p_all {O : Nat → Prop} (h : (QPa qb L N).at' w O) (hN : N ≤ 1000) : Calls Try.prog 16 #[.pointer (some ⟨qb, 0, none⟩)] w (RAllP w (L.map Prod.fst)) := by
  obtain ⟨hl, lo, hq, rfl⟩ := h
  exact qall_is hq (by omega)
theorem p_has {O : Nat → Prop} (h : (QPa qb L N).at' w O) (id : Int) (hid : (Lit.int .i64 id).wf = true) : Calls Try.prog 19 #[.pointer (some ⟨qb, 0, none⟩), .int .i64 id] w (BoolB (hasO L id) w) := by
  obtain ⟨hl, lo, hq, rfl⟩ := h
  exact qhas_is hq id hid
end
/-! ### in whatever order they came -/
theorem one_ext : ∀ {xs ys : List One}, xs.Pairwise ahd → ys.Pairwise ahd → (∀ a, a ∈ xs ↔ a ∈ ys) → xs = ys
  | [], [], _, _, _ => rfl
  | [], b :: ys, _, _, h => by have := (h b).2 (List.mem_cons_self ..); cases this
  | a :: xs, [], _, _, h => by have := (h a).1 (List.mem_cons_self ..); cases this
  | a :: xs, b :: ys, h1, h2, h => by
    rw [List.pairwise_cons] at h1 h2
    have e : a = b := by
      rcases List.mem_cons.1 ((h a).1 (List.mem_cons_self ..)) with e | e
      · exact e
      · rcases List.mem_cons.1 ((h b).2 (List.mem_cons_self ..)) with e2 | e2
        · exact e2.symm
        · exact absurd (h1.1 _ e2) (ahd_asym (h2.1 _ e))
    subst e
    rw [one_ext h1.2 h2.2 (fun c => ?_)]
    constructor
    · intro hc
      rcases List.mem_cons.1 ((h c).1 (List.mem_cons_of_mem _ hc)) with e | e
      · subst e; exact absurd (h1.1 _ hc) (ahd_asym (h1.1 _ hc))
      · exact e
    · intro hc
      rcases List.mem_cons.1 ((h c).2 (List.mem_cons_of_mem _ hc)) with e | e
      · subst e; exact absurd (h2.1 _ hc) (ahd_asym (h2.1 _ hc))
      · exact e
def addRev (P : Nat → Pr) (len : Nat) : Nat → List One
  | 0 => []
  | k + 1 => addL (addRev P len k) (((len - 1 - k : Nat) : Int), P (len - 1 - k))
variable {P : Nat → Pr}
theorem addL_iff {L : List One} {x y : One} (hno : hasO L x.1 = false) (h0 : 0 ≤ x.1) : y ∈ addL L x ↔ (y = x ∧ may x.2 = true) ∨ y ∈ L := by
  have hn : addN L x = if may x.2 = true then 0 else 2 := by
    unfold addN
    cases h : may x.2 with
    | false => rw [if_pos (Or.inr rfl)]; rfl
    | true => rw [if_neg (fun e => by rcases e with e | e; omega; cases e), if_neg (by rw [hno]; simp), if_pos rfl]
  unfold addL
  rw [hn]
  cases h : may x.2 with
  | false => simp
  | true => rw [if_pos rfl, if_pos rfl, (insA_perm L x).mem_iff, List.mem_cons]; simp
theorem addAll_iff : ∀ {k : Nat} {x : One}, x ∈ addAll P k ↔ ∃ j : Nat, j < k ∧ x = ((j : Int), P j) ∧ may (P j) = true
  | 0, x => ⟨(fun h => by cases h), fun ⟨j, hj, _⟩ => by omega⟩
  | k + 1, x => by
    show x ∈ addL (addAll P k) ((k : Int), P k) ↔ _
    rw [addL_iff (addAll_no k) (by simp only; omega), addAll_iff]
    constructor
    · rintro (⟨rfl, h⟩ | ⟨j, hj, h⟩)
      · exact ⟨k, by omega, rfl, h⟩
      · exact ⟨j, by omega, h⟩
    · rintro ⟨j, hj, h1, h2⟩
      by_cases e : j = k
      · subst e; exact Or.inl ⟨h1, h2⟩
      · exact Or.inr ⟨j, by omega, h1, h2⟩
theorem addRev_iff {len : Nat} : ∀ {k : Nat} {x : One}, k ≤ len → (x ∈ addRev P len k ↔ ∃ j : Nat, len - k ≤ j ∧ j < len ∧ x = ((j : Int), P j) ∧ may (P j) = true)
  | 0, x, _ => ⟨(fun h => by cases h), fun ⟨j, hj, hj2, _⟩ => by omega⟩
  | k + 1, x, hk => by
    show x ∈ addL (addRev P len k) (((len - 1 - k : Nat) : Int), P (len - 1 - k)) ↔ _
    have hno : hasO (addRev P len k) ((len - 1 - k : Nat) : Int) = false := by
      cases h : hasO (addRev P len k) ((len - 1 - k : Nat) : Int) with
      | false => rfl
      | true =>
        obtain ⟨y, hy, e⟩ := List.mem_map.1 (hasO_iff.1 h)
        obtain ⟨j, h1, h2, rfl, _⟩ := (addRev_iff (by omega)).1 hy
        simp only at e
        omega
    rw [addL_iff hno (by simp only; omega), addRev_iff (by omega)]
    constructor
    · rintro (⟨rfl, h⟩ | ⟨j, h1, h2, h3⟩)
      · exact ⟨len - 1 - k, by omega, by omega, rfl, h⟩
      · exact ⟨j, by omega, h2, h3⟩
    · rintro ⟨j, h1, h2, h3, h4⟩
      by_cases e : j = len - 1 - k
      · subst e; exact Or.inl ⟨h3, h4⟩
      · exact Or.inr ⟨j, by omega, h2, h3, h4⟩
theorem turned_same {len : Nat} (h1 : Gd (addAll P len)) (h2 : Gd (addRev P len len)) : addRev P len len = addAll P len :=
  one_ext h2.srt h1.srt (fun a => by
    rw [addAll_iff, addRev_iff (Nat.le_refl _)]
    exact ⟨fun ⟨j, _, h⟩ => ⟨j, h⟩, fun ⟨j, h⟩ => ⟨j, by omega, h⟩⟩)
end Go.Proofs.Ytpajebedeacpgaa
