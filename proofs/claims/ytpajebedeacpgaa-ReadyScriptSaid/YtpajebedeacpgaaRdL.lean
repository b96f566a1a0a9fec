/-
  Numbers by priorities: the plain law of a list in order, and of its rows by levels.
-/
import Derived.Test.YtpajebedeacpgaaRall
namespace Go.Proofs.Ytpajebedeacpgaa
set_option linter.unusedSimpArgs false
set_option linter.unusedVariables false
open Go.RowKit Own

/-- class, level, due -/
abbrev Pr := Int × Int × Int
abbrev One := Int × Pr
def may (p : Pr) : Bool := if p.1 = 0 then decide (0 ≤ p.2.1) && decide (p.2.1 ≤ 15) && decide (p.2.2 = 0) else if p.1 = 1 then decide (p.2.1 = 0) && decide (0 ≤ p.2.2) && decide (p.2.2 ≤ 1099511627776) else if p.1 = 2 then decide (0 ≤ p.2.1) && decide (p.2.1 < 64) && decide (p.2.2 = 0) else false
theorem may_cases {p : Pr} (h : may p = true) : (p.1 = 0 ∧ 0 ≤ p.2.1 ∧ p.2.1 ≤ 15 ∧ p.2.2 = 0) ∨ (p.1 = 1 ∧ p.2.1 = 0 ∧ 0 ≤ p.2.2 ∧ p.2.2 ≤ 1099511627776) ∨ (p.1 = 2 ∧ 0 ≤ p.2.1 ∧ p.2.1 < 64 ∧ p.2.2 = 0) := by
  unfold may at h
  by_cases h0 : p.1 = 0
  · rw [if_pos h0] at h
    simp at h; omega
  · rw [if_neg h0] at h
    by_cases h1 : p.1 = 1
    · rw [if_pos h1] at h
      simp at h; omega
    · rw [if_neg h1] at h
      by_cases h2 : p.1 = 2
      · rw [if_pos h2] at h
        simp at h; omega
      · rw [if_neg h2] at h; cases h
def gtP (a b : Pr) : Prop := if a.1 ≠ b.1 then b.1 < a.1 else if a.1 = 1 then a.2.2 < b.2.2 else b.2.1 < a.2.1
/-- does x stand ahead of y? -/
def ahd (x y : One) : Prop := gtP x.2 y.2 ∨ (¬ gtP y.2 x.2 ∧ x.1 < y.1)
instance (a b : Pr) : Decidable (gtP a b) := by unfold gtP; infer_instance
instance (x y : One) : Decidable (ahd x y) := by unfold ahd; infer_instance
theorem gt_asym {a b : Pr} (h : gtP a b) : ¬ gtP b a := by
  intro k
  unfold gtP at *
  split at h <;> split at k
  · omega
  · omega
  · omega
  · split at h <;> split at k <;> omega
theorem gt_trans {a b c : Pr} (h : gtP a b) (k : gtP b c) : gtP a c := by
  unfold gtP at *
  split at h <;> split at k <;> split
  · omega
  · omega
  · omega
  · omega
  · omega
  · omega
  · omega
  · split at h <;> split at k <;> split <;> omega
theorem gt_eq {a b : Pr} (h1 : ¬ gtP a b) (h2 : ¬ gtP b a) : a.1 = b.1 ∧ (a.1 = 1 → a.2.2 = b.2.2) ∧ (a.1 ≠ 1 → a.2.1 = b.2.1) := by
  unfold gtP at *
  split at h1 <;> split at h2
  · omega
  · omega
  · omega
  · split at h1 <;> split at h2
    · refine ⟨by omega, fun _ => by omega, fun h => by omega⟩
    · omega
    · omega
    · refine ⟨by omega, fun h => by omega, fun _ => by omega⟩
theorem gt_eq_l {a b c : Pr} (h1 : ¬ gtP a b) (h2 : ¬ gtP b a) : gtP a c ↔ gtP b c := by
  obtain ⟨e1, e2, e3⟩ := gt_eq h1 h2
  unfold gtP
  rw [e1]
  by_cases hc : b.1 ≠ c.1
  · rw [if_pos hc, if_pos hc]
  · rw [if_neg hc, if_neg hc]
    by_cases h : b.1 = 1
    · rw [if_pos h, if_pos h, e2 (by omega)]
    · rw [if_neg h, if_neg h, e3 (by omega)]
theorem gt_eq_r {a b c : Pr} (h1 : ¬ gtP a b) (h2 : ¬ gtP b a) : gtP c a ↔ gtP c b := by
  obtain ⟨e1, e2, e3⟩ := gt_eq h1 h2
  unfold gtP
  rw [e1]
  by_cases hc : c.1 ≠ b.1
  · rw [if_pos hc, if_pos hc]
  · rw [if_neg hc, if_neg hc]
    by_cases h : c.1 = 1
    · rw [if_pos h, if_pos h, e2 (by omega)]
    · rw [if_neg h, if_neg h, e3 (by omega)]
theorem ahd_trans {x y z : One} (h : ahd x y) (k : ahd y z) : ahd x z := by
  unfold ahd at *
  rcases h with h | ⟨h, hi⟩
  · rcases k with k | ⟨k, ki⟩
    · exact Or.inl (gt_trans h k)
    · by_cases e : gtP y.2 z.2
      · exact Or.inl (gt_trans h e)
      · exact Or.inl ((gt_eq_r e k).1 h)
  · by_cases e : gtP x.2 y.2
    · rcases k with k | ⟨k, ki⟩
      · exact Or.inl (gt_trans e k)
      · by_cases e2 : gtP y.2 z.2
        · exact Or.inl (gt_trans e e2)
        · exact Or.inl ((gt_eq_r e2 k).1 e)
    · rcases k with k | ⟨k, ki⟩
      · exact Or.inl ((gt_eq_l e h).2 k)
      · refine Or.inr ⟨fun hz => k ((gt_eq_r e h).1 hz), by omega⟩
theorem ahd_asym {x y : One} (h : ahd x y) : ¬ ahd y x := by
  intro k
  unfold ahd at *
  rcases h with h | ⟨h, hi⟩ <;> rcases k with k | ⟨k, ki⟩
  · exact gt_asym h k
  · exact k h
  · exact h k
  · omega
theorem ahd_tot {x y : One} (h : x.1 ≠ y.1) : ahd x y ∨ ahd y x := by
  unfold ahd
  by_cases h1 : gtP x.2 y.2
  · exact Or.inl (Or.inl h1)
  · by_cases h2 : gtP y.2 x.2
    · exact Or.inr (Or.inl h2)
    · rcases Int.lt_or_gt_of_ne h with h3 | h3
      · exact Or.inl (Or.inr ⟨h2, h3⟩)
      · exact Or.inr (Or.inr ⟨h1, h3⟩)
def SrtO (L : List One) : Prop := L.Pairwise ahd
/-- numbers each once, priorities that may be -/
structure Gd (L : List One) : Prop where
  srt : SrtO L
  ids : (L.map Prod.fst).Nodup
  ok : ∀ x ∈ L, 0 ≤ x.1 ∧ may x.2 = true
def plA (L : List One) (x : One) : Nat := L.findIdx (fun y => decide (ahd x y))
def insA (L : List One) (x : One) : List One := L.take (plA L x) ++ x :: L.drop (plA L x)
def delA (L : List One) (id : Int) : List One := L.filter fun x => !(x.1 == id)
theorem insA_perm (L : List One) (x : One) : (insA L x).Perm (x :: L) := by
  unfold insA
  have h : (L.take (plA L x) ++ x :: L.drop (plA L x)).Perm (x :: (L.take (plA L x) ++ L.drop (plA L x))) := List.perm_middle
  rwa [List.take_append_drop] at h
theorem insA_len (L : List One) (x : One) : (insA L x).length = L.length + 1 := (insA_perm L x).length_eq
theorem gd_nil : Gd [] := ⟨List.Pairwise.nil, List.nodup_nil, fun x hx => by cases hx⟩
theorem Gd.ins {L : List One} (h : Gd L) {x : One} (hx : x.1 ∉ L.map Prod.fst) (h0 : 0 ≤ x.1) (hm : may x.2 = true) : Gd (insA L x) := by
  refine ⟨?_, ?_, fun y hy => ?_⟩
  · have hb : ∀ y ∈ L.take (plA L x), ahd y x := fun y hy => by
      obtain ⟨k, hk, rfl⟩ := List.getElem_of_mem hy
      rw [List.length_take] at hk
      rw [List.getElem_take]
      have h1 := List.not_of_lt_findIdx (p := fun y => decide (ahd x y)) (show k < L.findIdx _ by unfold plA at hk; omega)
      have hkl : k < L.length := by omega
      have h2 : ¬ ahd x L[k] := by simpa using h1
      have hne : x.1 ≠ (L[k]).1 := fun e => hx (by rw [e]; exact List.mem_map_of_mem (List.getElem_mem hkl))
      exact (ahd_tot hne).resolve_left h2
    have ha : ∀ y ∈ L.drop (plA L x), ahd x y := fun y hy => by
      obtain ⟨k, hk, rfl⟩ := List.getElem_of_mem hy
      rw [List.length_drop] at hk
      rw [List.getElem_drop]
      have hf : plA L x < L.length := by omega
      have hp : ahd x L[plA L x] := by
        exact of_decide_eq_true (List.findIdx_getElem (p := fun y => decide (ahd x y)) (w := hf))
      by_cases e : k = 0
      · subst e; exact hp
      · exact ahd_trans hp (List.pairwise_iff_getElem.1 h.srt _ _ hf (by omega) (by omega))
    unfold SrtO insA
    rw [List.pairwise_append]
    refine ⟨h.srt.sublist (List.take_sublist _ _), ?_, fun y hy z hz => ?_⟩
    · rw [List.pairwise_cons]
      exact ⟨ha, h.srt.sublist (List.drop_sublist _ _)⟩
    · rw [List.mem_cons] at hz
      rcases hz with rfl | hz
      · exact hb y hy
      · exact ahd_trans (hb y hy) (ha z hz)
  · rw [((insA_perm L x).map Prod.fst).nodup_iff, List.map_cons, List.nodup_cons]
    exact ⟨hx, h.ids⟩
  · rcases List.mem_cons.1 ((insA_perm L x).mem_iff.1 hy) with rfl | hy
    · exact ⟨h0, hm⟩
    · exact h.ok y hy
theorem Gd.del {L : List One} (h : Gd L) (id : Int) : Gd (delA L id) :=
  ⟨h.srt.sublist List.filter_sublist, h.ids.sublist (List.filter_sublist.map _), fun x hx => h.ok x (List.mem_filter.1 hx).1⟩
theorem Gd.uniq {L : List One} (h : Gd L) {x y : One} (hx : x ∈ L) (hy : y ∈ L) (e : x.1 = y.1) : x = y := by
  have hn := h.ids
  induction L with
  | nil => cases hx
  | cons a r ih =>
    rw [List.map_cons, List.nodup_cons] at hn
    rcases List.mem_cons.1 hx with rfl | hx' <;> rcases List.mem_cons.1 hy with rfl | hy'
    · rfl
    · exact absurd (by rw [e]; exact List.mem_map_of_mem hy') hn.1
    · exact absurd (by rw [← e]; exact List.mem_map_of_mem hx') hn.1
    · exact ih ⟨h.srt.sublist (List.sublist_cons_self _ _), hn.2, fun z hz => h.ok z (List.mem_cons_of_mem _ hz)⟩ hx' hy' hn.2
/-! ### rows by levels -/
def inRow (j : Nat) (x : One) : Bool := decide (x.2.1 = (if j < 64 then 2 else 0)) && decide (x.2.2.1 = ((j % 64 : Nat) : Int))
def FL (L : List One) : Nat → List Int := fun j => if j < 128 then (L.filter (inRow j)).map Prod.fst else []
def HL (L : List One) : List It := (L.filter fun x => decide (x.2.1 = 1)).map fun x => (x.1, x.2.2.2)
def prV (p : Pr) : Value := .agg #[.int .i64 p.1, .int .i64 p.2.1, .int .i64 p.2.2]
def mL (L : List One) : Int → Option Value := fun id => (L.find? fun x => x.1 == id).map fun x => prV x.2
theorem srt_ext : ∀ {xs ys : List Int}, xs.Pairwise (· < ·) → ys.Pairwise (· < ·) → (∀ a, a ∈ xs ↔ a ∈ ys) → xs = ys
  | [], [], _, _, _ => rfl
  | [], y :: ys, _, _, h => absurd ((h y).2 (List.mem_cons_self ..)) (by simp)
  | x :: xs, [], _, _, h => absurd ((h x).1 (List.mem_cons_self ..)) (by simp)
  | x :: xs, y :: ys, hx, hy, h => by
    rw [List.pairwise_cons] at hx hy
    have e : x = y := by
      rcases List.mem_cons.1 ((h x).1 (List.mem_cons_self ..)) with h1 | h1
      · exact h1
      · rcases List.mem_cons.1 ((h y).2 (List.mem_cons_self ..)) with h2 | h2
        · exact h2.symm
        · have := hx.1 y h2; have := hy.1 x h1; omega
    subst e
    congr 1
    refine srt_ext hx.2 hy.2 (fun a => ⟨fun ha => ?_, fun ha => ?_⟩)
    · rcases List.mem_cons.1 ((h a).1 (List.mem_cons_of_mem _ ha)) with h1 | h1
      · have := hx.1 a ha; omega
      · exact h1
    · rcases List.mem_cons.1 ((h a).2 (List.mem_cons_of_mem _ ha)) with h1 | h1
      · have := hy.1 a ha; omega
      · exact h1
theorem inRow_iff {j : Nat} {x : One} : inRow j x = true ↔ x.2.1 = (if j < 64 then 2 else 0) ∧ x.2.2.1 = ((j % 64 : Nat) : Int) := by unfold inRow; simp
theorem FL_srt {L : List One} (h : Gd L) (j : Nat) : (FL L j).Pairwise (· < ·) := by
  unfold FL
  split
  · rw [List.pairwise_map]
    have h1 : (L.filter (inRow j)).Pairwise ahd := h.srt.sublist List.filter_sublist
    refine h1.imp_of_mem (fun {a b} ha hb hab => ?_)
    have ea := inRow_iff.1 (List.mem_filter.1 ha).2
    have eb := inRow_iff.1 (List.mem_filter.1 hb).2
    unfold ahd gtP at hab
    rw [ea.1, eb.1, ea.2, eb.2] at hab
    rcases hab with hab | hab
    · rw [if_neg (by simp)] at hab
      by_cases hj64 : j < 64
      · rw [if_pos hj64, if_neg (by omega)] at hab; omega
      · rw [if_neg hj64, if_neg (by omega)] at hab; omega
    · exact hab.2
  · exact List.Pairwise.nil
theorem FL_mem {L : List One} {j : Nat} {a : Int} : a ∈ FL L j ↔ j < 128 ∧ ∃ p, (a, p) ∈ L ∧ inRow j (a, p) = true := by
  unfold FL
  split
  · rename_i hj
    rw [List.mem_map]
    refine ⟨fun ⟨⟨b, p⟩, hx, e⟩ => ?_, fun ⟨_, p, hx, hr⟩ => ⟨(a, p), List.mem_filter.2 ⟨hx, hr⟩, rfl⟩⟩
    simp only at e
    subst e
    exact ⟨hj, p, (List.mem_filter.1 hx).1, (List.mem_filter.1 hx).2⟩
  · simp; omega
theorem insL_srt {xs : List Int} (h : xs.Pairwise (· < ·)) {x : Int} (hx : x ∉ xs) : (insL xs x).Pairwise (· < ·) ∧ ∀ a, a ∈ insL xs x ↔ a = x ∨ a ∈ xs := by
  have hmem : ∀ a, a ∈ insL xs x ↔ a = x ∨ a ∈ xs := fun a => by
    unfold insL
    have hp : (xs.take (List.countP (fun y => decide (y < x)) xs) ++ x :: xs.drop (List.countP (fun y => decide (y < x)) xs)).Perm (x :: xs) := by
      have h1 := (List.perm_middle (a := x) (l₁ := xs.take (List.countP (fun y => decide (y < x)) xs)) (l₂ := xs.drop (List.countP (fun y => decide (y < x)) xs)))
      rwa [List.take_append_drop] at h1
    rw [hp.mem_iff, List.mem_cons]
  refine ⟨?_, hmem⟩
  clear hmem
  induction xs with
  | nil => unfold insL; simp
  | cons y r ih =>
    rw [List.pairwise_cons] at h
    by_cases hy : y < x
    · have e : insL (y :: r) x = y :: insL r x := by
        unfold insL
        rw [List.countP_cons_of_pos (by simpa using hy)]
        rfl
      rw [e, List.pairwise_cons]
      refine ⟨fun a ha => ?_, ih h.2 (fun hh => hx (List.mem_cons_of_mem _ hh))⟩
      unfold insL at ha
      rw [List.mem_append, List.mem_cons] at ha
      rcases ha with ha | rfl | ha
      · exact h.1 a (List.mem_of_mem_take ha)
      · exact hy
      · exact h.1 a (List.mem_of_mem_drop ha)
    · have hyx : x < y := by
        have : x ≠ y := fun e => hx (by rw [e]; exact List.mem_cons_self ..)
        omega
      have hc : List.countP (fun z => decide (z < x)) (y :: r) = 0 := by
        rw [List.countP_eq_zero]
        intro z hz
        rcases List.mem_cons.1 hz with rfl | hz
        · simpa using hy
        · have := h.1 z hz; simp; omega
      unfold insL
      rw [hc, List.take_zero, List.drop_zero, List.nil_append, List.pairwise_cons]
      refine ⟨fun a ha => ?_, List.pairwise_cons.2 h⟩
      rcases List.mem_cons.1 ha with rfl | ha
      · exact hyx
      · have := h.1 a ha; omega
theorem row_one {x : One} {j k : Nat} (hj : j < 128) (hk : k < 128) (h1 : inRow j x = true) (h2 : inRow k x = true) : j = k := by
  have a := inRow_iff.1 h1
  have b := inRow_iff.1 h2
  have e1 : j % 64 = k % 64 := by omega
  by_cases c1 : j < 64 <;> by_cases c2 : k < 64
  · omega
  · rw [if_pos c1] at a; rw [if_neg c2] at b; omega
  · rw [if_neg c1] at a; rw [if_pos c2] at b; omega
  · omega
theorem FL_ins {L : List One} (h : Gd L) {x : One} (hx : x.1 ∉ L.map Prod.fst) (h0 : 0 ≤ x.1) (hm : may x.2 = true) {j : Nat} (hj : j < 128) (hr : inRow j x = true) : FL (insA L x) = putF (FL L) j (insL (FL L j) x.1) := by
  have hg := h.ins hx h0 hm
  have hnx : ∀ k, x.1 ∉ FL L k := fun k hk => by
    obtain ⟨_, p, hp, _⟩ := FL_mem.1 hk
    exact hx (List.mem_map.2 ⟨_, hp, rfl⟩)
  funext k
  have hmm : ∀ a p, (a, p) ∈ insA L x ↔ (a, p) = x ∨ (a, p) ∈ L := fun a p => by rw [(insA_perm L x).mem_iff, List.mem_cons]
  by_cases e : k = j
  · subst e
    rw [putF_eq]
    obtain ⟨s1, s2⟩ := insL_srt (FL_srt h k) (hnx k)
    refine srt_ext (FL_srt hg k) s1 (fun a => ?_)
    rw [s2, FL_mem, FL_mem]
    constructor
    · rintro ⟨_, p, hp, hpr⟩
      rcases (hmm a p).1 hp with rfl | hp
      · exact Or.inl rfl
      · exact Or.inr ⟨hj, p, hp, hpr⟩
    · rintro (rfl | ⟨_, p, hp, hpr⟩)
      · exact ⟨hj, x.2, (hmm _ _).2 (Or.inl rfl), hr⟩
      · exact ⟨hj, p, (hmm _ _).2 (Or.inr hp), hpr⟩
  · rw [putF_ne _ _ _ e]
    refine srt_ext (FL_srt hg k) (FL_srt h k) (fun a => ?_)
    rw [FL_mem, FL_mem]
    constructor
    · rintro ⟨hk, p, hp, hpr⟩
      rcases (hmm a p).1 hp with rfl | hp
      · exact absurd (row_one hk hj hpr hr) e
      · exact ⟨hk, p, hp, hpr⟩
    · rintro ⟨hk, p, hp, hpr⟩
      exact ⟨hk, p, (hmm _ _).2 (Or.inr hp), hpr⟩
theorem FL_ins_no {L : List One} (h : Gd L) {x : One} (hx : x.1 ∉ L.map Prod.fst) (h0 : 0 ≤ x.1) (hm : may x.2 = true) (hr : ∀ j, j < 128 → inRow j x = false) : FL (insA L x) = FL L := by
  have hg := h.ins hx h0 hm
  funext k
  have hmm : ∀ a p, (a, p) ∈ insA L x ↔ (a, p) = x ∨ (a, p) ∈ L := fun a p => by rw [(insA_perm L x).mem_iff, List.mem_cons]
  refine srt_ext (FL_srt hg k) (FL_srt h k) (fun a => ?_)
  rw [FL_mem, FL_mem]
  constructor
  · rintro ⟨hk, p, hp, hpr⟩
    rcases (hmm a p).1 hp with rfl | hp
    · rw [hr k hk] at hpr; cases hpr
    · exact ⟨hk, p, hp, hpr⟩
  · rintro ⟨hk, p, hp, hpr⟩
    exact ⟨hk, p, (hmm _ _).2 (Or.inr hp), hpr⟩
theorem delA_mem {L : List One} {id : Int} {x : One} : x ∈ delA L id ↔ x ∈ L ∧ x.1 ≠ id := by unfold delA; rw [List.mem_filter]; simp
theorem remL_mem {xs : List Int} {x a : Int} : a ∈ remL xs x ↔ a ∈ xs ∧ a ≠ x := by unfold remL; rw [List.mem_filter]; simp
theorem remL_srt {xs : List Int} (h : xs.Pairwise (· < ·)) (x : Int) : (remL xs x).Pairwise (· < ·) := h.sublist List.filter_sublist
theorem FL_del {L : List One} (h : Gd L) {x : One} (hx : x ∈ L) {j : Nat} (hj : j < 128) (hr : inRow j x = true) : FL (delA L x.1) = putF (FL L) j (remL (FL L j) x.1) := by
  funext k
  by_cases e : k = j
  · subst e
    rw [putF_eq]
    refine srt_ext (FL_srt (h.del x.1) k) (remL_srt (FL_srt h k) x.1) (fun a => ?_)
    rw [remL_mem, FL_mem, FL_mem]
    constructor
    · rintro ⟨_, p, hp, hpr⟩
      have := delA_mem.1 hp
      exact ⟨⟨hj, p, this.1, hpr⟩, this.2⟩
    · rintro ⟨⟨_, p, hp, hpr⟩, hne⟩
      exact ⟨hj, p, delA_mem.2 ⟨hp, hne⟩, hpr⟩
  · rw [putF_ne _ _ _ e]
    refine srt_ext (FL_srt (h.del x.1) k) (FL_srt h k) (fun a => ?_)
    rw [FL_mem, FL_mem]
    constructor
    · rintro ⟨hk, p, hp, hpr⟩
      exact ⟨hk, p, (delA_mem.1 hp).1, hpr⟩
    · rintro ⟨hk, p, hp, hpr⟩
      refine ⟨hk, p, delA_mem.2 ⟨hp, fun e2 => ?_⟩, hpr⟩
      have := h.uniq hp hx e2
      subst this
      exact e (row_one hk hj hpr hr)
theorem FL_del_no {L : List One} (h : Gd L) {x : One} (hx : x ∈ L) (hr : ∀ j, j < 128 → inRow j x = false) : FL (delA L x.1) = FL L := by
  funext k
  refine srt_ext (FL_srt (h.del x.1) k) (FL_srt h k) (fun a => ?_)
  rw [FL_mem, FL_mem]
  constructor
  · rintro ⟨hk, p, hp, hpr⟩
    exact ⟨hk, p, (delA_mem.1 hp).1, hpr⟩
  · rintro ⟨hk, p, hp, hpr⟩
    refine ⟨hk, p, delA_mem.2 ⟨hp, fun e2 => ?_⟩, hpr⟩
    have := h.uniq hp hx e2
    subst this
    rw [hr k hk] at hpr; cases hpr
theorem mL_some {L : List One} (h : Gd L) {x : One} (hx : x ∈ L) : mL L x.1 = some (prV x.2) := by
  unfold mL
  cases hf : L.find? (fun y => y.1 == x.1) with
  | none =>
    have := List.find?_eq_none.1 hf x hx
    simp at this
  | some y =>
    have h1 := List.mem_of_find?_eq_some hf
    have h2 := List.find?_some hf
    have : y = x := h.uniq h1 hx (by simpa using h2)
    rw [this]; rfl
theorem mL_none {L : List One} {id : Int} (hx : id ∉ L.map Prod.fst) : mL L id = none := by
  unfold mL
  rw [List.find?_eq_none.2 (fun y hy => by
    have : y.1 ≠ id := fun e => hx (List.mem_map.2 ⟨y, hy, e⟩)
    simpa using this)]
  rfl
theorem mL_ins {L : List One} (h : Gd L) {x : One} (hx : x.1 ∉ L.map Prod.fst) (h0 : 0 ≤ x.1) (hm : may x.2 = true) : mL (insA L x) = mput (mL L) x.1 (prV x.2) := by
  have hg := h.ins hx h0 hm
  funext id
  unfold mput
  by_cases e : id = x.1
  · rw [if_pos e, e]
    exact mL_some hg ((insA_perm L x).mem_iff.2 (List.mem_cons_self ..))
  · rw [if_neg e]
    by_cases hi : id ∈ L.map Prod.fst
    · obtain ⟨y, hy, rfl⟩ := List.mem_map.1 hi
      rw [mL_some h hy, mL_some hg ((insA_perm L x).mem_iff.2 (List.mem_cons_of_mem _ hy))]
    · rw [mL_none hi, mL_none (fun hh => by
        rw [((insA_perm L x).map Prod.fst).mem_iff, List.map_cons, List.mem_cons] at hh
        rcases hh with hh | hh
        · exact e hh
        · exact hi hh)]
theorem mL_del {L : List One} (h : Gd L) (id : Int) : mL (delA L id) = mdel (mL L) id := by
  have hg := h.del id
  funext k
  unfold mdel
  by_cases e : k = id
  · rw [if_pos e, e]
    exact mL_none (fun hh => by obtain ⟨y, hy, hye⟩ := List.mem_map.1 hh; exact (delA_mem.1 hy).2 hye)
  · rw [if_neg e]
    by_cases hi : k ∈ L.map Prod.fst
    · obtain ⟨y, hy, rfl⟩ := List.mem_map.1 hi
      rw [mL_some h hy, mL_some hg (delA_mem.2 ⟨hy, e⟩)]
    · rw [mL_none hi, mL_none (fun hh => by
        obtain ⟨y, hy, rfl⟩ := List.mem_map.1 hh
        exact hi (List.mem_map_of_mem (delA_mem.1 hy).1))]
end Go.Proofs.Ytpajebedeacpgaa
