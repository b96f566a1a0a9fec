/-
  The document's store, plain: files by numbers with their bytes and frames, the frames that are taken and given back; what each call leaves of them.
-/
import Derived.Test.YtchnjfmimpikcaaGreatDoorStX
namespace Go.Proofs.YtchnjfmimpikcaaGreatDoor
set_option linter.unusedSimpArgs false
set_option linter.unusedVariables false
open Go.RowKit Own RegJ

structure Fil where
  id : Int
  bs : List Int
  fr : List Int
def sumF (g : Fil → Nat) : List Fil → Nat
  | [] => 0
  | f :: r => g f + sumF g r
theorem sumF_app (g : Fil → Nat) (a b : List Fil) : sumF g (a ++ b) = sumF g a + sumF g b := by
  induction a with
  | nil => simp [sumF]
  | cons x r ih => simp only [List.cons_append, sumF, ih]; omega
theorem sumF_set (g : Fil → Nat) : ∀ (l : List Fil) (j : Nat) (f f' : Fil), l[j]? = some f → sumF g (l.set j f') + g f = sumF g l + g f'
  | [], _, _, _, h => by simp at h
  | x :: r, 0, f, f', h => by simp at h; subst h; simp only [List.set_cons_zero, sumF]; omega
  | x :: r, j + 1, f, f', h => by
    have := sumF_set g r j f f' (by simpa using h)
    simp only [List.set_cons_succ, sumF]; omega
theorem sumF_erase (g : Fil → Nat) : ∀ (l : List Fil) (j : Nat) (f : Fil), l[j]? = some f → sumF g (l.eraseIdx j) + g f = sumF g l
  | [], _, _, h => by simp at h
  | x :: r, 0, f, h => by simp at h; subst h; simp only [List.eraseIdx_cons_zero, sumF]; omega
  | x :: r, j + 1, f, h => by
    have := sumF_erase g r j f (by simpa using h)
    simp only [List.eraseIdx_cons_succ, sumF]; omega
theorem sumF_ge (g : Fil → Nat) {l : List Fil} {j : Nat} {f : Fil} (h : l[j]? = some f) : g f ≤ sumF g l := by
  have := sumF_erase g l j f h; omega
theorem sumF_two (g : Fil → Nat) : ∀ {l : List Fil} {j k : Nat} {f f' : Fil}, l[j]? = some f → l[k]? = some f' → j ≠ k → g f + g f' ≤ sumF g l
  | [], _, _, _, _, h, _, _ => by simp at h
  | x :: r, 0, 0, _, _, _, _, hn => absurd rfl hn
  | x :: r, 0, k + 1, f, f', h, h', _ => by
    simp at h; subst h
    have := sumF_ge g (l := r) (j := k) (f := f') (by simpa using h')
    simp only [sumF]; omega
  | x :: r, j + 1, 0, f, f', h, h', _ => by
    simp at h'; subst h'
    have := sumF_ge g (l := r) (j := j) (f := f) (by simpa using h)
    simp only [sumF]; omega
  | x :: r, j + 1, k + 1, f, f', h, h', hn => by
    have := sumF_two g (l := r) (j := j) (k := k) (f := f) (f' := f') (by simpa using h) (by simpa using h') (by omega)
    simp only [sumF]; omega
def frL (f : Fil) : Nat := f.fr.length
def frC (x : Int) (f : Fil) : Nat := f.fr.count x
structure SCore (n N : Nat) (fs : Sfs) (fls : List Fil) (tk : List Bool) (back : List Int) (fr : Nat) : Prop where
  r1 : ∀ (j : Nat) f, fls[j]? = some f → 0 ≤ f.id ∧ fs f.id.toNat = some f.bs
  r2 : ∀ (i : Nat) bs, fs i = some bs → ∃ (j : Nat) (f : Fil), fls[j]? = some f ∧ f.id = i
  r3 : ∀ (j k : Nat) f g, fls[j]? = some f → fls[k]? = some g → f.id = g.id → j = k
  cnt : ∀ x, back.count x + sumF (frC x) fls ≤ 1
  rng : ∀ x, 0 < back.count x + sumF (frC x) fls → 0 ≤ x ∧ x < fr
  own : ∀ (j : Nat) f x, fls[j]? = some f → x ∈ f.fr → tk[x.toNat]? = some true
  tot : back.length + sumF frL fls = fr
  frn : fr ≤ n
  tkn : tk.length = n
  most : fls.length ≤ N
  far : ∀ i, 16 ≤ i → fs i = none
  b512 : ∀ (j : Nat) f, fls[j]? = some f → f.bs.length ≤ 512
structure SOk (n N : Nat) (fs : Sfs) (fls : List Fil) (tk : List Bool) (back : List Int) (fr : Nat) : Prop where
  core : SCore n N fs fls tk back fr
  len : ∀ (j : Nat) f, fls[j]? = some f → f.fr.length = (f.bs.length + 63) / 64
  use : sumF frL fls = usedN fs 16
theorem fsPut_eq' (fs : Sfs) (i : Nat) (x : Option (List Int)) : fsPut fs i x i = x := by unfold fsPut; rw [if_pos rfl]
theorem fsPut_ne' (fs : Sfs) {i j : Nat} (x : Option (List Int)) (h : j ≠ i) : fsPut fs i x j = fs j := by unfold fsPut; rw [if_neg h]
section
variable {n N fr : Nat} {fs : Sfs} {fls : List Fil} {tk : List Bool} {back : List Int}
theorem SCore.id16 (h : SCore n N fs fls tk back fr) {j : Nat} {f : Fil} (hj : fls[j]? = some f) : ∃ i : Nat, f.id = i ∧ i < 16 ∧ fs i = some f.bs := by
  obtain ⟨h1, h2⟩ := h.r1 j f hj
  refine ⟨f.id.toNat, by omega, ?_, h2⟩
  rcases Nat.lt_or_ge f.id.toNat 16 with h3 | h3
  · exact h3
  · rw [h.far _ h3] at h2; cases h2
theorem SCore.none' (h : SCore n N fs fls tk back fr) {id : Int} (hno : ∀ (j : Nat) f, fls[j]? = some f → f.id ≠ id) : fsAt fs id = none := by
  unfold fsAt
  by_cases h0 : 0 ≤ id
  · rw [if_pos h0]
    cases hf : fs id.toNat with
    | none => rfl
    | some bs =>
      obtain ⟨j, f, hj, he⟩ := h.r2 _ _ hf
      exact absurd (by omega) (hno j f hj)
  · rw [if_neg h0]
theorem SCore.some' (h : SCore n N fs fls tk back fr) {j : Nat} {f : Fil} (hj : fls[j]? = some f) : fsAt fs f.id = some f.bs := by
  unfold fsAt
  obtain ⟨h1, h2⟩ := h.r1 j f hj
  rw [if_pos h1, h2]
/-- another file in its place, of the same number -/
theorem set_get {l : List Fil} {j : Nat} {f f' : Fil} (hj : l[j]? = some f) (k : Nat) (g : Fil) (hk : (l.set j f')[k]? = some g) : (k = j ∧ g = f') ∨ (k ≠ j ∧ l[k]? = some g) := by
  rw [List.getElem?_set] at hk
  by_cases e : j = k
  · rw [if_pos e] at hk
    split at hk
    · exact Or.inl ⟨e.symm, (Option.some.inj hk).symm⟩
    · cases hk
  · rw [if_neg e] at hk; exact Or.inr ⟨fun h => e h.symm, hk⟩
theorem set_self {l : List Fil} {j : Nat} {f f' : Fil} (hj : l[j]? = some f) : (l.set j f')[j]? = some f' := by
  rw [List.getElem?_set_self]
  exact (List.getElem?_eq_some_iff.1 hj).1
theorem set_other {l : List Fil} {j k : Nat} {f' : Fil} (h : k ≠ j) : (l.set j f')[k]? = l[k]? := by
  rw [List.getElem?_set_ne (fun e => h e.symm)]
/-- the numbers' part, when the file at j gets other bytes -/
theorem SCore.ids (h : SCore n N fs fls tk back fr) {j : Nat} {f : Fil} (hj : fls[j]? = some f) (bs fr' : List Int) :
    (∀ (k : Nat) g, (fls.set j ⟨f.id, bs, fr'⟩)[k]? = some g → 0 ≤ g.id ∧ fsPut fs f.id.toNat (some bs) g.id.toNat = some g.bs) ∧
    (∀ (i : Nat) bs', fsPut fs f.id.toNat (some bs) i = some bs' → ∃ (k : Nat) (g : Fil), (fls.set j ⟨f.id, bs, fr'⟩)[k]? = some g ∧ g.id = i) ∧
    (∀ (k l : Nat) g g', (fls.set j ⟨f.id, bs, fr'⟩)[k]? = some g → (fls.set j ⟨f.id, bs, fr'⟩)[l]? = some g' → g.id = g'.id → k = l) := by
  have key : ∀ (k : Nat) g, (fls.set j ⟨f.id, bs, fr'⟩)[k]? = some g → ∃ g0, fls[k]? = some g0 ∧ g.id = g0.id := fun k g hk => by
    rcases set_get hj k g hk with ⟨rfl, rfl⟩ | ⟨_, hk⟩
    · exact ⟨f, hj, rfl⟩
    · exact ⟨g, hk, rfl⟩
  refine ⟨fun k g hk => ?_, fun i bs' hi => ?_, fun k l g g' hk hl he => ?_⟩
  · rcases set_get hj k g hk with ⟨rfl, rfl⟩ | ⟨hne, hk⟩
    · exact ⟨(h.r1 _ _ hj).1, fsPut_eq' _ _ _⟩
    · obtain ⟨h1, h2⟩ := h.r1 k g hk
      refine ⟨h1, ?_⟩
      rw [fsPut_ne' _ _ (fun e => hne (h.r3 k j g f hk hj (by have := (h.r1 _ _ hj).1; omega)))]
      exact h2
  · by_cases e : i = f.id.toNat
    · exact ⟨j, _, set_self hj, by have := (h.r1 _ _ hj).1; show f.id = i; omega⟩
    · rw [fsPut_ne' _ _ e] at hi
      obtain ⟨k, g, hk, hid⟩ := h.r2 i bs' hi
      refine ⟨k, g, ?_, hid⟩
      rw [set_other (fun e2 => by subst e2; rw [hj] at hk; cases hk; omega)]
      exact hk
  · obtain ⟨g0, h1, h2⟩ := key k g hk
    obtain ⟨g1, h3, h4⟩ := key l g' hl
    exact h.r3 k l g0 g1 h1 h3 (by rw [← h2, ← h4, he])
/-- the same numbers and bytes, other frames -/
theorem SCore.ids0 (h : SCore n N fs fls tk back fr) {j : Nat} {f : Fil} (hj : fls[j]? = some f) (fr' : List Int) :
    (∀ (k : Nat) g, (fls.set j ⟨f.id, f.bs, fr'⟩)[k]? = some g → 0 ≤ g.id ∧ fs g.id.toNat = some g.bs) ∧
    (∀ (i : Nat) bs', fs i = some bs' → ∃ (k : Nat) (g : Fil), (fls.set j ⟨f.id, f.bs, fr'⟩)[k]? = some g ∧ g.id = i) ∧
    (∀ (k l : Nat) g g', (fls.set j ⟨f.id, f.bs, fr'⟩)[k]? = some g → (fls.set j ⟨f.id, f.bs, fr'⟩)[l]? = some g' → g.id = g'.id → k = l) := by
  have := h.ids hj f.bs fr'
  have e : fsPut fs f.id.toNat (some f.bs) = fs := by
    funext i
    by_cases hi : i = f.id.toNat
    · subst hi; rw [fsPut_eq', (h.r1 _ _ hj).2]
    · rw [fsPut_ne' _ _ hi]
  rw [e] at this
  exact this
theorem SOk.make (h : SOk n N fs fls tk back fr) {i : Nat} (hi : fs i = none) (h16 : i < 16) : SOk n (N + 1) (fsPut fs i (some [])) (fls ++ [⟨i, [], []⟩]) tk back fr := by
  have hc := h.core
  have key : ∀ (k : Nat) g, (fls ++ [(⟨i, [], []⟩ : Fil)])[k]? = some g → fls[k]? = some g ∨ (k = fls.length ∧ g = ⟨i, [], []⟩) := fun k g hk => by
    rcases Nat.lt_or_ge k fls.length with h1 | h1
    · rw [List.getElem?_append_left h1] at hk; exact Or.inl hk
    · rw [List.getElem?_append_right h1] at hk
      have : k - fls.length = 0 := by
        have := (List.getElem?_eq_some_iff.1 hk).1
        simp at this; omega
      rw [this] at hk
      exact Or.inr ⟨by omega, (Option.some.inj hk).symm⟩
  have hs : ∀ g : Fil → Nat, g ⟨i, [], []⟩ = 0 → sumF g (fls ++ [⟨i, [], []⟩]) = sumF g fls := fun g hg => by
    rw [sumF_app]; simp [sumF, hg]
  have hid : ∀ (j : Nat) f, fls[j]? = some f → f.id ≠ i := fun j f hj e => by
    obtain ⟨h1, h2⟩ := hc.r1 j f hj
    rw [e] at h2
    simp only [Int.toNat_natCast] at h2
    rw [hi] at h2; cases h2
  refine ⟨⟨fun k g hk => ?_, fun k bs hk => ?_, fun k l g g' hk hl he => ?_, fun x => ?_, fun x hx => ?_, fun k g x hk hx => ?_, ?_, hc.frn, hc.tkn, ?_, fun k hk => ?_, fun k g hk => ?_⟩, fun k g hk => ?_, ?_⟩
  · rcases key k g hk with hk | ⟨_, rfl⟩
    · obtain ⟨h1, h2⟩ := hc.r1 k g hk
      refine ⟨h1, ?_⟩
      rw [fsPut_ne' _ _ (fun e => hid k g hk (by omega))]
      exact h2
    · exact ⟨by show (0 : Int) ≤ (i : Int); omega, by show fsPut fs i (some []) (i : Int).toNat = some []; rw [Int.toNat_natCast]; exact fsPut_eq' _ _ _⟩
  · by_cases e : k = i
    · exact ⟨fls.length, ⟨i, [], []⟩, by simp, by rw [e]⟩
    · rw [fsPut_ne' _ _ e] at hk
      obtain ⟨j, f, hj, hf⟩ := hc.r2 k bs hk
      exact ⟨j, f, by rw [List.getElem?_append_left (List.getElem?_eq_some_iff.1 hj).1]; exact hj, hf⟩
  · rcases key k g hk with hk | ⟨e1, rfl⟩ <;> rcases key l g' hl with hl | ⟨e2, rfl⟩
    · exact hc.r3 k l g g' hk hl he
    · exact absurd he (hid k g hk)
    · exact absurd he.symm (hid l g' hl)
    · omega
  · rw [hs _ (by simp [frC])]; exact hc.cnt x
  · rw [hs _ (by simp [frC])] at hx; exact hc.rng x hx
  · rcases key k g hk with hk | ⟨_, rfl⟩
    · exact hc.own k g x hk hx
    · cases hx
  · rw [hs _ (by simp [frL])]; exact hc.tot
  · have := hc.most; simp; omega
  · rw [fsPut_ne' _ _ (by omega)]; exact hc.far k hk
  · rcases key k g hk with hk | ⟨_, rfl⟩
    · exact hc.b512 k g hk
    · exact Nat.zero_le _
  · rcases key k g hk with hk | ⟨_, rfl⟩
    · exact h.len k g hk
    · simp
  · rw [hs _ (by simp [frL]), h.use]
    have := usedN_put fs i (some []) 16 h16
    rw [hi] at this
    simp [blks] at this
    omega
/-- frames turned off one by one -/
def tkOff (tk : List Bool) (l : List Int) : List Bool := l.foldl (fun t x => t.set x.toNat false) tk
theorem tkOff_snoc (tk : List Bool) (l : List Int) (x : Int) : tkOff tk (l ++ [x]) = (tkOff tk l).set x.toNat false := by
  unfold tkOff; rw [List.foldl_append]; rfl
theorem tkOff_len (l : List Int) : ∀ tk : List Bool, (tkOff tk l).length = tk.length := by
  induction l with
  | nil => intro tk; rfl
  | cons x r ih => intro tk; show (tkOff (tk.set x.toNat false) r).length = _; rw [ih]; simp
theorem tkOff_at (l : List Int) : ∀ (tk : List Bool) (y : Nat), (∀ x ∈ l, x.toNat ≠ y) → (tkOff tk l)[y]? = tk[y]? := by
  induction l with
  | nil => intro tk y _; rfl
  | cons x r ih =>
    intro tk y h
    show (tkOff (tk.set x.toNat false) r)[y]? = _
    rw [ih _ _ (fun z hz => h z (List.mem_cons_of_mem _ hz)), List.getElem?_set_ne (h x (List.mem_cons_self ..))]
theorem count_take_le (l : List Int) (k : Nat) (x : Int) : (l.take k).count x ≤ l.count x := by
  have : l.count x = (l.take k).count x + (l.drop k).count x := by rw [← List.count_append, List.take_append_drop]
  omega
/-- the k-th frame of a file, when the ones ahead of it were given back -/
theorem SCore.give (h : SCore n N fs fls tk back fr) {j : Nat} {f : Fil} (hj : fls[j]? = some f) {k : Nat} {x : Int} (hk : f.fr[k]? = some x) : ∃ i : Nat, x = i ∧ i < n ∧ (tkOff tk (f.fr.take k))[i]? = some true ∧ (back ++ f.fr.take k).length < n := by
  have hx : x ∈ f.fr := List.mem_of_getElem? hk
  have hkl := (List.getElem?_eq_some_iff.1 hk).1
  have hc := h.cnt x
  have hg : f.fr.count x ≤ sumF (frC x) fls := sumF_ge (frC x) hj
  have hpos : 0 < f.fr.count x := List.count_pos_iff.2 hx
  have hr := h.rng x (by omega)
  have hfr := h.frn
  have ho := h.own j f x hj hx
  obtain ⟨i, rfl⟩ : ∃ i : Nat, x = i := ⟨x.toNat, by omega⟩
  rw [Int.toNat_natCast] at ho
  refine ⟨i, rfl, by omega, ?_, ?_⟩
  · rw [tkOff_at]
    · exact ho
    · intro z hz e
      have hz' : z ∈ f.fr := List.mem_of_mem_take hz
      have hcz := h.cnt z
      have hgz : f.fr.count z ≤ sumF (frC z) fls := sumF_ge (frC z) hj
      have hposz : 0 < f.fr.count z := List.count_pos_iff.2 hz'
      have hrz := h.rng z (by omega)
      obtain rfl : z = (i : Int) := by omega
      -- it would be there twice
      have h1 : 0 < (f.fr.take k).count (i : Int) := List.count_pos_iff.2 hz
      have h2 : 0 < (f.fr.drop k).count (i : Int) := List.count_pos_iff.2 (by
        rw [List.drop_eq_getElem_cons hkl]
        have : f.fr[k] = (i : Int) := (List.getElem?_eq_some_iff.1 hk).2
        rw [this]; exact List.mem_cons_self ..)
      have h3 : f.fr.count (i : Int) = (f.fr.take k).count (i : Int) + (f.fr.drop k).count (i : Int) := by rw [← List.count_append, List.take_append_drop]
      omega
  · have ht := h.tot
    have hl : f.fr.length ≤ sumF frL fls := sumF_ge frL hj
    rw [List.length_append, List.length_take]
    omega
theorem SOk.cut (h : SOk n N fs fls tk back fr) {j : Nat} {f : Fil} (hj : fls[j]? = some f) : SOk n N (fsPut fs f.id.toNat (some [])) (fls.set j ⟨f.id, [], []⟩) (tkOff tk f.fr) (back ++ f.fr) fr := by
  have hc := h.core
  obtain ⟨i, hid, h16, hfs⟩ := hc.id16 hj
  obtain ⟨k1, k2, k3⟩ := hc.ids hj [] []
  have hs : ∀ g : Fil → Nat, g ⟨f.id, [], []⟩ = 0 → sumF g (fls.set j ⟨f.id, [], []⟩) + g f = sumF g fls := fun g hg => by
    have := sumF_set g fls j f ⟨f.id, [], []⟩ hj
    omega
  have hcx : ∀ x, (back ++ f.fr).count x + sumF (frC x) (fls.set j ⟨f.id, [], []⟩) = back.count x + sumF (frC x) fls := fun x => by
    have h1 : sumF (frC x) (fls.set j ⟨f.id, [], []⟩) + f.fr.count x = sumF (frC x) fls := hs (frC x) (by simp [frC])
    rw [List.count_append]
    omega
  have hfl : sumF frL (fls.set j ⟨f.id, [], []⟩) + f.fr.length = sumF frL fls := hs frL (by simp [frL])
  have ht := hc.tot
  refine ⟨⟨k1, k2, k3, fun x => by rw [hcx]; exact hc.cnt x, fun x hx => by rw [hcx] at hx; exact hc.rng x hx, fun k g x hk hx => ?_, by rw [List.length_append]; omega, hc.frn, by rw [tkOff_len]; exact hc.tkn, by rw [List.length_set]; exact hc.most, fun k hk => by rw [fsPut_ne' _ _ (by omega)]; exact hc.far k hk, fun k g hk => ?_⟩, fun k g hk => ?_, ?_⟩
  · rcases set_get hj k g hk with ⟨_, rfl⟩ | ⟨hne, hk⟩
    · cases hx
    · have h0 := hc.own k g x hk hx
      rw [tkOff_at]
      · exact h0
      · intro z hz e
        have hgx : g.fr.count x ≤ sumF (frC x) fls := sumF_ge (frC x) hk
        have p1 : 0 < g.fr.count x := List.count_pos_iff.2 hx
        have hgz : f.fr.count z ≤ sumF (frC z) fls := sumF_ge (frC z) hj
        have p2 : 0 < f.fr.count z := List.count_pos_iff.2 hz
        have r1 := hc.rng x (by omega)
        have r2 := hc.rng z (by omega)
        obtain rfl : z = x := by omega
        have h2 : f.fr.count z + g.fr.count z ≤ sumF (frC z) fls := sumF_two (frC z) hj hk (fun e => hne e.symm)
        have h3 := hc.cnt z
        omega
  · rcases set_get hj k g hk with ⟨_, rfl⟩ | ⟨_, hk⟩
    · exact Nat.zero_le _
    · exact hc.b512 k g hk
  · rcases set_get hj k g hk with ⟨_, rfl⟩ | ⟨_, hk⟩
    · simp
    · exact h.len k g hk
  · have := usedN_put fs f.id.toNat (some []) 16 (by omega)
    have e : f.id.toNat = i := by omega
    rw [e] at this ⊢
    rw [hfs] at this
    have hl := h.len j f hj
    have hu := h.use
    simp only [blks, List.length_nil] at this
    omega
theorem SOk.drop (h : SOk n N fs fls tk back fr) {j : Nat} {f : Fil} (hj : fls[j]? = some f) (h0 : f.fr = []) (hb : f.bs = []) : SOk n N (fsPut fs f.id.toNat none) (fls.eraseIdx j) tk back fr := by
  have hc := h.core
  obtain ⟨i, hid, h16, hfs⟩ := hc.id16 hj
  have hs : ∀ g : Fil → Nat, g f = 0 → sumF g (fls.eraseIdx j) = sumF g fls := fun g hg => by
    have := sumF_erase g fls j f hj; omega
  have key : ∀ (k : Nat) g, (fls.eraseIdx j)[k]? = some g → ∃ l : Nat, l ≠ j ∧ fls[l]? = some g ∧ (k = l ∧ k < j ∨ l = k + 1 ∧ j ≤ k) := fun k g hk => by
    rw [List.getElem?_eraseIdx] at hk
    split at hk
    · exact ⟨k, by omega, hk, Or.inl ⟨rfl, by omega⟩⟩
    · exact ⟨k + 1, by omega, hk, Or.inr ⟨rfl, by omega⟩⟩
  refine ⟨⟨fun k g hk => ?_, fun k bs hk => ?_, fun k l g g' hk hl he => ?_, fun x => ?_, fun x hx => ?_, fun k g x hk hx => ?_, ?_, hc.frn, hc.tkn, ?_, fun k hk => ?_, fun k g hk => ?_⟩, fun k g hk => ?_, ?_⟩
  · obtain ⟨l, hl, hg, _⟩ := key k g hk
    obtain ⟨h1, h2⟩ := hc.r1 l g hg
    refine ⟨h1, ?_⟩
    rw [fsPut_ne' _ _ (fun e => hl (hc.r3 l j g f hg hj (by omega)))]
    exact h2
  · by_cases e : k = f.id.toNat
    · subst e; rw [fsPut_eq'] at hk; cases hk
    · rw [fsPut_ne' _ _ e] at hk
      obtain ⟨l, g, hl, hg⟩ := hc.r2 k bs hk
      have hlj : l ≠ j := fun e2 => by subst e2; rw [hj] at hl; cases hl; omega
      rcases Nat.lt_or_ge l j with h1 | h1
      · exact ⟨l, g, by rw [List.getElem?_eraseIdx, if_pos h1]; exact hl, hg⟩
      · refine ⟨l - 1, g, ?_, hg⟩
        rw [List.getElem?_eraseIdx, if_neg (by omega), Nat.sub_add_cancel (by omega)]; exact hl
  · obtain ⟨k', _, hk1, hk2⟩ := key k g hk
    obtain ⟨l', _, hl1, hl2⟩ := key l g' hl
    have := hc.r3 k' l' g g' hk1 hl1 he
    omega
  · rw [hs _ (by simp [frC, h0])]; exact hc.cnt x
  · rw [hs _ (by simp [frC, h0])] at hx; exact hc.rng x hx
  · obtain ⟨l, _, hg, _⟩ := key k g hk
    exact hc.own l g x hg hx
  · rw [hs _ (by simp [frL, h0])]; exact hc.tot
  · have := hc.most
    have := List.length_eraseIdx_le fls j
    omega
  · by_cases e : k = f.id.toNat
    · rw [e, fsPut_eq']
    · rw [fsPut_ne' _ _ e]; exact hc.far k hk
  · obtain ⟨l, _, hg, _⟩ := key k g hk
    exact hc.b512 l g hg
  · obtain ⟨l, _, hg, _⟩ := key k g hk
    exact h.len l g hg
  · have := usedN_put fs f.id.toNat none 16 (by omega)
    have e : f.id.toNat = i := by omega
    rw [e] at this ⊢
    rw [hfs, hb] at this
    rw [hs _ (by simp [frL, h0]), h.use]
    simp [blks] at this
    omega
/-- one frame more for a file: the last one that was given back, or a fresh one -/
theorem SCore.take (h : SCore n N fs fls tk back fr) {j : Nat} {f : Fil} (hj : fls[j]? = some f) {b0 : List Int} {i fr' : Nat} (hb : (back = b0 ++ [(i : Int)] ∧ fr' = fr) ∨ (back = [] ∧ b0 = [] ∧ i = fr ∧ fr' = fr + 1 ∧ fr < n)) : SCore n N fs (fls.set j ⟨f.id, f.bs, f.fr ++ [(i : Int)]⟩) (tk.set i true) b0 fr' := by
  obtain ⟨k1, k2, k3⟩ := h.ids0 hj (f.fr ++ [(i : Int)])
  have hs : ∀ g : Fil → Nat, sumF g (fls.set j ⟨f.id, f.bs, f.fr ++ [(i : Int)]⟩) + g f = sumF g fls + g ⟨f.id, f.bs, f.fr ++ [(i : Int)]⟩ := fun g => sumF_set g fls j f _ hj
  have hi : i < n ∧ fr' ≤ n ∧ i < fr' ∧ fr ≤ fr' := by
    rcases hb with ⟨hb, e⟩ | ⟨_, _, e1, e2, e3⟩
    · have := h.rng i (by rw [hb, List.count_append, List.count_singleton_self]; omega)
      have := h.frn
      omega
    · omega
  have hcx : ∀ x, b0.count x + sumF (frC x) (fls.set j ⟨f.id, f.bs, f.fr ++ [(i : Int)]⟩) ≤ 1 ∧ (0 < b0.count x + sumF (frC x) (fls.set j ⟨f.id, f.bs, f.fr ++ [(i : Int)]⟩) → 0 ≤ x ∧ x < fr') := fun x => by
    have h1 := hs (frC x)
    have h2 : frC x ⟨f.id, f.bs, f.fr ++ [(i : Int)]⟩ = frC x f + [(i : Int)].count x := by show (f.fr ++ [(i : Int)]).count x = f.fr.count x + _; rw [List.count_append]
    have h3 := h.cnt x
    have h4 := h.rng x
    rcases hb with ⟨hb, e⟩ | ⟨hb, e0, e1, e2, e3⟩
    · rw [hb, List.count_append] at h3 h4
      exact ⟨by omega, fun hp => by have := h4 (by omega); omega⟩
    · rw [hb] at h3 h4
      rw [e0]
      simp only [List.count_nil] at h3 h4 ⊢
      by_cases ex : x = (i : Int)
      · subst ex
        have h5 : sumF (frC (i : Int)) fls = 0 := by
          rcases Nat.eq_zero_or_pos (sumF (frC (i : Int)) fls) with h6 | h6
          · exact h6
          · have := h4 (by omega); omega
        have h6 : [(i : Int)].count (i : Int) = 1 := List.count_singleton_self
        exact ⟨by omega, fun _ => by omega⟩
      · have h6 : [(i : Int)].count x = 0 := by rw [List.count_eq_zero]; simpa using ex
        exact ⟨by omega, fun hp => by have := h4 (by omega); omega⟩
  have hfl := hs frL
  have ht := h.tot
  refine ⟨k1, k2, k3, fun x => (hcx x).1, fun x hx => (hcx x).2 hx, fun k g x hk hx => ?_, ?_, hi.2.1, by rw [List.length_set]; exact h.tkn, by rw [List.length_set]; exact h.most, h.far, fun k g hk => ?_⟩
  · have hx' : (∃ g0, fls[k]? = some g0 ∧ x ∈ g0.fr) ∨ x = (i : Int) := by
      rcases set_get hj k g hk with ⟨rfl, rfl⟩ | ⟨_, hk⟩
      · rw [List.mem_append, List.mem_singleton] at hx
        exact hx.imp (fun hx => ⟨f, hj, hx⟩) id
      · exact Or.inl ⟨g, hk, hx⟩
    by_cases e : x.toNat = i
    · rw [e, List.getElem?_set_self (by rw [h.tkn]; exact hi.1)]
    · rcases hx' with ⟨g0, hk0, hx0⟩ | rfl
      · rw [List.getElem?_set_ne (fun e2 => e e2.symm)]
        exact h.own k g0 x hk0 hx0
      · exact absurd (Int.toNat_natCast i) e
  · have h2 : frL ⟨f.id, f.bs, f.fr ++ [(i : Int)]⟩ = frL f + 1 := by unfold frL; simp
    rcases hb with ⟨hb, e⟩ | ⟨hb, e0, e1, e2, e3⟩
    · rw [hb] at ht; simp at ht; omega
    · rw [hb] at ht; rw [e0]; simp at ht ⊢; omega
  · rcases set_get hj k g hk with ⟨rfl, rfl⟩ | ⟨_, hk⟩
    · exact h.b512 _ f hj
    · exact h.b512 k g hk
/-- written: other bytes, as many frames as they take -/
theorem SOk.write (h : SOk n N fs fls tk back fr) {j : Nat} {f : Fil} (hj : fls[j]? = some f) {fr' : Nat} {tk' : List Bool} {back' news : List Int} (hc : SCore n N fs (fls.set j ⟨f.id, f.bs, f.fr ++ news⟩) tk' back' fr') (bs : List Int) (hl : (f.fr ++ news).length = (bs.length + 63) / 64) (h5 : bs.length ≤ 512) :
    SOk n N (fsPut fs f.id.toNat (some bs)) (fls.set j ⟨f.id, bs, f.fr ++ news⟩) tk' back' fr' := by
  have hj' := set_self (f' := ⟨f.id, f.bs, f.fr ++ news⟩) hj
  have e : (fls.set j ⟨f.id, f.bs, f.fr ++ news⟩).set j ⟨f.id, bs, f.fr ++ news⟩ = fls.set j ⟨f.id, bs, f.fr ++ news⟩ := List.set_set ..
  obtain ⟨k1, k2, k3⟩ := hc.ids hj' bs (f.fr ++ news)
  simp only at k1 k2 k3
  rw [e] at k1 k2 k3
  have hs : ∀ g : Fil → Nat, g ⟨f.id, bs, f.fr ++ news⟩ = g ⟨f.id, f.bs, f.fr ++ news⟩ → sumF g (fls.set j ⟨f.id, bs, f.fr ++ news⟩) = sumF g (fls.set j ⟨f.id, f.bs, f.fr ++ news⟩) := fun g hg => by
    have := sumF_set g _ j _ ⟨f.id, bs, f.fr ++ news⟩ hj'
    rw [e] at this
    omega
  have key : ∀ (k : Nat) g, (fls.set j ⟨f.id, bs, f.fr ++ news⟩)[k]? = some g → (k = j ∧ g = ⟨f.id, bs, f.fr ++ news⟩) ∨ (k ≠ j ∧ fls[k]? = some g) := fun k g hk => set_get hj k g hk
  obtain ⟨i, hid, h16, hfs⟩ := h.core.id16 hj
  refine ⟨⟨k1, k2, k3, fun x => by rw [hs (frC x) rfl]; exact hc.cnt x, fun x hx => by rw [hs (frC x) rfl] at hx; exact hc.rng x hx, fun k g x hk hx => ?_, by rw [hs frL rfl]; exact hc.tot, hc.frn, hc.tkn, by have := hc.most; rw [List.length_set] at this ⊢; exact this, fun k hk => ?_, fun k g hk => ?_⟩, fun k g hk => ?_, ?_⟩
  · rcases key k g hk with ⟨rfl, rfl⟩ | ⟨hne, hk⟩
    · exact hc.own _ _ x hj' hx
    · exact hc.own k g x (by rw [set_other hne]; exact hk) hx
  · rw [fsPut_ne' _ _ (by omega)]; exact hc.far k hk
  · rcases key k g hk with ⟨rfl, rfl⟩ | ⟨hne, hk⟩
    · exact h5
    · exact h.core.b512 k g hk
  · rcases key k g hk with ⟨rfl, rfl⟩ | ⟨hne, hk⟩
    · exact hl
    · exact h.len k g hk
  · have hs2 := sumF_set frL fls j f ⟨f.id, bs, f.fr ++ news⟩ hj
    have hu := usedN_put fs f.id.toNat (some bs) 16 (by omega)
    have e1 : f.id.toNat = i := by omega
    rw [e1] at hu ⊢
    rw [hfs] at hu
    have hlf := h.len j f hj
    have huse := h.use
    simp only [blks] at hu
    have h1 : frL ⟨f.id, bs, f.fr ++ news⟩ = (bs.length + 63) / 64 := hl
    have h2 : frL f = (f.bs.length + 63) / 64 := hlf
    omega
end
end Go.Proofs.YtchnjfmimpikcaaGreatDoor
