/-
  The queue's calls that write: what each turns.
-/
import Derived.Test.YtpajebedeacpgaaRmay
namespace Go.Proofs.Ytpajebedeacpgaa
set_option linter.unusedSimpArgs false
set_option linter.unusedVariables false
open Go.RowKit Own Sl
open RegJ hiding Up
open RegF hiding put_size

section
variable {w w' : World} {qb : Nat} {R : Nat → Value} {F : Nat → List Int} {W : Nat → Nat} {m : Int → Option Value} {s : Nat} {hs : List It} {lo : Lo} {N : Nat}
theorem QB.setMap (h : QB w qb R F W m s hs lo N) {mb n' s' N' : Nat} {m' : Int → Option Value} (m1 : lo .mp = some mb) (hM : MapI w' Try.prog 3 mb n' s' m') (hn' : n' ≤ N') (hNN : N ≤ N') (hu : Upd (fun k => k = mb) w w') :
    QB w' qb R F W m' s' hs lo N' ∧ QFr lo lo w w' := by
  obtain ⟨mb0, n, m1', m2, m3, m4⟩ := h.map
  have e : mb0 = mb := by rw [m1'] at m1; cases m1; rfl
  subst e
  obtain ⟨hb, h1, h2, xs, h3, h4⟩ := h.heap
  have nG : ∀ r k, lo r = some k → r ≠ .mp → ¬ (k = mb0) := fun r k hk e1 e => by
    rw [e] at hk; exact e1 (h.inj _ _ _ hk m1)
  exact ⟨⟨h.inj, fun r k hk => Nat.lt_of_lt_of_le (h.lt r k hk) hu.size, h.at', ⟨mb0, n', m1, m2, hM, hn'⟩, ⟨hb, h1, h2, xs, h3, h4.upd hu (nG _ _ h1 (fun e => by cases e)) (fun g hg => nG _ _ hg (fun e => by cases e))⟩, Blk.upd hu h.blk (nG _ _ h.at' (fun e => by cases e)), h.word, fun r i hr hi => (h.row r i hr hi).upd hu (fun g hg => nG _ _ hg (fun e => by cases e)), h.far, fun i => Nat.le_trans (h.len i) hNN⟩, hu.mono (fun k _ e => ⟨.mp, by rw [e]; exact m1⟩), fun r k hk => Or.inl ⟨r, hk⟩⟩
def loHr (lo : Lo) (b : Option Nat) : Lo := fun r => match r with
  | .hr => b
  | .q => lo .q
  | .mp => lo .mp
  | .hp => lo .hp
  | .row i => lo (.row i)
theorem loHr_old {b : Option Nat} {r : Rl} {k : Nat} (h : loHr lo b r = some k) : (lo r = some k ∧ r ≠ .hr) ∨ (r = .hr ∧ b = some k) := by
  cases r <;> simp only [loHr] at h
  case hr => exact Or.inr ⟨rfl, h⟩
  all_goals exact Or.inl ⟨h, fun e => by cases e⟩
theorem QB.setHeap (h : QB w qb R F W m s hs lo N) {hb : Nat} {ys hs' : List It} {b' : Option Nat} (h1 : lo .hp = some hb) (hp : ys.Perm hs') (hh : Hp w' hb ys b') (hf : HFr hb (lo .hr) b' w w') :
    QB w' qb R F W m s hs' (loHr lo b') N ∧ QFr lo (loHr lo b') w w' := by
  obtain ⟨mb, n, m1, m2, m3, m4⟩ := h.map
  obtain ⟨hb0, h1', h2, xs, h3, h4⟩ := h.heap
  have e : hb0 = hb := by rw [h1'] at h1; cases h1; rfl
  subst e
  have hu := hf.1
  have hz := hu.size
  have nG : ∀ r k, lo r = some k → r ≠ .hp → r ≠ .hr → ¬ (k = hb0 ∨ lo .hr = some k) := fun r k hk e1 e2 e => by
    rcases e with e | e
    · rw [e] at hk; exact e1 (h.inj _ _ _ hk h1)
    · exact e2 (h.inj _ _ _ hk e)
  have inj' : ∀ g, b' = some g → ∀ r, lo r = some g → r = .hr := fun g hg r hr => by
    rcases hf.2 g hg with h5 | h5
    · exact h.inj _ _ _ hr h5
    · have := h.lt _ _ hr; omega
  have hbl : ∀ g, b' = some g → g < w'.heap.size := fun g hg => (Hh.lt hh.1).2 g hg
  refine ⟨⟨fun a c k ha hc => ?_, fun a k ha => ?_, h.at', ⟨mb, n, m1, m2, m3.upd hu (nG _ _ m1 (fun e => by cases e) (fun e => by cases e)), m4⟩, ⟨hb0, h1, h2, ys, hp, hh⟩, Blk.upd hu h.blk (nG _ _ h.at' (fun e => by cases e) (fun e => by cases e)), h.word, fun r i hr hi => (h.row r i hr hi).upd hu (fun g hg => nG _ _ hg (fun e => by cases e) (fun e => by cases e)), h.far, h.len⟩, hu.mono (fun k _ e => ?_), fun a k ha => ?_⟩
  · rcases loHr_old ha with ⟨a1, na⟩ | ⟨e1, a1⟩ <;> rcases loHr_old hc with ⟨c1, nc⟩ | ⟨e2, c1⟩
    · exact h.inj _ _ _ a1 c1
    · exact absurd (inj' k c1 a a1) na
    · exact absurd (inj' k a1 c c1) nc
    · rw [e1, e2]
  · rcases loHr_old ha with ⟨a1, na⟩ | ⟨e1, a1⟩
    · have := h.lt _ _ a1; omega
    · exact hbl k a1
  · rcases e with e | e
    · exact ⟨.hp, by rw [e]; exact h1⟩
    · exact ⟨.hr, e⟩
  · rcases loHr_old ha with ⟨a1, _⟩ | ⟨e1, a1⟩
    · exact Or.inl ⟨_, a1⟩
    · rcases hf.2 k a1 with h5 | h5
      · exact Or.inl ⟨_, h5⟩
      · exact Or.inr h5
theorem WD.congr {x : Nat} {f g : Nat → Bool} (h : WD x f) (e : ∀ i, i < 64 → f i = g i) : WD x g := ⟨h.1, fun i hi => by rw [h.2 i hi, e i hi]⟩
theorem wd_ins (h : ∀ r, r < 2 → WD (W r) (hasL F r)) {r i : Nat} (hr : r < 2) (hi : i < 64) {l : List Int} (hl : l ≠ []) : ∀ r', r' < 2 → WD (putF W r (wset (W r) i) r') (hasL (putF F (64 * r + i) l) r') := by
  intro r' hr'
  by_cases e : r' = r
  · subst e
    rw [putF_eq]
    refine ((h r' hr').set hi).congr (fun k hk => ?_)
    unfold hasL
    by_cases ek : k = i
    · subst ek; rw [if_pos rfl, putF_eq]; cases l with
      | nil => exact absurd rfl hl
      | cons a t => rfl
    · rw [if_neg ek, putF_ne _ _ _ (by omega)]
  · rw [putF_ne _ _ _ e]
    refine (h r' hr').congr (fun k hk => ?_)
    unfold hasL
    rw [putF_ne _ _ _ (by omega)]
theorem wd_del (h : ∀ r, r < 2 → WD (W r) (hasL F r)) {r i : Nat} (hr : r < 2) (hi : i < 64) (hne : F (64 * r + i) ≠ []) {l : List Int} : ∀ r', r' < 2 → WD (tkW W r i l r') (hasL (putF F (64 * r + i) l) r') := by
  intro r' hr'
  unfold tkW
  by_cases hl : l = []
  · rw [if_pos hl]
    by_cases e : r' = r
    · subst e
      rw [putF_eq]
      refine ((h r' hr').clr hi).congr (fun k hk => ?_)
      unfold hasL
      by_cases ek : k = i
      · subst ek; rw [if_pos rfl, putF_eq, hl]; rfl
      · rw [if_neg ek, putF_ne _ _ _ (by omega)]
    · rw [putF_ne _ _ _ e]
      refine (h r' hr').congr (fun k hk => ?_)
      unfold hasL
      rw [putF_ne _ _ _ (by omega)]
  · rw [if_neg hl]
    refine (h r' hr').congr (fun k hk => ?_)
    unfold hasL
    by_cases ek : 64 * r' + k = 64 * r + i
    · rw [ek, putF_eq]
      have h1 : (F (64 * r + i)).isEmpty = false := by cases hf : F (64 * r + i) with
        | nil => exact absurd hf hne
        | cons a t => rfl
      have h2 : l.isEmpty = false := by cases l with
        | nil => exact absurd rfl hl
        | cons a t => rfl
      rw [h1, h2]
    · rw [putF_ne _ _ _ ek]
theorem insL_ne (xs : List Int) (x : Int) : insL xs x ≠ [] := fun e => by have := insL_len xs x; rw [e] at this; simp at this
end
end Go.Proofs.Ytpajebedeacpgaa
