/-
  CondScript: the program's conditions and the document's beside one another; what a call does to both.
-/
import Derived.Test.YtgkchpifogfohaaOver
import Derived.Test.YtgkchpifogfohaaCondB
import Derived.Test.YtgkchpifogfohaaBits
namespace Go.Proofs.Ytgkchpifogfohaa
set_option linter.unusedSimpArgs false
set_option linter.unusedVariables false
open Go.RowKit Go.Lib Own Sl
open RegJ hiding Up
open RegF hiding put_size

/-! ### what the calls answer, plain -/
structure Fine (n : Nat) (ls : Nat → List Int) : Prop where
  good : Good ls
  rng : ∀ j y, y ∈ ls j → 0 ≤ y ∧ y < 16
  out : ∀ j, n ≤ j → ls j = []
def lsAt (ls : Nat → List Int) (I : Int) : List Int := if I < 0 then [] else ls I.toNat
def waitR (n : Nat) (ls : Nat → List Int) (t I : Int) : Int := if I < 0 ∨ n ≤ I then 2 else if 0 ≤ ofF n ls t then 5 else 0
def waitL (n : Nat) (ls : Nat → List Int) (t I : Int) : Nat → List Int := if waitR n ls t I = 0 then insF ls I.toNat t else ls
def canB (n : Nat) (ls : Nat → List Int) (t : Int) : Bool := decide (0 ≤ ofF n ls t)
def canL (n : Nat) (ls : Nat → List Int) (t : Int) : Nat → List Int := if 0 ≤ ofF n ls t then delF ls (ofF n ls t).toNat t else ls
def sigO (Q : Nat → Int) (ls : Nat → List Int) (I : Int) : Option Int := match lsAt ls I with | [] => none | x :: r => some (bestF Q x r)
def sigL (ls : Nat → List Int) (I : Int) (o : Option Int) : Nat → List Int := match o with | none => ls | some z => delF ls I.toNat z
def sigN (o : Option Int) : Int := o.getD (-1)
def sigB (o : Option Int) : Bool := o.isSome
theorem ofF_neg {n : Nat} {ls : Nat → List Int} {t : Int} (hF : Fine n ls) (h : ¬ 0 ≤ ofF n ls t) : ofF n ls t = -1 ∧ ∀ j, t ∉ ls j := by
  rcases ofF_cases n ls t with ⟨h1, h2⟩ | ⟨k, hk, h1, _⟩
  · refine ⟨h1, fun j hj => ?_⟩
    by_cases hjn : j < n
    · exact h2 j hjn hj
    · rw [hF.out j (by omega)] at hj; simp at hj
  · omega
theorem ofF_pos {n : Nat} {ls : Nat → List Int} {t : Int} (h : 0 ≤ ofF n ls t) : ∃ k, k < n ∧ ofF n ls t = (k : Nat) ∧ t ∈ ls k := by
  rcases ofF_cases n ls t with ⟨h1, h2⟩ | ⟨k, hk, h1, h2, _⟩
  · omega
  · exact ⟨k, hk, h1, h2⟩
theorem Fine.ins {n : Nat} {ls : Nat → List Int} (h : Fine n ls) (i : Nat) (t : Int) (ht : 0 ≤ t ∧ t < 16) (hi : i < n) (hv : ∀ j, t ∉ ls j) : Fine n (insF ls i t) := by
  refine ⟨h.good.ins i t ⟨ht.1, by omega⟩ hv, fun j y hy => ?_, fun j hj => ?_⟩
  · rw [mem_insF h.good] at hy
    rcases hy with hy | ⟨_, rfl⟩
    · exact h.rng j y hy
    · exact ht
  · unfold insF; rw [put_ne _ _ (by omega)]; exact h.out j hj
theorem Fine.del {n : Nat} {ls : Nat → List Int} (h : Fine n ls) (i : Nat) (t : Int) (hi : i < n) : Fine n (delF ls i t) := by
  refine ⟨h.good.del i t, fun j y hy => ?_, fun j hj => ?_⟩
  · rw [mem_delF] at hy; exact h.rng j y hy.1
  · unfold delF; rw [put_ne _ _ (by omega)]; exact h.out j hj
theorem Fine.wait {n : Nat} {ls : Nat → List Int} (h : Fine n ls) (t I : Int) (ht : 0 ≤ t ∧ t < 16) : Fine n (waitL n ls t I) := by
  unfold waitL
  split
  · next h0 =>
    unfold waitR at h0
    by_cases h1 : I < 0 ∨ n ≤ I
    · rw [if_pos h1] at h0; omega
    · rw [if_neg h1] at h0
      by_cases h2 : 0 ≤ ofF n ls t
      · rw [if_pos h2] at h0; omega
      · exact h.ins _ t ht (by omega) (ofF_neg h h2).2
  · exact h
theorem Fine.can {n : Nat} {ls : Nat → List Int} (h : Fine n ls) (t : Int) : Fine n (canL n ls t) := by
  unfold canL
  split
  · next h0 =>
    obtain ⟨k, hk, h1, h2⟩ := ofF_pos h0
    rw [h1]; exact h.del _ t (by simpa using hk)
  · exact h
theorem Fine.sig {n : Nat} {ls : Nat → List Int} (h : Fine n ls) (Q : Nat → Int) (I : Int) : Fine n (sigL ls I (sigO Q ls I)) := by
  unfold sigL
  cases hs : sigO Q ls I with
  | none => exact h
  | some z =>
    have hI : I.toNat < n := by
      unfold sigO lsAt at hs
      by_cases h0 : I < 0
      · rw [if_pos h0] at hs; simp at hs
      · rw [if_neg h0] at hs
        rcases Nat.lt_or_ge I.toNat n with h1 | h1
        · exact h1
        · rw [h.out _ h1] at hs; simp at hs
    exact h.del _ z hI
theorem Fine.nil (n : Nat) : Fine n (fun _ => []) := ⟨Good.nil, fun _ _ h => by simp at h, fun _ _ => rfl⟩

/-! ### both sides -/
def St (W w : World) (n bc br bk : Nat) (Q : Nat → Int) (E : Nat → Prop) (lc lr : Nat → List Int) : Prop :=
  ∃ rl vs bs, Cd w (fun j => j < W.heap.size ∨ j = bk ∨ CFoot br rl bs j ∨ E j) n bc lc ∧ RR w n br rl vs bs lr ∧ KR w bk Q ∧ (∀ j, CFoot br rl bs j → W.heap.size ≤ j ∧ j ≠ bk ∧ ¬ E j) ∧ W.heap.size ≤ bk ∧ (∀ j, E j → W.heap.size ≤ j ∧ j ≠ bk) ∧ Keep (fun j => j < W.heap.size) W w
section
variable {W w w' : World} {n bc br bk : Nat} {Q : Nat → Int} {E : Nat → Prop} {lc lr : Nat → List Int}
theorem St.lt (h : St W w n bc br bk Q E lc lr) : W.heap.size ≤ w.heap.size := by
  obtain ⟨rl, vs, bs, hC, hR, hK, hf, hb, hE, hw⟩ := h
  exact hw.size
theorem St.anti {E' : Nat → Prop} (h : St W w n bc br bk Q E lc lr) (hE' : ∀ j, E' j → E j) : St W w n bc br bk Q E' lc lr := by
  obtain ⟨rl, vs, bs, hC, hR, hK, hf, hb, hE, hw⟩ := h
  refine ⟨rl, vs, bs, ?_, hR, hK, fun j hj => ⟨(hf j hj).1, (hf j hj).2.1, fun he => (hf j hj).2.2 (hE' j he)⟩, hb, fun j hj => hE j (hE' j hj), hw⟩
  obtain ⟨bl, vs', bs', h1, h2, h3, h4⟩ := hC
  have hmap : ∀ j, (j < W.heap.size ∨ j = bk ∨ CFoot br rl bs j ∨ E' j) → (j < W.heap.size ∨ j = bk ∨ CFoot br rl bs j ∨ E j) := fun j hj => by
    rcases hj with h | h | h | h
    · exact Or.inl h
    · exact Or.inr (Or.inl h)
    · exact Or.inr (Or.inr (Or.inl h))
    · exact Or.inr (Or.inr (Or.inr (hE' j h)))
  exact ⟨bl, vs', bs', h1, fun k hk hk' => h2 k hk (hmap k hk'), fun k hk => h3 k (hmap k hk), h4⟩
/-- new blocks are laid: they are kept from now on -/
theorem St.more (h : St W w n bc br bk Q E lc lr) (hB : Below w.heap.size w w') : St W w' n bc br bk Q (fun j => E j ∨ (w.heap.size ≤ j ∧ j < w'.heap.size)) lc lr := by
  obtain ⟨rl, vs, bs, hC, hR, hK, hf, hb, hE, hw⟩ := h
  have hKl := hK.lt
  have hWs := hw.size
  refine ⟨rl, vs, bs, ?_, hR.below hB, hK.keep (Keep.of_below hB) (K := fun _ => True) trivial, fun j hj => ⟨(hf j hj).1, (hf j hj).2.1, fun he => ?_⟩, hb, fun j hj => ?_, hw.trans (Keep.of_below hB)⟩
  · have := hC.more hB
    obtain ⟨bl, vs', bs', h1, h2, h3, h4⟩ := this
    have hmap : ∀ j, (j < W.heap.size ∨ j = bk ∨ CFoot br rl bs j ∨ (E j ∨ (w.heap.size ≤ j ∧ j < w'.heap.size))) → ((j < W.heap.size ∨ j = bk ∨ CFoot br rl bs j ∨ E j) ∨ w.heap.size ≤ j ∧ j < w'.heap.size) := fun j hj => by
      rcases hj with h | h | h | h | h
      · exact Or.inl (Or.inl h)
      · exact Or.inl (Or.inr (Or.inl h))
      · exact Or.inl (Or.inr (Or.inr (Or.inl h)))
      · exact Or.inl (Or.inr (Or.inr (Or.inr h)))
      · exact Or.inr h
    exact ⟨bl, vs', bs', h1, fun k hk hk' => h2 k hk (hmap k hk'), fun k hk => h3 k (hmap k hk), h4⟩
  · rcases he with he | he
    · exact (hf j hj).2.2 he
    · have := hR.lt j hj; omega
  · rcases hj with hj | hj
    · exact hE j hj
    · exact ⟨by omega, by omega⟩
/-- somebody turns kept blocks of E -/
theorem St.turn {F : Nat → Prop} (h : St W w n bc br bk Q E lc lr) (hu : Upd F w w') (hF : ∀ j, F j → E j) : St W w' n bc br bk Q E lc lr := by
  obtain ⟨rl, vs, bs, hC, hR, hK, hf, hb, hE, hw⟩ := h
  exact ⟨rl, vs, bs, hC.other hu (fun k hk => Or.inr (Or.inr (Or.inr (hF k hk)))), hR.upd hu (fun k hk he => (hf k hk).2.2 (hF k he)), hK.upd hu (fun he => (hE bk (hF bk he)).2 rfl), hf, hb, hE, hw.trans (hu.mono (fun k _ hk hl => by have := (hE k (hF k hk)).1; omega))⟩
/-- the post of a call -/
def StP (v : Value) (W w0 : World) (n bc br bk : Nat) (Q : Nat → Int) (E : Nat → Prop) (lc lr : Nat → List Int) (e : Ending) (w' : World) : Prop := e = .returned v ∧ St W w' n bc br bk Q E lc lr ∧ Keep E w0 w'
theorem st_c {f : FuncId} {args : Array Value} {v : Value} {lc' : Nat → List Int} (h : St W w n bc br bk Q E lc lr)
    (hc : ∀ K, Cd w K n bc lc → KR w bk Q → K bk → Calls Try.prog f args w (CdPost v w K n bc lc')) : Calls Try.prog f args w (StP v W w n bc br bk Q E lc' lr) := by
  obtain ⟨rl, vs, bs, hC, hR, hK, hf, hb, hE, hw⟩ := h
  refine (hc _ hC hK (Or.inr (Or.inl rfl))).mono ?_
  rintro e w' ⟨rfl, hC', hK'⟩
  exact ⟨rfl, ⟨rl, vs, bs, hC', hR.upd hK' (fun k hk hn => hn (Or.inr (Or.inr (Or.inl hk)))), hK.keep hK' (Or.inr (Or.inl rfl)), hf, hb, hE, hw.trans (hK'.mono (fun j hj => Or.inl hj))⟩, hK'.mono (fun j hj => Or.inr (Or.inr (Or.inr hj)))⟩
theorem st_r {f : FuncId} {args : Array Value} {v : Value} {lr' : Nat → List Int} (h : St W w n bc br bk Q E lc lr)
    (hc : ∀ rl vs bs, RR w n br rl vs bs lr → Calls Try.prog f args w fun e w' => e = .returned v ∧ TurnedR w w' n br rl bs lr') : Calls Try.prog f args w (StP v W w n bc br bk Q E lc lr') := by
  obtain ⟨rl, vs, bs, hC, hR, hK, hf, hb, hE, hw⟩ := h
  refine (hc rl vs bs hR).mono ?_
  rintro e w' ⟨rfl, vs', bs', hR', hu, hn⟩
  have hElt : ∀ j, E j → j < w.heap.size := fun j hj => by
    obtain ⟨bl, vs2, bs2, h1, h2, h3, h4⟩ := hC
    exact h3 j (Or.inr (Or.inr (Or.inr hj)))
  have hKl := hK.lt
  have hWs := hw.size
  refine ⟨rfl, ⟨rl, vs', bs', ?_, hR', hK.upd hu (fun hk => (hf bk hk).2.1 rfl), fun j hj => ?_, hb, hE, hw.trans (hu.mono (fun k _ hk hl => by have := (hf k hk).1; omega))⟩, hu.mono (fun k _ hk he => (hf k hk).2.2 he)⟩
  · obtain ⟨bl, vs2, bs2, h1, h2, h3, h4⟩ := hC
    refine ⟨bl, vs2, bs2, h1.upd hu (fun k hk hk' => h2 k hk (Or.inr (Or.inr (Or.inl hk')))), fun k hk hk' => ?_, fun k hk' => ?_, h4⟩
    · rcases hk' with h | h | h | h
      · exact h2 k hk (Or.inl h)
      · exact h2 k hk (Or.inr (Or.inl h))
      · rcases hn k h with h | h
        · exact h2 k hk (Or.inr (Or.inr (Or.inl h)))
        · have := h1.lt k hk; omega
      · exact h2 k hk (Or.inr (Or.inr (Or.inr h)))
    · have hs := hu.size
      rcases hk' with h | h | h | h
      · omega
      · subst h; exact Nat.lt_of_lt_of_le hKl hs
      · exact hR'.lt k h
      · exact Nat.lt_of_lt_of_le (hElt k h) hs
  · rcases hn j hj with h | h
    · exact hf j h
    · exact ⟨by omega, by omega, fun he => by have := hElt j he; omega⟩
theorem st_rd {f : FuncId} {args : Array Value} {v : Value} (h : St W w n bc br bk Q E lc lr)
    (hc : ∀ rl vs bs, RR w n br rl vs bs lr → Calls Try.prog f args w fun e w' => e = .returned v ∧ w = w') : Calls Try.prog f args w (StP v W w n bc br bk Q E lc lr) := by
  have h' := h
  obtain ⟨rl, vs, bs, hC, hR, hK, hf, hb, hE, hw⟩ := h
  refine (hc rl vs bs hR).mono ?_
  rintro e w' ⟨rfl, rfl⟩
  exact ⟨rfl, h', Keep.refl _ _⟩

/-! ### the calls -/
theorem st_cwait (h : St W w n bc br bk Q E lc lr) (hF : Fine n lc) (hn : n ≤ 4) (t I : Int) (ht : 0 ≤ t ∧ t < 16) :
    Calls Try.prog 9 #[.pointer (some ⟨bc, 0, none⟩), .int .i64 t, .int .i64 I] w (StP (.int .i64 (waitR n lc t I)) W w n bc br bk Q E (waitL n lc t I) lr) := by
  unfold waitL waitR
  by_cases h1 : I < 0 ∨ n ≤ I
  · rw [if_pos h1, if_neg (by omega)]
    exact st_c h fun K hC _ _ => arg_cd hC (by omega) t I (Or.inr ⟨ht.1, h1⟩)
  · rw [if_neg h1]
    obtain ⟨i, rfl⟩ : ∃ i : Nat, I = i := ⟨I.toNat, by omega⟩
    by_cases h2 : 0 ≤ ofF n lc t
    · rw [if_pos h2, if_neg (by omega)]
      obtain ⟨k, hk, _, h3⟩ := ofF_pos h2
      exact st_c h fun K hC _ _ => busy_cd hC (by omega) t i k _ rfl ht.1 (by omega) hk h3
    · rw [if_neg h2, if_pos rfl]
      exact st_c h fun K hC _ _ => wait_cd hC (by omega) t i _ rfl ⟨ht.1, by omega⟩ (by omega) (ofF_neg hF h2).2
theorem RR.same {rl : Nat} {vs : Nat → Value} {bs : Nat → Option Nat} (h : RR w n br rl vs bs lr) : TurnedR w w n br rl bs lr := ⟨vs, bs, h, Upd.refl _ _, fun k hk => Or.inl hk⟩
theorem st_rwait (h : St W w n bc br bk Q E lc lr) (hF : Fine n lr) (hn : n ≤ 4) (t I : Int) (ht : 0 ≤ t ∧ t < 16) :
    Calls Try.prog 16 #[.pointer (some ⟨br, 0, none⟩), .int .i64 t, .int .i64 I] w (StP (.int .i64 (waitR n lr t I)) W w n bc br bk Q E lc (waitL n lr t I)) := by
  unfold waitL waitR
  by_cases h1 : I < 0 ∨ n ≤ I
  · rw [if_pos h1, if_neg (by omega)]
    exact st_rd h fun rl vs bs hR => rwait_arg hR (by omega) t I (Or.inr ⟨ht.1, h1⟩)
  · rw [if_neg h1]
    obtain ⟨i, rfl⟩ : ∃ i : Nat, I = i := ⟨I.toNat, by omega⟩
    by_cases h2 : 0 ≤ ofF n lr t
    · rw [if_pos h2, if_neg (by omega)]
      exact st_rd h fun rl vs bs hR => rwait_busy hR (by omega) t i ht.1 (by omega) _ rfl h2
    · rw [if_neg h2, if_pos rfl]
      exact st_r h fun rl vs bs hR => rwait_ok hR (by omega) hF.good t i ht.1 (by omega) (ofF_neg hF h2).2
theorem st_ccan (h : St W w n bc br bk Q E lc lr) (hF : Fine n lc) (hn : n ≤ 4) (t : Int) :
    Calls Try.prog 18 #[.pointer (some ⟨bc, 0, none⟩), .int .i64 t] w (StP (.bool (canB n lc t)) W w n bc br bk Q E (canL n lc t) lr) := by
  unfold canB canL
  by_cases h2 : 0 ≤ ofF n lc t
  · rw [if_pos h2, show decide (0 ≤ ofF n lc t) = true by simpa using h2]
    obtain ⟨k, hk, h1, h3⟩ := ofF_pos h2
    rw [h1, Int.toNat_natCast]
    exact st_c h fun K hC _ _ => cancel_cd hC (by omega) t k hk h3
  · rw [if_neg h2, show decide (0 ≤ ofF n lc t) = false by simpa using h2]
    exact st_c h fun K hC _ _ => nobody_cd hC (by omega) t (ofF_neg hF h2).2
theorem st_rcan (h : St W w n bc br bk Q E lc lr) (hF : Fine n lr) (hn : n ≤ 4) (t : Int) :
    Calls Try.prog 19 #[.pointer (some ⟨br, 0, none⟩), .int .i64 t] w (StP (.bool (canB n lr t)) W w n bc br bk Q E lc (canL n lr t)) := by
  unfold canB canL
  by_cases h2 : 0 ≤ ofF n lr t
  · rw [if_pos h2, show decide (0 ≤ ofF n lr t) = true by simpa using h2]
    obtain ⟨k, hk, h1, h3⟩ := ofF_pos h2
    rw [h1, Int.toNat_natCast]
    exact st_r h fun rl vs bs hR => rcancel_yes hR (by omega) (hF.good.len k) t hk h1
  · rw [if_neg h2, show decide (0 ≤ ofF n lr t) = false by simpa using h2]
    exact st_rd h fun rl vs bs hR => rcancel_no hR (by omega) t (ofF_neg hF h2).1
def sigV (o : Option Int) : Value := .tuple #[.int .i64 (sigN o), .bool (sigB o)]
theorem sig_cases (Q : Nat → Int) {n : Nat} {ls : Nat → List Int} (hF : Fine n ls) (I : Int) :
    (sigO Q ls I = none ∧ (I < 0 ∨ n ≤ I ∨ ls I.toNat = [])) ∨ ∃ (i : Nat) (x : Int) (r : List Int), I = i ∧ i < n ∧ ls i = x :: r ∧ sigO Q ls I = some (bestF Q x r) := by
  unfold sigO lsAt
  by_cases h0 : I < 0
  · rw [if_pos h0]; exact Or.inl ⟨rfl, Or.inl h0⟩
  · rw [if_neg h0]
    obtain ⟨i, rfl⟩ : ∃ i : Nat, I = i := ⟨I.toNat, by omega⟩
    rw [Int.toNat_natCast]
    cases hl : ls i with
    | nil => exact Or.inl ⟨rfl, Or.inr (Or.inr (by simp [hl]))⟩
    | cons x r =>
      refine Or.inr ⟨i, x, r, rfl, ?_, hl, rfl⟩
      rcases Nat.lt_or_ge i n with h1 | h1
      · exact h1
      · rw [hF.out i h1] at hl; cases hl
theorem st_csig (h : St W w n bc br bk Q E lc lr) (hF : Fine n lc) (hn : n ≤ 4) (I : Int) :
    Calls Try.prog 10 #[.pointer (some ⟨bc, 0, none⟩), .int .i64 I, .func (.func 11) #[.pointer (some ⟨bk, 0, none⟩)] #[]] w (StP (sigV (sigO Q lc I)) W w n bc br bk Q E (sigL lc I (sigO Q lc I)) lr) := by
  rcases sig_cases Q hF I with ⟨h1, h2⟩ | ⟨i, x, r, rfl, hi, hl, h1⟩
  · rw [h1]
    by_cases h3 : I < 0 ∨ n ≤ I
    · exact st_c h fun K hC _ _ => sno_cd hC (by omega) I h3 _
    · obtain ⟨i, rfl⟩ : ∃ i : Nat, I = i := ⟨I.toNat, by omega⟩
      exact st_c h fun K hC _ _ => snil_cd hC (by omega) i _ rfl (by omega) (by
        rcases h2 with h2 | h2 | h2
        · omega
        · omega
        · simpa using h2) _
  · rw [h1]
    exact st_c h fun K hC hk _ => sig_cd hC (by omega) i _ rfl hi x r hl bk Q hk (hF.rng i)
theorem st_rsig (h : St W w n bc br bk Q E lc lr) (hF : Fine n lr) (hn : n ≤ 4) (I : Int) (kb : Nat) (hk : KeyAt w kb Q) :
    Calls Try.prog 17 #[.pointer (some ⟨br, 0, none⟩), .int .i64 I, .slice (some ⟨kb, 0, none⟩) 16 16] w (StP (sigV (sigO Q lr I)) W w n bc br bk Q E lc (sigL lr I (sigO Q lr I))) := by
  rcases sig_cases Q hF I with ⟨h1, h2⟩ | ⟨i, x, r, rfl, hi, hl, h1⟩
  · rw [h1]
    exact st_rd h fun rl vs bs hR => rsig_none hR (by omega) I h2 _
  · rw [h1]
    exact st_r h fun rl vs bs hR => rsig_ok hR (by omega) hF.good i hi x r hl kb Q hk (hF.rng i)
theorem st_cof (h : St W w n bc br bk Q E lc lr) (hn : n ≤ 4) (t : Int) :
    Calls Try.prog 21 #[.pointer (some ⟨bc, 0, none⟩), .int .i64 t] w (StP (.int .i64 (ofF n lc t)) W w n bc br bk Q E lc lr) :=
  st_c h fun K hC _ _ => of_cd hC (by omega) t _ rfl
theorem st_rof (h : St W w n bc br bk Q E lc lr) (hn : n ≤ 4) (t : Int) :
    Calls Try.prog 22 #[.pointer (some ⟨br, 0, none⟩), .int .i64 t] w (StP (.int .i64 (ofF n lr t)) W w n bc br bk Q E lc lr) :=
  st_rd h fun rl vs bs hR => rof_is hR (by omega) t _ rfl
/-- the document's list -/
def StRL (W w0 : World) (n bc br bk : Nat) (Q : Nat → Int) (E : Nat → Prop) (lc lr : Nat → List Int) (xs : List Int) (e : Ending) (w' : World) : Prop := ∃ v, e = .returned v ∧ RdI w' v xs ∧ St W w' n bc br bk Q E lc lr ∧ w0 = w'
theorem st_rlist (h : St W w n bc br bk Q E lc lr) (hF : Fine n lr) (hn : n ≤ 4) (I : Int) :
    Calls Try.prog 24 #[.pointer (some ⟨br, 0, none⟩), .int .i64 I] w (StRL W w n bc br bk Q E lc lr (lsAt lr I)) := by
  have h' := h
  obtain ⟨rl, vs, bs, hC, hR, hK, hf, hb, hE, hw⟩ := h
  have nil : RdI w (.slice none 0 0) [] := ⟨none, 0, rfl, by simp, fun j hj => by simp at hj⟩
  unfold lsAt
  by_cases h1 : I < 0 ∨ n ≤ I
  · refine (rlist_no hR (by omega) I h1).mono ?_
    rintro e w' ⟨rfl, rfl⟩
    refine ⟨_, rfl, ?_, h', rfl⟩
    by_cases h0 : I < 0
    · rw [if_pos h0]; exact nil
    · rw [if_neg h0, hF.out _ (by omega)]; exact nil
  · obtain ⟨i, rfl⟩ : ∃ i : Nat, I = i := ⟨I.toNat, by omega⟩
    refine (rlist_yes hR (by omega) i (by omega)).mono ?_
    rintro e w' ⟨rfl, rfl⟩
    refine ⟨_, rfl, ?_, h', rfl⟩
    rw [if_neg (by omega), Int.toNat_natCast]
    exact (hR.row i).rdI
/-- the program's list: a block of its own, kept from now on -/
def StCL (W w0 : World) (n bc br bk : Nat) (Q : Nat → Int) (E : Nat → Prop) (lc lr : Nat → List Int) (xs : List Int) (e : Ending) (w' : World) : Prop := ∃ v b, e = .returned v ∧ Ints w' 3 v xs b ∧ St W w' n bc br bk Q (fun j => E j ∨ b = some j) lc lr ∧ (∀ g, b = some g → w0.heap.size ≤ g) ∧ Keep E w0 w'
theorem st_clist (h : St W w n bc br bk Q E lc lr) (hF : Fine n lc) (hn : n ≤ 4) (I : Int) :
    Calls Try.prog 20 #[.pointer (some ⟨bc, 0, none⟩), .int .i64 I] w (StCL W w n bc br bk Q E lc lr (lsAt lc I)) := by
  have h' := h
  obtain ⟨rl, vs, bs, hC, hR, hK, hf, hb, hE, hw⟩ := h
  have hl : Calls Try.prog 20 #[.pointer (some ⟨bc, 0, none⟩), .int .i64 I] w (ListCd (lsAt lc I) w (fun j => j < W.heap.size ∨ j = bk ∨ CFoot br rl bs j ∨ E j) n bc lc) := by
    unfold lsAt
    by_cases h1 : I < 0 ∨ n ≤ I
    · have e : (if I < 0 then [] else lc I.toNat) = ([] : List Int) := by
        by_cases h0 : I < 0
        · rw [if_pos h0]
        · rw [if_neg h0, hF.out _ (by omega)]
      rw [e]
      exact lno_cd hC (by omega) I h1
    · obtain ⟨i, rfl⟩ : ∃ i : Nat, I = i := ⟨I.toNat, by omega⟩
      rw [if_neg (by omega), Int.toNat_natCast]
      exact list_cd hC (by omega) i _ rfl (by omega)
  refine hl.mono ?_
  rintro e w' ⟨v', b', rfl, hI, hb', hC', hB⟩
  refine ⟨v', b', rfl, hI, (h'.more hB).anti (fun j hj => ?_), hb', Keep.of_below hB⟩
  rcases hj with hj | hj
  · exact Or.inl hj
  · exact Or.inr ⟨hb' j hj, hI.lt j hj⟩
end
end Go.Proofs.Ytgkchpifogfohaa
