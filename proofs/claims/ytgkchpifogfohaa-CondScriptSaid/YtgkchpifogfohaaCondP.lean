/-
  The conditions: plain facts on rows, what the functions do told as one thing (Cd), and of no conditions.
-/
import Derived.Test.YtgkchpifogfohaaCondSig
namespace Go.Proofs.Ytgkchpifogfohaa
set_option linter.unusedSimpArgs false
set_option linter.unusedVariables false
open Go.RowKit Go.Lib Own Sl
open RegJ hiding Up
open RegF hiding put_size

/-! ### rows -/
/-- rows as they may be -/
structure Good (ls : Nat → List Int) : Prop where
  sorted : ∀ i, (ls i).Pairwise (· < ·)
  once : ∀ i j t, t ∈ ls i → t ∈ ls j → i = j
  bd : ∀ i t, t ∈ ls i → 0 ≤ t ∧ t < 1000

theorem sorted_len (l : List Int) (a : Int) (b : Nat) (h : l.Pairwise (· < ·)) (ha : ∀ t ∈ l, a ≤ t ∧ t < a + b) : l.length ≤ b := by
  induction l generalizing a b with
  | nil => simp
  | cons x l ih =>
    rw [List.pairwise_cons] at h
    have hx := ha x (by simp)
    have := ih (x + 1) (a + b - x - 1).toNat h.2 (fun t ht => by
      have h1 := h.1 t ht
      have h2 := ha t (by simp [ht])
      omega)
    simp only [List.length_cons]; omega
theorem Good.len {ls : Nat → List Int} (h : Good ls) (i : Nat) : (ls i).length ≤ 1000 :=
  sorted_len (ls i) 0 1000 (h.sorted i) (fun t ht => by have := h.bd i t ht; omega)
theorem Good.le {ls : Nat → List Int} (h : Good ls) (i : Nat) : (ls i).Pairwise (· ≤ ·) := (h.sorted i).imp (fun h => Int.le_of_lt h)
theorem Good.nil : Good (fun _ => []) := ⟨fun _ => List.Pairwise.nil, fun _ _ _ h => by simp at h, fun _ _ h => by simp at h⟩
theorem Good.ofF {n : Nat} {ls : Nat → List Int} (h : Good ls) {t : Int} {k : Nat} (hk : k < n) (ht : t ∈ ls k) : ofF n ls t = (k : Nat) :=
  ofF_hit k hk ht (fun j hj hjt => by have := h.once j k t hjt ht; omega)

theorem take_count (l : List Int) (t : Int) (h : l.Pairwise (· ≤ ·)) : l.take (List.countP (fun x => decide (x < t)) l) = l.filter (fun x => decide (x < t)) ∧ l.drop (List.countP (fun x => decide (x < t)) l) = l.filter (fun x => !decide (x < t)) := by
  induction l with
  | nil => simp
  | cons x l ih =>
    rw [List.pairwise_cons] at h
    by_cases hx : x < t
    · have := ih h.2
      simp [hx, this.1, this.2]
    · have h0 : ∀ y ∈ l, ¬ y < t := fun y hy => by have := h.1 y hy; omega
      have hc : List.countP (fun x => decide (x < t)) l = 0 := by rw [List.countP_eq_zero]; intro y hy; simpa using h0 y hy
      simp only [List.countP_cons, hx, decide_false, hc, Bool.false_eq_true, if_false, Nat.add_zero, List.take_zero, List.drop_zero, List.filter_cons, Bool.not_false, if_true]
      refine ⟨?_, ?_⟩
      · symm; rw [List.filter_eq_nil_iff]; intro y hy; simpa using h0 y hy
      · congr 1; symm; rw [List.filter_eq_self]; intro y hy; simpa using h0 y hy
theorem insF_is {ls : Nat → List Int} (h : Good ls) (i : Nat) (t : Int) : insF ls i t = put ls i ((ls i).filter (fun x => decide (x < t)) ++ t :: (ls i).filter (fun x => !decide (x < t))) := by
  unfold insF; rw [(take_count _ t (h.le i)).1, (take_count _ t (h.le i)).2]
theorem mem_insF {ls : Nat → List Int} (h : Good ls) (i : Nat) (t : Int) (j : Nat) (x : Int) : x ∈ insF ls i t j ↔ x ∈ ls j ∨ (j = i ∧ x = t) := by
  rw [insF_is h]; unfold put
  by_cases hj : j = i
  · subst hj
    rw [if_pos rfl]
    simp only [List.mem_append, List.mem_cons, List.mem_filter]
    by_cases hx : x < t <;> simp [hx] <;> try omega
    grind
  · simp [hj]
theorem mem_delF (ls : Nat → List Int) (i : Nat) (t : Int) (j : Nat) (x : Int) : x ∈ delF ls i t j ↔ x ∈ ls j ∧ ¬ (j = i ∧ x = t) := by
  unfold delF put
  by_cases hj : j = i
  · subst hj
    rw [if_pos rfl]
    simp [List.mem_filter]
  · simp [hj]
theorem Good.ins {ls : Nat → List Int} (h : Good ls) (i : Nat) (t : Int) (ht : 0 ≤ t ∧ t < 1000) (hn : ∀ j, t ∉ ls j) : Good (insF ls i t) := by
  refine ⟨fun j => ?_, fun j k x hj hk => ?_, fun j x hj => ?_⟩
  · rw [insF_is h]; unfold put
    by_cases hj : j = i
    · subst hj
      rw [if_pos rfl, List.pairwise_append]
      refine ⟨(h.sorted j).filter _, List.pairwise_cons.2 ⟨fun y hy => ?_, (h.sorted j).filter _⟩, fun x hx y hy => ?_⟩
      · rw [List.mem_filter] at hy
        have h1 : y ≠ t := fun e => hn j (e ▸ hy.1)
        have h2 : ¬ y < t := by simpa using hy.2
        omega
      · rw [List.mem_filter] at hx
        have h1 : x < t := by simpa using hx.2
        rw [List.mem_cons] at hy
        rcases hy with rfl | hy
        · exact h1
        · rw [List.mem_filter] at hy
          have h2 : ¬ y < t := by simpa using hy.2
          omega
    · rw [if_neg hj]; exact h.sorted j
  · rw [mem_insF h] at hj hk
    rcases hj with hj | ⟨rfl, rfl⟩
    · rcases hk with hk | ⟨rfl, rfl⟩
      · exact h.once j k x hj hk
      · exact absurd hj (hn j)
    · rcases hk with hk | ⟨rfl, _⟩
      · exact absurd hk (hn k)
      · rfl
  · rw [mem_insF h] at hj
    rcases hj with hj | ⟨rfl, rfl⟩
    · exact h.bd j x hj
    · exact ht
theorem Good.del {ls : Nat → List Int} (h : Good ls) (i : Nat) (t : Int) : Good (delF ls i t) := by
  refine ⟨fun j => ?_, fun j k x hj hk => ?_, fun j x hj => ?_⟩
  · unfold delF put
    by_cases hj : j = i
    · rw [if_pos hj]; exact (h.sorted i).filter _
    · rw [if_neg hj]; exact h.sorted j
  · rw [mem_delF] at hj hk
    exact h.once j k x hj.1 hk.1
  · rw [mem_delF] at hj
    exact h.bd j x hj.1

/-! ### one thing: conditions that a law has made, while the blocks K stay as they are -/
def Keep (K : Nat → Prop) (w w' : World) : Prop := Upd (fun k => ¬ K k) w w'
def Cd (w : World) (K : Nat → Prop) (n bc : Nat) (ls : Nat → List Int) : Prop :=
  ∃ bl vs bs, CR w n bc bl vs bs ls ∧ (∀ k, CFoot bc bl bs k → ¬ K k) ∧ (∀ k, K k → k < w.heap.size) ∧ Good ls
theorem Keep.trans {K : Nat → Prop} {a b c : World} (h : Keep K a b) (k : Keep K b c) : Keep K a c := Upd.trans h k (fun _ _ h => h)
theorem Keep.refl (K : Nat → Prop) (w : World) : Keep K w w := Upd.refl _ _
theorem Keep.of_below {K : Nat → Prop} {a b : World} (h : Below a.heap.size a b) : Keep K a b := Upd.of_below h
theorem Keep.below {w w' : World} {B : Nat} (h : Keep (fun k => k < B) w w') (hB : B ≤ w.heap.size) : Below B w w' := Upd.below h hB (fun k hk => by omega)
theorem Keep.mono {K G : Nat → Prop} {w w' : World} (h : Keep K w w') (hK : ∀ k, G k → K k) : Keep G w w' := Upd.mono h (fun k _ hk hg => hk (hK k hg))
theorem Cd.good {w : World} {K : Nat → Prop} {n bc : Nat} {ls : Nat → List Int} (h : Cd w K n bc ls) : Good ls := by obtain ⟨bl, vs, bs, _, _, _, hg⟩ := h; exact hg
theorem Cd.step {w w' : World} {K : Nat → Prop} {n bc : Nat} {ls : Nat → List Int} (h : Cd w K n bc ls) (hb : Below w.heap.size w w') : Cd w' K n bc ls := by
  obtain ⟨bl, vs, bs, h1, h2, h3, h4⟩ := h
  exact ⟨bl, vs, bs, h1.below hb, h2, fun k hk => Nat.lt_of_lt_of_le (h3 k hk) hb.size, h4⟩
/-- a step of somebody else: of the blocks that were there it turns only kept ones -/
theorem Cd.other {w w' : World} {K F : Nat → Prop} {n bc : Nat} {ls : Nat → List Int} (h : Cd w K n bc ls) (hb : Upd F w w') (hF : ∀ k, F k → K k) : Cd w' K n bc ls := by
  obtain ⟨bl, vs, bs, h1, h2, h3, h4⟩ := h
  exact ⟨bl, vs, bs, h1.upd hb (fun k hk hf => h2 k hk (hF k hf)), h2, fun k hk => Nat.lt_of_lt_of_le (h3 k hk) hb.size, h4⟩
/-- one more block is kept -/
theorem Cd.more {w w' : World} {K : Nat → Prop} {n bc : Nat} {ls : Nat → List Int} (h : Cd w K n bc ls) (hb : Below w.heap.size w w') : Cd w' (fun k => K k ∨ w.heap.size ≤ k ∧ k < w'.heap.size) n bc ls := by
  obtain ⟨bl, vs, bs, h1, h2, h3, h4⟩ := h
  refine ⟨bl, vs, bs, h1.below hb, fun k hk hK => ?_, fun k hk => ?_, h4⟩
  · rcases hK with hK | hK
    · exact h2 k hk hK
    · have := h1.lt k hk; omega
  · rcases hk with hk | hk
    · exact Nat.lt_of_lt_of_le (h3 k hk) hb.size
    · exact hk.2
theorem Cd.turned {w w' : World} {K : Nat → Prop} {n bc bl : Nat} {bs : Nat → Option Nat} {ls' : Nat → List Int} (h2 : ∀ k, CFoot bc bl bs k → ¬ K k) (h3 : ∀ k, K k → k < w.heap.size) (hg : Good ls') (h : Turned w w' n bc bl bs ls') : Cd w' K n bc ls' ∧ Keep K w w' := by
  obtain ⟨vs', bs', h1, hu, hf⟩ := h
  refine ⟨⟨bl, vs', bs', h1, fun k hk hK => ?_, fun k hk => Nat.lt_of_lt_of_le (h3 k hk) hu.size, hg⟩, Upd.mono hu (fun k _ hk => h2 k hk)⟩
  rcases hf k hk with h | h
  · exact h2 k h hK
  · have := h3 k hK; omega

/-- what New gives -/
def NewCd (n : Nat) (w : World) (e : Ending) (w' : World) : Prop := ∃ bc, e = .returned (.tuple #[.pointer (some ⟨bc, 0, none⟩), .int .i64 0]) ∧ Cd w' (fun k => k < w.heap.size) n bc (fun _ => []) ∧ Below w.heap.size w w'
theorem new_cd (n : Nat) (h1 : 1 ≤ n) (h2 : n ≤ 4) (w : World) : Calls Try.prog 8 #[.int .i64 n] w (NewCd n w) := by
  refine (new_any n h1 h2 w).mono ?_
  rintro e w' ⟨bc, bl, rfl, hC, hb1, hb2, hb⟩
  exact ⟨bc, rfl, ⟨bl, _, _, hC, fun k hk hK => (by
    rcases hk with rfl | rfl | ⟨i, hi⟩
    · omega
    · omega
    · cases hi), fun k hk => Nat.lt_of_lt_of_le hk hb.size, Good.nil⟩, hb⟩
def CdPost (v : Value) (w : World) (K : Nat → Prop) (n bc : Nat) (ls' : Nat → List Int) (e : Ending) (w' : World) : Prop := e = .returned v ∧ Cd w' K n bc ls' ∧ Keep K w w'
variable {w : World} {K : Nat → Prop} {n bc : Nat} {ls : Nat → List Int}
theorem wait_cd (h : Cd w K n bc ls) (hn : n ≤ 64) (t : Int) (i : Nat) (I : Int) (hI : I = i) (ht : 0 ≤ t ∧ t < 1000) (hi : i < n) (hv : ∀ j, t ∉ ls j) :
    Calls Try.prog 9 #[.pointer (some ⟨bc, 0, none⟩), .int .i64 t, .int .i64 I] w (CdPost (.int .i64 0) w K n bc (insF ls i t)) := by
  subst hI
  obtain ⟨bl, vs, bs, h1, h2, h3, h4⟩ := h
  refine (wait_ok h1 hn t i ht.1 hi (ofF_miss (fun j _ => hv j)) (by have := h4.len i; omega) (h4.le i)).mono ?_
  rintro e w' ⟨rfl, hT⟩
  exact ⟨rfl, Cd.turned h2 h3 (h4.ins i t ht hv) hT⟩
theorem busy_cd (h : Cd w K n bc ls) (hn : n ≤ 64) (t : Int) (i j : Nat) (I : Int) (hI : I = i) (ht : 0 ≤ t) (hi : i < n) (hj : j < n) (hv : t ∈ ls j) :
    Calls Try.prog 9 #[.pointer (some ⟨bc, 0, none⟩), .int .i64 t, .int .i64 I] w (CdPost (.int .i64 5) w K n bc ls) := by
  subst hI
  have H := h
  obtain ⟨bl, vs, bs, h1, h2, h3, h4⟩ := h
  refine (wait_busy h1 hn t i ht hi j (h4.ofF hj hv) (by omega)).mono ?_
  rintro e w' ⟨rfl, hT⟩
  exact ⟨rfl, H.step hT, Keep.of_below hT⟩
theorem arg_cd (h : Cd w K n bc ls) (hn : n ≤ 64) (t i : Int) (ha : t < 0 ∨ (0 ≤ t ∧ (i < 0 ∨ n ≤ i))) :
    Calls Try.prog 9 #[.pointer (some ⟨bc, 0, none⟩), .int .i64 t, .int .i64 i] w (CdPost (.int .i64 2) w K n bc ls) := by
  have H := h
  obtain ⟨bl, vs, bs, h1, h2, h3, h4⟩ := h
  refine (wait_arg h1.hc hn t i ha).mono ?_
  rintro e w' ⟨rfl, rfl⟩
  exact ⟨rfl, H, Keep.refl _ _⟩
theorem cancel_cd (h : Cd w K n bc ls) (hn : n ≤ 64) (t : Int) (i : Nat) (hi : i < n) (ht : t ∈ ls i) :
    Calls Try.prog 18 #[.pointer (some ⟨bc, 0, none⟩), .int .i64 t] w (CdPost (.bool true) w K n bc (delF ls i t)) := by
  obtain ⟨bl, vs, bs, h1, h2, h3, h4⟩ := h
  refine (cancel_yes h1 hn t i hi (h4.ofF hi ht) (List.ne_nil_of_mem ht)).mono ?_
  rintro e w' ⟨rfl, hT⟩
  exact ⟨rfl, Cd.turned h2 h3 (h4.del i t) hT⟩
theorem nobody_cd (h : Cd w K n bc ls) (hn : n ≤ 64) (t : Int) (ht : ∀ j, t ∉ ls j) :
    Calls Try.prog 18 #[.pointer (some ⟨bc, 0, none⟩), .int .i64 t] w (CdPost (.bool false) w K n bc ls) := by
  have H := h
  obtain ⟨bl, vs, bs, h1, h2, h3, h4⟩ := h
  refine (cancel_no h1 hn t (ofF_miss (fun j _ => ht j))).mono ?_
  rintro e w' ⟨rfl, hT⟩
  exact ⟨rfl, H.step hT, Keep.of_below hT⟩
theorem of_cd (h : Cd w K n bc ls) (hn : n ≤ 64) (t v : Int) (hv : ofF n ls t = v) :
    Calls Try.prog 21 #[.pointer (some ⟨bc, 0, none⟩), .int .i64 t] w (CdPost (.int .i64 v) w K n bc ls) := by
  have H := h
  obtain ⟨bl, vs, bs, h1, h2, h3, h4⟩ := h
  refine (of_is h1 hn hv).mono ?_
  rintro e w' ⟨rfl, hT⟩
  exact ⟨rfl, H.step hT, Keep.of_below hT⟩
def ListCd (xs : List Int) (w : World) (K : Nat → Prop) (n bc : Nat) (ls : Nat → List Int) (e : Ending) (w' : World) : Prop := ∃ v' b', e = .returned v' ∧ Ints w' 3 v' xs b' ∧ (∀ g, b' = some g → w.heap.size ≤ g) ∧ Cd w' K n bc ls ∧ Below w.heap.size w w'
theorem list_cd (h : Cd w K n bc ls) (hn : n ≤ 64) (i : Nat) (I : Int) (hI : I = i) (hi : i < n) :
    Calls Try.prog 20 #[.pointer (some ⟨bc, 0, none⟩), .int .i64 I] w (ListCd (ls i) w K n bc ls) := by
  subst hI
  have H := h
  obtain ⟨bl, vs, bs, h1, h2, h3, h4⟩ := h
  refine (list_yes h1 hn i hi (by have := h4.len i; omega)).mono ?_
  rintro e w' ⟨v', b', rfl, hI, hg, hb⟩
  exact ⟨v', b', rfl, hI, hg, H.step hb, hb⟩
theorem lno_cd (h : Cd w K n bc ls) (hn : n ≤ 64) (i : Int) (hi : i < 0 ∨ n ≤ i) :
    Calls Try.prog 20 #[.pointer (some ⟨bc, 0, none⟩), .int .i64 i] w (ListCd [] w K n bc ls) := by
  have H := h
  obtain ⟨bl, vs, bs, h1, h2, h3, h4⟩ := h
  refine (list_no h1.hc hn i hi).mono ?_
  rintro e w' ⟨rfl, rfl⟩
  exact ⟨_, none, rfl, Or.inl ⟨rfl, rfl, rfl⟩, fun g hg => (by cases hg), H, Below.refl _ _⟩
theorem sno_cd (h : Cd w K n bc ls) (hn : n ≤ 64) (i : Int) (hi : i < 0 ∨ n ≤ i) (bf : Value) :
    Calls Try.prog 10 #[.pointer (some ⟨bc, 0, none⟩), .int .i64 i, bf] w (CdPost (.tuple #[.int .i64 (-1), .bool false]) w K n bc ls) := by
  have H := h
  obtain ⟨bl, vs, bs, h1, h2, h3, h4⟩ := h
  refine (sig_no h1.hc hn i hi bf).mono ?_
  rintro e w' ⟨rfl, rfl⟩
  exact ⟨rfl, H, Keep.refl _ _⟩
theorem snil_cd (h : Cd w K n bc ls) (hn : n ≤ 64) (i : Nat) (I : Int) (hI : I = i) (hi : i < n) (he : ls i = []) (bf : Value) :
    Calls Try.prog 10 #[.pointer (some ⟨bc, 0, none⟩), .int .i64 I, bf] w (CdPost (.tuple #[.int .i64 (-1), .bool false]) w K n bc ls) := by
  subst hI
  have H := h
  obtain ⟨bl, vs, bs, h1, h2, h3, h4⟩ := h
  refine (sig_empty h1 hn i hi he bf).mono ?_
  rintro e w' ⟨rfl, rfl⟩
  exact ⟨rfl, H, Keep.refl _ _⟩
theorem sig_cd (h : Cd w K n bc ls) (hn : n ≤ 64) (i : Nat) (I : Int) (hI : I = i) (hi : i < n) (x : Int) (r : List Int) (he : ls i = x :: r) (bk : Nat) (Q : Nat → Int) (hk : KR w bk Q) (hr : ∀ t ∈ ls i, 0 ≤ t ∧ t < 16) :
    Calls Try.prog 10 #[.pointer (some ⟨bc, 0, none⟩), .int .i64 I, .func (.func 11) #[.pointer (some ⟨bk, 0, none⟩)] #[]] w (CdPost (.tuple #[.int .i64 (bestF Q x r), .bool true]) w K n bc (delF ls i (bestF Q x r))) := by
  subst hI
  obtain ⟨bl, vs, bs, h1, h2, h3, h4⟩ := h
  refine (sig_ok h1 hn i hi x r he bk Q hk hr (by have := h4.len i; omega) (fun t ht => h4.ofF hi ht)).mono ?_
  rintro e w' ⟨rfl, hT⟩
  exact ⟨rfl, Cd.turned h2 h3 (h4.del i _) hT⟩
theorem KR.keep {w w' : World} {bk : Nat} {Q : Nat → Int} {K : Nat → Prop} (h : KR w bk Q) (hk : Keep K w w') (hb : K bk) : KR w' bk Q := h.upd hk (fun h => h hb)

/-! ### of none -/
section none
variable (w : World)
theorem n_has (i : Int) : Calls Try.prog 26 #[.pointer none, .int .i64 i] w fun e w' => e = .returned (.bool false) ∧ w = w' := by
  go_enter Try.func26, Try.ntmps26
  go_wp2
  go_ret
  exact ⟨rfl, rfl⟩
theorem n_of (t : Int) : Calls Try.prog 21 #[.pointer none, .int .i64 t] w fun e w' => e = .returned (.int .i64 (-1)) ∧ Below w.heap.size w w' := by
  go_enter Try.func21, Try.ntmps21
  go_wp2
  go_ret
  exact ⟨rfl, (Below.refl _ _).alloc (Nat.le_refl _) _⟩
theorem n_wait (t i : Int) : Calls Try.prog 9 #[.pointer none, .int .i64 t, .int .i64 i] w fun e w' => e = .returned (.int .i64 1) ∧ w = w' := by
  go_enter Try.func9, Try.ntmps9
  go_wp2
  go_ret
  exact ⟨rfl, rfl⟩
theorem n_cancel (t : Int) : Calls Try.prog 18 #[.pointer none, .int .i64 t] w fun e w' => e = .returned (.bool false) ∧ Below w.heap.size w w' := by
  have ho := n_of (w.alloc (.cells #[.int .i64 t] 3)) t
  go_enter Try.func18, Try.ntmps18
  go_wp2_with (go_at_call 21; refine ho.mono ?_; rintro e w' ⟨rfl, hbl⟩)
  go_ret
  exact ⟨rfl, ((Below.refl _ _).alloc (Nat.le_refl _) _).trans (hbl.mono (by simp))⟩
theorem n_list (i : Int) : Calls Try.prog 20 #[.pointer none, .int .i64 i] w fun e w' => e = .returned (.slice none 0 0) ∧ w = w' := by
  go_enter Try.func20, Try.ntmps20
  go_wp2_with (go_at_call 26; refine (n_has _ _).mono ?_; rintro e w' ⟨rfl, rfl⟩)
  go_ret
  exact ⟨rfl, rfl⟩
theorem n_signal (i : Int) (bf : Value) : Calls Try.prog 10 #[.pointer none, .int .i64 i, bf] w fun e w' => e = .returned (.tuple #[.int .i64 (-1), .bool false]) ∧ w = w' := by
  go_enter Try.func10, Try.ntmps10
  go_wp2_with (go_at_call 26; refine (n_has _ _).mono ?_; rintro e w' ⟨rfl, rfl⟩)
  go_ret2
  exact ⟨rfl, rfl⟩
end none
end Go.Proofs.Ytgkchpifogfohaa
