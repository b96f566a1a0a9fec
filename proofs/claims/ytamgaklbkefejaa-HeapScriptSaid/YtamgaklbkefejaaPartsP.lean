/-
  HeapParts: three heaps beside one another; two lists in order that hold the same are the same.
-/
import Derived.Test.YtamgaklbkefejaaMove
import Derived.Test.YtamgaklbkefejaaSorts
import Derived.Test.YtamgaklbkefejaaLow
namespace Go.Proofs.Ytamgaklbkefejaa
set_option linter.unusedSimpArgs false
set_option linter.unusedVariables false
open Go.RowKit Go.Lib Own
open RegJ hiding Up
open RegF hiding put_size

theorem le_anti {a b : It} (h : le a b) (k : le b a) : a = b := by
  unfold le lt at *
  apply Prod.ext <;> omega
theorem order_eq : ∀ {xs ys : List It}, InOrder xs → InOrder ys → xs.Perm ys → xs = ys
  | [], ys, _, _, hp => (List.nil_perm.1 hp).symm
  | x :: xs, [], _, _, hp => by have := hp.length_eq; simp at this
  | x :: xs, y :: ys, hx, hy, hp => by
    have hx' := List.pairwise_cons.1 hx
    have hy' := List.pairwise_cons.1 hy
    have h1 : x ∈ y :: ys := hp.mem_iff.1 (by simp)
    have h2 : y ∈ x :: xs := hp.mem_iff.2 (by simp)
    have e : x = y := by
      rw [List.mem_cons] at h1 h2
      rcases h1 with h1 | h1
      · exact h1
      · rcases h2 with h2 | h2
        · exact h2.symm
        · exact le_anti (hx'.1 y h2) (hy'.1 x h1)
    subst e
    rw [order_eq hx'.2 hy'.2 ((List.perm_cons x).1 hp)]
def SameM (w : World) (e : Ending) (w' : World) : Prop := e = .returned (.bool true) ∧ Below w.heap.size w w'
set_option maxRecDepth 100000 in
theorem same_items {w : World} {a1 a2 : Option Addr} {c1 c2 : Nat} {ys : List It} {b1 b2 : Option Nat} (h1 : Its w (.slice a1 ys.length c1) ys b1) (h2 : Its w (.slice a2 ys.length c2) ys b2) (hlen : ys.length ≤ 2000) :
    Calls Try.prog 25 #[.slice a1 ys.length c1, .slice a2 ys.length c2] w (SameM w) := by
  have cells : ∀ {a : Option Addr} {c : Nat} {b : Option Nat}, Its w (.slice a ys.length c) ys b → ∀ k, k < ys.length → ∃ g, a = some ⟨g, 0, none⟩ ∧ w.cell? ⟨g, k * 2, none⟩ = some (.int .i64 (X ys k).1) ∧ w.cell? ⟨g, k * 2 + 1, none⟩ = some (.int .i64 (X ys k).2) := by
    intro a c b h k hk
    rcases h with ⟨_, h0, _⟩ | ⟨g, cap, rest, hv, rfl, hB, _, _⟩
    · rw [h0] at hk; simp at hk
    · simp only [Value.slice.injEq] at hv
      obtain ⟨rfl, -, -⟩ := hv
      obtain ⟨k1, k2⟩ := blk_its hB k hk
      exact ⟨g, rfl, k1, k2⟩
  have H := Lib.hid (And.intro (cells h1) (cells h2))
  clear h1 h2 cells
  generalize hL : ys.length = L at *
  clear hL
  go_enter Try.func25, Try.ntmps25
  go_wp2
  go_loopw [5] (fun kx wr => ∃ k q : Nat, k ≤ L ∧ kx = .int .i64 k ∧ wr = w.drewN q) (fun kx _ => L - (intOf kx).toNat)
  case atStart => exact ⟨0, 0, Nat.zero_le _, rfl, rfl⟩
  case round =>
    obtain ⟨k, q, hk, rfl, rfl⟩ := hrel
    by_cases hkl : k < L
    · obtain ⟨g1, rfl, k1, k2⟩ := H.out.1 k hkl
      obtain ⟨g2, rfl, k3, k4⟩ := H.out.2 k hkl
      have d1 : decide ((k : Int) < (L : Int)) = true := by simp; omega
      have i1 : (k : Int) < (L : Int) := by omega
      have i2 : (0 : Int) ≤ k := by omega
      generalize (X ys k).1 = p at k1 k3
      generalize (X ys k).2 = r at k2 k4
      go_wp2
      go_quiet (fail)
      go_wp2
      go_roundw
      case rel => exact ⟨k + 1, q + nq, by omega, by go_num, by first | rfl | rw [World.drewN_drewN]⟩
      case measure => simp [intOf]; omega
    · have d1 : decide ((k : Int) < (L : Int)) = false := by simp; omega
      go_wp2
      go_ret
      exact ⟨rfl, below_drewN' (Below.refl _ _) q⟩

/-! ### three heaps -/
def Own3 (h : Nat) (b : Option Nat) (k : Nat) : Prop := k = h ∨ b = some k
/-- three heaps that hold these, whatever their order -/
def T (w wr : World) (h : Nat → Nat) (xs : Nat → List It) : Prop := ∃ (b : Nat → Option Nat) (ys : Nat → List It), (∀ j, j < 3 → (ys j).Perm (xs j) ∧ Hp wr (h j) (ys j) (b j)) ∧
  (∀ i j k, i < 3 → j < 3 → i ≠ j → Own3 (h i) (b i) k → ¬ Own3 (h j) (b j) k) ∧ (∀ j k, j < 3 → Own3 (h j) (b j) k → w.heap.size ≤ k) ∧ Below w.heap.size w wr
def putX (xs : Nat → List It) (j : Nat) (l : List It) : Nat → List It := fun i => if i = j then l else xs i
theorem T.below {w wr w' : World} {h : Nat → Nat} {xs : Nat → List It} (t : T w wr h xs) (hB : Below wr.heap.size wr w') : T w w' h xs := by
  obtain ⟨b, ys, h1, h2, h3, h4⟩ := t
  exact ⟨b, ys, fun j hj => ⟨(h1 j hj).1, (h1 j hj).2.1.below hB, (h1 j hj).2.2⟩, h2, h3, h4.trans (hB.mono h4.size)⟩
theorem T.step {w wr w' : World} {h : Nat → Nat} {xs : Nat → List It} {b : Nat → Option Nat} {ys : Nat → List It} (h1 : ∀ j, j < 3 → (ys j).Perm (xs j) ∧ Hp wr (h j) (ys j) (b j)) (h2 : ∀ i j k, i < 3 → j < 3 → i ≠ j → Own3 (h i) (b i) k → ¬ Own3 (h j) (b j) k) (h3 : ∀ j k, j < 3 → Own3 (h j) (b j) k → w.heap.size ≤ k) (h4 : Below w.heap.size w wr)
    {j : Nat} (hj : j < 3) {zs l : List It} {b' : Option Nat} (hp : zs.Perm l) (hh : Hp w' (h j) zs b') (hf : HFr (h j) (b j) b' wr w') : T w w' h (putX xs j l) := by
  have hlt := fun i hi => (h1 i hi).2.1.lt
  have hown : ∀ k, Own3 (h j) b' k → Own3 (h j) (b j) k ∨ wr.heap.size ≤ k := by
    intro k hk
    rcases hk with hk | hk
    · exact Or.inl (Or.inl hk)
    · rcases hf.2 k hk with h | h
      · exact Or.inl (Or.inr h)
      · exact Or.inr h
  have hold : ∀ i k, i < 3 → Own3 (h i) (b i) k → k < wr.heap.size := by
    intro i k hi hk
    rcases hk with rfl | hk
    · exact (hlt i hi).1
    · exact (hlt i hi).2 k hk
  refine ⟨fun i => if i = j then b' else b i, fun i => if i = j then zs else ys i, fun i hi => ?_, fun i i' k hi hi' hne hk hk' => ?_, fun i k hi hk => ?_, h4.trans (hf.1.below h4.size (fun k hk => h3 j k hj hk))⟩
  · by_cases hij : i = j
    · subst hij; simp only [if_true, putX]; exact ⟨hp, hh⟩
    · simp only [if_neg hij, putX]
      refine ⟨(h1 i hi).1, (h1 i hi).2.1.upd hf.1 (fun e => ?_) (fun g hg e => ?_), (h1 i hi).2.2⟩
      · exact h2 j i (h i) hj hi (Ne.symm hij) e (Or.inl rfl)
      · exact h2 j i g hj hi (Ne.symm hij) e (Or.inr hg)
  · dsimp only at hk hk'
    by_cases hij : i = j
    · subst hij
      rw [if_pos rfl] at hk
      rw [if_neg (Ne.symm hne)] at hk'
      rcases hown k hk with h | h
      · exact h2 i i' k hi hi' hne h hk'
      · have := hold i' k hi' hk'; omega
    · rw [if_neg hij] at hk
      by_cases hij' : i' = j
      · subst hij'
        rw [if_pos rfl] at hk'
        rcases hown k hk' with h | h
        · exact h2 i i' k hi hi' hne hk h
        · have := hold i k hi hk; omega
      · rw [if_neg hij'] at hk'; exact h2 i i' k hi hi' hne hk hk'
  · dsimp only at hk
    by_cases hij : i = j
    · subst hij
      rw [if_pos rfl] at hk
      rcases hown k hk with h | h
      · exact h3 i k hi h
      · have := h4.size; omega
    · rw [if_neg hij] at hk; exact h3 i k hi hk
def TP (v : Value) (w : World) (h : Nat → Nat) (xs : Nat → List It) (e : Ending) (w' : World) : Prop := e = .returned v ∧ T w w' h xs
section
variable {w wr : World} {h : Nat → Nat} {xs : Nat → List It}
theorem t_push (t : T w wr h xs) (j A : Nat) (hj : j < 3) (hA : A = h j) (hl : (xs j).length ≤ 1000) (id k : Int) (hid : 0 ≤ id) (hno : hasB (xs j) id = false) :
    Calls Try.prog 9 #[.pointer (some ⟨A, 0, none⟩), .int .i64 id, .int .i64 k] wr (TP (.int .i64 0) w h (putX xs j (xs j ++ [(id, k)]))) := by
  subst hA
  obtain ⟨b, ys, h1, h2, h3, h4⟩ := t
  obtain ⟨hp, hh⟩ := h1 j hj
  refine (push_ok hh (by rw [hp.length_eq]; exact hl) id k hid (by rw [hasB_perm hp]; exact hno)).mono ?_
  rintro e w' ⟨rfl, zs, b', hz, hh', hf⟩
  exact ⟨rfl, T.step h1 h2 h3 h4 hj (hz.trans (hp.append_right _)) hh' hf⟩
theorem cut_same {xs ys zs : List It} {id k k0 : Int} (hn : (xs.map (·.1)).Nodup) (h1 : (ys ++ [(id, k)]).Perm xs) (h2 : (zs ++ [(id, k0)]).Perm xs) : k = k0 ∧ ys.Perm zs := by
  have m1 : (id, k) ∈ zs ++ [(id, k0)] := h2.mem_iff.2 (h1.mem_iff.1 (by simp))
  have hn2 : ((zs ++ [(id, k0)]).map (·.1)).Nodup := (h2.map _).nodup_iff.2 hn
  rw [List.map_append, List.nodup_append] at hn2
  have e : k = k0 := by
    rw [List.mem_append] at m1
    rcases m1 with m1 | m1
    · exact absurd rfl (hn2.2.2 id (by rw [List.mem_map]; exact ⟨_, m1, rfl⟩) id (by simp))
    · simpa using m1
  subst e
  exact ⟨rfl, (List.perm_append_right_iff _).1 (h1.trans h2.symm)⟩
theorem t_drop (t : T w wr h xs) (j A : Nat) (hj : j < 3) (hA : A = h j) (id k0 : Int) (zs : List It) (hn : ((xs j).map (·.1)).Nodup) (hz : (zs ++ [(id, k0)]).Perm (xs j)) :
    Calls Try.prog 16 #[.pointer (some ⟨A, 0, none⟩), .int .i64 id] wr (TP (.bool true) w h (putX xs j zs)) := by
  subst hA
  obtain ⟨b, ys, h1, h2, h3, h4⟩ := t
  obtain ⟨hp, hh⟩ := h1 j hj
  refine (drop_yes hh id (by rw [hasB_perm (hp.trans hz.symm)]; unfold hasB; simp)).mono ?_
  rintro e w' ⟨rfl, us, k, hu, hh', hf⟩
  exact ⟨rfl, T.step h1 h2 h3 h4 hj (cut_same hn (hu.trans hp) hz).2 hh' hf⟩
theorem t_move (t : T w wr h xs) (j A : Nat) (hj : j < 3) (hA : A = h j) (id k0 key : Int) (zs : List It) (hn : ((xs j).map (·.1)).Nodup) (hz : (zs ++ [(id, k0)]).Perm (xs j)) :
    Calls Try.prog 17 #[.pointer (some ⟨A, 0, none⟩), .int .i64 id, .int .i64 key] wr (TP (.bool true) w h (putX xs j (zs ++ [(id, key)]))) := by
  subst hA
  obtain ⟨b, ys, h1, h2, h3, h4⟩ := t
  obtain ⟨hp, hh⟩ := h1 j hj
  refine (move_yes hh id key (by rw [hasB_perm (hp.trans hz.symm)]; unfold hasB; simp)).mono ?_
  rintro e w' ⟨rfl, us, k, vs, hu, hv, hh', hf⟩
  exact ⟨rfl, T.step h1 h2 h3 h4 hj (hv.trans ((cut_same hn (hu.trans hp) hz).2.append_right _)) hh' hf⟩
theorem t_drop_no (t : T w wr h xs) (j A : Nat) (hj : j < 3) (hA : A = h j) (id : Int) (hno : hasB (xs j) id = false) :
    Calls Try.prog 16 #[.pointer (some ⟨A, 0, none⟩), .int .i64 id] wr (TP (.bool false) w h xs) := by
  subst hA
  have t' := t
  obtain ⟨b, ys, h1, h2, h3, h4⟩ := t
  obtain ⟨hp, hh⟩ := h1 j hj
  refine (drop_no hh.1 id (by rw [hasB_perm hp]; exact hno)).mono ?_
  rintro e w' ⟨rfl, hB⟩
  exact ⟨rfl, t'.below hB⟩
theorem t_move_no (t : T w wr h xs) (j A : Nat) (hj : j < 3) (hA : A = h j) (id key : Int) (hno : hasB (xs j) id = false) :
    Calls Try.prog 17 #[.pointer (some ⟨A, 0, none⟩), .int .i64 id, .int .i64 key] wr (TP (.bool false) w h xs) := by
  subst hA
  have t' := t
  obtain ⟨b, ys, h1, h2, h3, h4⟩ := t
  obtain ⟨hp, hh⟩ := h1 j hj
  refine (move_no hh.1 id key (by rw [hasB_perm hp]; exact hno)).mono ?_
  rintro e w' ⟨rfl, hB⟩
  exact ⟨rfl, t'.below hB⟩
/-- All of a heap: a list in order -/
def TA (w w0 : World) (h : Nat → Nat) (xs : Nat → List It) (l : List It) (e : Ending) (w' : World) : Prop := ∃ a c b ys, e = .returned (.slice a ys.length c) ∧ ys.Perm l ∧ InOrder ys ∧ Its w' (.slice a ys.length c) ys b ∧ T w w' h xs ∧ Below w0.heap.size w0 w'
theorem t_all (t : T w wr h xs) (j A : Nat) (hj : j < 3) (hA : A = h j) :
    Calls Try.prog 20 #[.pointer (some ⟨A, 0, none⟩)] wr (TA w wr h xs (xs j)) := by
  subst hA
  have t' := t
  obtain ⟨b, ys, h1, h2, h3, h4⟩ := t
  obtain ⟨hp, hh⟩ := h1 j hj
  refine (all_is hh.1).mono ?_
  rintro e w' ⟨a, c, us, b', rfl, hu, ho, hI, _, hB⟩
  exact ⟨a, c, b', us, rfl, hu.trans hp, ho, hI, t'.below hB, hB⟩
end
end Go.Proofs.Ytamgaklbkefejaa
