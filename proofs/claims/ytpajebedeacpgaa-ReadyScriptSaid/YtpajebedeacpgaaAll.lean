/-
  The heap's All: its items in order, in a block of their own.
-/
import Derived.Test.YtpajebedeacpgaaSortI
import Derived.Lib.SliceRun
namespace Go.Proofs.Ytpajebedeacpgaa
set_option linter.unusedSimpArgs false
set_option linter.unusedVariables false
open Go.RowKit Go.Lib Own
open RegJ hiding Up
open RegF hiding put_size

theorem qT (w : World) (a : Option Addr) (n c n' c' : Nat) : (binOp .eql 69 (.slice a n c) (.slice none n' c')).run Try.prog w = .ok (.bool a.isNone) w := Lib.run_eql_slice_nil w _ _ a n c n' c' Try.underlying69
def CloneM (xs : List It) (w : World) (e : Ending) (w' : World) : Prop := ∃ v b, e = .returned v ∧ Its w' v xs b ∧ (∀ g, b = some g → w.heap.size ≤ g) ∧ Below w.heap.size w w'
set_option maxRecDepth 100000 in
theorem clone_is {w : World} {v : Value} {xs : List It} {b : Option Nat} (h : Its w v xs b) (hlen : xs.length ≤ 2000) :
    Calls Try.prog 50 #[v] w (CloneM xs w) := by
  have q := qT
  rcases h with ⟨rfl, rfl, rfl⟩ | ⟨g, cap, rest, rfl, rfl, hB, hc, hm⟩
  · go_enter Try.func50, Try.ntmps50
    go_wp2
    go_ret
    exact ⟨_, none, rfl, Or.inl ⟨rfl, rfl, rfl⟩, (fun g hg => by cases hg), Below.refl _ _⟩
  · obtain ⟨i0, hi, hz0, hz1, hz2⟩ := info_parts Try.infoItem
    have hp := pcells_len xs
    have hlt := hB.lt
    have hB1 : Blk (w.alloc (.cells #[] 72)) g (pcells xs ++ rest).toArray 72 := hB.alloc _
    have hnews : ∀ (j : Nat) (u : Value), (pcells xs)[j]? = some u → (w.alloc (.cells #[] 72)).cell? (Addr.add ⟨g, 0, none⟩ j) = some u := by
      intro j u hj
      have hjl : j < (pcells xs).length := (List.getElem?_eq_some_iff.1 hj).1
      have : (⟨g, 0, none⟩ : Addr).add j = ⟨g, j, none⟩ := by
        unfold Addr.add; by_cases h0 : j = 0
        · subst h0; rfl
        · rw [if_neg h0]; simp
      rw [this, hB1.rd]
      simp only [List.getElem?_toArray]
      rw [List.getElem?_append_left hjl]; exact hj
    have hone : ∀ u ∈ pcells xs, u.oneCell' = true := by
      intro u hu
      unfold pcells at hu
      rw [List.mem_flatMap] at hu
      obtain ⟨a, _, ha⟩ := hu
      simp at ha; rcases ha with rfl | rfl <;> rfl
    have hown : (w.alloc (.cells #[] 72)).ownsRow w.heap.size 72 2 (.slice (some ⟨w.heap.size, 0, none⟩) 0 0) 0 [] :=
      ⟨rfl, Or.inr ⟨w.heap.size, 0, #[], rfl, Nat.le_refl _, Blk.new _ _ _, Nat.le_refl _, by simp, rfl, rfl⟩⟩
    have H := Lib.hid (And.intro hnews (And.intro hone hown))
    have hl0 : (xs.length : Int) = (xs.length : Int) := rfl
    clear hnews hone hown hB hB1 hc
    go_enter Try.func50, Try.ntmps50
    go_wp2_with (at_builtin; refine wpList_append_own _ rfl _ _ 69 rfl w.heap.size 72 i0 _ 2 16 Try.underlying69 hi hz0 hz1 hz2 rfl (by decide) _ 0 [] rfl H.out.2.2 ⟨g, 0, none⟩ xs.length cap (pcells xs) rfl hp H.out.1 H.out.2.1 (by unfold maxLen; omega) (by omega) (by simp) ?_; intro v' w1 h1 h2 _; have H1 := Lib.hid (And.intro h1 h2); clear h1 h2)
    go_ret
    have h1 := H1.out.1
    rw [List.nil_append, Nat.zero_add] at h1
    obtain ⟨b', hI, hb⟩ := Its.of_own rfl h1
    refine ⟨_, b', rfl, hI, hb, ?_⟩
    exact ((Below.refl w.heap.size w).alloc (Nat.le_refl _) (.cells #[] 72)).grown H1.out.2 (by simp) (fun k hk => by first | (cases hk; exact Nat.le_refl _) | (simp [Value.ownBlock] at hk; subst hk; exact Nat.le_refl _) | (simp [Value.ownBlock] at hk))
/-! ### of nothing -/
def VoidB (w : World) (e : Ending) (w' : World) : Prop := (∃ r, e = .returned r) ∧ Below w.heap.size w w'
set_option maxRecDepth 100000 in
theorem ins_nil (f : Value) (w : World) : Calls Try.prog 78 #[.slice none 0 0, .int .i64 0, .int .i64 0, f] w (VoidB w) := by
  go_enter Try.func78, Try.ntmps78
  go_wp2
  go_loopw [8] (fun ix wr => ix = .int .i64 1 ∧ wr = w) (fun _ _ => 0)
  case atStart => exact ⟨rfl, rfl⟩
  case round =>
    obtain ⟨rfl, rfl⟩ := hrel
    go_wp2
    go_returns
    exact ⟨⟨_, rfl⟩, Below.refl _ _⟩
set_option maxRecDepth 100000 in
theorem pdq_nil (l : Int) (f : Value) (w : World) : Calls Try.prog 69 #[.slice none 0 0, .int .i64 0, .int .i64 0, .int .i64 l, f] w (VoidB w) := by
  have hi := ins_nil f
  go_enter Try.func69, Try.ntmps69
  go_wp2
  go_loopw [1, 2] (fun a b wr => a = .int .i64 0 ∧ b = .int .i64 0 ∧ wr = w) (fun _ _ _ => 0)
  case atStart => exact ⟨rfl, rfl, rfl⟩
  case round =>
    obtain ⟨rfl, rfl, rfl⟩ := hrel
    go_wp2_with (go_at_call 78; refine (hi _).mono ?_; rintro e w' ⟨⟨r, rfl⟩, hB⟩)
    go_returns
    exact ⟨⟨_, rfl⟩, hB⟩
set_option maxRecDepth 100000 in
theorem sort_none (w : World) : Calls Try.prog 51 #[.slice none 0 0, .func (.func 52) #[] #[]] w (VoidB w) := by
  have hb := fun w => Try.bits_Len 0 w (by omega) (by omega)
  have hp := fun l f => pdq_nil l f
  go_enter Try.func51, Try.ntmps51
  go_wp2_with (first
    | (go_at_call 70; refine (hb _).mono ?_; rintro e w' ⟨rfl, rfl⟩)
    | (go_at_call 69; refine (hp _ _ _).mono ?_; rintro e w' ⟨⟨r, rfl⟩, hB⟩))
  go_returns
  exact ⟨⟨_, rfl⟩, hB⟩
/-- All: the items in order, in a block of their own -/
def AllM (xs : List It) (w : World) (e : Ending) (w' : World) : Prop := ∃ a c ys b, e = .returned (.slice a ys.length c) ∧ ys.Perm xs ∧ InOrder ys ∧ Its w' (.slice a ys.length c) ys b ∧ (∀ g, b = some g → w.heap.size ≤ g) ∧ Below w.heap.size w w'
set_option maxRecDepth 100000 in
theorem all_is {w : World} {bh : Nat} {xs : List It} {b : Option Nat} (h : Hh w bh xs b) :
    Calls Try.prog 35 #[.pointer (some ⟨bh, 0, none⟩)] w (AllM xs w) := by
  obtain ⟨v, hb, hI, hne, hmax⟩ := h
  have hcl := clone_is hI hmax
  obtain ⟨va, vc, rfl⟩ := hI.slice
  have c1 := hb.rd
  clear hb hI hne
  have hso : ∀ (w1 : World) (v : Value) (b' : Option Nat), Its w1 v xs b' → Calls Try.prog 51 #[v, .func (.func 52) #[] #[]] w1 (SortM b' xs v w1) := by
    intro w1 v b' hI
    rcases hI with ⟨rfl, rfl, rfl⟩ | ⟨g, cap, rest, rfl, rfl, hB, hc, hm⟩
    · refine (sort_none w1).mono ?_
      rintro e w' ⟨⟨r, rfl⟩, hB⟩
      exact ⟨⟨r, rfl⟩, [], List.Perm.refl _, List.Pairwise.nil, Or.inl ⟨rfl, rfl, rfl⟩, Upd.of_below hB⟩
    · exact sort_some hB hc hm hmax
  have HS := Lib.hid hso
  clear hso
  go_enter Try.func35, Try.ntmps35
  go_wp2_with (first
    | (go_at_call 50; refine hcl.mono ?_; rintro e w1 ⟨v1, b1, rfl, hI1, hb1, hB1⟩; clear hcl; have hs := HS.out w1 v1 b1 hI1; have H1 := Lib.hid (And.intro hI1 (And.intro hb1 hB1)); clear hI1 hb1 hB1)
    | (go_at_call 51; refine hs.mono ?_; rintro e w2 ⟨⟨r, rfl⟩, ys, hp, ho, hI2, hu⟩; clear hs; have H2 := Lib.hid (And.intro hp (And.intro ho (And.intro hI2 hu))); clear hp ho hI2 hu))
  go_ret
  obtain ⟨hp, ho, hI2, hu⟩ := H2.out
  obtain ⟨a, c, hv⟩ := hI2.slice
  refine ⟨a, c, ys, b1, ?_, hp, ho, by rw [← hv]; exact hI2, H1.out.2.1, H1.out.2.2.trans (hu.below H1.out.2.2.size (fun k hk => H1.out.2.1 k hk))⟩
  rw [← hv]; rfl
end Go.Proofs.Ytpajebedeacpgaa
