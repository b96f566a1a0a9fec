/-
  The conditions: Signal without a way to tell; awake; CondNone, CondNil.
-/
import Derived.Test.YtgkchpifogfohaaCondP
import Derived.Test.YtgkchpifogfohaaLow
namespace Go.Proofs.Ytgkchpifogfohaa
set_option linter.unusedSimpArgs false
set_option linter.unusedVariables false
open Go.RowKit Go.Lib Own Sl
open RegJ hiding Up
open RegF hiding put_size

set_option maxRecDepth 100000 in
theorem sig_many {w : World} {n bc bl : Nat} {vs : Nat → Value} {bs : Nat → Option Nat} {ls : Nat → List Int} (h : CR w n bc bl vs bs ls) (hn : n ≤ 64) (i : Nat) (hi : i < n) (x y : Int) (r : List Int) (he : ls i = x :: y :: r) (hlen : (ls i).length < 100000) :
    Calls Try.prog 10 #[.pointer (some ⟨bc, 0, none⟩), .int .i64 i, .nilFunc] w fun e w' => e = .returned (.tuple #[.int .i64 (-1), .bool false]) ∧ w = w' := by
  have hh := has_yes h.hc i hi hn
  have hd2 : decide ((i : Int) < (n : Int)) = true := by simp; omega
  have c1 := h.hc.rd
  have c2 := h.cell i hi
  have hrow := h.row i
  rw [he] at hrow hlen
  simp only [List.length_cons] at hlen
  rcases hrow with ⟨_, h0, _⟩ | ⟨g, cap, rest, hv, hb, hB, hc, hm⟩
  · cases h0
  rw [hv] at c2
  simp only [List.length_cons] at c2
  have efn := eql_nofn
  have hl0 : ((r.length : Int) + 1 + 1 == 0) = false := by simp <;> omega
  have hl1 : decide ((1 : Int) < (r.length : Int) + 1 + 1) = true := by simp; omega
  have hl2 : decide (1 < r.length + 1 + 1) = true := by simp
  clear h hB hc hv he
  go_enter Try.func10, Try.ntmps10
  go_wp2_with (go_at_call 26; refine hh.mono ?_; rintro e w' ⟨rfl, rfl⟩)
  go_ret2
  exact ⟨rfl, rfl⟩

set_option maxRecDepth 100000 in
theorem sig_one {w : World} {n bc bl : Nat} {vs : Nat → Value} {bs : Nat → Option Nat} {ls : Nat → List Int} (h : CR w n bc bl vs bs ls) (hn : n ≤ 64) (i : Nat) (hi : i < n) (x : Int) (he : ls i = [x]) (hof : ofF n ls x = (i : Nat)) :
    Calls Try.prog 10 #[.pointer (some ⟨bc, 0, none⟩), .int .i64 i, .nilFunc] w fun e w' => e = .returned (.tuple #[.int .i64 x, .bool true]) ∧ Turned w w' n bc bl bs (delF ls i x) := by
  have hh := has_yes h.hc i hi hn
  have hd2 : decide ((i : Int) < (n : Int)) = true := by simp; omega
  have c1 := h.hc.rd
  have c2 := h.cell i hi
  have hrow := h.row i
  rw [he] at hrow
  have hcan0 := cancel_yes h hn x i hi hof (by rw [he]; simp)
  rcases hrow with ⟨_, h0, _⟩ | ⟨g, cap, rest, hv, hb, hB, hc, hm⟩
  · cases h0
  rw [hv] at c2
  have c2' : w.cell? ⟨bl, i, none⟩ = some (.slice (some ⟨g, 0, none⟩) 1 cap) := c2
  have hcap : 1 ≤ cap := by rw [hc]; simp
  unfold maxLen at hm
  have cx : w.cell? ⟨g, 0, none⟩ = some (.int .i64 x) := by rw [hB.rd]; simp [icells]
  have efn := eql_nofn
  clear h hB hc hv c2 hof
  have He := Lib.hid he
  clear he
  by_cases hc1 : cap = 1
  · subst hc1
    go_enter Try.func10, Try.ntmps10
    go_wp2_with (go_at_call 26; refine hh.mono ?_; rintro e w' ⟨rfl, rfl⟩)
    refine wp_loop_rounds 1 ?_
    rw [rounds_succ]
    go_wp2_with (go_at_call 18; refine hcan0.mono ?_; rintro e w2 ⟨rfl, hT⟩)
    go_ret2
    exact ⟨rfl, hT⟩
  · have hc2 : 1 < cap := by omega
    go_enter Try.func10, Try.ntmps10
    go_wp2_with (go_at_call 26; refine hh.mono ?_; rintro e w' ⟨rfl, rfl⟩)
    refine wp_loop_rounds 1 ?_
    rw [rounds_succ]
    go_wp2_with (go_at_call 18; refine hcan0.mono ?_; rintro e w2 ⟨rfl, hT⟩)
    go_ret2
    exact ⟨rfl, hT⟩
section
variable {w : World} {K : Nat → Prop} {n bc : Nat} {ls : Nat → List Int}
theorem many_cd (h : Cd w K n bc ls) (hn : n ≤ 64) (i : Nat) (I : Int) (hI : I = i) (hi : i < n) (x y : Int) (r : List Int) (he : ls i = x :: y :: r) :
    Calls Try.prog 10 #[.pointer (some ⟨bc, 0, none⟩), .int .i64 I, .nilFunc] w (CdPost (.tuple #[.int .i64 (-1), .bool false]) w K n bc ls) := by
  subst hI
  have H := h
  obtain ⟨bl, vs, bs, h1, h2, h3, h4⟩ := h
  refine (sig_many h1 hn i hi x y r he (by have := h4.len i; omega)).mono ?_
  rintro e w' ⟨rfl, rfl⟩
  exact ⟨rfl, H, Keep.refl _ _⟩
theorem one_cd (h : Cd w K n bc ls) (hn : n ≤ 64) (i : Nat) (I : Int) (hI : I = i) (hi : i < n) (x : Int) (he : ls i = [x]) :
    Calls Try.prog 10 #[.pointer (some ⟨bc, 0, none⟩), .int .i64 I, .nilFunc] w (CdPost (.tuple #[.int .i64 x, .bool true]) w K n bc (delF ls i x)) := by
  subst hI
  obtain ⟨bl, vs, bs, h1, h2, h3, h4⟩ := h
  refine (sig_one h1 hn i hi x he (h4.ofF hi (by rw [he]; simp))).mono ?_
  rintro e w' ⟨rfl, hT⟩
  exact ⟨rfl, Cd.turned h2 h3 (h4.del i _) hT⟩
end

/-! ### awake -/
def e0 : Nat → List Int := fun _ => []
def e1 : Nat → List Int := insF e0 0 5
def e2 : Nat → List Int := insF e1 0 2
theorem e2_is : e2 0 = [2, 5] := by decide +kernel
theorem g1 : Good e1 := Good.nil.ins 0 5 (by omega) (fun j => by simp)
theorem e1_is (j : Nat) : e1 j = if j = 0 then [5] else [] := by
  unfold e1 insF put e0
  by_cases h : j = 0 <;> simp [h]
theorem e2_ne (j : Nat) (h : j ≠ 0) : e2 j = [] := by
  unfold e2 insF put
  rw [if_neg h, e1_is, if_neg h]
theorem best5 : bestF (fun j => if j = 5 then 1 else 0) 2 [5] = 5 := by decide +kernel
def e3 : Nat → List Int := delF e2 0 5
theorem e3_is (j : Nat) : e3 j = if j = 0 then [2] else [] := by
  unfold e3 delF put
  by_cases h : j = 0
  · subst h; rw [e2_is]; decide +kernel
  · rw [if_neg h, if_neg h, e2_ne j h]
theorem of5 : ofF 2 e3 5 = -1 := ofF_miss (fun j _ => by rw [e3_is]; by_cases h : j = 0 <;> simp [h])
theorem of2 : ofF 2 e3 2 = 0 := ofF_hit 0 (by omega) (by rw [e3_is]; simp) (fun j hj => by omega)

def Q5 (j : Nat) : Int := if j = 5 then 1 else 0
theorem best5' : bestF Q5 2 [5] = 5 := by decide +kernel
theorem kr5 (w : World) (cs : Array Value) (h : cs = ((List.range 16).map fun j => Value.int .i64 (Q5 j)).toArray) : KR (w.alloc (.cells cs 30)) w.heap.size Q5 := by
  subst h; exact Blk.new _ _ _
def cs5 : Array Value := #[.int .i64 0, .int .i64 0, .int .i64 0, .int .i64 0, .int .i64 0, .int .i64 1, .int .i64 0, .int .i64 0, .int .i64 0, .int .i64 0, .int .i64 0, .int .i64 0, .int .i64 0, .int .i64 0, .int .i64 0, .int .i64 0]
theorem awake_sig {w3 : World} {B bc : Nat} (hC : Cd w3 (fun k => k < B) 2 bc e2) (cs : Array Value) (h : cs = ((List.range 16).map fun j => Value.int .i64 (Q5 j)).toArray) :
    Calls Try.prog 10 #[.pointer (some ⟨bc, 0, none⟩), .int .i64 0, .func (.func 11) #[.pointer (some ⟨w3.heap.size, 0, none⟩)] #[]] (w3.alloc (.cells cs 30)) fun e w' => e = .returned (.tuple #[.int .i64 5, .bool true]) ∧ Cd w' (fun k => k < B) 2 bc e3 ∧ Keep (fun k => k < B) w3 w' := by
  have hb : Below w3.heap.size w3 (w3.alloc (.cells cs 30)) := (Below.refl _ _).alloc (Nat.le_refl _) _
  have := sig_cd (hC.step hb) (by omega) 0 0 rfl (by omega) 2 [5] e2_is w3.heap.size Q5 (kr5 w3 cs h) (by rw [e2_is]; simp)
  rw [best5'] at this
  refine this.mono ?_
  rintro e w' ⟨rfl, h1, h2⟩
  exact ⟨rfl, h1, (Keep.of_below hb).trans h2⟩
set_option maxRecDepth 100000 in
set_option maxHeartbeats 1000000 in
theorem awake_any (w : World) : Calls Try.prog 12 #[] w fun e w' => e = .returned (.bool true) ∧ Below w.heap.size w w' := by
  have hnew := new_cd 2 (by omega) (by omega) w
  go_enter Try.func12, Try.ntmps12
  go_wp2_with (first
    | (go_at_call 8; refine hnew.mono ?_; rintro e w1 ⟨bc, rfl, hC1, hB1⟩; have hw1 := wait_cd hC1 (by omega) 5 0 0 rfl (by omega) (by omega) (fun j => by simp))
    | (go_at_call 9; (with_reducible refine hw1.mono ?_); rintro e w2 ⟨rfl, hC2, hK2⟩; have hw2 := wait_cd hC2 (by omega) 2 0 0 rfl (by omega) (by omega) (fun j => by show 2 ∉ e1 j; rw [e1_is]; by_cases h : j = 0 <;> simp [h]))
    | (go_at_call 9; (with_reducible refine hw2.mono ?_); rintro e w3 ⟨rfl, hC3, hK3⟩; have hs4 := awake_sig hC3 cs5 rfl; unfold cs5 at hs4)
    | (go_at_call 10; go_loud (refine hs4.mono ?_); rintro e w4 ⟨rfl, hC4, hK4⟩; have ho1 := of_cd hC4 (by omega) 5 (-1) of5)
    | (go_at_call 21; (with_reducible refine ho1.mono ?_); rintro e w5 ⟨rfl, hC5, hK5⟩; have ho2 := of_cd hC5 (by omega) 2 0 of2)
    | (go_at_call 21; (with_reducible refine ho2.mono ?_); rintro e w6 ⟨rfl, hC6, hK6⟩))
  go_ret
  exact ⟨rfl, Keep.below ((Keep.of_below hB1).trans (hK2.trans (hK3.trans (hK4.trans (hK5.trans hK6))))) (Nat.le_refl _)⟩

/-! ### CondNone -/
set_option maxRecDepth 100000 in
set_option maxHeartbeats 1000000 in
theorem none_walk (d t i : Int) (w : World) : Calls Try.prog 6 #[.agg #[.int .i64 d, .int .i64 t, .int .i64 i]] w fun e w' => e = .returned (.bool true) ∧ Below w.heap.size w w' := by
  have hb0 : Below w.heap.size w (w.alloc (.cells #[.int .i64 d, .int .i64 t, .int .i64 i] 43)) := (Below.refl _ _).alloc (Nat.le_refl _) _
  have hB : Blk (w.alloc (.cells #[.int .i64 d, .int .i64 t, .int .i64 i] 43)) w.heap.size #[.int .i64 d, .int .i64 t, .int .i64 i] 43 := Blk.new _ _ _
  go_enter Try.func6, Try.ntmps6
  go_wp2_with (first
    | (go_at_call 10; refine (n_signal _ _ _).mono ?_; rintro e w1 ⟨rfl, rfl⟩)
    | (go_at_call 9; refine (n_wait _ _ _).mono ?_; rintro e w2 ⟨rfl, rfl⟩)
    | (go_at_call 18; refine (n_cancel _ _).mono ?_; rintro e w3 ⟨rfl, hb3⟩; have c1 := (Blk.below hb3 hB (by simp)).rd)
    | (go_at_call 20; refine (n_list _ _).mono ?_; rintro e w4 ⟨rfl, rfl⟩)
    | (go_at_call 21; refine (n_of _ _).mono ?_; rintro e w5 ⟨rfl, hb5⟩)
    | (go_at_call 12; refine (awake_any _).mono ?_; rintro e w6 ⟨rfl, hb6⟩))
  go_ret
  exact ⟨rfl, Keep.below ((Keep.of_below (K := fun k => k < w.heap.size) hb0).trans ((Keep.of_below hb3).trans ((Keep.of_below hb5).trans (Keep.of_below hb6)))) (Nat.le_refl _)⟩

/-! ### CondNil -/
section
variable {w : World} {K : Nat → Prop} {n bc : Nat} {ls : Nat → List Int}
theorem Ints.lens {w : World} {E : TypeId} {v : Value} {xs : List Int} {b : Option Nat} (h : Ints w E v xs b) : ∃ a c, v = .slice a xs.length c := by
  rcases h with ⟨rfl, rfl, _⟩ | ⟨g, cap, rest, rfl, _⟩
  · exact ⟨_, _, rfl⟩
  · exact ⟨_, _, rfl⟩
def LenCd (m : Nat) (w : World) (K : Nat → Prop) (n bc : Nat) (ls : Nat → List Int) (e : Ending) (w' : World) : Prop := ∃ a c, e = .returned (.slice a m c) ∧ Cd w' K n bc ls ∧ Keep K w w'
theorem len_cd (h : Cd w K n bc ls) (hn : n ≤ 64) (i : Nat) (I : Int) (hI : I = i) (hi : i < n) (m : Nat) (hm : (ls i).length = m) :
    Calls Try.prog 20 #[.pointer (some ⟨bc, 0, none⟩), .int .i64 I] w (LenCd m w K n bc ls) := by
  refine (list_cd h hn i I hI hi).mono ?_
  rintro e w' ⟨v', b', rfl, hi, hg, hC, hB⟩
  obtain ⟨a, c, rfl⟩ := Ints.lens hi
  exact ⟨a, c, by rw [hm], hC, Keep.of_below hB⟩
end
theorem ins0 (A : Int) (j : Nat) : insF (fun _ => []) 0 A j = if j = 0 then [A] else [] := by
  unfold insF put
  by_cases h : j = 0 <;> simp [h]
theorem ins1 {A B : Int} (h : A ≠ B) : ∃ x y, insF (insF (fun _ => []) 0 A) 0 B 0 = [x, y] := by
  unfold insF put
  by_cases h : A < B
  · exact ⟨A, B, by simp [h]⟩
  · exact ⟨B, A, by simp [h]⟩
theorem del1 {A B : Int} (h : A ≠ B) : delF (insF (insF (fun _ => []) 0 A) 0 B) 0 B 0 = [A] := by
  unfold delF insF put
  by_cases h1 : A < B
  · simp [h1, h]
  · simp [h1, h]
theorem del0 {ls : Nat → List Int} {A : Int} (h : ls 0 = [A]) : (delF ls 0 A 0).length = 0 := by
  unfold delF put; rw [h]; simp

set_option maxRecDepth 100000 in
set_option maxHeartbeats 1000000 in
theorem nil_walk (a b : Int) (w : World) : Calls Try.prog 5 #[.int .i64 a, .int .i64 b] w fun e w' => e = .returned (.bool true) ∧ Below w.heap.size w w' := by
  have hnew := new_cd 1 (by omega) (by omega) w
  have hl1 := fun w => low_any a 1000 (by omega) (by omega) w
  have hl2 := fun w => low_any b 1000 (by omega) (by omega) w
  have hb1 := low_bd a 1000 (by omega)
  have hb2 := low_bd b 1000 (by omega)
  generalize lowF a 1000 = A at hl1 hb1
  generalize lowF b 1000 = B at hl2 hb2
  have Hb1 := Lib.hid hb1
  have Hb2 := Lib.hid hb2
  clear hb1 hb2
  by_cases hab : B = A
  · subst hab
    go_enter Try.func5, Try.ntmps5
    go_wp2_with (first
      | (go_at_call 8; refine hnew.mono ?_; rintro e w1 ⟨bc, rfl, hC1, hB1⟩; have hw1 := wait_cd hC1 (by omega) B 0 0 rfl Hb1.out (by omega) (fun j => by simp))
      | (go_at_call 15; (with_reducible refine (hl1 _).mono ?_); rintro e w' ⟨rfl, rfl⟩)
      | (go_at_call 15; (with_reducible refine (hl2 _).mono ?_); rintro e w' ⟨rfl, rfl⟩)
      | (go_at_call 9; (with_reducible refine hw1.mono ?_); rintro e w2 ⟨rfl, hC2, hK2⟩; have hs1 := one_cd hC2 (by omega) 0 0 rfl (by omega) B (by rw [ins0, if_pos rfl]))
      | (go_at_call 10; (with_reducible refine hs1.mono ?_); rintro e w3 ⟨rfl, hC3, hK3⟩; have hl3 := len_cd hC3 (by omega) 0 0 rfl (by omega) 0 (del0 (by rw [ins0, if_pos rfl])))
      | (go_at_call 20; (with_reducible refine hl3.mono ?_); rintro e w4 ⟨va, vc, rfl, hC4, hK4⟩)
      | (go_at_call 12; refine (awake_any _).mono ?_; rintro e w5 ⟨rfl, hb5⟩))
    go_ret
    exact ⟨rfl, Keep.below ((Keep.of_below hB1).trans (hK2.trans (hK3.trans (hK4.trans (Keep.of_below hb5))))) (Nat.le_refl _)⟩
  · have hab' : A ≠ B := fun e => hab e.symm
    obtain ⟨x, y, hxy⟩ := ins1 hab'
    have Hxy := Lib.hid hxy
    have Hab := Lib.hid hab'
    clear hxy hab'
    go_enter Try.func5, Try.ntmps5
    go_wp2_with (first
      | (go_at_call 8; refine hnew.mono ?_; rintro e w1 ⟨bc, rfl, hC1, hB1⟩; have hw1 := wait_cd hC1 (by omega) A 0 0 rfl Hb1.out (by omega) (fun j => by simp))
      | (go_at_call 15; (with_reducible refine (hl1 _).mono ?_); rintro e w' ⟨rfl, rfl⟩)
      | (go_at_call 15; (with_reducible refine (hl2 _).mono ?_); rintro e w' ⟨rfl, rfl⟩)
      | (go_at_call 9; (with_reducible refine hw1.mono ?_); rintro e w2 ⟨rfl, hC2, hK2⟩; have hw2 := wait_cd hC2 (by omega) B 0 0 rfl Hb2.out (by omega) (fun j => by rw [ins0]; have := Hab.out; by_cases h : j = 0 <;> simp [h]; omega))
      | (go_at_call 9; (with_reducible refine hw2.mono ?_); rintro e w3 ⟨rfl, hC3, hK3⟩; have hs1 := many_cd hC3 (by omega) 0 0 rfl (by omega) x y [] Hxy.out)
      | (go_at_call 10; (with_reducible refine hs1.mono ?_); rintro e w4 ⟨rfl, hC4, hK4⟩; have hl3 := len_cd hC4 (by omega) 0 0 rfl (by omega) 2 (by rw [Hxy.out]; rfl))
      | (go_at_call 20; (with_reducible refine hl3.mono ?_); rintro e w5 ⟨va, vc, rfl, hC5, hK5⟩; have hc1 := cancel_cd hC5 (by omega) B 0 (by omega) ((mem_insF hC2.good 0 B 0 B).2 (Or.inr ⟨rfl, rfl⟩)))
      | (go_at_call 18; (with_reducible refine hc1.mono ?_); rintro e w6 ⟨rfl, hC6, hK6⟩; have hs2 := one_cd hC6 (by omega) 0 0 rfl (by omega) A (del1 Hab.out))
      | (go_at_call 10; (with_reducible refine hs2.mono ?_); rintro e w7 ⟨rfl, hC7, hK7⟩; have hl4 := len_cd hC7 (by omega) 0 0 rfl (by omega) 0 (del0 (del1 Hab.out)))
      | (go_at_call 20; (with_reducible refine hl4.mono ?_); rintro e w8 ⟨va', vc', rfl, hC8, hK8⟩)
      | (go_at_call 12; refine (awake_any _).mono ?_; rintro e w9 ⟨rfl, hb9⟩))
    go_ret
    exact ⟨rfl, Keep.below ((Keep.of_below hB1).trans (hK2.trans (hK3.trans (hK4.trans (hK5.trans (hK6.trans (hK7.trans (hK8.trans (Keep.of_below hb9)))))))))  (Nat.le_refl _)⟩
end Go.Proofs.Ytgkchpifogfohaa
