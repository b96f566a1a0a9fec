/-
  The conditions: who is signalled.
-/
import Derived.Test.YtgkchpifogfohaaCondL
namespace Go.Proofs.Ytgkchpifogfohaa
set_option linter.unusedSimpArgs false
set_option linter.unusedVariables false
open Go.RowKit Go.Lib Own Sl
open RegJ hiding Up
open RegF hiding put_size

set_option maxRecDepth 100000 in
theorem sig_no {w : World} {n bc bl : Nat} (h : Blk w bc #[.slice (some ⟨bl, 0, none⟩) n n] 57) (hn : n ≤ 64) (i : Int) (hi : i < 0 ∨ n ≤ i) (bf : Value) :
    Calls Try.prog 10 #[.pointer (some ⟨bc, 0, none⟩), .int .i64 i, bf] w fun e w' => e = .returned (.tuple #[.int .i64 (-1), .bool false]) ∧ w = w' := by
  have hh := has_no h i hi hn
  clear hi
  go_enter Try.func10, Try.ntmps10
  go_wp2_with (go_at_call 26; refine hh.mono ?_; rintro e w' ⟨rfl, rfl⟩)
  go_ret2
  exact ⟨rfl, rfl⟩
theorem ints_nil_len {w : World} {E : TypeId} {v : Value} {b : Option Nat} (h : Ints w E v [] b) : ∃ a c, v = .slice a 0 c := by
  rcases h with ⟨rfl, _⟩ | ⟨g, cap, rest, rfl, _⟩
  · exact ⟨_, _, rfl⟩
  · exact ⟨_, _, rfl⟩
set_option maxRecDepth 100000 in
theorem sig_empty {w : World} {n bc bl : Nat} {vs : Nat → Value} {bs : Nat → Option Nat} {ls : Nat → List Int} (h : CR w n bc bl vs bs ls) (hn : n ≤ 64) (i : Nat) (hi : i < n) (he : ls i = []) (bf : Value) :
    Calls Try.prog 10 #[.pointer (some ⟨bc, 0, none⟩), .int .i64 i, bf] w fun e w' => e = .returned (.tuple #[.int .i64 (-1), .bool false]) ∧ w = w' := by
  have hh := has_yes h.hc i hi hn
  have hd2 : decide ((i : Int) < (n : Int)) = true := by simp; omega
  have c1 := h.hc.rd
  have c2 := h.cell i hi
  have hr := h.row i
  rw [he] at hr
  obtain ⟨a, c, hv⟩ := ints_nil_len hr
  rw [hv] at c2
  clear h hr he hv
  go_enter Try.func10, Try.ntmps10
  go_wp2_with (go_at_call 26; refine hh.mono ?_; rintro e w' ⟨rfl, rfl⟩)
  go_ret2
  exact ⟨rfl, rfl⟩

/-- the one that is signalled -/
def bestF (K : Nat → Int) (x : Int) (r : List Int) : Int := r.foldl (fun f t => if K f.toNat < K t.toNat then t else f) x
theorem bestF_take (K : Nat → Int) (x : Int) (r : List Int) (k : Nat) (hk : k < r.length) : bestF K x (r.take (k + 1)) = if K (bestF K x (r.take k)).toNat < K (r.getD k 0).toNat then r.getD k 0 else bestF K x (r.take k) := by
  unfold bestF
  rw [List.take_succ_eq_append_getElem hk, List.foldl_append]
  simp [hk]
theorem bestF_mem (K : Nat → Int) (x : Int) (r : List Int) : bestF K x r ∈ x :: r := by
  unfold bestF
  induction r generalizing x with
  | nil => simp
  | cons y r ih =>
    rw [List.foldl_cons]
    have := ih (if K x.toNat < K y.toNat then y else x)
    by_cases hk : K x.toNat < K y.toNat
    · rw [if_pos hk] at this ⊢
      exact List.mem_cons_of_mem _ this
    · rw [if_neg hk] at this ⊢
      rw [List.mem_cons] at this ⊢
      rcases this with h | h
      · exact Or.inl h
      · exact Or.inr (List.mem_cons_of_mem _ h)
theorem before_int {w : World} {bk : Nat} {K : Nat → Int} (h : KR w bk K) (a b : Int) (ha : 0 ≤ a ∧ a < 16) (hb : 0 ≤ b ∧ b < 16) (v : Bool) (hv : decide (K b.toNat < K a.toNat) = v) :
    Calls Try.prog 11 #[.pointer (some ⟨bk, 0, none⟩), .int .i64 a, .int .i64 b] w fun e w' => e = .returned (.bool v) ∧ ∃ q, w' = w.drewN q := by
  have := before_any h a.toNat b.toNat (by omega) (by omega)
  rw [show ((a.toNat : Nat) : Int) = a by omega, show ((b.toNat : Nat) : Int) = b by omega, hv] at this
  exact this
theorem KR.upd {w w' : World} {bk : Nat} {K : Nat → Int} {F : Nat → Prop} (h : KR w bk K) (hu : Upd F w w') (hf : ¬ F bk) : KR w' bk K := Blk.upd hu h hf
theorem cr_drewN {w : World} {n bc bl : Nat} {vs : Nat → Value} {bs : Nat → Option Nat} {ls : Nat → List Int} (h : CR w n bc bl vs bs ls) (q : Nat) : CR (w.drewN q) n bc bl vs bs ls :=
  h.upd ((Upd.refl (fun _ => False) w).drewN q) (fun _ _ hf => hf)
theorem Turned.drewN {W w' : World} {n bc bl q : Nat} {bs : Nat → Option Nat} {ls' : Nat → List Int} (h : Turned (W.drewN q) w' n bc bl bs ls') : Turned W w' n bc bl bs ls' := by
  obtain ⟨vs', bs', h1, h2, h3⟩ := h
  exact ⟨vs', bs', h1, ((Upd.refl _ W).drewN q).trans h2 (fun k _ hk => hk), h3⟩

theorem getD_mem (r : List Int) (k : Nat) (h : k < r.length) : r.getD k 0 ∈ r := by
  rw [List.getD_eq_getElem?_getD, List.getElem?_eq_getElem h]; exact List.getElem_mem h
theorem eql_meth (a : Value) (w : World) : (binOp BinOp.eql 34 (.func (.func 11) #[a] #[]) .nilFunc).run Try.prog w = .ok (.bool false) w := by kernel_rfl
theorem eql_nofn (w : World) : (binOp BinOp.eql 34 .nilFunc .nilFunc).run Try.prog w = .ok (.bool true) w := by kernel_rfl
set_option maxRecDepth 100000 in
set_option maxHeartbeats 1000000 in
theorem sig_ok {w : World} {n bc bl : Nat} {vs : Nat → Value} {bs : Nat → Option Nat} {ls : Nat → List Int} (h : CR w n bc bl vs bs ls) (hn : n ≤ 64) (i : Nat) (hi : i < n) (x : Int) (r : List Int) (he : ls i = x :: r) (bk : Nat) (K : Nat → Int) (hk : KR w bk K) (hr : ∀ t ∈ ls i, 0 ≤ t ∧ t < 16) (hlen : (ls i).length < 100000) (hof : ∀ t ∈ ls i, ofF n ls t = (i : Nat)) :
    Calls Try.prog 10 #[.pointer (some ⟨bc, 0, none⟩), .int .i64 i, .func (.func 11) #[.pointer (some ⟨bk, 0, none⟩)] #[]] w fun e w' => e = .returned (.tuple #[.int .i64 (bestF K x r), .bool true]) ∧ Turned w w' n bc bl bs (delF ls i (bestF K x r)) := by
  have hh := has_yes h.hc i hi hn
  have hd2 : decide ((i : Int) < (n : Int)) = true := by simp; omega
  have c1 := h.hc.rd
  have c2 := h.cell i hi
  have hrow := h.row i
  rw [he] at hrow hr hlen hof
  simp only [List.length_cons] at hlen
  have hbest := bestF_mem K x r
  have hcan := fun q => cancel_yes (cr_drewN h q) hn (bestF K x r) i hi (hof _ hbest) (by rw [he]; simp)
  rcases hrow with ⟨_, h0, _⟩ | ⟨g, cap, rest, hv, hb, hB, hc, hm⟩
  · cases h0
  rw [hv] at c2
  simp only [List.length_cons] at c2
  have hcap : r.length + 1 ≤ cap := by rw [hc]; simp
  unfold maxLen at hm
  have cx : w.cell? ⟨g, 0, none⟩ = some (.int .i64 x) := by rw [hB.rd]; simp [icells]
  have cr : ∀ k, k < r.length → w.cell? ⟨g, 1 + k, none⟩ = some (.int .i64 (r.getD k 0)) := fun k hk => by
    have := Ints.cells hB (k + 1) (by simp; omega)
    rw [show 0 + (k + 1) = 1 + k by omega] at this
    rw [this]; simp
  have efn := fun w => eql_meth (.pointer (some ⟨bk, 0, none⟩)) w
  have hl0 : ((r.length : Int) + 1 == 0) = false := by simp <;> omega
  clear h hB hc hv
  have Hof := Lib.hid hof
  have Hhr := Lib.hid hr
  clear hof hr
  have He := Lib.hid he
  clear he
  have Hcr := Lib.hid cr
  clear cr
  by_cases h1 : r = []
  · subst h1
    have hcan0 : Calls Try.prog 18 #[.pointer (some ⟨bc, 0, none⟩), .int .i64 x] w fun e w' => e = .returned (.bool true) ∧ Turned w w' n bc bl bs (delF ls i x) := hcan 0
    have c2' : w.cell? ⟨bl, i, none⟩ = some (.slice (some ⟨g, 0, none⟩) 1 cap) := c2
    clear hcan c2 hl0 hbest
    show Calls Try.prog 10 _ w fun e w' => e = .returned (.tuple #[.int .i64 x, .bool true]) ∧ Turned w w' n bc bl bs (delF ls i x)
    by_cases hc1 : cap = 1
    · subst hc1
      go_enter Try.func10, Try.ntmps10
      go_wp2_with (go_at_call 26; refine hh.mono ?_; rintro e w' ⟨rfl, rfl⟩)
      refine wp_loop_rounds 1 ?_
      rw [rounds_succ]
      go_wp2_with (go_at_call 18; refine hcan0.mono ?_; rintro e w2 ⟨rfl, hT⟩)
      go_ret2
      exact ⟨rfl, hT⟩
    · have hc2 : 1 < cap := by simp only [List.length_nil] at hcap; omega
      go_enter Try.func10, Try.ntmps10
      go_wp2_with (go_at_call 26; refine hh.mono ?_; rintro e w' ⟨rfl, rfl⟩)
      refine wp_loop_rounds 1 ?_
      rw [rounds_succ]
      go_wp2_with (go_at_call 18; refine hcan0.mono ?_; rintro e w2 ⟨rfl, hT⟩)
      go_ret2
      exact ⟨rfl, hT⟩
  · have hl1 : 1 ≤ r.length := by
      cases r with
      | nil => exact absurd rfl h1
      | cons y r => simp
    clear h1
    go_enter Try.func10, Try.ntmps10
    go_wp2_with (go_at_call 26; refine hh.mono ?_; rintro e w' ⟨rfl, rfl⟩)
    go_loopw [8, 59] (fun f ix wr => ∃ k q : Nat, k ≤ r.length ∧ ix = .int .i64 k ∧ f = .int .i64 (bestF K x (r.take k)) ∧ wr = w.drewN q) (fun _ ix _ => r.length - (intOf ix).toNat)
    case atStart => exact ⟨0, 0, Nat.zero_le _, rfl, rfl, rfl⟩
    case round =>
      obtain ⟨k, q, hkr, rfl, rfl, rfl⟩ := hrel
      by_cases hlt : k < r.length
      · have hy := Hcr.out k hlt
        have hbt := Lib.hid (bestF_take K x r k hlt)
        have hm1 := Hhr.out (r.getD k 0) (List.mem_cons_of_mem _ (getD_mem r k hlt))
        have hm2 := Hhr.out (bestF K x (r.take k)) (by
          have := bestF_mem K x (r.take k)
          rw [List.mem_cons] at this ⊢
          exact this.imp id (fun h => List.mem_of_mem_take h))
        obtain ⟨y, hyy⟩ : ∃ y, y = r.getD k 0 := ⟨_, rfl⟩
        obtain ⟨f, hff⟩ : ∃ f, f = bestF K x (r.take k) := ⟨_, rfl⟩
        rw [← hyy, ← hff] at hbt
        rw [← hyy] at hy hm1
        rw [← hff] at hm2 ⊢
        have Hm1 := Lib.hid hm1
        have Hm2 := Lib.hid hm2
        clear hyy hff hm1 hm2
        have hkq : KR (w.drewN q) bk K := hk.upd ((Upd.refl (fun _ => False) w).drewN q) (fun h => h)
        by_cases hcmp : K f.toNat < K y.toNat
        · have hbf := before_int hkq y f Hm1.out Hm2.out true (by simpa using hcmp)
          have hres := Lib.hid (show bestF K x (r.take (k + 1)) = y by rw [hbt.out, if_pos hcmp])
          clear hkq hcmp
          go_wp2_with (go_at_call 11; refine hbf.mono ?_; rintro e w2 ⟨rfl, q2, rfl⟩)
          go_roundw
          case rel => exact ⟨k + 1, q + q2, by omega, by go_num, by rw [hres.out], rfl⟩
          case measure => simp [intOf]; omega
        · have hbf := before_int hkq y f Hm1.out Hm2.out false (by simpa using hcmp)
          have hres := Lib.hid (show bestF K x (r.take (k + 1)) = f by rw [hbt.out, if_neg hcmp])
          clear hkq hcmp
          go_wp2_with (go_at_call 11; refine hbf.mono ?_; rintro e w2 ⟨rfl, q2, rfl⟩)
          go_roundw
          case rel => exact ⟨k + 1, q + q2, by omega, by go_num, by rw [hres.out], rfl⟩
          case measure => simp [intOf]; omega
      · rw [show r.take k = r from List.take_of_length_le (by omega)]
        go_wp2_with (go_at_call 18; refine (hcan q).mono ?_; rintro e w2 ⟨rfl, hT⟩)
        go_ret2
        exact ⟨rfl, hT.drewN⟩
end Go.Proofs.Ytgkchpifogfohaa
