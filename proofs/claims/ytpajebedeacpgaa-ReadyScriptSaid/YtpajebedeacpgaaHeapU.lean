/-
  The heap's own calls: New, Has, Len, Min, Push, Pop.
-/
import Derived.Test.YtpajebedeacpgaaHeapR
namespace Go.Proofs.Ytpajebedeacpgaa
set_option linter.unusedSimpArgs false
set_option linter.unusedVariables false
open Go.RowKit Go.Lib Own
open RegJ hiding Up
open RegF hiding put_size

set_option maxRecDepth 100000 in
theorem at_fn (i k id : Int) (box : Nat) (w : World) (hb : Blk w box #[.int .i64 id] 3) (r : Bool) (hr : (i == id) = r) :
    Calls Try.prog 66 #[.agg #[.int .i64 i, .int .i64 k], .pointer (some ⟨box, 0, none⟩)] w fun e w' => e = .returned (.bool r) ∧ Below w.heap.size w w' := by
  subst hr
  have c1 := hb.rd
  have hl := hb.lt
  clear hb
  go_enter Try.func66, Try.ntmps66
  go_wp2
  all_goals go_ret
  all_goals exact ⟨rfl, (Below.refl _ _).alloc (Nat.le_refl _) _⟩
def IxP (id : Int) (xs : List It) (w : World) (e : Ending) (w' : World) : Prop := ∃ j : Int, e = .returned (.int .i64 j) ∧ ((j = -1 ∧ ∀ c, c < xs.length → (X xs c).1 ≠ id) ∨ ∃ m, m < xs.length ∧ j = (m : Nat) ∧ (X xs m).1 = id) ∧ Below w.heap.size w w'
set_option maxRecDepth 100000 in
theorem index_is {w : World} {v : Value} {xs : List It} {b : Option Nat} (h : Its w v xs b) (hmax : xs.length ≤ 2000) (id : Int) (box : Nat) (hb : Blk w box #[.int .i64 id] 3) :
    Calls Try.prog 65 #[v, .func (.func 66) #[] #[.pointer (some ⟨box, 0, none⟩)]] w (IxP id xs w) := by
  obtain ⟨a, c, rfl⟩ := h.slice
  have H := Lib.hid (And.intro h hb)
  generalize hL : xs.length = L at *
  clear h hb
  go_enter Try.func65, Try.ntmps65
  go_wp2
  go_loopw [5, 8] (fun _ kx wr => ∃ k : Nat, k ≤ L ∧ kx = .int .i64 k ∧ (∀ j, j < k → (X xs j).1 ≠ id) ∧ Below w.heap.size w wr) (fun _ kx _ => L - (intOf kx).toNat)
  case atStart => exact ⟨0, Nat.zero_le _, rfl, fun j hj => by omega, Below.refl _ _⟩
  case round =>
    obtain ⟨k, hk, rfl, hno, hbw⟩ := hrel
    have HN := Lib.hid (And.intro hno hbw)
    by_cases hkl : k < L
    · have d1 : decide ((k : Int) < (L : Int)) = true := by simp; omega
      have i1 : (k : Int) < (L : Int) := by omega
      obtain ⟨g, cap, rest, hv, rfl, hB, hc, hm⟩ : ∃ g cap rest, Value.slice a L c = .slice (some ⟨g, 0, none⟩) L cap ∧ b = some g ∧ Blk w g (pcells xs ++ rest).toArray 72 ∧ cap * 2 = (pcells xs ++ rest).length ∧ cap ≤ maxLen := by
        rcases H.out.1 with ⟨_, h0, _⟩ | h
        · rw [h0] at hL; simp at hL; omega
        · rw [hL] at h; exact h
      simp only [Value.slice.injEq] at hv
      obtain ⟨rfl, -, rfl⟩ := hv
      have hB' : Blk _ g (pcells xs ++ rest).toArray 72 := Blk.below hbw hB hB.lt
      obtain ⟨c1, c2⟩ := blk_its hB' k (by omega)
      obtain ⟨p, q, hpq⟩ : ∃ p q, X xs k = (p, q) := ⟨_, _, rfl⟩
      have e1 : xs.getD k (0, 0) = (p, q) := hpq
      rw [e1] at c1 c2
      clear e1
      have hbx := Blk.below hbw H.out.2 H.out.2.lt
      by_cases hx : p = id
      · have ha := fun w hb => at_fn p q id box w hb true (by simpa using hx)
        have HX := Lib.hid (show (X xs k).1 = id by rw [hpq]; exact hx)
        have HB := Lib.hid hbx
        clear hpq hx hbx hB hB' hc hm hno hbw
        go_wp2_with (go_at_call 66; refine (ha _ HB.out).mono ?_; rintro e w2 ⟨rfl, hb2⟩)
        go_ret
        exact ⟨k, rfl, Or.inr ⟨k, by omega, rfl, HX.out⟩, HN.out.2.trans (hb2.mono HN.out.2.size)⟩
      · have ha := fun w hb => at_fn p q id box w hb false (by simpa using hx)
        have HX := Lib.hid (show (X xs k).1 ≠ id by rw [hpq]; exact hx)
        have HB := Lib.hid hbx
        clear hpq hx hbx hB hB' hc hm hno hbw
        go_wp2_with (go_at_call 66; refine (ha _ HB.out).mono ?_; rintro e w2 ⟨rfl, hb2⟩)
        go_roundw
        case rel => exact ⟨k + 1, by omega, by go_num, fun j hj => by
          by_cases hjk : j = k
          · subst hjk; exact HX.out
          · exact HN.out.1 j (by omega), HN.out.2.trans (hb2.mono HN.out.2.size)⟩
        case measure => simp [intOf]; omega
    · have d1 : decide ((k : Int) < (L : Int)) = false := by simp; omega
      clear hno hbw
      go_wp2
      go_ret
      exact ⟨-1, rfl, Or.inl ⟨rfl, fun j hj => HN.out.1 j (by omega)⟩, HN.out.2⟩
set_option maxRecDepth 100000 in
theorem at_is {w : World} {bh : Nat} {xs : List It} {b : Option Nat} (h : Hh w bh xs b) (id : Int) :
    Calls Try.prog 47 #[.pointer (some ⟨bh, 0, none⟩), .int .i64 id] w (IxP id xs w) := by
  obtain ⟨v, hb, hI, hne, hmax⟩ := h
  have hb' := hb.alloc (.cells #[.int .i64 id] 3)
  have hI' := hI.upd ((Upd.refl (fun _ => False) w).alloc (.cells #[.int .i64 id] 3)) (fun _ _ h => h)
  have hix := index_is hI' hmax id w.heap.size (Blk.new _ _ _)
  have c1 := hb'.rd
  clear hb hb' hI hI' hne
  go_enter Try.func47, Try.ntmps47
  go_wp2_with (go_at_call 65; refine hix.mono ?_; rintro e w1 ⟨j, rfl, hj, hB⟩)
  go_ret
  exact ⟨j, rfl, hj, ((Below.refl _ _).alloc (Nat.le_refl _) _).trans (hB.mono (by simp))⟩
def BoolB (r : Bool) (w : World) (e : Ending) (w' : World) : Prop := e = .returned (.bool r) ∧ Below w.heap.size w w'
def hasB (xs : List It) (id : Int) : Bool := xs.any fun p => p.1 == id
theorem hasB_iff (xs : List It) (id : Int) : hasB xs id = true ↔ ∃ c, c < xs.length ∧ (X xs c).1 = id := by
  unfold hasB
  rw [List.any_eq_true]
  constructor
  · rintro ⟨p, hp, he⟩
    obtain ⟨c, hc, rfl⟩ := List.getElem_of_mem hp
    exact ⟨c, hc, by unfold X; simpa [hc] using he⟩
  · rintro ⟨c, hc, he⟩
    exact ⟨xs[c], List.getElem_mem hc, by unfold X at he; simpa [hc] using he⟩
theorem has_is {w : World} {bh : Nat} {xs : List It} {b : Option Nat} (h : Hh w bh xs b) (id : Int) (r : Bool) (hr : hasB xs id = r) :
    Calls Try.prog 59 #[.pointer (some ⟨bh, 0, none⟩), .int .i64 id] w (BoolB r w) := by
  have ha := at_is h id
  have HR := Lib.hid hr
  clear h hr
  go_enter Try.func59, Try.ntmps59
  go_wp2_with (go_at_call 47; refine ha.mono ?_; rintro e w1 ⟨j, rfl, hj, hB⟩)
  all_goals
    go_ret
    refine ⟨ret_bool ?_, hB⟩
    rw [← HR.out]
    rcases hj with ⟨rfl, hno⟩ | ⟨m, hm, rfl, hx⟩
    · have : hasB xs id = false := by
        rw [Bool.eq_false_iff]; intro h
        obtain ⟨c, hc, he⟩ := (hasB_iff xs id).1 h
        exact hno c hc he
      rw [this]; simp
    · rw [(hasB_iff xs id).2 ⟨m, hm, hx⟩]; simp
theorem len_is {w : World} {bh : Nat} {xs : List It} {b : Option Nat} (h : Hh w bh xs b) (n : Nat) (hn : xs.length = n) :
    Calls Try.prog 54 #[.pointer (some ⟨bh, 0, none⟩)] w fun e w' => e = .returned (.int .i64 n) ∧ w = w' := by
  obtain ⟨v, hb, hI, hne, hmax⟩ := h
  obtain ⟨a, c, rfl⟩ := hI.slice
  rw [hn] at hb
  have c1 := hb.rd
  clear hb hI hne hn
  go_enter Try.func54, Try.ntmps54
  go_wp2
  go_ret
  exact ⟨rfl, rfl⟩
theorem hnew (w : World) : Calls Try.prog 27 #[] w fun e w' => e = .returned (.pointer (some ⟨w.heap.size, 0, none⟩)) ∧ w' = w.alloc (.cells #[.slice none 0 0] 83) := by
  go_enter Try.func27, Try.ntmps27
  go_wp2
  go_ret
  exact ⟨rfl, rfl⟩
theorem hp_new (w : World) : Hp (w.alloc (.cells #[.slice none 0 0] 83)) w.heap.size [] none := ⟨⟨_, Blk.new _ _ _, Or.inl ⟨rfl, rfl, rfl⟩, (fun g hg => by cases hg), by simp⟩, (fun c h1 h2 => by simp at h2)⟩

/-! ### Push, Min, Pop -/
def HpP (v : Value) (bh : Nat) (b : Option Nat) (w : World) (xs : List It) (e : Ending) (w' : World) : Prop := e = .returned v ∧ ∃ ys b', ys.Perm xs ∧ Hp w' bh ys b' ∧ HFr bh b b' w w'
set_option maxRecDepth 100000 in
theorem push_ok {w : World} {bh : Nat} {xs : List It} {b : Option Nat} (h : Hp w bh xs b) (hlen : xs.length ≤ 1000) (id k : Int) (hid : 0 ≤ id) (hno : hasB xs id = false) :
    Calls Try.prog 42 #[.pointer (some ⟨bh, 0, none⟩), .int .i64 id, .int .i64 k] w (HpP (.int .i64 0) bh b w (xs ++ [(id, k)])) := by
  have hh := has_is h.1 id false hno
  have H := Lib.hid h
  clear h hno
  go_enter Try.func42, Try.ntmps42
  go_wp2_with (first
    | (go_at_call 59; (with_reducible refine hh.mono ?_); rintro e w1 ⟨rfl, hB⟩; clear hh; have hp := hpush ⟨H.out.1.below hB, H.out.2⟩ hlen id k; have HB := Lib.hid hB; clear hB)
    | (go_at_call 60; (with_reducible refine hp.mono ?_); rintro e w2 ⟨⟨v, rfl⟩, ys, b', hpm, hp2, hf⟩; clear hp; have H2 := Lib.hid (And.intro hpm (And.intro hp2 hf)); clear hpm hp2 hf))
  go_ret
  exact ⟨rfl, ys, b', H2.out.1, H2.out.2.1, (HFr.of_below HB.out).trans H2.out.2.2⟩
set_option maxRecDepth 100000 in
theorem push_busy {w : World} {bh : Nat} {xs : List It} {b : Option Nat} (h : Hp w bh xs b) (id k : Int) (hid : 0 ≤ id) (hno : hasB xs id = true) :
    Calls Try.prog 42 #[.pointer (some ⟨bh, 0, none⟩), .int .i64 id, .int .i64 k] w fun e w' => e = .returned (.int .i64 5) ∧ Below w.heap.size w w' := by
  have hh := has_is h.1 id true hno
  clear h hno
  go_enter Try.func42, Try.ntmps42
  go_wp2_with (go_at_call 59; (with_reducible refine hh.mono ?_); rintro e w1 ⟨rfl, hB⟩; clear hh; have HB := Lib.hid hB; clear hB)
  go_ret
  exact ⟨rfl, HB.out⟩
end Go.Proofs.Ytpajebedeacpgaa
/-
  The heap's Min and Pop.
-/
namespace Go.Proofs.Ytpajebedeacpgaa
set_option linter.unusedSimpArgs false
set_option linter.unusedVariables false
open Go.RowKit Go.Lib Own
open RegJ hiding Up
open RegF hiding put_size

def ValB (v : Value) (w : World) (e : Ending) (w' : World) : Prop := e = .returned v ∧ Below w.heap.size w w'
abbrev IV (p q : Int) (b : Bool) : Value := .tuple #[.agg #[.int .i64 p, .int .i64 q], .bool b]
set_option maxRecDepth 100000 in
theorem min_none {w : World} {bh : Nat} {b : Option Nat} (h : Hh w bh [] b) :
    Calls Try.prog 37 #[.pointer (some ⟨bh, 0, none⟩)] w (ValB (IV 0 0 false) w) := by
  have h1 := h.below (Below.alloc (Below.refl w.heap.size w) (Nat.le_refl _) (.cells #[.int .i64 0, .int .i64 0] 72))
  have hl := len_is h1 0 rfl
  clear h h1
  go_enter Try.func37, Try.ntmps37
  go_wp2_with (go_at_call 54; refine hl.mono ?_; rintro e w1 ⟨rfl, rfl⟩)
  go_returns
  exact ⟨rfl, (Below.refl _ _).alloc (Nat.le_refl _) _⟩
set_option maxRecDepth 100000 in
theorem min_some {w : World} {bh : Nat} {xs : List It} {b : Option Nat} (h : Hh w bh xs b) (hne : xs ≠ []) (p q : Int) (hX : X xs 0 = (p, q)) :
    Calls Try.prog 37 #[.pointer (some ⟨bh, 0, none⟩)] w (ValB (IV p q true) w) := by
  have h1 := h.below (Below.alloc (Below.refl w.heap.size w) (Nat.le_refl _) (.cells #[.int .i64 0, .int .i64 0] 72))
  obtain ⟨n, hn⟩ : ∃ n, xs.length = n + 1 := ⟨xs.length - 1, by have := List.length_pos_iff.2 hne; omega⟩
  have hl := len_is h1 (n + 1) hn
  have hmx := h
  obtain ⟨_, _, _, _, hmax⟩ := hmx
  obtain ⟨g, cap, rest, rfl, hs, hc, hm⟩ := hh_hs h1 hne
  obtain ⟨k1, k2⟩ := blk_its hs.hg 0 (by omega)
  have e1 : xs.getD 0 (0, 0) = (p, q) := hX
  rw [e1] at k1 k2
  rw [hn] at hs hmax
  have c1 := hs.hb.rd
  have i1 : (((n + 1 : Nat) : Int) == 0) = false := by simp; omega
  have i2 : (0 : Int) < ((n : Int) + 1) := by omega
  have i3 : (((n : Int) + 1) == 0) = false := by simp; omega
  simp only [Nat.zero_mul, Nat.zero_add] at k1 k2
  clear h h1 hs hc hm hX e1 hn hne
  go_enter Try.func37, Try.ntmps37
  go_wp2_with (go_at_call 54; refine hl.mono ?_; rintro e w1 ⟨rfl, rfl⟩)
  go_returns
  exact ⟨rfl, (Below.refl _ _).alloc (Nat.le_refl _) _⟩
theorem Hh.lt {w : World} {bh : Nat} {xs : List It} {b : Option Nat} (h : Hh w bh xs b) : bh < w.heap.size ∧ ∀ g, b = some g → g < w.heap.size := by
  obtain ⟨v, h1, h2, _⟩ := h
  exact ⟨h1.lt, h2.lt⟩
set_option maxRecDepth 100000 in
theorem pop_none {w : World} {bh : Nat} {b : Option Nat} (h : Hh w bh [] b) :
    Calls Try.prog 111 #[.pointer (some ⟨bh, 0, none⟩)] w (ValB (IV 0 0 false) w) := by
  have h1 := h.below (Below.alloc (Below.refl w.heap.size w) (Nat.le_refl _) (.cells #[.int .i64 0, .int .i64 0] 72))
  have hl := min_none h1
  have hc0 := Blk.new w #[.int .i64 0, .int .i64 0] 72
  clear h h1
  go_enter Try.func111, Try.ntmps111
  go_wp2_with (go_at_call 37; refine hl.mono ?_; rintro e w1 ⟨rfl, hB⟩; have h0 := Blk.below hB hc0 (by simp); have c1 := h0.rd; have f1 := h0.nf; have hsz := h0.lt; have HB := Lib.hid hB; clear hB h0)
  have hf := ((((Blk.below HB.out hc0 (by simp)).set 0 (.int .i64 0)).set 1 (.int .i64 0)).alloc (.cells #[.int .i64 0, .int .i64 0] 72))
  refine bodyPost_ret (v := IV 0 0 false) (by simp [results, Try.results111, go_sem, hf.rd]) rfl ?_
  have hb : Below w.heap.size w w1 := ((Below.refl _ _).alloc (Nat.le_refl _) _).trans (HB.out.mono (by simp))
  exact ⟨rfl, ((hb.setCell (p := ⟨w.heap.size, 0, none⟩) (Nat.le_refl _) _).setCell (p := ⟨w.heap.size, 1, none⟩) (Nat.le_refl _) _).alloc (by simpa [World.setCell] using Nat.le_of_lt hsz) _⟩
theorem HPopP_eq {bh : Nat} {b : Option Nat} {w : World} {xs : List It} {p q : Int} (hX : X xs 0 = (p, q)) : HPopP bh b w xs = fun e w' => e = .returned (.iface 72 (.agg #[.int .i64 p, .int .i64 q])) ∧ ∃ ys, (ys ++ [(p, q)]).Perm xs ∧ Hp w' bh ys b ∧ HFr bh b b w w' := by
  funext e w'; unfold HPopP; rw [hX]
theorem hf3w {bh : Nat} {b : Option Nat} {w w1 w3 : World} {o o' : Obj} (hf : HFr bh b b (w1.alloc o) w3) (hl : bh < w.heap.size ∧ ∀ g, b = some g → g < w.heap.size) (hB : Below (w.alloc o').heap.size (w.alloc o') w1) : Upd (fun k => k = bh ∨ b = some k) w w3 := by
  have h1 : Below w.heap.size w (w1.alloc o) := (((Below.refl _ _).alloc (Nat.le_refl _) o').trans (hB.mono (by simp))).alloc (by have := hB.size; simp at this; omega) _
  exact (Upd.of_below (F := fun k => k = bh ∨ b = some k) h1).trans hf.1 (fun _ _ h => h)
def HpopP (p q : Int) (bh : Nat) (b : Option Nat) (w : World) (xs : List It) (e : Ending) (w' : World) : Prop := e = .returned (IV p q true) ∧ ∃ ys, (ys ++ [(p, q)]).Perm xs ∧ Hp w' bh ys b ∧ HFr bh b b w w'
set_option maxRecDepth 100000 in
theorem pop_some {w : World} {bh : Nat} {xs : List It} {b : Option Nat} (h : Hp w bh xs b) (hne : xs ≠ []) (p q : Int) (hX : X xs 0 = (p, q)) :
    Calls Try.prog 111 #[.pointer (some ⟨bh, 0, none⟩)] w (HpopP p q bh b w xs) := by
  have h1 := h.1.below (Below.alloc (Below.refl w.heap.size w) (Nat.le_refl _) (.cells #[.int .i64 0, .int .i64 0] 72))
  have hl := min_some h1 hne p q hX
  have hc0 := Blk.new w #[.int .i64 0, .int .i64 0] 72
  have hlt := h.1.lt
  have H := Lib.hid (And.intro h1 (And.intro h.2 (And.intro hne (And.intro hX hlt))))
  clear h h1 hne hX hlt
  go_enter Try.func111, Try.ntmps111
  go_wp2_with (first
    | (go_at_call 37; refine hl.mono ?_; rintro e w1 ⟨rfl, hB⟩; have h0 := Blk.below hB hc0 (by simp); have hsz := h0.lt; have hpp := hpop ⟨((H.out.1.below hB).below (Below.alloc (Below.refl w1.heap.size w1) (Nat.le_refl _) (.cells #[.int .i64 p, .int .i64 q] 72))), H.out.2.1⟩ H.out.2.2.1; rw [HPopP_eq H.out.2.2.2.1] at hpp; have hn1 := h0.alloc (.cells #[.int .i64 p, .int .i64 q] 72); have hn2 := Blk.new w1 #[.int .i64 p, .int .i64 q] 72; have HB := Lib.hid (And.intro hB (And.intro hn1 hn2)); clear hl hB h0 hc0 hn1 hn2)
    | (go_at_call 112; refine hpp.mono ?_; rintro e w3 ⟨rfl, ys, hpm, hp3, hf3⟩; clear hpp; have hn1 := Blk.upd hf3.1 HB.out.2.1 (by have := H.out.2.2.2.2; rintro (h | h); omega; have := this.2 _ h; omega); have hn2 := Blk.upd hf3.1 HB.out.2.2 (by have := H.out.2.2.2.2; rintro (h | h); omega; have := this.2 _ h; omega); have c1 := hn1.rd; have f1 := hn1.nf; have c2 := hn2.rd; have H3 := Lib.hid (And.intro hpm (And.intro hp3 hf3)); clear hn1 hn2 hpm hp3 hf3))
  have hu1 := hf3w H3.out.2.2 H.out.2.2.2.2 HB.out.1
  have hf := (((Blk.upd H3.out.2.2.1 HB.out.2.1 (by have := H.out.2.2.2.2; rintro (h | h); omega; have := this.2 _ h; omega)).set 0 (.int .i64 p)).set 1 (.int .i64 q))
  refine bodyPost_ret (v := IV p q true) (by simp [results, Try.results111, go_sem, hf.rd]) rfl ?_
  have hl := H.out.2.2.2.2
  refine ⟨rfl, ys, H3.out.1, ⟨(H3.out.2.1.1.upd (((Upd.refl (fun k => k = w.heap.size) w3).setCell (p := ⟨w.heap.size, 0, none⟩) (fun _ => rfl) _).setCell (p := ⟨w.heap.size, 1, none⟩) (fun _ => rfl) _) (by omega) (fun g hg e => by have := hl.2 g hg; omega)), H3.out.2.1.2⟩, ?_, fun g hg => Or.inl hg⟩
  exact ((hu1.setCell (p := ⟨w.heap.size, 0, none⟩) (fun h => absurd h (by simp)) _).setCell (p := ⟨w.heap.size, 1, none⟩) (fun h => absurd h (by simp)) _)
end Go.Proofs.Ytpajebedeacpgaa
