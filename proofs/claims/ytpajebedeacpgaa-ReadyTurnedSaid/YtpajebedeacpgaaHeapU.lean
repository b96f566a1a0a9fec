/-
  The heap's Min and Pop.
-/
import Derived.Test.YtpajebedeacpgaaHeapT
namespace Go.Proofs.Ytpajebedeacpgaa
set_option linter.unusedSimpArgs false
set_option linter.unusedVariables false
open Go.RowKit Go.Lib Own
open RegJ hiding Up
open RegF hiding put_size

def ValB (v : Value) (w : World) (e : Ending) (w' : World) : Prop := e = .returned v ∧ Below w.heap.size w w'
abbrev IV (p q : Int) (b : Bool) : Value := .tuple #[.agg #[.int .i64 p, .int .i64 q], .bool b]
set_option maxRecDepth 100000 in
theorem min_none {w : World} {bh : Nat} {b : Option Nat} (h : Hh w bh [] b) :
    Calls Try.prog 37 #[.pointer (some ⟨bh, 0, none⟩)] w (ValB (IV 0 0 false) w) := by
  have h1 := h.below (Below.alloc (Below.refl w.heap.size w) (Nat.le_refl _) (.cells #[.int .i64 0, .int .i64 0] 72))
  have hl := len_is h1 0 rfl
  clear h h1
  go_enter Try.func37, Try.ntmps37
  go_wp2_with (go_at_call 54; refine hl.mono ?_; rintro e w1 ⟨rfl, rfl⟩)
  go_returns
  exact ⟨rfl, (Below.refl _ _).alloc (Nat.le_refl _) _⟩
set_option maxRecDepth 100000 in
theorem min_some {w : World} {bh : Nat} {xs : List It} {b : Option Nat} (h : Hh w bh xs b) (hne : xs ≠ []) (p q : Int) (hX : X xs 0 = (p, q)) :
    Calls Try.prog 37 #[.pointer (some ⟨bh, 0, none⟩)] w (ValB (IV p q true) w) := by
  have h1 := h.below (Below.alloc (Below.refl w.heap.size w) (Nat.le_refl _) (.cells #[.int .i64 0, .int .i64 0] 72))
  obtain ⟨n, hn⟩ : ∃ n, xs.length = n + 1 := ⟨xs.length - 1, by have := List.length_pos_iff.2 hne; omega⟩
  have hl := len_is h1 (n + 1) hn
  have hmx := h
  obtain ⟨_, _, _, _, hmax⟩ := hmx
  obtain ⟨g, cap, rest, rfl, hs, hc, hm⟩ := hh_hs h1 hne
  obtain ⟨k1, k2⟩ := blk_its hs.hg 0 (by omega)
  have e1 : xs.getD 0 (0, 0) = (p, q) := hX
  rw [e1] at k1 k2
  rw [hn] at hs hmax
  have c1 := hs.hb.rd
  have i1 : (((n + 1 : Nat) : Int) == 0) = false := by simp; omega
  have i2 : (0 : Int) < ((n : Int) + 1) := by omega
  have i3 : (((n : Int) + 1) == 0) = false := by simp; omega
  simp only [Nat.zero_mul, Nat.zero_add] at k1 k2
  clear h h1 hs hc hm hX e1 hn hne
  go_enter Try.func37, Try.ntmps37
  go_wp2_with (go_at_call 54; refine hl.mono ?_; rintro e w1 ⟨rfl, rfl⟩)
  go_returns
  exact ⟨rfl, (Below.refl _ _).alloc (Nat.le_refl _) _⟩
theorem Hh.lt {w : World} {bh : Nat} {xs : List It} {b : Option Nat} (h : Hh w bh xs b) : bh < w.heap.size ∧ ∀ g, b = some g → g < w.heap.size := by
  obtain ⟨v, h1, h2, _⟩ := h
  exact ⟨h1.lt, h2.lt⟩
set_option maxRecDepth 100000 in
theorem pop_none {w : World} {bh : Nat} {b : Option Nat} (h : Hh w bh [] b) :
    Calls Try.prog 111 #[.pointer (some ⟨bh, 0, none⟩)] w (ValB (IV 0 0 false) w) := by
  have h1 := h.below (Below.alloc (Below.refl w.heap.size w) (Nat.le_refl _) (.cells #[.int .i64 0, .int .i64 0] 72))
  have hl := min_none h1
  have hc0 := Blk.new w #[.int .i64 0, .int .i64 0] 72
  clear h h1
  go_enter Try.func111, Try.ntmps111
  go_wp2_with (go_at_call 37; refine hl.mono ?_; rintro e w1 ⟨rfl, hB⟩; have h0 := Blk.below hB hc0 (by simp); have c1 := h0.rd; have f1 := h0.nf; have hsz := h0.lt; have HB := Lib.hid hB; clear hB h0)
  have hf := ((((Blk.below HB.out hc0 (by simp)).set 0 (.int .i64 0)).set 1 (.int .i64 0)).alloc (.cells #[.int .i64 0, .int .i64 0] 72))
  refine bodyPost_ret (v := IV 0 0 false) (by simp [results, Try.results111, go_sem, hf.rd]) rfl ?_
  have hb : Below w.heap.size w w1 := ((Below.refl _ _).alloc (Nat.le_refl _) _).trans (HB.out.mono (by simp))
  exact ⟨rfl, ((hb.setCell (p := ⟨w.heap.size, 0, none⟩) (Nat.le_refl _) _).setCell (p := ⟨w.heap.size, 1, none⟩) (Nat.le_refl _) _).alloc (by simpa [World.setCell] using Nat.le_of_lt hsz) _⟩
theorem HPopP_eq {bh : Nat} {b : Option Nat} {w : World} {xs : List It} {p q : Int} (hX : X xs 0 = (p, q)) : HPopP bh b w xs = fun e w' => e = .returned (.iface 72 (.agg #[.int .i64 p, .int .i64 q])) ∧ ∃ ys, (ys ++ [(p, q)]).Perm xs ∧ Hp w' bh ys b ∧ HFr bh b b w w' := by
  funext e w'; unfold HPopP; rw [hX]
theorem hf3w {bh : Nat} {b : Option Nat} {w w1 w3 : World} {o o' : Obj} (hf : HFr bh b b (w1.alloc o) w3) (hl : bh < w.heap.size ∧ ∀ g, b = some g → g < w.heap.size) (hB : Below (w.alloc o').heap.size (w.alloc o') w1) : Upd (fun k => k = bh ∨ b = some k) w w3 := by
  have h1 : Below w.heap.size w (w1.alloc o) := (((Below.refl _ _).alloc (Nat.le_refl _) o').trans (hB.mono (by simp))).alloc (by have := hB.size; simp at this; omega) _
  exact (Upd.of_below (F := fun k => k = bh ∨ b = some k) h1).trans hf.1 (fun _ _ h => h)
def HpopP (p q : Int) (bh : Nat) (b : Option Nat) (w : World) (xs : List It) (e : Ending) (w' : World) : Prop := e = .returned (IV p q true) ∧ ∃ ys, (ys ++ [(p, q)]).Perm xs ∧ Hp w' bh ys b ∧ HFr bh b b w w'
set_option maxRecDepth 100000 in
theorem pop_some {w : World} {bh : Nat} {xs : List It} {b : Option Nat} (h : Hp w bh xs b) (hne : xs ≠ []) (p q : Int) (hX : X xs 0 = (p, q)) :
    Calls Try.prog 111 #[.pointer (some ⟨bh, 0, none⟩)] w (HpopP p q bh b w xs) := by
  have h1 := h.1.below (Below.alloc (Below.refl w.heap.size w) (Nat.le_refl _) (.cells #[.int .i64 0, .int .i64 0] 72))
  have hl := min_some h1 hne p q hX
  have hc0 := Blk.new w #[.int .i64 0, .int .i64 0] 72
  have hlt := h.1.lt
  have H := Lib.hid (And.intro h1 (And.intro h.2 (And.intro hne (And.intro hX hlt))))
  clear h h1 hne hX hlt
  go_enter Try.func111, Try.ntmps111
  go_wp2_with (first
    | (go_at_call 37; refine hl.mono ?_; rintro e w1 ⟨rfl, hB⟩; have h0 := Blk.below hB hc0 (by simp); have hsz := h0.lt; have hpp := hpop ⟨((H.out.1.below hB).below (Below.alloc (Below.refl w1.heap.size w1) (Nat.le_refl _) (.cells #[.int .i64 p, .int .i64 q] 72))), H.out.2.1⟩ H.out.2.2.1; rw [HPopP_eq H.out.2.2.2.1] at hpp; have hn1 := h0.alloc (.cells #[.int .i64 p, .int .i64 q] 72); have hn2 := Blk.new w1 #[.int .i64 p, .int .i64 q] 72; have HB := Lib.hid (And.intro hB (And.intro hn1 hn2)); clear hl hB h0 hc0 hn1 hn2)
    | (go_at_call 112; refine hpp.mono ?_; rintro e w3 ⟨rfl, ys, hpm, hp3, hf3⟩; clear hpp; have hn1 := Blk.upd hf3.1 HB.out.2.1 (by have := H.out.2.2.2.2; rintro (h | h); omega; have := this.2 _ h; omega); have hn2 := Blk.upd hf3.1 HB.out.2.2 (by have := H.out.2.2.2.2; rintro (h | h); omega; have := this.2 _ h; omega); have c1 := hn1.rd; have f1 := hn1.nf; have c2 := hn2.rd; have H3 := Lib.hid (And.intro hpm (And.intro hp3 hf3)); clear hn1 hn2 hpm hp3 hf3))
  have hu1 := hf3w H3.out.2.2 H.out.2.2.2.2 HB.out.1
  have hf := (((Blk.upd H3.out.2.2.1 HB.out.2.1 (by have := H.out.2.2.2.2; rintro (h | h); omega; have := this.2 _ h; omega)).set 0 (.int .i64 p)).set 1 (.int .i64 q))
  refine bodyPost_ret (v := IV p q true) (by simp [results, Try.results111, go_sem, hf.rd]) rfl ?_
  have hl := H.out.2.2.2.2
  refine ⟨rfl, ys, H3.out.1, ⟨(H3.out.2.1.1.upd (((Upd.refl (fun k => k = w.heap.size) w3).setCell (p := ⟨w.heap.size, 0, none⟩) (fun _ => rfl) _).setCell (p := ⟨w.heap.size, 1, none⟩) (fun _ => rfl) _) (by omega) (fun g hg e => by have := hl.2 g hg; omega)), H3.out.2.1.2⟩, ?_, fun g hg => Or.inl hg⟩
  exact ((hu1.setCell (p := ⟨w.heap.size, 0, none⟩) (fun h => absurd h (by simp)) _).setCell (p := ⟨w.heap.size, 1, none⟩) (fun h => absurd h (by simp)) _)
end Go.Proofs.Ytpajebedeacpgaa
