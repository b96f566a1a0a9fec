/-
  The queue: Change; the calls of no queue.
-/
import Derived.Test.YtpajebedeacpgaaRdp
namespace Go.Proofs.Ytpajebedeacpgaa
set_option linter.unusedSimpArgs false
set_option linter.unusedVariables false
open Go.RowKit Own Sl
open RegJ hiding Up
open RegF hiding put_size

def chgN (L : List One) (x : One) : Int := if may x.2 = false then 2 else if hasO L x.1 = true then 0 else 4
def chgL (L : List One) (x : One) : List One := if chgN L x = 0 then insA (delA L x.1) x else L
section
variable {w w' : World} {qb : Nat} {L : List One} {lo : Lo} {N : Nat}
set_option maxRecDepth 100000 in
theorem qchg_arg (id c l d : Int) (hm : may (c, l, d) = false) : Calls Try.prog 14 #[.pointer (some ⟨qb, 0, none⟩), .int .i64 id, .agg #[.int .i64 c, .int .i64 l, .int .i64 d]] w (ValB (.int .i64 2) w) := by
  have hB0 := Lib.hid (blk3 w c l d)
  have hmy := may_is (c, l, d)
  rw [hm] at hmy
  unfold prV at hmy
  simp only at hmy
  clear hm
  go_enter Try.func14, Try.ntmps14
  go_wp2_with (go_at_call 24; (with_reducible refine (hmy _).mono ?_); rintro e w1 ⟨rfl, hB1⟩; have HB1 := Lib.hid hB1; clear hB1 hmy)
  go_returns
  exact ⟨rfl, hB0.out.trans (HB1.out.mono hB0.out.size)⟩
set_option maxRecDepth 100000 in
theorem qchg_none (h : QA w qb L lo N) (id c l d : Int) (hm : may (c, l, d) = true) (hb : hasO L id = false) (hid : (Lit.int .i64 id).wf = true) : Calls Try.prog 14 #[.pointer (some ⟨qb, 0, none⟩), .int .i64 id, .agg #[.int .i64 c, .int .i64 l, .int .i64 d]] w (ValB (.int .i64 4) w) := by
  have hB0 := Lib.hid (blk3 w c l d)
  have hmy := may_is (c, l, d)
  rw [hm] at hmy
  unfold prV at hmy
  simp only at hmy
  have H := Lib.hid (And.intro h hb)
  clear hm h hb
  go_enter Try.func14, Try.ntmps14
  go_wp2_with (first
    | (go_at_call 24; (with_reducible refine (hmy _).mono ?_); rintro e w1 ⟨rfl, hB1⟩; have hd := qdrop_no ((H.out.1.below hB0.out).below hB1) id H.out.2 hid; have HB1 := Lib.hid (hB0.out.trans (hB1.mono hB0.out.size)); clear hB1 hmy)
    | (go_at_call 12; (with_reducible refine hd.mono ?_); rintro e w2 ⟨rfl, hB2⟩; have HB2 := Lib.hid (HB1.out.trans (hB2.mono HB1.out.size)); clear hB2 hd))
  go_returns
  exact ⟨rfl, HB2.out⟩
theorem delA_no (id : Int) : id ∉ (delA L id).map Prod.fst := by
  intro h
  obtain ⟨x, hx, e⟩ := List.mem_map.1 h
  exact (delA_mem.1 hx).2 e
set_option maxRecDepth 100000 in
theorem qchg_ok (h : QA w qb L lo N) (id c l d : Int) (hm : may (c, l, d) = true) (hb : hasO L id = true) (hid : (Lit.int .i64 id).wf = true) (hN : N < 1000) (hLN : L.length ≤ N) :
    Calls Try.prog 14 #[.pointer (some ⟨qb, 0, none⟩), .int .i64 id, .agg #[.int .i64 c, .int .i64 l, .int .i64 d]] w (AddX w qb (insA (delA L id) (id, c, l, d)) lo (N + 1) 0) := by
  have hB0 := Lib.hid (blk3 w c l d)
  have hbx := Blk.new w #[.int .i64 c, .int .i64 l, .int .i64 d] 31
  have hmy := may_is (c, l, d)
  rw [hm] at hmy
  unfold prV at hmy
  simp only at hmy
  have h0 : 0 ≤ id := by
    obtain ⟨x, hx, e⟩ := List.mem_map.1 (hasO_iff.1 hb)
    have := (h.gd.ok x hx).1
    omega
  have hll : (delA L id).length ≤ N := Nat.le_trans (List.length_filter_le _ _) hLN
  have hnb : ∀ r k, lo r = some k → k ≠ w.heap.size := fun r k hk e => by
    obtain ⟨R, W, hQ, _⟩ := h.ex
    have := hQ.lt r k hk
    omega
  have H := Lib.hid (And.intro h (And.intro hb (And.intro h0 (And.intro hm (And.intro hid (And.intro hN (And.intro hll (And.intro hbx hnb))))))))
  clear h0 hm h hb hN hLN hbx hll hnb
  go_enter Try.func14, Try.ntmps14
  go_wp2_with (first
    | (go_at_call 24; (with_reducible refine (hmy _).mono ?_); rintro e w1 ⟨rfl, hB1⟩; have hd := qdrop_yes ((H.out.1.below hB0.out).below hB1) H.out.2.1 hid (by have := H.out.2.2.2.2.2.1; omega); have hb1 := Blk.below hB1 H.out.2.2.2.2.2.2.2.1 (by simp); have HB1 := Lib.hid (And.intro (hB0.out.trans (hB1.mono hB0.out.size)) hb1); clear hB1 hmy hb1)
    | (go_at_call 12; (with_reducible refine hd.mono ?_); rintro e w2 ⟨rfl, lo2, hq2, hf2⟩; have hb2 := blk_one HB1.out.2 hf2 H.out.2.2.2.2.2.2.2.2; have c1 := hb2.rd; have hput := qput_is hq2 (id, c, l, d) (delA_no id) H.out.2.2.1 H.out.2.2.2.1 H.out.2.2.2.2.1 H.out.2.2.2.2.2.1 H.out.2.2.2.2.2.2.1; unfold prV at hput; simp only at hput; have HB2 := Lib.hid ((QFr.of_below (lo := lo) HB1.out.1).trans hf2); clear hb2 hq2 hf2 hd)
    | (go_at_call 28; (with_reducible refine hput.mono ?_); rintro e w3 ⟨rfl, lo3, hq3, hf3⟩; have HX := Lib.hid (And.intro hq3 hf3); clear hq3 hf3 hput))
  go_returns
  exact ⟨rfl, lo3, HX.out.1, HB2.out.trans HX.out.2⟩
theorem qchg_is (h : QA w qb L lo N) (x : One) (hid : (Lit.int .i64 x.1).wf = true) (hN : N < 1000) (hLN : L.length ≤ N) :
    Calls Try.prog 14 #[.pointer (some ⟨qb, 0, none⟩), .int .i64 x.1, prV x.2] w (AddX w qb (chgL L x) lo (N + 1) (chgN L x)) := by
  obtain ⟨id, c, l, d⟩ := x
  cases hm : may (c, l, d) with
  | false =>
    have e1 : chgN L (id, c, l, d) = 2 := by unfold chgN; rw [if_pos hm]
    have e2 : chgL L (id, c, l, d) = L := by unfold chgL; rw [e1]; rfl
    rw [e1, e2]
    exact (qchg_arg id c l d hm).mono fun e w' ⟨h3, h4⟩ => ⟨h3, QX.of_below h h4⟩
  | true =>
    cases hb : hasO L id with
    | false =>
      have e1 : chgN L (id, c, l, d) = 4 := by unfold chgN; rw [if_neg (by simp only [hm]; simp), if_neg (by simp only [hb]; simp)]
      have e2 : chgL L (id, c, l, d) = L := by unfold chgL; rw [e1]; rfl
      rw [e1, e2]
      exact (qchg_none h id c l d hm hb hid).mono fun e w' ⟨h3, h4⟩ => ⟨h3, QX.of_below h h4⟩
    | true =>
      have e1 : chgN L (id, c, l, d) = 0 := by unfold chgN; rw [if_neg (by simp only [hm]; simp), if_pos hb]
      have e2 : chgL L (id, c, l, d) = insA (delA L id) (id, c, l, d) := by unfold chgL; rw [e1]; rfl
      rw [e1, e2]
      exact qchg_ok h id c l d hm hb hid hN hLN
end
section none
variable (w : World)
theorem z_first : Calls Try.prog 18 #[.pointer none] w fun e w' => e = .returned (.tuple #[.int .i64 0, .bool false]) ∧ w = w' := by
  go_enter Try.func18, Try.ntmps18
  go_wp2
  go_returns
  exact ⟨rfl, rfl⟩
theorem z_has (id : Int) : Calls Try.prog 19 #[.pointer none, .int .i64 id] w fun e w' => e = .returned (.bool false) ∧ w = w' := by
  go_enter Try.func19, Try.ntmps19
  go_wp2
  go_ret
  exact ⟨rfl, rfl⟩
theorem z_len : Calls Try.prog 21 #[.pointer none] w fun e w' => e = .returned (.int .i64 0) ∧ w = w' := by
  go_enter Try.func21, Try.ntmps21
  go_wp2
  go_ret
  exact ⟨rfl, rfl⟩
theorem z_all : Calls Try.prog 16 #[.pointer none] w fun e w' => e = .returned (.slice none 0 0) ∧ w = w' := by
  go_enter Try.func16, Try.ntmps16
  go_wp2
  go_ret
  exact ⟨rfl, rfl⟩
theorem z_drop (id : Int) : Calls Try.prog 12 #[.pointer none, .int .i64 id] w fun e w' => e = .returned (.bool false) ∧ w = w' := by
  go_enter Try.func12, Try.ntmps12
  go_wp2_with (go_at_call 19; refine (z_has _ _).mono ?_; rintro e w' ⟨rfl, rfl⟩)
  go_ret
  exact ⟨rfl, rfl⟩
theorem z_add (id c l d : Int) : Calls Try.prog 10 #[.pointer none, .int .i64 id, .agg #[.int .i64 c, .int .i64 l, .int .i64 d]] w (ValB (.int .i64 1) w) := by
  have hB0 := Lib.hid (blk3 w c l d)
  go_enter Try.func10, Try.ntmps10
  go_wp2
  go_returns
  exact ⟨rfl, hB0.out⟩
theorem z_chg (id c l d : Int) : Calls Try.prog 14 #[.pointer none, .int .i64 id, .agg #[.int .i64 c, .int .i64 l, .int .i64 d]] w (ValB (.int .i64 1) w) := by
  have hB0 := Lib.hid (blk3 w c l d)
  go_enter Try.func14, Try.ntmps14
  go_wp2
  go_returns
  exact ⟨rfl, hB0.out⟩
end none
end Go.Proofs.Ytpajebedeacpgaa
