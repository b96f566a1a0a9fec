/-
  The queue: Add.
-/
import Derived.Test.YtpajebedeacpgaaRx
namespace Go.Proofs.Ytpajebedeacpgaa
set_option linter.unusedSimpArgs false
set_option linter.unusedVariables false
open Go.RowKit Own Sl
open RegJ hiding Up
open RegF hiding put_size

/-- the answer k, and the queue behind the call -/
def AddX (w : World) (qb : Nat) (L : List One) (lo : Lo) (N : Nat) (k : Int) (e : Ending) (w' : World) : Prop := e = .returned (.int .i64 k) ∧ QX w qb L lo N w'
def addN (L : List One) (x : One) : Int := if x.1 < 0 ∨ may x.2 = false then 2 else if hasO L x.1 = true then 5 else 0
def addL (L : List One) (x : One) : List One := if addN L x = 0 then insA L x else L
section
variable {w w' : World} {qb : Nat} {L : List One} {lo : Lo} {N : Nat}
theorem QX.of_below {W1 : World} (h : QA W1 qb L lo N) (hB : Below W1.heap.size W1 w) : QX W1 qb L lo (N + 1) w := ⟨lo, (h.below hB).more (Nat.le_succ _), QFr.of_below hB⟩
theorem QX.after {W0 W1 : World} (h : QX W1 qb L lo N w) (hB : Below W0.heap.size W0 W1) : QX W0 qb L lo N w := by
  obtain ⟨lo', h1, h2⟩ := h
  exact ⟨lo', h1, (QFr.of_below hB).trans h2⟩
theorem hasO_no {id : Int} (h : hasO L id = false) : id ∉ L.map Prod.fst := fun e => by rw [hasO_iff.2 e] at h; cases h
set_option maxRecDepth 100000 in
theorem qadd_neg (id c l d : Int) (hid : id < 0) : Calls Try.prog 10 #[.pointer (some ⟨qb, 0, none⟩), .int .i64 id, .agg #[.int .i64 c, .int .i64 l, .int .i64 d]] w (ValB (.int .i64 2) w) := by
  have hB0 := Lib.hid (blk3 w c l d)
  have d1 : decide (id < 0) = true := by simpa using hid
  clear hid
  go_enter Try.func10, Try.ntmps10
  go_wp2_with (fail)
  go_returns
  exact ⟨rfl, hB0.out⟩
set_option maxRecDepth 100000 in
theorem qadd_arg (id c l d : Int) (hid : 0 ≤ id) (hm : may (c, l, d) = false) : Calls Try.prog 10 #[.pointer (some ⟨qb, 0, none⟩), .int .i64 id, .agg #[.int .i64 c, .int .i64 l, .int .i64 d]] w (ValB (.int .i64 2) w) := by
  have hB0 := Lib.hid (blk3 w c l d)
  have hmy := may_is (c, l, d)
  rw [hm] at hmy
  unfold prV at hmy
  simp only at hmy
  have d1 : decide (id < 0) = false := by simpa using hid
  clear hid hm
  go_enter Try.func10, Try.ntmps10
  go_wp2_with (go_at_call 24; (with_reducible refine (hmy _).mono ?_); rintro e w1 ⟨rfl, hB1⟩; have HB1 := Lib.hid hB1; clear hB1 hmy)
  go_returns
  exact ⟨rfl, hB0.out.trans (HB1.out.mono hB0.out.size)⟩
set_option maxRecDepth 100000 in
theorem qadd_busy (h : QA w qb L lo N) (id c l d : Int) (h0 : 0 ≤ id) (hm : may (c, l, d) = true) (hb : hasO L id = true) (hid : (Lit.int .i64 id).wf = true) : Calls Try.prog 10 #[.pointer (some ⟨qb, 0, none⟩), .int .i64 id, .agg #[.int .i64 c, .int .i64 l, .int .i64 d]] w (ValB (.int .i64 5) w) := by
  have hB0 := Lib.hid (blk3 w c l d)
  have hmy := may_is (c, l, d)
  rw [hm] at hmy
  unfold prV at hmy
  simp only at hmy
  have d1 : decide (id < 0) = false := by simpa using h0
  have H := Lib.hid (And.intro h hb)
  clear h0 hm h hb
  go_enter Try.func10, Try.ntmps10
  go_wp2_with (first
    | (go_at_call 24; (with_reducible refine (hmy _).mono ?_); rintro e w1 ⟨rfl, hB1⟩; have hhas := qhas_is ((H.out.1.below hB0.out).below hB1) id hid; rw [H.out.2] at hhas; have HB1 := Lib.hid (hB0.out.trans (hB1.mono hB0.out.size)); clear hB1 hmy)
    | (go_at_call 19; (with_reducible refine hhas.mono ?_); rintro e w2 ⟨rfl, hB2⟩; have HB2 := Lib.hid (HB1.out.trans (hB2.mono HB1.out.size)); clear hB2 hhas))
  go_returns
  exact ⟨rfl, HB2.out⟩
set_option maxRecDepth 100000 in
theorem qadd_ok (h : QA w qb L lo N) (id c l d : Int) (h0 : 0 ≤ id) (hm : may (c, l, d) = true) (hb : hasO L id = false) (hid : (Lit.int .i64 id).wf = true) (hN : N < 1000) (hLN : L.length ≤ N) :
    Calls Try.prog 10 #[.pointer (some ⟨qb, 0, none⟩), .int .i64 id, .agg #[.int .i64 c, .int .i64 l, .int .i64 d]] w (AddX w qb (insA L (id, c, l, d)) lo (N + 1) 0) := by
  have hB0 := Lib.hid (blk3 w c l d)
  have hbx := Blk.new w #[.int .i64 c, .int .i64 l, .int .i64 d] 31
  have hmy := may_is (c, l, d)
  rw [hm] at hmy
  unfold prV at hmy
  simp only at hmy
  have d1 : decide (id < 0) = false := by simpa using h0
  have H := Lib.hid (And.intro h (And.intro hb (And.intro h0 (And.intro hm (And.intro hid (And.intro hN (And.intro hLN hbx)))))))
  clear h0 hm h hb hN hLN hbx
  go_enter Try.func10, Try.ntmps10
  go_wp2_with (first
    | (go_at_call 24; (with_reducible refine (hmy _).mono ?_); rintro e w1 ⟨rfl, hB1⟩; have hhas := qhas_is ((H.out.1.below hB0.out).below hB1) id hid; rw [H.out.2.1] at hhas; have hb1 := Blk.below hB1 H.out.2.2.2.2.2.2.2 (by simp); have HB1 := Lib.hid (And.intro (hB0.out.trans (hB1.mono hB0.out.size)) hb1); clear hB1 hmy hb1)
    | (go_at_call 19; (with_reducible refine hhas.mono ?_); rintro e w2 ⟨rfl, hB2⟩; have hb2 := Blk.below hB2 HB1.out.2 HB1.out.2.lt; have c1 := hb2.rd; have hB3 := HB1.out.1.trans (hB2.mono HB1.out.1.size); have hput := qput_is (H.out.1.below hB3) (id, c, l, d) (hasO_no H.out.2.1) H.out.2.2.1 H.out.2.2.2.1 H.out.2.2.2.2.1 H.out.2.2.2.2.2.1 H.out.2.2.2.2.2.2.1; unfold prV at hput; simp only at hput; have HB2 := Lib.hid hB3; clear hB2 hhas hb2 hB3)
    | (go_at_call 28; (with_reducible refine hput.mono ?_); rintro e w3 ⟨rfl, hX⟩; have HX := Lib.hid hX; clear hX hput))
  go_returns
  exact ⟨rfl, HX.out.after HB2.out⟩
theorem qadd_is (h : QA w qb L lo N) (x : One) (hid : (Lit.int .i64 x.1).wf = true) (hN : N < 1000) (hLN : L.length ≤ N) :
    Calls Try.prog 10 #[.pointer (some ⟨qb, 0, none⟩), .int .i64 x.1, prV x.2] w (AddX w qb (addL L x) lo (N + 1) (addN L x)) := by
  obtain ⟨id, c, l, d⟩ := x
  by_cases h1 : id < 0
  · have e1 : addN L (id, c, l, d) = 2 := by unfold addN; rw [if_pos (Or.inl h1)]
    have e2 : addL L (id, c, l, d) = L := by unfold addL; rw [e1]; rfl
    rw [e1, e2]
    exact (qadd_neg id c l d h1).mono fun e w' ⟨h3, h4⟩ => ⟨h3, QX.of_below h h4⟩
  · cases hm : may (c, l, d) with
    | false =>
      have e1 : addN L (id, c, l, d) = 2 := by unfold addN; rw [if_pos (Or.inr hm)]
      have e2 : addL L (id, c, l, d) = L := by unfold addL; rw [e1]; rfl
      rw [e1, e2]
      exact (qadd_arg id c l d (by omega) hm).mono fun e w' ⟨h3, h4⟩ => ⟨h3, QX.of_below h h4⟩
    | true =>
      have hn : ¬ ((id, c, l, d) : One).1 < 0 ∧ ¬ (may ((id, c, l, d) : One).2 = false) := ⟨h1, by simp only [hm]; simp⟩
      cases hb : hasO L id with
      | true =>
        have e1 : addN L (id, c, l, d) = 5 := by unfold addN; rw [if_neg (fun e => e.elim hn.1 hn.2), if_pos hb]
        have e2 : addL L (id, c, l, d) = L := by unfold addL; rw [e1]; rfl
        rw [e1, e2]
        exact (qadd_busy h id c l d (by omega) hm hb hid).mono fun e w' ⟨h3, h4⟩ => ⟨h3, QX.of_below h h4⟩
      | false =>
        have e1 : addN L (id, c, l, d) = 0 := by unfold addN; rw [if_neg (fun e => e.elim hn.1 hn.2), if_neg (by simp only [hb]; simp)]
        have e2 : addL L (id, c, l, d) = insA L (id, c, l, d) := by unfold addL; rw [e1]; rfl
        rw [e1, e2]
        exact qadd_ok h id c l d (by omega) hm hb hid hN hLN
end
end Go.Proofs.Ytpajebedeacpgaa
