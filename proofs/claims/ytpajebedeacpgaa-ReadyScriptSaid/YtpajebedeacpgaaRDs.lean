/-
  The document's queue: Add whole, Change.
-/
import Derived.Test.YtpajebedeacpgaaRDb
import Derived.Test.YtpajebedeacpgaaRchg
import Derived.Test.YtpajebedeacpgaaRtur
import Derived.Test.YtpajebedeacpgaaOver
namespace Go.Proofs.Ytpajebedeacpgaa
set_option linter.unusedSimpArgs false
set_option linter.unusedVariables false
open Go.RowKit Own Sl Four
open RegJ hiding Up
open RegF hiding put_size

theorem dadd_is {w : World} {rb : Nat} {L : List One} {b : Option Nat} (h : RQ w rb L b) (hl : L.length ≤ 1000) (id c l d : Int) :
    Calls Try.prog 11 #[.pointer (some ⟨rb, 0, none⟩), .int .i64 id, .agg #[.int .i64 c, .int .i64 l, .int .i64 d]] w (DAddP w rb b (addL L (id, c, l, d)) (addN L (id, c, l, d))) := by
  by_cases h0 : id < 0
  · have e1 : addN L (id, c, l, d) = 2 := by unfold addN; rw [if_pos (Or.inl h0)]
    have e2 : addL L (id, c, l, d) = L := by unfold addL; rw [e1]; rfl
    rw [e1, e2]
    exact (dadd_neg id c l d h0).mono fun e w' ⟨h3, h4⟩ => ⟨h3, RP.of_below h h4⟩
  · cases hm : may (c, l, d) with
    | false =>
      have e1 : addN L (id, c, l, d) = 2 := by unfold addN; rw [if_pos (Or.inr hm)]
      have e2 : addL L (id, c, l, d) = L := by unfold addL; rw [e1]; rfl
      rw [e1, e2]
      exact (dadd_arg id c l d (by omega) hm).mono fun e w' ⟨h3, h4⟩ => ⟨h3, RP.of_below h h4⟩
    | true =>
      have hno : ¬ (id < 0 ∨ may (c, l, d) = false) := fun e => by
        rcases e with e | e
        · exact h0 e
        · rw [hm] at e; cases e
      cases hb : hasO L id with
      | true =>
        have e1 : addN L (id, c, l, d) = 5 := by unfold addN; rw [if_neg hno, if_pos hb]
        have e2 : addL L (id, c, l, d) = L := by unfold addL; rw [e1]; rfl
        rw [e1, e2]
        exact (dadd_busy h hl id c l d (by omega) hm hb).mono fun e w' ⟨h3, h4⟩ => ⟨h3, RP.of_below h h4⟩
      | false =>
        have e1 : addN L (id, c, l, d) = 0 := by unfold addN; rw [if_neg hno, if_neg (by simp only [hb]; simp)]
        have e2 : addL L (id, c, l, d) = insA L (id, c, l, d) := by unfold addL; rw [e1]; rfl
        rw [e1, e2]
        exact dadd_ok h hl id c l d (by omega) hm hb
theorem RP.ahead {w w1 w2 : World} {rb : Nat} {b : Option Nat} {L : List One} (h : RP w1 rb b L w2) (hB : Below w.heap.size w w1) : RP w rb b L w2 := by
  obtain ⟨b', h1, h2, h3⟩ := h
  have hz := hB.size
  refine ⟨b', h1, fun g hg => (h2 g hg).elim Or.inl (fun h => Or.inr (by omega)), (Upd.of_below hB).trans h3 (fun _ _ e => e)⟩
theorem RP.trans {w w1 w2 : World} {rb : Nat} {b : Option Nat} {L1 L2 : List One} (h : RP w rb b L1 w1) (k : ∀ b1, RQ w1 rb L1 b1 → RP w1 rb b1 L2 w2) : RP w rb b L2 w2 := by
  obtain ⟨b1, h1, h2, h3⟩ := h
  obtain ⟨b2, g1, g2, g3⟩ := k b1 h1
  have hz := h3.size
  refine ⟨b2, g1, fun g hg => ?_, h3.trans g3 (fun i hi e => ?_)⟩
  · rcases g2 g hg with e | e
    · exact h2 g e
    · exact Or.inr (by omega)
  · rcases e with e | e
    · exact Or.inl e
    · rcases h2 i e with e2 | e2
      · exact Or.inr e2
      · omega
theorem RQ.lts {w : World} {rb : Nat} {L : List One} {b : Option Nat} (h : RQ w rb L b) : rb < w.heap.size ∧ ∀ g, b = some g → g < w.heap.size := by
  obtain ⟨v, h1, h2, h3⟩ := h
  exact ⟨h1.lt, fun g hg => h2.lt g hg⟩
set_option maxRecDepth 100000 in
theorem dchg_arg {w : World} {rb : Nat} (id c l d : Int) (hm : may (c, l, d) = false) : Calls Try.prog 15 #[.pointer (some ⟨rb, 0, none⟩), .int .i64 id, .agg #[.int .i64 c, .int .i64 l, .int .i64 d]] w (ValB (.int .i64 2) w) := by
  have hB0 := Lib.hid (blk3 w c l d)
  have hmy := rmay_is (c, l, d)
  rw [hm] at hmy
  unfold prV at hmy
  simp only at hmy
  clear hm
  go_enter Try.func15, Try.ntmps15
  go_wp2_with (go_at_call 29; (with_reducible refine (hmy _).mono ?_); rintro e w1 ⟨rfl, hB1⟩; have HB1 := Lib.hid hB1; clear hB1 hmy)
  go_returns
  exact ⟨rfl, hB0.out.trans (HB1.out.mono hB0.out.size)⟩
def DChP (w : World) (rb : Nat) (b : Option Nat) (L : List One) (r : Int) (e : Ending) (w' : World) : Prop := e = .returned (.int .i64 r) ∧ RP w rb b L w'
set_option maxRecDepth 100000 in
theorem dchg_none {w : World} {rb : Nat} {L : List One} {b : Option Nat} (h : RQ w rb L b) (hg : Gd L) (hl : L.length ≤ 1000) (id c l d : Int) (hm : may (c, l, d) = true) (hb : hasO L id = false) :
    Calls Try.prog 15 #[.pointer (some ⟨rb, 0, none⟩), .int .i64 id, .agg #[.int .i64 c, .int .i64 l, .int .i64 d]] w (DChP w rb b L 4) := by
  have hB0 := blk3 w c l d
  have hmy := rmay_is (c, l, d)
  rw [hm] at hmy
  unfold prV at hmy
  simp only at hmy
  have hdl : dropL L id = L := by unfold dropL; rw [hb, if_neg (by simp)]
  have H := Lib.hid (And.intro h (And.intro hg (And.intro hb (And.intro hB0 hdl))))
  clear h hg hb hB0 hdl hm
  go_enter Try.func15, Try.ntmps15
  go_wp2_with (first
    | (go_at_call 29; (with_reducible refine (hmy _).mono ?_); rintro e w1 ⟨rfl, hB1⟩; have hdr := ddrop_is ((H.out.1.below H.out.2.2.2.1).below hB1) H.out.2.1 hl id; rw [H.out.2.2.1, H.out.2.2.2.2] at hdr; have H1 := Lib.hid (H.out.2.2.2.1.trans (hB1.mono H.out.2.2.2.1.size)); clear hB1 hmy)
    | (go_at_call 13; (with_reducible refine hdr.mono ?_); rintro e w2 ⟨rfl, hr⟩; have H2 := Lib.hid hr; clear hr hdr))
  go_returns
  exact ⟨rfl, H2.out.ahead H1.out⟩
theorem px_ne {w : World} {rb : Nat} {L : List One} {b : Option Nat} (h : RQ w rb L b) : ¬ (w.heap.size = rb ∨ b = some w.heap.size) := fun e => by
  have := h.lts
  rcases e with e | e
  · omega
  · have := this.2 _ e; omega
set_option maxRecDepth 100000 in
theorem dchg_ok {w : World} {rb : Nat} {L : List One} {b : Option Nat} (h : RQ w rb L b) (hg : Gd L) (hl : L.length ≤ 1000) (id c l d : Int) (hm : may (c, l, d) = true) (hb : hasO L id = true) :
    Calls Try.prog 15 #[.pointer (some ⟨rb, 0, none⟩), .int .i64 id, .agg #[.int .i64 c, .int .i64 l, .int .i64 d]] w (DChP w rb b (insA (delA L id) (id, c, l, d)) 0) := by
  have hB0 := blk3 w c l d
  have hpx := Blk.new w #[.int .i64 c, .int .i64 l, .int .i64 d] 31
  have hmy := rmay_is (c, l, d)
  rw [hm] at hmy
  unfold prV at hmy
  simp only at hmy
  have hdl : dropL L id = delA L id := by unfold dropL; rw [if_pos hb]
  have h0 : 0 ≤ id := by
    obtain ⟨y, hy, he⟩ := List.mem_map.1 (hasO_iff.1 hb)
    have := (hg.ok y hy).1
    rw [he] at this
    exact this
  have hno : hasO (delA L id) id = false := by
    cases h : hasO (delA L id) id with
    | false => rfl
    | true => exact absurd (hasO_iff.1 h) (delA_no _)
  have e1 : addN (delA L id) (id, c, l, d) = 0 := by unfold addN; rw [if_neg (fun e => by rcases e with e | e; (simp only at e; omega); (simp only [hm] at e; cases e)), if_neg (by simp only [hno]; simp)]
  have e2 : addL (delA L id) (id, c, l, d) = insA (delA L id) (id, c, l, d) := by unfold addL; rw [e1]; rfl
  have hle : (delA L id).length ≤ 1000 := Nat.le_trans (List.length_filter_le _ _) hl
  have H := Lib.hid (And.intro h (And.intro hg (And.intro hb (And.intro hB0 hdl))))
  have HP := Lib.hid (And.intro hpx (And.intro e1 (And.intro e2 hle)))
  clear h hg hb hB0 hdl hm hpx h0 hno e1 e2 hle
  go_enter Try.func15, Try.ntmps15
  go_wp2_with (first
    | (go_at_call 29; (with_reducible refine (hmy _).mono ?_); rintro e w1 ⟨rfl, hB1⟩; have hq1 := (H.out.1.below H.out.2.2.2.1).below hB1; have hdr := ddrop_is hq1 H.out.2.1 hl id; rw [H.out.2.2.1, H.out.2.2.2.2] at hdr; have H1 := Lib.hid (And.intro (H.out.2.2.2.1.trans (hB1.mono H.out.2.2.2.1.size)) (Blk.below hB1 HP.out.1 HP.out.1.lt)); clear hB1 hmy hq1)
    | (go_at_call 13; (with_reducible refine hdr.mono ?_); rintro e w2 ⟨rfl, b2, hq2, hf2, hu2⟩; have hp2 : Blk w2 w.heap.size #[.int .i64 c, .int .i64 l, .int .i64 d] 31 := Blk.upd hu2 H1.out.2 (px_ne H.out.1); have c1 := hp2.rd; have had := dadd_is hq2 HP.out.2.2.2 id c l d; rw [HP.out.2.1, HP.out.2.2.1] at had; have H2 := Lib.hid (And.intro hf2 hu2); clear hq2 hf2 hu2 hdr hp2)
    | (go_at_call 11; (with_reducible refine had.mono ?_); rintro e w3 ⟨rfl, hr⟩; have H3 := Lib.hid hr; clear hr had))
  go_returns
  refine ⟨rfl, RP.ahead ?_ H1.out.1⟩
  obtain ⟨b3, g1, g2, g3⟩ := H3.out
  obtain ⟨hf2, hu2⟩ := H2.out
  have hz := hu2.size
  refine ⟨b3, g1, fun g hg => ?_, hu2.trans g3 (fun i hi e => ?_)⟩
  · rcases g2 g hg with e | e
    · exact hf2 g e
    · exact Or.inr (by omega)
  · rcases e with e | e
    · exact Or.inl e
    · rcases hf2 i e with e2 | e2
      · exact Or.inr e2
      · omega
theorem dchg_is {w : World} {rb : Nat} {L : List One} {b : Option Nat} (h : RQ w rb L b) (hg : Gd L) (hl : L.length ≤ 1000) (id c l d : Int) :
    Calls Try.prog 15 #[.pointer (some ⟨rb, 0, none⟩), .int .i64 id, .agg #[.int .i64 c, .int .i64 l, .int .i64 d]] w (DChP w rb b (chgL L (id, c, l, d)) (chgN L (id, c, l, d))) := by
  cases hm : may (c, l, d) with
  | false =>
    have e1 : chgN L (id, c, l, d) = 2 := by unfold chgN; rw [if_pos hm]
    have e2 : chgL L (id, c, l, d) = L := by unfold chgL; rw [e1]; rfl
    rw [e1, e2]
    exact (dchg_arg id c l d hm).mono fun e w' ⟨h3, h4⟩ => ⟨h3, RP.of_below h h4⟩
  | true =>
    cases hb : hasO L id with
    | false =>
      have e1 : chgN L (id, c, l, d) = 4 := by unfold chgN; rw [if_neg (by simp only [hm]; simp), if_neg (by simp only [hb]; simp)]
      have e2 : chgL L (id, c, l, d) = L := by unfold chgL; rw [e1]; rfl
      rw [e1, e2]
      exact dchg_none h hg hl id c l d hm hb
    | true =>
      have e1 : chgN L (id, c, l, d) = 0 := by unfold chgN; rw [if_neg (by simp only [hm]; simp), if_pos hb]
      have e2 : chgL L (id, c, l, d) = insA (delA L id) (id, c, l, d) := by unfold chgL; rw [e1]; rfl
      rw [e1, e2]
      exact dchg_ok h hg hl id c l d hm hb
end Go.Proofs.Ytpajebedeacpgaa
/-
  ReadyScript: the document's queue as a party; both beside a kept block.
-/
namespace Go.Proofs.Ytpajebedeacpgaa
set_option linter.unusedSimpArgs false
set_option linter.unusedVariables false
open Go.RowKit Own Sl Pair Four
open RegJ hiding Up
open RegF hiding put_size

/-- the document's queue -/
def DPa (rb : Nat) (L : List One) (N : Nat) : Party where
  at' w O := L.length ≤ N ∧ ∃ b, RQ w rb L b ∧ O = fun k => k = rb ∨ b = some k
  lt := by
    rintro w O ⟨_, b, h, rfl⟩ k hk
    rcases hk with rfl | hk
    · exact h.lts.1
    · exact h.lts.2 k hk
  keep := by
    rintro w w' O F ⟨hl, b, h, rfl⟩ hu hF
    exact ⟨hl, b, h.upd hu (hF rb (Or.inl rfl)) (fun g hg => hF g (Or.inr hg)), rfl⟩
theorem rp_step {w w' : World} {rb : Nat} {b : Option Nat} {L : List One} {N : Nat} (h : RP w rb b L w') (hl : L.length ≤ N) : Step (DPa rb L N) (fun k => k = rb ∨ b = some k) w w' := by
  obtain ⟨b', h1, h2, h3⟩ := h
  refine ⟨_, ⟨hl, b', h1, rfl⟩, fun k hk => ?_, h3⟩
  rcases hk with rfl | hk
  · exact Or.inl (Or.inl rfl)
  · rcases h2 k hk with h | h
    · exact Or.inl (Or.inr h)
    · exact Or.inr h
section
variable {W w : World} {rb : Nat} {L : List One} {N : Nat} {O : Nat → Prop}
theorem d_add (h : (DPa rb L N).at' w O) (id c l d : Int) (hN : N < 1000) :
    Calls Try.prog 11 #[.pointer (some ⟨rb, 0, none⟩), .int .i64 id, .agg #[.int .i64 c, .int .i64 l, .int .i64 d]] w (fun e w' => e = .returned (.int .i64 (addN L (id, c, l, d))) ∧ Step (DPa rb (addL L (id, c, l, d)) (N + 1)) O w w') := by
  obtain ⟨hl, b, hq, rfl⟩ := h
  exact (dadd_is hq (by omega) id c l d).mono fun e w' ⟨h1, h2⟩ => ⟨h1, rp_step h2 (by have := addL_le L (id, c, l, d); omega)⟩
theorem d_drop (h : (DPa rb L N).at' w O) (hg : Gd L) (id : Int) (hN : N ≤ 1000) :
    Calls Try.prog 13 #[.pointer (some ⟨rb, 0, none⟩), .int .i64 id] w (fun e w' => e = .returned (.bool (hasO L id)) ∧ Step (DPa rb (dropL L id) N) O w w') := by
  obtain ⟨hl, b, hq, rfl⟩ := h
  exact (ddrop_is hq hg (by omega) id).mono fun e w' ⟨h1, h2⟩ => ⟨h1, rp_step h2 (by have := dropL_le L id; omega)⟩
theorem d_chg (h : (DPa rb L N).at' w O) (hg : Gd L) (id c l d : Int) (hN : N < 1000) :
    Calls Try.prog 15 #[.pointer (some ⟨rb, 0, none⟩), .int .i64 id, .agg #[.int .i64 c, .int .i64 l, .int .i64 d]] w (fun e w' => e = .returned (.int .i64 (chgN L (id, c, l, d))) ∧ Step (DPa rb (chgL L (id, c, l, d)) (N + 1)) O w w') := by
  obtain ⟨hl, b, hq, rfl⟩ := h
  exact (dchg_is hq hg (by omega) id c l d).mono fun e w' ⟨h1, h2⟩ => ⟨h1, rp_step h2 (by have := chgL_le L (id, c, l, d); omega)⟩
theorem d_all (h : (DPa rb L N).at' w O) (hN : N ≤ 1000) : Calls Try.prog 17 #[.pointer (some ⟨rb, 0, none⟩)] w (RAllP w (L.map Prod.fst)) := by
  obtain ⟨hl, b, hq, rfl⟩ := h
  exact dall_is hq (by omega)
theorem d_has (h : (DPa rb L N).at' w O) (hN : N ≤ 1000) (id : Int) : Calls Try.prog 20 #[.pointer (some ⟨rb, 0, none⟩), .int .i64 id] w (fun e w' => e = .returned (.bool (hasO L id)) ∧ w' = w) := by
  obtain ⟨hl, b, hq, rfl⟩ := h
  exact rhas_is hq (by omega) id
end
section
variable {W w : World} {qb rb : Nat} {L : List One} {N : Nat} {O : Nat → Prop}
theorem p_len (h : (QPa qb L N).at' w O) (m : Nat) (hm : L.length = m) : Calls Try.prog 21 #[.pointer (some ⟨qb, 0, none⟩)] w (ValB (.int .i64 m) w) := by
  subst hm
  obtain ⟨hl, lo, hq, rfl⟩ := h
  exact qlen_is hq
theorem p_first (h : (QPa qb L N).at' w O) (f1 : Int) (f2 : Bool) (hf : firO L = (f1, f2)) : Calls Try.prog 18 #[.pointer (some ⟨qb, 0, none⟩)] w (ValB (.tuple #[.int .i64 f1, .bool f2]) w) := by
  obtain ⟨hl, lo, hq, rfl⟩ := h
  have := qfirst_is hq
  rw [hf] at this
  exact this
end
/-- what was made meanwhile is kept -/
theorem two_made {W w w' : World} {p q : Party} {E : Nat → Prop} (h : Two W w p q E) (hB : Below w.heap.size w w') : Two W w' p q (fun k => E k ∨ (w.heap.size ≤ k ∧ k < w'.heap.size)) := by
  have h' := h.below hB
  obtain ⟨O1, O2, h1, h2, h3, h4⟩ := h.ex
  have hz := hB.size
  have hb := h.bel.size
  refine ⟨⟨O1, O2, p.keep h1 (Upd.of_below (F := fun _ => False) hB) (fun _ _ h => h), q.keep h2 (Upd.of_below (F := fun _ => False) hB) (fun _ _ h => h), h3, fun k hk => ⟨(h4 k hk).1, fun he => ?_⟩⟩, fun k hk => ?_, h'.bel⟩
  · rcases he with he | he
    · exact (h4 k hk).2 he
    · rcases hk with hk | hk
      · have := p.lt h1 k hk; omega
      · have := q.lt h2 k hk; omega
  · rcases hk with hk | hk
    · have := h.e k hk; omega
    · omega
theorem two0 {w w1 : World} {qb : Nat} {lo : Lo} (h : QA w1 qb [] lo 0) (hB : Below w.heap.size w w1) (hl : ∀ r k, lo r = some k → w.heap.size ≤ k) : Two w (w1.alloc (.cells #[.slice none 0 0] 29)) (QPa qb [] 0) (DPa w1.heap.size [] 0) (fun _ => False) := by
  have hz := hB.size
  refine ⟨⟨_, _, ⟨Nat.le_refl _, lo, h.below ((Below.refl _ _).alloc (Nat.le_refl _) _), rfl⟩, ⟨Nat.le_refl _, none, ⟨_, Blk.new _ _ _, Or.inl ⟨rfl, rfl, rfl⟩, by simp⟩, rfl⟩, fun k ⟨r, hr⟩ hk' => ?_, fun k hk => ⟨?_, fun e => e⟩⟩, fun k hk => hk.elim, hB.alloc hB.size _⟩
  · obtain ⟨R, W, hQ, _⟩ := h.ex
    have := hQ.lt r k hr
    rcases hk' with e | e
    · omega
    · cases e
  · rcases hk with ⟨r, hr⟩ | e | e
    · exact hl r k hr
    · omega
    · cases e
/-- both queues beside a kept block -/
def S3 (W : World) (qb rb bx : Nat) (xs : Array Value) (L1 L2 : List One) (n1 n2 : Nat) (w : World) : Prop := Two W w (QPa qb L1 n1) (DPa rb L2 n2) (fun k => k = bx) ∧ Blk w bx xs 33
section
variable {W w w' : World} {qb rb bx n1 n2 m1 m2 : Nat} {xs : Array Value} {L1 L2 K1 K2 : List One}
theorem S3.below (h : S3 W qb rb bx xs L1 L2 n1 n2 w) (hB : Below w.heap.size w w') : S3 W qb rb bx xs L1 L2 n1 n2 w' := ⟨h.1.below hB, Blk.below hB h.2 h.2.lt⟩
theorem S3.drewN (h : S3 W qb rb bx xs L1 L2 n1 n2 w) (n : Nat) : S3 W qb rb bx xs L1 L2 n1 n2 (w.drewN n) := h.below (drewN_below w n)
theorem S3.drew (h : S3 W qb rb bx xs L1 L2 n1 n2 w) : S3 W qb rb bx xs L1 L2 n1 n2 w.drew := h.below (((Upd.refl (fun _ => False) w).drew).below (Nat.le_refl _) (fun _ h => h.elim))
theorem S3.l {f : FuncId} {args : Array Value} {Q : Ending → Prop} (h : S3 W qb rb bx xs L1 L2 n1 n2 w) (hc : ∀ O, (QPa qb L1 n1).at' w O → Calls Try.prog f args w (fun e w' => Q e ∧ Step (QPa qb K1 m1) O w w')) : Calls Try.prog f args w (fun e w' => Q e ∧ S3 W qb rb bx xs K1 L2 m1 n2 w') :=
  (h.1.left hc).mono fun e w' ⟨h1, h2, h3⟩ => ⟨h1, h2, Blk.upd h3 h.2 (fun h => h rfl)⟩
theorem S3.r {f : FuncId} {args : Array Value} {Q : Ending → Prop} (h : S3 W qb rb bx xs L1 L2 n1 n2 w) (hc : ∀ O, (DPa rb L2 n2).at' w O → Calls Try.prog f args w (fun e w' => Q e ∧ Step (DPa rb K2 m2) O w w')) : Calls Try.prog f args w (fun e w' => Q e ∧ S3 W qb rb bx xs L1 K2 n1 m2 w') :=
  (h.1.right hc).mono fun e w' ⟨h1, h2, h3⟩ => ⟨h1, h2, Blk.upd h3 h.2 (fun h => h rfl)⟩
theorem s_add (h : S3 W qb rb bx xs L1 L2 n1 n2 w) (id c l d : Int) (hid : (Lit.int .i64 id).wf = true) (hN : n1 < 1000) :
    Calls Try.prog 10 #[.pointer (some ⟨qb, 0, none⟩), .int .i64 id, .agg #[.int .i64 c, .int .i64 l, .int .i64 d]] w (fun e w' => e = .returned (.int .i64 (addN L1 (id, c, l, d))) ∧ S3 W qb rb bx xs (addL L1 (id, c, l, d)) L2 (n1 + 1) n2 w') := h.l fun O hO => p_add hO (id, c, l, d) hid hN
theorem s_drop (h : S3 W qb rb bx xs L1 L2 n1 n2 w) (id : Int) (hid : (Lit.int .i64 id).wf = true) (hN : n1 ≤ 1000) :
    Calls Try.prog 12 #[.pointer (some ⟨qb, 0, none⟩), .int .i64 id] w (fun e w' => e = .returned (.bool (hasO L1 id)) ∧ S3 W qb rb bx xs (dropL L1 id) L2 n1 n2 w') := h.l fun O hO => p_drop hO id hid hN
theorem s_chg (h : S3 W qb rb bx xs L1 L2 n1 n2 w) (id c l d : Int) (hid : (Lit.int .i64 id).wf = true) (hN : n1 < 1000) :
    Calls Try.prog 14 #[.pointer (some ⟨qb, 0, none⟩), .int .i64 id, .agg #[.int .i64 c, .int .i64 l, .int .i64 d]] w (fun e w' => e = .returned (.int .i64 (chgN L1 (id, c, l, d))) ∧ S3 W qb rb bx xs (chgL L1 (id, c, l, d)) L2 (n1 + 1) n2 w') := h.l fun O hO => p_chg hO (id, c, l, d) hid hN
theorem s_radd (h : S3 W qb rb bx xs L1 L2 n1 n2 w) (id c l d : Int) (hN : n2 < 1000) :
    Calls Try.prog 11 #[.pointer (some ⟨rb, 0, none⟩), .int .i64 id, .agg #[.int .i64 c, .int .i64 l, .int .i64 d]] w (fun e w' => e = .returned (.int .i64 (addN L2 (id, c, l, d))) ∧ S3 W qb rb bx xs L1 (addL L2 (id, c, l, d)) n1 (n2 + 1) w') := h.r fun O hO => d_add hO id c l d hN
theorem s_rdrop (h : S3 W qb rb bx xs L1 L2 n1 n2 w) (hg : Gd L2) (id : Int) (hN : n2 ≤ 1000) :
    Calls Try.prog 13 #[.pointer (some ⟨rb, 0, none⟩), .int .i64 id] w (fun e w' => e = .returned (.bool (hasO L2 id)) ∧ S3 W qb rb bx xs L1 (dropL L2 id) n1 n2 w') := h.r fun O hO => d_drop hO hg id hN
theorem s_rchg (h : S3 W qb rb bx xs L1 L2 n1 n2 w) (hg : Gd L2) (id c l d : Int) (hN : n2 < 1000) :
    Calls Try.prog 15 #[.pointer (some ⟨rb, 0, none⟩), .int .i64 id, .agg #[.int .i64 c, .int .i64 l, .int .i64 d]] w (fun e w' => e = .returned (.int .i64 (chgN L2 (id, c, l, d))) ∧ S3 W qb rb bx xs L1 (chgL L2 (id, c, l, d)) n1 (n2 + 1) w') := h.r fun O hO => d_chg hO hg id c l d hN
end
/-- the first of a list, and whether there is one -/
theorem firO_no {L : List One} (h : L.length = 0) : firO L = (0, false) := by
  cases L with
  | nil => rfl
  | cons x t => simp at h
theorem firO_yes {L : List One} (h : 0 < L.length) : ∃ f1, firO L = (f1, true) ∧ (L.map Prod.fst).getD 0 0 = f1 := by
  cases L with
  | nil => simp at h
  | cons x t => exact ⟨x.1, rfl, rfl⟩
end Go.Proofs.Ytpajebedeacpgaa
