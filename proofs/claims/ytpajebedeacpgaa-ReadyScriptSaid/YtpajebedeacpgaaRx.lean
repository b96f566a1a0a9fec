/-
  The queue: put, Add.
-/
import Derived.Test.YtpajebedeacpgaaRw
namespace Go.Proofs.Ytpajebedeacpgaa
set_option linter.unusedSimpArgs false
set_option linter.unusedVariables false
open Go.RowKit Own Sl
open RegJ hiding Up
open RegF hiding put_size

/-- the state of one call in a region: the block bx is kept, the cell at p holds c; ahead of the call the world is W1, behind it Q holds -/
def One1 (W1 : World) (bx : Nat) (cs : Array Value) (p : Addr) (c : Value) (Q : World → Prop) (b : Bool) (w : World) : Prop := Blk w bx cs 31 ∧ w.cell? p = some c ∧ (b = false → w = W1) ∧ (b = true → Q w)
theorem upd_cell {F : Nat → Prop} {w w' : World} (hu : Upd F w w') {b o : Nat} (hf : ¬ F b) {v : Value} (hc : w.cell? ⟨b, o, none⟩ = some v) : w'.cell? ⟨b, o, none⟩ = some v := by
  have hl : b < w.heap.size := by
    rcases Nat.lt_or_ge b w.heap.size with h1 | h1
    · exact h1
    · unfold World.cell? at hc; simp [Array.getElem?_eq_none h1] at hc
  rw [← hc]
  unfold World.cell?
  rw [hu.block b hl hf]
section
variable {w w' : World} {qb : Nat} {L : List One} {lo : Lo} {N : Nat}
theorem blk_one {W1 : World} {lo' : Lo} {bx : Nat} {cs : Array Value} {w2 : World} (h : Blk W1 bx cs 31) (hf : QFr lo lo' W1 w2) (hn : ∀ r k, lo r = some k → k ≠ bx) : Blk w2 bx cs 31 := Blk.upd hf.1 h (fun ⟨r, hr⟩ => hn r _ hr rfl)
/-- the queue behind a step, and the step -/
def QX (W1 : World) (qb : Nat) (L : List One) (lo : Lo) (N : Nat) (w : World) : Prop := ∃ lo', QA w qb L lo' N ∧ QFr lo lo' W1 w
def PutX (w : World) (qb : Nat) (L : List One) (lo : Lo) (N : Nat) (e : Ending) (w' : World) : Prop := e = .returned (.tuple #[]) ∧ QX w qb L lo N w'
theorem QB.perm {R : Nat → Value} {F : Nat → List Int} {W : Nat → Nat} {m : Int → Option Value} {s : Nat} {hs hs' : List It} (h : QB w qb R F W m s hs lo N) (hp : hs.Perm hs') : QB w qb R F W m s hs' lo N := by
  obtain ⟨hb, h1, h2, xs, h3, h4⟩ := h.heap
  exact ⟨h.inj, h.lt, h.at', h.map, ⟨hb, h1, h2, xs, h3.trans hp, h4⟩, h.blk, h.word, h.row, h.far, h.len⟩
theorem fin_row {R : Nat → Value} {W : Nat → Nat} (hg : Gd L) {x : One} (hx : x.1 ∉ L.map Prod.fst) (h0 : 0 ≤ x.1) (hm : may x.2 = true) (hW : ∀ r, r < 2 → WD (W r) (hasL (FL L) r)) {r i : Nat} (hr : r < 2) (hi : i < 64) (hrow : inRow (64 * r + i) x = true) (hc : x.2.1 ≠ 1)
    (hQ : QB w qb R (putF (FL L) (64 * r + i) (insL (FL L (64 * r + i)) x.1)) (putF W r (wset (W r) i)) (mput (mL L) x.1 (prV x.2)) (L.length + 1) (HL L) lo N) : QA w qb (insA L x) lo N := by
  refine ⟨hg.ins hx h0 hm, R, putF W r (wset (W r) i), ?_, ?_⟩
  · have h1 := HL_ins (L := L) x
    rw [if_neg hc] at h1
    have h2 := hQ.perm h1.symm
    rw [← FL_ins hg hx h0 hm (by omega) hrow, ← mL_ins hg hx h0 hm, ← insA_len L x] at h2
    exact h2
  · rw [FL_ins hg hx h0 hm (by omega) hrow]
    exact wd_ins hW hr hi (insL_ne _ _)
theorem no_row {x : One} (h : x.2.1 = 1) (j : Nat) (hj : j < 128) : inRow j x = false := by
  cases hr : inRow j x with
  | false => rfl
  | true => have := (inRow_iff.1 hr).1; rw [h] at this; split at this <;> omega
theorem fin_heap {R : Nat → Value} {W : Nat → Nat} (hg : Gd L) {x : One} (hx : x.1 ∉ L.map Prod.fst) (h0 : 0 ≤ x.1) (hm : may x.2 = true) (hW : ∀ r, r < 2 → WD (W r) (hasL (FL L) r)) (hc : x.2.1 = 1)
    (hQ : QB w qb R (FL L) W (mput (mL L) x.1 (prV x.2)) (L.length + 1) ((x.1, x.2.2.2) :: HL L) lo N) : QA w qb (insA L x) lo N := by
  have hF := FL_ins_no hg hx h0 hm (no_row hc)
  refine ⟨hg.ins hx h0 hm, R, W, ?_, by rw [hF]; exact hW⟩
  have h1 := HL_ins (L := L) x
  rw [if_pos hc] at h1
  have h2 := hQ.perm h1.symm
  rw [← mL_ins hg hx h0 hm, ← insA_len L x] at h2
  rw [hF]
  exact h2
theorem FL_len (L : List One) (j : Nat) : (FL L j).length ≤ L.length := by
  unfold FL
  split
  · rw [List.length_map]; exact List.length_filter_le _ _
  · exact Nat.zero_le _
end
end Go.Proofs.Ytpajebedeacpgaa
/-
  The queue: put, a thread of class 0.
-/
namespace Go.Proofs.Ytpajebedeacpgaa
set_option linter.unusedSimpArgs false
set_option linter.unusedVariables false
open Go.RowKit Own Sl
open RegJ hiding Up
open RegF hiding put_size
section
variable {w w' : World} {qb : Nat} {L : List One} {lo : Lo} {N : Nat}
set_option maxRecDepth 100000 in
set_option maxHeartbeats 4000000 in
theorem qput_b (h : QA w qb L lo N) (id : Int) (i : Nat) (hi : i < 64) (d : Int) (hx : id ∉ L.map Prod.fst) (h0 : 0 ≤ id) (hm : may ((0 : Int), (i : Int), d) = true) (hid : (Lit.int .i64 id).wf = true) (hN : N < 1000) :
    Calls Try.prog 28 #[.pointer (some ⟨qb, 0, none⟩), .int .i64 id, prV ((0 : Int), (i : Int), d)] w (PutX w qb (insA L (id, (0 : Int), (i : Int), d)) lo (N + 1)) := by
  unfold prV
  simp only
  obtain ⟨R, W, hQ, hW⟩ := h.ex
  obtain ⟨mb, n, m1, m2, m3, m4⟩ := hQ.map
  have hgd := h.gd
  have hbw : Below w.heap.size w (w.alloc (.cells #[.int .i64 0, .int .i64 (i : Int), .int .i64 d] 31)) := blk3 w 0 (i : Int) d
  have hQ0 : QB (w.alloc (.cells #[.int .i64 0, .int .i64 (i : Int), .int .i64 d] 31)).drew qb R (FL L) W (mL L) L.length (HL L) lo N := (hQ.below hbw).upd ((Upd.refl (fun _ => False) _).drew) (fun _ _ _ h => h)
  have hF0 : QFr lo lo w (w.alloc (.cells #[.int .i64 0, .int .i64 (i : Int), .int .i64 d] 31)).drew := ⟨((Upd.refl _ w).alloc _).drew, fun r k h => Or.inl ⟨r, h⟩⟩
  have hbx : Blk (w.alloc (.cells #[.int .i64 0, .int .i64 (i : Int), .int .i64 d] 31)).drew w.heap.size #[.int .i64 0, .int .i64 (i : Int), .int .i64 d] 31 := (Blk.new w _ _).drew
  have hnb : ∀ r k, lo r = some k → k ≠ w.heap.size := fun r k hk e => by have := hQ.lt r k hk; omega
  have H := Lib.hid (And.intro hgd (And.intro hx (And.intro h0 (And.intro hm (And.intro hW (And.intro m1 (And.intro m2 (And.intro m4 hN))))))))
  clear h hQ hW m1 m2 m3 m4 hgd hx h0 hm hbw
  go_enter Try.func28, Try.ntmps28
  go_upto_region 1 with (fail)
  obtain ⟨W0, hW0⟩ : ∃ W0, W0 = (w.alloc (.cells #[.int .i64 0, .int .i64 (i : Int), .int .i64 d] 31)).drew := ⟨_, rfl⟩
  rw [← hW0] at hQ0 hF0 hbx
  have HW0 := Lib.hid hW0
  clear hW0
  have H0 := Lib.hid (And.intro hQ0 (And.intro hF0 (And.intro hbx hnb)))
  clear hQ0 hF0 hbx hnb
  generalize w.heap.size = bx at *
  have hmq : mb ≠ qb := fun e => by have := H0.out.1.inj _ _ _ H.out.2.2.2.2.2.1 (e ▸ H0.out.1.at'); cases this
  have hmx : mb ≠ bx := H0.out.2.2.2 _ _ H.out.2.2.2.2.2.1
  have hc0 : W0.cell? ⟨qb, 0, none⟩ = some (.map (some mb)) := by rw [H0.out.1.cell 0 (by omega), H.out.2.2.2.2.2.2.1]
  have HM := Lib.hid (And.intro hmq (And.intro hmx hc0))
  clear hmq hmx hc0
  refine region_J (J1 6 (One1 W0 bx #[.int .i64 0, .int .i64 (i : Int), .int .i64 d] ⟨qb, 0, none⟩ (.map (some mb)) (fun w2 => QB w2 qb R (FL L) W (mput (mL L) id (prV ((0 : Int), (i : Int), d))) (L.length + 1) (HL L) lo (N + 1) ∧ QFr lo lo W0 w2))) (by kernel_rfl) (by kernel_rfl) ?_ ?_
  · rw [← HW0.out]
    exact ⟨H0.out.2.2.1, HM.out.2.2, fun _ => rfl, fun h => by cases h⟩
  · iterate 6
      apply wpJ_op rfl (by rfl)
      · intro f w1 hf hJ Q1 hQ
        have hJ' : One1 W0 bx #[.int .i64 0, .int .i64 (i : Int), .int .i64 d] ⟨qb, 0, none⟩ (.map (some mb)) (fun w2 => QB w2 qb R (FL L) W (mput (mL L) id (prV ((0 : Int), (i : Int), d))) (L.length + 1) (HL L) lo (N + 1) ∧ QFr lo lo W0 w2) (f 6) w1 := hJ
        have c1 := hJ'.1.rd
        have c2 := hJ'.2.1
        have HJ := Lib.hid hJ'
        clear hJ'
        simp only [Act.put, List.setIfInBounds_toArray, List.set_cons_zero, List.set_cons_succ] at hQ
        go_wp2_with (fail)
        exact hQ _ _ rfl (J1.other hJ (by decide))
      simp only [Act.put, List.setIfInBounds_toArray, List.set_cons_zero, List.set_cons_succ]
    apply wpJ_op rfl (by rfl)
    · intro f w1 hf hJ Q1 hQ
      have hJ' : One1 W0 bx #[.int .i64 0, .int .i64 (i : Int), .int .i64 d] ⟨qb, 0, none⟩ (.map (some mb)) (fun w2 => QB w2 qb R (FL L) W (mput (mL L) id (prV ((0 : Int), (i : Int), d))) (L.length + 1) (HL L) lo (N + 1) ∧ QFr lo lo W0 w2) (f 6) w1 := hJ
      have c1 := hJ'.1.rd
      have c2 := hJ'.2.1
      have HJ := Lib.hid hJ'
      clear hJ'
      simp only [Act.put, List.setIfInBounds_toArray, List.set_cons_zero, List.set_cons_succ] at hQ
      have e1 : w1 = W0 := HJ.out.2.2.1 hf.1
      subst e1
      obtain ⟨mb', n, m1, m2, m3, m4⟩ := H0.out.1.map
      have e2 : mb' = mb := by have := H.out.2.2.2.2.2.1; rw [m1] at this; cases this; rfl
      subst e2
      have HMM := Lib.hid (And.intro m3 m4)
      clear m1 m2 m3 m4
      go_wp2_with (at_mapUpdate; refine wp_mapput _ rfl _ _ _ 54 rfl 3 31 Try.underlying3 Try.underlying54 mb' n L.length (mL L) rfl HMM.out.1 (by have := HMM.out.2; have := H.out.2.2.2.2.2.2.2.2; unfold maxLen; omega) id hid _ rfl rfl ?_; intro w3 hM3 hu3; have H3 := Lib.hid (And.intro hM3 hu3); clear hM3 hu3)
      have hnone : mL L id = none := mL_none H.out.2.1
      have hM4 := H3.out.1
      rw [hnone] at hM4
      exact hQ _ _ rfl (J1.fin ⟨Blk.upd H3.out.2 H0.out.2.2.1 (fun e => HM.out.2.1 e.symm), upd_cell H3.out.2 (fun e => HM.out.1 e.symm) c2, (fun h => by cases h), fun _ => H0.out.1.setMap H.out.2.2.2.2.2.1 hM4 (by have := HMM.out.2; omega) (by omega) H3.out.2⟩)
    simp only [Act.put, List.setIfInBounds_toArray, List.set_cons_zero, List.set_cons_succ]
    refine wpJ_nil ?_
    intro w3 hJ3
    obtain ⟨hb3, hc3, _, hq3⟩ := (J1.over hJ3 rfl)
    obtain ⟨hq4, hq5⟩ := hq3 rfl
    have H3 := Lib.hid (And.intro hb3 (And.intro hq4 hq5))
    clear hJ3 hq3 hq4 hq5 hc3
    have c1 := hb3.rd
    clear hb3
    go_upto_region 3 with (fail)
    have hQ5 : QB w3.drew qb R (FL L) W (mput (mL L) id (prV (0, (i : Int), d))) (L.length + 1) (HL L) lo (N + 1) := H3.out.2.1.upd ((Upd.refl (fun _ => False) w3).drew) (fun _ _ _ h => h)
    have hput : Calls Try.prog 41 #[.pointer (some ⟨qb, 66, none⟩), .int .i64 id, .int .i64 i] w3.drew (PutP w3.drew qb (putF (FL L) (64 * 1 + i) (insL (FL L (64 * 1 + i)) id)) (putF W 1 (wset (W 1) i)) (mput (mL L) id (prV (0, (i : Int), d))) (L.length + 1) (HL L) lo (N + 1)) := rput_is (r := 1) (i := i) hQ5 (by omega) hi id (by have := H.out.2.2.2.2.2.2.2.2; omega) (by have := H0.out.1.len (64 * 1 + i); omega) ((FL_srt H.out.1 _).imp (fun h => Int.le_of_lt h)) (H.out.2.2.2.2.1 1 (by omega)).1
    have HP := Lib.hid hput
    clear hput hQ5 c1
    refine region_J (J1 6 (One1 w3.drew bx #[.int .i64 0, .int .i64 i, .int .i64 d] ⟨bx, 0, none⟩ (.int .i64 0) (fun w4 => ∃ R' lo', QB w4 qb R' (putF (FL L) (64 * 1 + i) (insL (FL L (64 * 1 + i)) id)) (putF W 1 (wset (W 1) i)) (mput (mL L) id (prV (0, (i : Int), d))) (L.length + 1) (HL L) lo' (N + 1) ∧ QFr lo lo' w3.drew w4))) (by kernel_rfl) (by kernel_rfl) ?_ ?_
    · exact ⟨H3.out.1.drew, by rw [(H3.out.1.drew).rd]; rfl, fun _ => rfl, fun h => by cases h⟩
    · iterate 6
        apply wpJ_op rfl (by rfl)
        · intro f w1 hf hJ Q1 hQ
          have hJ' : One1 w3.drew bx #[.int .i64 0, .int .i64 i, .int .i64 d] ⟨bx, 0, none⟩ (.int .i64 0) (fun w4 => ∃ R' lo', QB w4 qb R' (putF (FL L) (64 * 1 + i) (insL (FL L (64 * 1 + i)) id)) (putF W 1 (wset (W 1) i)) (mput (mL L) id (prV (0, (i : Int), d))) (L.length + 1) (HL L) lo' (N + 1) ∧ QFr lo lo' w3.drew w4) (f 6) w1 := hJ
          have c1 := hJ'.1.rd
          have HJ := Lib.hid hJ'
          clear hJ'
          simp only [Act.put, List.setIfInBounds_toArray, List.set_cons_zero, List.set_cons_succ] at hQ
          go_wp2_with (fail)
          exact hQ _ _ rfl (J1.other hJ (by decide))
        simp only [Act.put, List.setIfInBounds_toArray, List.set_cons_zero, List.set_cons_succ]
      apply wpJ_op rfl (by rfl)
      · intro f w1 hf hJ Q1 hQ
        have hJ' : One1 w3.drew bx #[.int .i64 0, .int .i64 i, .int .i64 d] ⟨bx, 0, none⟩ (.int .i64 0) (fun w4 => ∃ R' lo', QB w4 qb R' (putF (FL L) (64 * 1 + i) (insL (FL L (64 * 1 + i)) id)) (putF W 1 (wset (W 1) i)) (mput (mL L) id (prV (0, (i : Int), d))) (L.length + 1) (HL L) lo' (N + 1) ∧ QFr lo lo' w3.drew w4) (f 6) w1 := hJ
        have c1 := hJ'.1.rd
        have HJ := Lib.hid hJ'
        clear hJ'
        simp only [Act.put, List.setIfInBounds_toArray, List.set_cons_zero, List.set_cons_succ] at hQ
        have e1 : w1 = w3.drew := HJ.out.2.2.1 hf.1
        subst e1
        have hput := HP.out
        go_wp2_with (go_at_call 41; (with_reducible refine hput.mono ?_); rintro e w4 ⟨rfl, R', lo', hQ4, hF4⟩; have H4 := Lib.hid (And.intro hQ4 hF4); clear hQ4 hF4 hput)
        exact hQ _ _ rfl (J1.fin ⟨blk_one H3.out.1.drew H4.out.2 H0.out.2.2.2, by rw [(blk_one H3.out.1.drew H4.out.2 H0.out.2.2.2).rd]; rfl, (fun h => by cases h), fun _ => ⟨R', lo', H4.out.1, H4.out.2⟩⟩)
      simp only [Act.put, List.setIfInBounds_toArray, List.set_cons_zero, List.set_cons_succ]
      refine wpJ_nil ?_
      intro w5 hJ5
      obtain ⟨_, _, _, hq⟩ := (J1.over hJ5 rfl)
      obtain ⟨R', lo', hq1, hq2⟩ := hq rfl
      have H5 := Lib.hid (And.intro hq1 hq2)
      clear hJ5 hq hq1 hq2
      go_wp2_with (fail)
      go_returns
      refine ⟨rfl, lo', fin_row (x := (id, (0, (i : Int), d))) H.out.1 H.out.2.1 H.out.2.2.1 H.out.2.2.2.1 H.out.2.2.2.2.1 (r := 1) (i := i) (by omega) hi (inRow_iff.2 ⟨by simp only; split <;> omega, by simp only; omega⟩) (by simp) H5.out.1, ?_⟩
      exact ((H0.out.2.1.trans H3.out.2.2).trans ⟨(Upd.refl _ w3).drew, fun r k h => Or.inl ⟨r, h⟩⟩).trans H5.out.2
    exact .bool false
end
end Go.Proofs.Ytpajebedeacpgaa
/-
  The queue: put, a thread of class 1.
-/
namespace Go.Proofs.Ytpajebedeacpgaa
set_option linter.unusedSimpArgs false
set_option linter.unusedVariables false
open Go.RowKit Own Sl
open RegJ hiding Up
open RegF hiding put_size
section
variable {w w' : World} {qb : Nat} {L : List One} {lo : Lo} {N : Nat}
set_option maxRecDepth 100000 in
set_option maxHeartbeats 4000000 in
theorem qput_n (h : QA w qb L lo N) (id : Int) (l d : Int) (hx : id ∉ L.map Prod.fst) (h0 : 0 ≤ id) (hm : may ((1 : Int), l, d) = true) (hid : (Lit.int .i64 id).wf = true) (hN : N < 1000) (hLN : L.length ≤ N) :
    Calls Try.prog 28 #[.pointer (some ⟨qb, 0, none⟩), .int .i64 id, prV ((1 : Int), l, d)] w (PutX w qb (insA L (id, (1 : Int), l, d)) lo (N + 1)) := by
  unfold prV
  simp only
  obtain ⟨R, W, hQ, hW⟩ := h.ex
  obtain ⟨mb, n, m1, m2, m3, m4⟩ := hQ.map
  have hgd := h.gd
  have hbw : Below w.heap.size w (w.alloc (.cells #[.int .i64 1, .int .i64 l, .int .i64 d] 31)) := blk3 w 1 l d
  have hQ0 : QB (w.alloc (.cells #[.int .i64 1, .int .i64 l, .int .i64 d] 31)).drew qb R (FL L) W (mL L) L.length (HL L) lo N := (hQ.below hbw).upd ((Upd.refl (fun _ => False) _).drew) (fun _ _ _ h => h)
  have hF0 : QFr lo lo w (w.alloc (.cells #[.int .i64 1, .int .i64 l, .int .i64 d] 31)).drew := ⟨((Upd.refl _ w).alloc _).drew, fun r k h => Or.inl ⟨r, h⟩⟩
  have hbx : Blk (w.alloc (.cells #[.int .i64 1, .int .i64 l, .int .i64 d] 31)).drew w.heap.size #[.int .i64 1, .int .i64 l, .int .i64 d] 31 := (Blk.new w _ _).drew
  have hnb : ∀ r k, lo r = some k → k ≠ w.heap.size := fun r k hk e => by have := hQ.lt r k hk; omega
  have H := Lib.hid (And.intro hgd (And.intro hx (And.intro h0 (And.intro hm (And.intro hW (And.intro m1 (And.intro m2 (And.intro m4 (And.intro hN hLN)))))))))
  clear h hQ hW m1 m2 m3 m4 hgd hx h0 hm hbw
  go_enter Try.func28, Try.ntmps28
  go_upto_region 1 with (fail)
  obtain ⟨W0, hW0⟩ : ∃ W0, W0 = (w.alloc (.cells #[.int .i64 1, .int .i64 l, .int .i64 d] 31)).drew := ⟨_, rfl⟩
  rw [← hW0] at hQ0 hF0 hbx
  have HW0 := Lib.hid hW0
  clear hW0
  have H0 := Lib.hid (And.intro hQ0 (And.intro hF0 (And.intro hbx hnb)))
  clear hQ0 hF0 hbx hnb
  generalize w.heap.size = bx at *
  have hmq : mb ≠ qb := fun e => by have := H0.out.1.inj _ _ _ H.out.2.2.2.2.2.1 (e ▸ H0.out.1.at'); cases this
  have hmx : mb ≠ bx := H0.out.2.2.2 _ _ H.out.2.2.2.2.2.1
  have hc0 : W0.cell? ⟨qb, 0, none⟩ = some (.map (some mb)) := by rw [H0.out.1.cell 0 (by omega), H.out.2.2.2.2.2.2.1]
  have HM := Lib.hid (And.intro hmq (And.intro hmx hc0))
  clear hmq hmx hc0
  refine region_J (J1 6 (One1 W0 bx #[.int .i64 1, .int .i64 l, .int .i64 d] ⟨qb, 0, none⟩ (.map (some mb)) (fun w2 => QB w2 qb R (FL L) W (mput (mL L) id (prV ((1 : Int), l, d))) (L.length + 1) (HL L) lo (N + 1) ∧ QFr lo lo W0 w2))) (by kernel_rfl) (by kernel_rfl) ?_ ?_
  · rw [← HW0.out]
    exact ⟨H0.out.2.2.1, HM.out.2.2, fun _ => rfl, fun h => by cases h⟩
  · iterate 6
      apply wpJ_op rfl (by rfl)
      · intro f w1 hf hJ Q1 hQ
        have hJ' : One1 W0 bx #[.int .i64 1, .int .i64 l, .int .i64 d] ⟨qb, 0, none⟩ (.map (some mb)) (fun w2 => QB w2 qb R (FL L) W (mput (mL L) id (prV ((1 : Int), l, d))) (L.length + 1) (HL L) lo (N + 1) ∧ QFr lo lo W0 w2) (f 6) w1 := hJ
        have c1 := hJ'.1.rd
        have c2 := hJ'.2.1
        have HJ := Lib.hid hJ'
        clear hJ'
        simp only [Act.put, List.setIfInBounds_toArray, List.set_cons_zero, List.set_cons_succ] at hQ
        go_wp2_with (fail)
        exact hQ _ _ rfl (J1.other hJ (by decide))
      simp only [Act.put, List.setIfInBounds_toArray, List.set_cons_zero, List.set_cons_succ]
    apply wpJ_op rfl (by rfl)
    · intro f w1 hf hJ Q1 hQ
      have hJ' : One1 W0 bx #[.int .i64 1, .int .i64 l, .int .i64 d] ⟨qb, 0, none⟩ (.map (some mb)) (fun w2 => QB w2 qb R (FL L) W (mput (mL L) id (prV ((1 : Int), l, d))) (L.length + 1) (HL L) lo (N + 1) ∧ QFr lo lo W0 w2) (f 6) w1 := hJ
      have c1 := hJ'.1.rd
      have c2 := hJ'.2.1
      have HJ := Lib.hid hJ'
      clear hJ'
      simp only [Act.put, List.setIfInBounds_toArray, List.set_cons_zero, List.set_cons_succ] at hQ
      have e1 : w1 = W0 := HJ.out.2.2.1 hf.1
      subst e1
      obtain ⟨mb', n, m1, m2, m3, m4⟩ := H0.out.1.map
      have e2 : mb' = mb := by have := H.out.2.2.2.2.2.1; rw [m1] at this; cases this; rfl
      subst e2
      have HMM := Lib.hid (And.intro m3 m4)
      clear m1 m2 m3 m4
      go_wp2_with (at_mapUpdate; refine wp_mapput _ rfl _ _ _ 54 rfl 3 31 Try.underlying3 Try.underlying54 mb' n L.length (mL L) rfl HMM.out.1 (by have := HMM.out.2; have := H.out.2.2.2.2.2.2.2.2.1; unfold maxLen; omega) id hid _ rfl rfl ?_; intro w3 hM3 hu3; have H3 := Lib.hid (And.intro hM3 hu3); clear hM3 hu3)
      have hnone : mL L id = none := mL_none H.out.2.1
      have hM4 := H3.out.1
      rw [hnone] at hM4
      exact hQ _ _ rfl (J1.fin ⟨Blk.upd H3.out.2 H0.out.2.2.1 (fun e => HM.out.2.1 e.symm), upd_cell H3.out.2 (fun e => HM.out.1 e.symm) c2, (fun h => by cases h), fun _ => H0.out.1.setMap H.out.2.2.2.2.2.1 hM4 (by have := HMM.out.2; omega) (by omega) H3.out.2⟩)
    simp only [Act.put, List.setIfInBounds_toArray, List.set_cons_zero, List.set_cons_succ]
    refine wpJ_nil ?_
    intro w3 hJ3
    obtain ⟨hb3, hc3, _, hq3⟩ := (J1.over hJ3 rfl)
    obtain ⟨hq4, hq5⟩ := hq3 rfl
    have H3 := Lib.hid (And.intro hb3 (And.intro hq4 hq5))
    clear hJ3 hq3 hq4 hq5 hc3
    have c1 := hb3.rd
    clear hb3
    go_upto_region 7 with (fail)
    obtain ⟨hb, h1, h2, xs, h3, h4⟩ := (H3.out.2.1.upd ((Upd.refl (fun _ => False) w3).drew) (fun _ _ _ h => h)).heap
    have hno : hasB xs id = false := by
      cases hh : hasB xs id with
      | false => rfl
      | true =>
        exfalso
        have h5 : hasB (HL L) id = true := by
          unfold hasB at hh ⊢
          rw [List.any_eq_true] at hh ⊢
          obtain ⟨p, hp, he⟩ := hh
          exact ⟨p, h3.mem_iff.1 hp, he⟩
        obtain ⟨y, hy, hy1, _⟩ := HL_hasB.1 h5
        exact H.out.2.1 (hy1 ▸ List.mem_map_of_mem hy)
    have hxl : xs.length ≤ 1000 := by
      have e1 := h3.length_eq
      have e2 : (HL L).length ≤ L.length := by unfold HL; rw [List.length_map]; exact List.length_filter_le _ _
      have e3 : L.length ≤ 1000 := by have := H.out.2.2.2.2.2.2.2.2; omega
      omega
    have hps := push_ok h4 hxl id d H.out.2.2.1 hno
    have hch : w3.drew.cell? ⟨qb, 131, none⟩ = some (.pointer (some ⟨hb, 0, none⟩)) := by
      have := H3.out.2.1.cell 131 (by omega)
      rw [h2] at this
      exact this
    have hbq : hb ≠ qb ∧ lo .hr ≠ some qb := ⟨(fun e => by have := H3.out.2.1.inj _ _ _ h1 (e ▸ H3.out.2.1.at'); cases this), (fun e => by have := H3.out.2.1.inj _ _ _ e H3.out.2.1.at'; cases this)⟩
    have hbb : hb ≠ bx ∧ lo .hr ≠ some bx := ⟨H0.out.2.2.2 _ _ h1, fun e => H0.out.2.2.2 _ _ e rfl⟩
    have HP := Lib.hid (And.intro hps (And.intro h1 (And.intro h3 (And.intro hch (And.intro hbq hbb)))))
    clear hps h1 h2 h3 h4 hch hbq hbb hno hxl c1
    refine region_J (J1 7 (One1 w3.drew bx #[.int .i64 1, .int .i64 l, .int .i64 d] ⟨qb, 131, none⟩ (.pointer (some ⟨hb, 0, none⟩)) (fun w4 => ∃ ys b', ys.Perm ((id, d) :: HL L) ∧ Hp w4 hb ys b' ∧ HFr hb (lo .hr) b' w3.drew w4))) (by kernel_rfl) (by kernel_rfl) ?_ ?_
    · exact ⟨H3.out.1.drew, HP.out.2.2.2.1, fun _ => rfl, fun h => by cases h⟩
    · iterate 7
        apply wpJ_op rfl (by rfl)
        · intro f w1 hf hJ Q1 hQ
          have hJ' : One1 w3.drew bx #[.int .i64 1, .int .i64 l, .int .i64 d] ⟨qb, 131, none⟩ (.pointer (some ⟨hb, 0, none⟩)) (fun w4 => ∃ ys b', ys.Perm ((id, d) :: HL L) ∧ Hp w4 hb ys b' ∧ HFr hb (lo .hr) b' w3.drew w4) (f 7) w1 := hJ
          have c1 := hJ'.1.rd
          have c2 := hJ'.2.1
          have HJ := Lib.hid hJ'
          clear hJ'
          simp only [Act.put, List.setIfInBounds_toArray, List.set_cons_zero, List.set_cons_succ] at hQ
          go_wp2_with (fail)
          exact hQ _ _ rfl (J1.other hJ (by decide))
        simp only [Act.put, List.setIfInBounds_toArray, List.set_cons_zero, List.set_cons_succ]
      apply wpJ_op rfl (by rfl)
      · intro f w1 hf hJ Q1 hQ
        have hJ' : One1 w3.drew bx #[.int .i64 1, .int .i64 l, .int .i64 d] ⟨qb, 131, none⟩ (.pointer (some ⟨hb, 0, none⟩)) (fun w4 => ∃ ys b', ys.Perm ((id, d) :: HL L) ∧ Hp w4 hb ys b' ∧ HFr hb (lo .hr) b' w3.drew w4) (f 7) w1 := hJ
        have c1 := hJ'.1.rd
        have c2 := hJ'.2.1
        have HJ := Lib.hid hJ'
        clear hJ'
        simp only [Act.put, List.setIfInBounds_toArray, List.set_cons_zero, List.set_cons_succ] at hQ
        have e1 : w1 = w3.drew := HJ.out.2.2.1 hf.1
        subst e1
        have hps := HP.out.1
        go_wp2_with (go_at_call 42; (with_reducible refine hps.mono ?_); rintro e w4 ⟨rfl, ys, b', hp, hh, hf4⟩; have H4 := Lib.hid (And.intro hp (And.intro hh hf4)); clear hp hh hf4 hps)
        exact hQ _ _ rfl (J1.fin ⟨Blk.upd H4.out.2.2.1 H3.out.1.drew (fun e => by rcases e with e | e; exact HP.out.2.2.2.2.2.1 e.symm; exact HP.out.2.2.2.2.2.2 e), upd_cell H4.out.2.2.1 (fun e => by rcases e with e | e; exact HP.out.2.2.2.2.1.1 e.symm; exact HP.out.2.2.2.2.1.2 e) c2, (fun h => by cases h), fun _ => ⟨ys, b', H4.out.1.trans ((List.perm_append_singleton _ _).trans (HP.out.2.2.1.cons _)), H4.out.2.1, H4.out.2.2⟩⟩)
      simp only [Act.put, List.setIfInBounds_toArray, List.set_cons_zero, List.set_cons_succ]
      refine wpJ_nil ?_
      intro w5 hJ5
      obtain ⟨_, _, _, hq⟩ := (J1.over hJ5 rfl)
      obtain ⟨ys, b', hp, hh, hf5⟩ := hq rfl
      have hres := (H3.out.2.1.upd ((Upd.refl (fun _ => False) w3).drew) (fun _ _ _ h => h)).setHeap HP.out.2.1 hp hh hf5
      have H5 := Lib.hid hres
      clear hJ5 hq hp hh hf5 hres
      go_wp2_with (fail)
      go_returns
      refine ⟨rfl, _, fin_heap (x := (id, ((1 : Int), l, d))) H.out.1 H.out.2.1 H.out.2.2.1 H.out.2.2.2.1 H.out.2.2.2.2.1 rfl H5.out.1, ?_⟩
      exact ((H0.out.2.1.trans H3.out.2.2).trans ⟨(Upd.refl _ w3).drew, fun r k h => Or.inl ⟨r, h⟩⟩).trans H5.out.2
    exact .bool false
end
end Go.Proofs.Ytpajebedeacpgaa
/-
  The queue: put, a thread of class 2.
-/
namespace Go.Proofs.Ytpajebedeacpgaa
set_option linter.unusedSimpArgs false
set_option linter.unusedVariables false
open Go.RowKit Own Sl
open RegJ hiding Up
open RegF hiding put_size
section
variable {w w' : World} {qb : Nat} {L : List One} {lo : Lo} {N : Nat}
set_option maxRecDepth 100000 in
set_option maxHeartbeats 4000000 in
theorem qput_h (h : QA w qb L lo N) (id : Int) (i : Nat) (hi : i < 64) (d : Int) (hx : id ∉ L.map Prod.fst) (h0 : 0 ≤ id) (hm : may ((2 : Int), (i : Int), d) = true) (hid : (Lit.int .i64 id).wf = true) (hN : N < 1000) :
    Calls Try.prog 28 #[.pointer (some ⟨qb, 0, none⟩), .int .i64 id, prV ((2 : Int), (i : Int), d)] w (PutX w qb (insA L (id, (2 : Int), (i : Int), d)) lo (N + 1)) := by
  unfold prV
  simp only
  obtain ⟨R, W, hQ, hW⟩ := h.ex
  obtain ⟨mb, n, m1, m2, m3, m4⟩ := hQ.map
  have hgd := h.gd
  have hbw : Below w.heap.size w (w.alloc (.cells #[.int .i64 2, .int .i64 (i : Int), .int .i64 d] 31)) := blk3 w 2 (i : Int) d
  have hQ0 : QB (w.alloc (.cells #[.int .i64 2, .int .i64 (i : Int), .int .i64 d] 31)).drew qb R (FL L) W (mL L) L.length (HL L) lo N := (hQ.below hbw).upd ((Upd.refl (fun _ => False) _).drew) (fun _ _ _ h => h)
  have hF0 : QFr lo lo w (w.alloc (.cells #[.int .i64 2, .int .i64 (i : Int), .int .i64 d] 31)).drew := ⟨((Upd.refl _ w).alloc _).drew, fun r k h => Or.inl ⟨r, h⟩⟩
  have hbx : Blk (w.alloc (.cells #[.int .i64 2, .int .i64 (i : Int), .int .i64 d] 31)).drew w.heap.size #[.int .i64 2, .int .i64 (i : Int), .int .i64 d] 31 := (Blk.new w _ _).drew
  have hnb : ∀ r k, lo r = some k → k ≠ w.heap.size := fun r k hk e => by have := hQ.lt r k hk; omega
  have H := Lib.hid (And.intro hgd (And.intro hx (And.intro h0 (And.intro hm (And.intro hW (And.intro m1 (And.intro m2 (And.intro m4 hN))))))))
  clear h hQ hW m1 m2 m3 m4 hgd hx h0 hm hbw
  go_enter Try.func28, Try.ntmps28
  go_upto_region 1 with (fail)
  obtain ⟨W0, hW0⟩ : ∃ W0, W0 = (w.alloc (.cells #[.int .i64 2, .int .i64 (i : Int), .int .i64 d] 31)).drew := ⟨_, rfl⟩
  rw [← hW0] at hQ0 hF0 hbx
  have HW0 := Lib.hid hW0
  clear hW0
  have H0 := Lib.hid (And.intro hQ0 (And.intro hF0 (And.intro hbx hnb)))
  clear hQ0 hF0 hbx hnb
  generalize w.heap.size = bx at *
  have hmq : mb ≠ qb := fun e => by have := H0.out.1.inj _ _ _ H.out.2.2.2.2.2.1 (e ▸ H0.out.1.at'); cases this
  have hmx : mb ≠ bx := H0.out.2.2.2 _ _ H.out.2.2.2.2.2.1
  have hc0 : W0.cell? ⟨qb, 0, none⟩ = some (.map (some mb)) := by rw [H0.out.1.cell 0 (by omega), H.out.2.2.2.2.2.2.1]
  have HM := Lib.hid (And.intro hmq (And.intro hmx hc0))
  clear hmq hmx hc0
  refine region_J (J1 6 (One1 W0 bx #[.int .i64 2, .int .i64 (i : Int), .int .i64 d] ⟨qb, 0, none⟩ (.map (some mb)) (fun w2 => QB w2 qb R (FL L) W (mput (mL L) id (prV ((2 : Int), (i : Int), d))) (L.length + 1) (HL L) lo (N + 1) ∧ QFr lo lo W0 w2))) (by kernel_rfl) (by kernel_rfl) ?_ ?_
  · rw [← HW0.out]
    exact ⟨H0.out.2.2.1, HM.out.2.2, fun _ => rfl, fun h => by cases h⟩
  · iterate 6
      apply wpJ_op rfl (by rfl)
      · intro f w1 hf hJ Q1 hQ
        have hJ' : One1 W0 bx #[.int .i64 2, .int .i64 (i : Int), .int .i64 d] ⟨qb, 0, none⟩ (.map (some mb)) (fun w2 => QB w2 qb R (FL L) W (mput (mL L) id (prV ((2 : Int), (i : Int), d))) (L.length + 1) (HL L) lo (N + 1) ∧ QFr lo lo W0 w2) (f 6) w1 := hJ
        have c1 := hJ'.1.rd
        have c2 := hJ'.2.1
        have HJ := Lib.hid hJ'
        clear hJ'
        simp only [Act.put, List.setIfInBounds_toArray, List.set_cons_zero, List.set_cons_succ] at hQ
        go_wp2_with (fail)
        exact hQ _ _ rfl (J1.other hJ (by decide))
      simp only [Act.put, List.setIfInBounds_toArray, List.set_cons_zero, List.set_cons_succ]
    apply wpJ_op rfl (by rfl)
    · intro f w1 hf hJ Q1 hQ
      have hJ' : One1 W0 bx #[.int .i64 2, .int .i64 (i : Int), .int .i64 d] ⟨qb, 0, none⟩ (.map (some mb)) (fun w2 => QB w2 qb R (FL L) W (mput (mL L) id (prV ((2 : Int), (i : Int), d))) (L.length + 1) (HL L) lo (N + 1) ∧ QFr lo lo W0 w2) (f 6) w1 := hJ
      have c1 := hJ'.1.rd
      have c2 := hJ'.2.1
      have HJ := Lib.hid hJ'
      clear hJ'
      simp only [Act.put, List.setIfInBounds_toArray, List.set_cons_zero, List.set_cons_succ] at hQ
      have e1 : w1 = W0 := HJ.out.2.2.1 hf.1
      subst e1
      obtain ⟨mb', n, m1, m2, m3, m4⟩ := H0.out.1.map
      have e2 : mb' = mb := by have := H.out.2.2.2.2.2.1; rw [m1] at this; cases this; rfl
      subst e2
      have HMM := Lib.hid (And.intro m3 m4)
      clear m1 m2 m3 m4
      go_wp2_with (at_mapUpdate; refine wp_mapput _ rfl _ _ _ 54 rfl 3 31 Try.underlying3 Try.underlying54 mb' n L.length (mL L) rfl HMM.out.1 (by have := HMM.out.2; have := H.out.2.2.2.2.2.2.2.2; unfold maxLen; omega) id hid _ rfl rfl ?_; intro w3 hM3 hu3; have H3 := Lib.hid (And.intro hM3 hu3); clear hM3 hu3)
      have hnone : mL L id = none := mL_none H.out.2.1
      have hM4 := H3.out.1
      rw [hnone] at hM4
      exact hQ _ _ rfl (J1.fin ⟨Blk.upd H3.out.2 H0.out.2.2.1 (fun e => HM.out.2.1 e.symm), upd_cell H3.out.2 (fun e => HM.out.1 e.symm) c2, (fun h => by cases h), fun _ => H0.out.1.setMap H.out.2.2.2.2.2.1 hM4 (by have := HMM.out.2; omega) (by omega) H3.out.2⟩)
    simp only [Act.put, List.setIfInBounds_toArray, List.set_cons_zero, List.set_cons_succ]
    refine wpJ_nil ?_
    intro w3 hJ3
    obtain ⟨hb3, hc3, _, hq3⟩ := (J1.over hJ3 rfl)
    obtain ⟨hq4, hq5⟩ := hq3 rfl
    have H3 := Lib.hid (And.intro hb3 (And.intro hq4 hq5))
    clear hJ3 hq3 hq4 hq5 hc3
    have c1 := hb3.rd
    clear hb3
    go_upto_region 5 with (fail)
    have hQ5 : QB w3.drew qb R (FL L) W (mput (mL L) id (prV (2, (i : Int), d))) (L.length + 1) (HL L) lo (N + 1) := H3.out.2.1.upd ((Upd.refl (fun _ => False) w3).drew) (fun _ _ _ h => h)
    have hput : Calls Try.prog 41 #[.pointer (some ⟨qb, 1, none⟩), .int .i64 id, .int .i64 i] w3.drew (PutP w3.drew qb (putF (FL L) (64 * 0 + i) (insL (FL L (64 * 0 + i)) id)) (putF W 0 (wset (W 0) i)) (mput (mL L) id (prV (2, (i : Int), d))) (L.length + 1) (HL L) lo (N + 1)) := rput_is (r := 0) (i := i) hQ5 (by omega) hi id (by have := H.out.2.2.2.2.2.2.2.2; omega) (by have := H0.out.1.len (64 * 0 + i); omega) ((FL_srt H.out.1 _).imp (fun h => Int.le_of_lt h)) (H.out.2.2.2.2.1 0 (by omega)).1
    have HP := Lib.hid hput
    clear hput hQ5 c1
    refine region_J (J1 6 (One1 w3.drew bx #[.int .i64 2, .int .i64 i, .int .i64 d] ⟨bx, 0, none⟩ (.int .i64 2) (fun w4 => ∃ R' lo', QB w4 qb R' (putF (FL L) (64 * 0 + i) (insL (FL L (64 * 0 + i)) id)) (putF W 0 (wset (W 0) i)) (mput (mL L) id (prV (2, (i : Int), d))) (L.length + 1) (HL L) lo' (N + 1) ∧ QFr lo lo' w3.drew w4))) (by kernel_rfl) (by kernel_rfl) ?_ ?_
    · exact ⟨H3.out.1.drew, by rw [(H3.out.1.drew).rd]; rfl, fun _ => rfl, fun h => by cases h⟩
    · iterate 6
        apply wpJ_op rfl (by rfl)
        · intro f w1 hf hJ Q1 hQ
          have hJ' : One1 w3.drew bx #[.int .i64 2, .int .i64 i, .int .i64 d] ⟨bx, 0, none⟩ (.int .i64 2) (fun w4 => ∃ R' lo', QB w4 qb R' (putF (FL L) (64 * 0 + i) (insL (FL L (64 * 0 + i)) id)) (putF W 0 (wset (W 0) i)) (mput (mL L) id (prV (2, (i : Int), d))) (L.length + 1) (HL L) lo' (N + 1) ∧ QFr lo lo' w3.drew w4) (f 6) w1 := hJ
          have c1 := hJ'.1.rd
          have HJ := Lib.hid hJ'
          clear hJ'
          simp only [Act.put, List.setIfInBounds_toArray, List.set_cons_zero, List.set_cons_succ] at hQ
          go_wp2_with (fail)
          exact hQ _ _ rfl (J1.other hJ (by decide))
        simp only [Act.put, List.setIfInBounds_toArray, List.set_cons_zero, List.set_cons_succ]
      apply wpJ_op rfl (by rfl)
      · intro f w1 hf hJ Q1 hQ
        have hJ' : One1 w3.drew bx #[.int .i64 2, .int .i64 i, .int .i64 d] ⟨bx, 0, none⟩ (.int .i64 2) (fun w4 => ∃ R' lo', QB w4 qb R' (putF (FL L) (64 * 0 + i) (insL (FL L (64 * 0 + i)) id)) (putF W 0 (wset (W 0) i)) (mput (mL L) id (prV (2, (i : Int), d))) (L.length + 1) (HL L) lo' (N + 1) ∧ QFr lo lo' w3.drew w4) (f 6) w1 := hJ
        have c1 := hJ'.1.rd
        have HJ := Lib.hid hJ'
        clear hJ'
        simp only [Act.put, List.setIfInBounds_toArray, List.set_cons_zero, List.set_cons_succ] at hQ
        have e1 : w1 = w3.drew := HJ.out.2.2.1 hf.1
        subst e1
        have hput := HP.out
        go_wp2_with (go_at_call 41; (with_reducible refine hput.mono ?_); rintro e w4 ⟨rfl, R', lo', hQ4, hF4⟩; have H4 := Lib.hid (And.intro hQ4 hF4); clear hQ4 hF4 hput)
        exact hQ _ _ rfl (J1.fin ⟨blk_one H3.out.1.drew H4.out.2 H0.out.2.2.2, by rw [(blk_one H3.out.1.drew H4.out.2 H0.out.2.2.2).rd]; rfl, (fun h => by cases h), fun _ => ⟨R', lo', H4.out.1, H4.out.2⟩⟩)
      simp only [Act.put, List.setIfInBounds_toArray, List.set_cons_zero, List.set_cons_succ]
      refine wpJ_nil ?_
      intro w5 hJ5
      obtain ⟨_, _, _, hq⟩ := (J1.over hJ5 rfl)
      obtain ⟨R', lo', hq1, hq2⟩ := hq rfl
      have H5 := Lib.hid (And.intro hq1 hq2)
      clear hJ5 hq hq1 hq2
      go_wp2_with (fail)
      go_returns
      refine ⟨rfl, lo', fin_row (x := (id, (2, (i : Int), d))) H.out.1 H.out.2.1 H.out.2.2.1 H.out.2.2.2.1 H.out.2.2.2.2.1 (r := 0) (i := i) (by omega) hi (inRow_iff.2 ⟨by simp only; split <;> omega, by simp only; omega⟩) (by simp) H5.out.1, ?_⟩
      exact ((H0.out.2.1.trans H3.out.2.2).trans ⟨(Upd.refl _ w3).drew, fun r k h => Or.inl ⟨r, h⟩⟩).trans H5.out.2
    exact .bool false
end
end Go.Proofs.Ytpajebedeacpgaa
/-
  The queue: put.
-/
namespace Go.Proofs.Ytpajebedeacpgaa
set_option linter.unusedSimpArgs false
set_option linter.unusedVariables false
open Go.RowKit Own Sl
section
variable {w w' : World} {qb : Nat} {L : List One} {lo : Lo} {N : Nat}
theorem qput_is (h : QA w qb L lo N) (x : One) (hx : x.1 ∉ L.map Prod.fst) (h0 : 0 ≤ x.1) (hm : may x.2 = true) (hid : (Lit.int .i64 x.1).wf = true) (hN : N < 1000) (hLN : L.length ≤ N) :
    Calls Try.prog 28 #[.pointer (some ⟨qb, 0, none⟩), .int .i64 x.1, prV x.2] w (PutX w qb (insA L x) lo (N + 1)) := by
  obtain ⟨id, c, l, d⟩ := x
  rcases may_cases hm with ⟨hcl, hl1, hl2, hd⟩ | ⟨hcl, hl0, hd1, hd2⟩ | ⟨hcl, hl1, hl2, hd⟩ <;> simp only at hcl <;> subst hcl
  · obtain ⟨i, hi⟩ : ∃ i : Nat, l = i := ⟨l.toNat, by simp only at hl1; omega⟩
    simp only at hl2
    subst hi
    exact qput_b h id i (by omega) d hx h0 hm hid hN
  · exact qput_n h id l d hx h0 hm hid hN hLN
  · obtain ⟨i, hi⟩ : ∃ i : Nat, l = i := ⟨l.toNat, by simp only at hl1; omega⟩
    simp only at hl2
    subst hi
    exact qput_h h id i (by omega) d hx h0 hm hid hN
end
end Go.Proofs.Ytpajebedeacpgaa
