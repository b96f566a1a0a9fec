/-
  The queue: put, a thread of class 0.
-/
import Derived.Test.YtpajebedeacpgaaRxH
namespace Go.Proofs.Ytpajebedeacpgaa
set_option linter.unusedSimpArgs false
set_option linter.unusedVariables false
open Go.RowKit Own Sl
open RegJ hiding Up
open RegF hiding put_size
section
variable {w w' : World} {qb : Nat} {L : List One} {lo : Lo} {N : Nat}
set_option maxRecDepth 100000 in
set_option maxHeartbeats 4000000 in
theorem qput_b (h : QA w qb L lo N) (id : Int) (i : Nat) (hi : i < 64) (d : Int) (hx : id ∉ L.map Prod.fst) (h0 : 0 ≤ id) (hm : may ((0 : Int), (i : Int), d) = true) (hid : (Lit.int .i64 id).wf = true) (hN : N < 1000) :
    Calls Try.prog 28 #[.pointer (some ⟨qb, 0, none⟩), .int .i64 id, prV ((0 : Int), (i : Int), d)] w (PutX w qb (insA L (id, (0 : Int), (i : Int), d)) lo (N + 1)) := by
  unfold prV
  simp only
  obtain ⟨R, W, hQ, hW⟩ := h.ex
  obtain ⟨mb, n, m1, m2, m3, m4⟩ := hQ.map
  have hgd := h.gd
  have hbw : Below w.heap.size w (w.alloc (.cells #[.int .i64 0, .int .i64 (i : Int), .int .i64 d] 31)) := blk3 w 0 (i : Int) d
  have hQ0 : QB (w.alloc (.cells #[.int .i64 0, .int .i64 (i : Int), .int .i64 d] 31)).drew qb R (FL L) W (mL L) L.length (HL L) lo N := (hQ.below hbw).upd ((Upd.refl (fun _ => False) _).drew) (fun _ _ _ h => h)
  have hF0 : QFr lo lo w (w.alloc (.cells #[.int .i64 0, .int .i64 (i : Int), .int .i64 d] 31)).drew := ⟨((Upd.refl _ w).alloc _).drew, fun r k h => Or.inl ⟨r, h⟩⟩
  have hbx : Blk (w.alloc (.cells #[.int .i64 0, .int .i64 (i : Int), .int .i64 d] 31)).drew w.heap.size #[.int .i64 0, .int .i64 (i : Int), .int .i64 d] 31 := (Blk.new w _ _).drew
  have hnb : ∀ r k, lo r = some k → k ≠ w.heap.size := fun r k hk e => by have := hQ.lt r k hk; omega
  have H := Lib.hid (And.intro hgd (And.intro hx (And.intro h0 (And.intro hm (And.intro hW (And.intro m1 (And.intro m2 (And.intro m4 hN))))))))
  clear h hQ hW m1 m2 m3 m4 hgd hx h0 hm hbw
  go_enter Try.func28, Try.ntmps28
  go_upto_region 1 with (fail)
  obtain ⟨W0, hW0⟩ : ∃ W0, W0 = (w.alloc (.cells #[.int .i64 0, .int .i64 (i : Int), .int .i64 d] 31)).drew := ⟨_, rfl⟩
  rw [← hW0] at hQ0 hF0 hbx
  have HW0 := Lib.hid hW0
  clear hW0
  have H0 := Lib.hid (And.intro hQ0 (And.intro hF0 (And.intro hbx hnb)))
  clear hQ0 hF0 hbx hnb
  generalize w.heap.size = bx at *
  have hmq : mb ≠ qb := fun e => by have := H0.out.1.inj _ _ _ H.out.2.2.2.2.2.1 (e ▸ H0.out.1.at'); cases this
  have hmx : mb ≠ bx := H0.out.2.2.2 _ _ H.out.2.2.2.2.2.1
  have hc0 : W0.cell? ⟨qb, 0, none⟩ = some (.map (some mb)) := by rw [H0.out.1.cell 0 (by omega), H.out.2.2.2.2.2.2.1]
  have HM := Lib.hid (And.intro hmq (And.intro hmx hc0))
  clear hmq hmx hc0
  refine region_J (J1 6 (One1 W0 bx #[.int .i64 0, .int .i64 (i : Int), .int .i64 d] ⟨qb, 0, none⟩ (.map (some mb)) (fun w2 => QB w2 qb R (FL L) W (mput (mL L) id (prV ((0 : Int), (i : Int), d))) (L.length + 1) (HL L) lo (N + 1) ∧ QFr lo lo W0 w2))) (by kernel_rfl) (by kernel_rfl) ?_ ?_
  · rw [← HW0.out]
    exact ⟨H0.out.2.2.1, HM.out.2.2, fun _ => rfl, fun h => by cases h⟩
  · iterate 6
      apply wpJ_op rfl (by rfl)
      · intro f w1 hf hJ Q1 hQ
        have hJ' : One1 W0 bx #[.int .i64 0, .int .i64 (i : Int), .int .i64 d] ⟨qb, 0, none⟩ (.map (some mb)) (fun w2 => QB w2 qb R (FL L) W (mput (mL L) id (prV ((0 : Int), (i : Int), d))) (L.length + 1) (HL L) lo (N + 1) ∧ QFr lo lo W0 w2) (f 6) w1 := hJ
        have c1 := hJ'.1.rd
        have c2 := hJ'.2.1
        have HJ := Lib.hid hJ'
        clear hJ'
        simp only [Act.put, List.setIfInBounds_toArray, List.set_cons_zero, List.set_cons_succ] at hQ
        go_wp2_with (fail)
        exact hQ _ _ rfl (J1.other hJ (by decide))
      simp only [Act.put, List.setIfInBounds_toArray, List.set_cons_zero, List.set_cons_succ]
    apply wpJ_op rfl (by rfl)
    · intro f w1 hf hJ Q1 hQ
      have hJ' : One1 W0 bx #[.int .i64 0, .int .i64 (i : Int), .int .i64 d] ⟨qb, 0, none⟩ (.map (some mb)) (fun w2 => QB w2 qb R (FL L) W (mput (mL L) id (prV ((0 : Int), (i : Int), d))) (L.length + 1) (HL L) lo (N + 1) ∧ QFr lo lo W0 w2) (f 6) w1 := hJ
      have c1 := hJ'.1.rd
      have c2 := hJ'.2.1
      have HJ := Lib.hid hJ'
      clear hJ'
      simp only [Act.put, List.setIfInBounds_toArray, List.set_cons_zero, List.set_cons_succ] at hQ
      have e1 : w1 = W0 := HJ.out.2.2.1 hf.1
      subst e1
      obtain ⟨mb', n, m1, m2, m3, m4⟩ := H0.out.1.map
      have e2 : mb' = mb := by have := H.out.2.2.2.2.2.1; rw [m1] at this; cases this; rfl
      subst e2
      have HMM := Lib.hid (And.intro m3 m4)
      clear m1 m2 m3 m4
      go_wp2_with (at_mapUpdate; refine wp_mapput _ rfl _ _ _ 54 rfl 3 31 Try.underlying3 Try.underlying54 mb' n L.length (mL L) rfl HMM.out.1 (by have := HMM.out.2; have := H.out.2.2.2.2.2.2.2.2; unfold maxLen; omega) id hid _ rfl rfl ?_; intro w3 hM3 hu3; have H3 := Lib.hid (And.intro hM3 hu3); clear hM3 hu3)
      have hnone : mL L id = none := mL_none H.out.2.1
      have hM4 := H3.out.1
      rw [hnone] at hM4
      exact hQ _ _ rfl (J1.fin ⟨Blk.upd H3.out.2 H0.out.2.2.1 (fun e => HM.out.2.1 e.symm), upd_cell H3.out.2 (fun e => HM.out.1 e.symm) c2, (fun h => by cases h), fun _ => H0.out.1.setMap H.out.2.2.2.2.2.1 hM4 (by have := HMM.out.2; omega) (by omega) H3.out.2⟩)
    simp only [Act.put, List.setIfInBounds_toArray, List.set_cons_zero, List.set_cons_succ]
    refine wpJ_nil ?_
    intro w3 hJ3
    obtain ⟨hb3, hc3, _, hq3⟩ := (J1.over hJ3 rfl)
    obtain ⟨hq4, hq5⟩ := hq3 rfl
    have H3 := Lib.hid (And.intro hb3 (And.intro hq4 hq5))
    clear hJ3 hq3 hq4 hq5 hc3
    have c1 := hb3.rd
    clear hb3
    go_upto_region 3 with (fail)
    have hQ5 : QB w3.drew qb R (FL L) W (mput (mL L) id (prV (0, (i : Int), d))) (L.length + 1) (HL L) lo (N + 1) := H3.out.2.1.upd ((Upd.refl (fun _ => False) w3).drew) (fun _ _ _ h => h)
    have hput : Calls Try.prog 41 #[.pointer (some ⟨qb, 66, none⟩), .int .i64 id, .int .i64 i] w3.drew (PutP w3.drew qb (putF (FL L) (64 * 1 + i) (insL (FL L (64 * 1 + i)) id)) (putF W 1 (wset (W 1) i)) (mput (mL L) id (prV (0, (i : Int), d))) (L.length + 1) (HL L) lo (N + 1)) := rput_is (r := 1) (i := i) hQ5 (by omega) hi id (by have := H.out.2.2.2.2.2.2.2.2; omega) (by have := H0.out.1.len (64 * 1 + i); omega) ((FL_srt H.out.1 _).imp (fun h => Int.le_of_lt h)) (H.out.2.2.2.2.1 1 (by omega)).1
    have HP := Lib.hid hput
    clear hput hQ5 c1
    refine region_J (J1 6 (One1 w3.drew bx #[.int .i64 0, .int .i64 i, .int .i64 d] ⟨bx, 0, none⟩ (.int .i64 0) (fun w4 => ∃ R' lo', QB w4 qb R' (putF (FL L) (64 * 1 + i) (insL (FL L (64 * 1 + i)) id)) (putF W 1 (wset (W 1) i)) (mput (mL L) id (prV (0, (i : Int), d))) (L.length + 1) (HL L) lo' (N + 1) ∧ QFr lo lo' w3.drew w4))) (by kernel_rfl) (by kernel_rfl) ?_ ?_
    · exact ⟨H3.out.1.drew, by rw [(H3.out.1.drew).rd]; rfl, fun _ => rfl, fun h => by cases h⟩
    · iterate 6
        apply wpJ_op rfl (by rfl)
        · intro f w1 hf hJ Q1 hQ
          have hJ' : One1 w3.drew bx #[.int .i64 0, .int .i64 i, .int .i64 d] ⟨bx, 0, none⟩ (.int .i64 0) (fun w4 => ∃ R' lo', QB w4 qb R' (putF (FL L) (64 * 1 + i) (insL (FL L (64 * 1 + i)) id)) (putF W 1 (wset (W 1) i)) (mput (mL L) id (prV (0, (i : Int), d))) (L.length + 1) (HL L) lo' (N + 1) ∧ QFr lo lo' w3.drew w4) (f 6) w1 := hJ
          have c1 := hJ'.1.rd
          have HJ := Lib.hid hJ'
          clear hJ'
          simp only [Act.put, List.setIfInBounds_toArray, List.set_cons_zero, List.set_cons_succ] at hQ
          go_wp2_with (fail)
          exact hQ _ _ rfl (J1.other hJ (by decide))
        simp only [Act.put, List.setIfInBounds_toArray, List.set_cons_zero, List.set_cons_succ]
      apply wpJ_op rfl (by rfl)
      · intro f w1 hf hJ Q1 hQ
        have hJ' : One1 w3.drew bx #[.int .i64 0, .int .i64 i, .int .i64 d] ⟨bx, 0, none⟩ (.int .i64 0) (fun w4 => ∃ R' lo', QB w4 qb R' (putF (FL L) (64 * 1 + i) (insL (FL L (64 * 1 + i)) id)) (putF W 1 (wset (W 1) i)) (mput (mL L) id (prV (0, (i : Int), d))) (L.length + 1) (HL L) lo' (N + 1) ∧ QFr lo lo' w3.drew w4) (f 6) w1 := hJ
        have c1 := hJ'.1.rd
        have HJ := Lib.hid hJ'
        clear hJ'
        simp only [Act.put, List.setIfInBounds_toArray, List.set_cons_zero, List.set_cons_succ] at hQ
        have e1 : w1 = w3.drew := HJ.out.2.2.1 hf.1
        subst e1
        have hput := HP.out
        go_wp2_with (go_at_call 41; (with_reducible refine hput.mono ?_); rintro e w4 ⟨rfl, R', lo', hQ4, hF4⟩; have H4 := Lib.hid (And.intro hQ4 hF4); clear hQ4 hF4 hput)
        exact hQ _ _ rfl (J1.fin ⟨blk_one H3.out.1.drew H4.out.2 H0.out.2.2.2, by rw [(blk_one H3.out.1.drew H4.out.2 H0.out.2.2.2).rd]; rfl, (fun h => by cases h), fun _ => ⟨R', lo', H4.out.1, H4.out.2⟩⟩)
      simp only [Act.put, List.setIfInBounds_toArray, List.set_cons_zero, List.set_cons_succ]
      refine wpJ_nil ?_
      intro w5 hJ5
      obtain ⟨_, _, _, hq⟩ := (J1.over hJ5 rfl)
      obtain ⟨R', lo', hq1, hq2⟩ := hq rfl
      have H5 := Lib.hid (And.intro hq1 hq2)
      clear hJ5 hq hq1 hq2
      go_wp2_with (fail)
      go_returns
      refine ⟨rfl, lo', fin_row (x := (id, (0, (i : Int), d))) H.out.1 H.out.2.1 H.out.2.2.1 H.out.2.2.2.1 H.out.2.2.2.2.1 (r := 1) (i := i) (by omega) hi (inRow_iff.2 ⟨by simp only; split <;> omega, by simp only; omega⟩) (by simp) H5.out.1, ?_⟩
      exact ((H0.out.2.1.trans H3.out.2.2).trans ⟨(Upd.refl _ w3).drew, fun r k h => Or.inl ⟨r, h⟩⟩).trans H5.out.2
    exact .bool false
end
end Go.Proofs.Ytpajebedeacpgaa
