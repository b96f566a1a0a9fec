/-
  The queue: Drop, a thread of class 0.
-/
import Derived.Test.YtpajebedeacpgaaRdpH
namespace Go.Proofs.Ytpajebedeacpgaa
set_option linter.unusedSimpArgs false
set_option linter.unusedVariables false
open Go.RowKit Own Sl
open RegJ hiding Up
open RegF hiding put_size
section
variable {w w' : World} {qb : Nat} {L : List One} {lo : Lo} {N : Nat}
set_option maxRecDepth 100000 in
set_option maxHeartbeats 4000000 in
theorem qdrop_b (h : QA w qb L lo N) (id : Int) (i : Nat) (hi : i < 64) (d : Int) (hx : (id, (0 : Int), (i : Int), d) ∈ L) (hid : (Lit.int .i64 id).wf = true) (hN : N ≤ 1000) :
    Calls Try.prog 12 #[.pointer (some ⟨qb, 0, none⟩), .int .i64 id] w (DropX w qb (delA L id) lo N) := by
  have hhas := qhas_is h id hid
  rw [hasO_iff.2 (List.mem_map_of_mem (f := Prod.fst) hx)] at hhas
  have H := Lib.hid (And.intro h (And.intro hx hN))
  clear h hx hN
  go_enter Try.func12, Try.ntmps12
  go_upto_region 5 with (go_at_call 19; (with_reducible refine hhas.mono ?_); rintro e w1 ⟨rfl, hB⟩; obtain ⟨R, W, hQ, hW⟩ := (H.out.1.below hB).ex; obtain ⟨mb, n, m1, m2, m3, m4⟩ := hQ.map; have c0 := hQ.cell 0 (by omega); rw [m2] at c0; have hlk := m3.look (t := 54) (e := 31) Try.underlying3 Try.underlying54 (zeroPr w1) id hid; rw [mL_some H.out.1.gd H.out.2.1] at hlk; simp only [Option.getD_some, prV] at hlk; have H1 := Lib.hid (And.intro hB (And.intro hQ (And.intro hW m1))); clear hB hQ hW m1 m2 m3 m4 hhas)
  clear hlk c0
  have hbx0 := Blk.new w1 #[.int .i64 0, .int .i64 i, .int .i64 d] 31
  have hQ0 := H1.out.2.1.below (blk3 w1 0 i d)
  have hF0 : QFr lo lo w (w1.alloc (.cells #[.int .i64 0, .int .i64 i, .int .i64 d] 31)) := QFr.of_below (H1.out.1.trans ((blk3 w1 0 i d).mono H1.out.1.size))
  have hnb : ∀ r k, lo r = some k → k ≠ w1.heap.size := fun r k hk e => by have := H1.out.2.1.lt r k hk; omega
  have H0 := Lib.hid (And.intro hQ0 (And.intro hF0 (And.intro hbx0 hnb)))
  clear hQ0 hF0 hbx0 hnb
  have HH := Lib.hid (And.intro H1.out.2.2.1 H1.out.2.2.2)
  clear H1
  have hrow : inRow (64 * 1 + i) (id, (0 : Int), (i : Int), d) = true := inRow_iff.2 ⟨by simp only; split <;> omega, by simp only; omega⟩
  generalize hW2 : w1.alloc (.cells #[.int .i64 0, .int .i64 i, .int .i64 d] 31) = W2 at *
  generalize w1.heap.size = bx at *
  clear hW2
  have hQ5 : QB W2.drew qb R (FL L) W (mL L) L.length (HL L) lo N := H0.out.1.upd ((Upd.refl (fun _ => False) W2).drew) (fun _ _ _ h => h)
  have hput : Calls Try.prog 32 #[.pointer (some ⟨qb, 66, none⟩), .int .i64 id, .int .i64 i] W2.drew (PutP W2.drew qb (putF (FL L) (64 * 1 + i) (remL (FL L (64 * 1 + i)) id)) (tkW W 1 i (remL (FL L (64 * 1 + i)) id)) (mL L) L.length (HL L) lo N) := rtake_is (r := 1) (i := i) hQ5 (by omega) hi id H.out.2.2 (fl_ne H.out.2.1 (by omega) hrow) (HH.out.1 1 (by omega)).1
  have HP := Lib.hid (And.intro hput hrow)
  clear hput hQ5 hrow
  refine region_J (J1 6 (One1 W2.drew bx #[.int .i64 0, .int .i64 i, .int .i64 d] ⟨bx, 0, none⟩ (.int .i64 0) (fun w4 => ∃ R' lo', QB w4 qb R' (putF (FL L) (64 * 1 + i) (remL (FL L (64 * 1 + i)) id)) (tkW W 1 i (remL (FL L (64 * 1 + i)) id)) (mL L) L.length (HL L) lo' N ∧ QFr lo lo' W2.drew w4))) (by kernel_rfl) (by kernel_rfl) ?_ ?_
  · exact ⟨H0.out.2.2.1.drew, by rw [(H0.out.2.2.1.drew).rd]; rfl, fun _ => rfl, fun h => by cases h⟩
  · iterate 6
      apply wpJ_op rfl (by rfl)
      · intro f w3 hf hJ Q1 hQ
        have hJ' : One1 W2.drew bx #[.int .i64 0, .int .i64 i, .int .i64 d] ⟨bx, 0, none⟩ (.int .i64 0) (fun w4 => ∃ R' lo', QB w4 qb R' (putF (FL L) (64 * 1 + i) (remL (FL L (64 * 1 + i)) id)) (tkW W 1 i (remL (FL L (64 * 1 + i)) id)) (mL L) L.length (HL L) lo' N ∧ QFr lo lo' W2.drew w4) (f 6) w3 := hJ
        have c1 := hJ'.1.rd
        have HJ := Lib.hid hJ'
        clear hJ'
        simp only [Act.put, List.setIfInBounds_toArray, List.set_cons_zero, List.set_cons_succ] at hQ
        go_wp2_with (fail)
        exact hQ _ _ rfl (J1.other hJ (by decide))
      simp only [Act.put, List.setIfInBounds_toArray, List.set_cons_zero, List.set_cons_succ]
    apply wpJ_op rfl (by rfl)
    · intro f w3 hf hJ Q1 hQ
      have hJ' : One1 W2.drew bx #[.int .i64 0, .int .i64 i, .int .i64 d] ⟨bx, 0, none⟩ (.int .i64 0) (fun w4 => ∃ R' lo', QB w4 qb R' (putF (FL L) (64 * 1 + i) (remL (FL L (64 * 1 + i)) id)) (tkW W 1 i (remL (FL L (64 * 1 + i)) id)) (mL L) L.length (HL L) lo' N ∧ QFr lo lo' W2.drew w4) (f 6) w3 := hJ
      have c1 := hJ'.1.rd
      have HJ := Lib.hid hJ'
      clear hJ'
      simp only [Act.put, List.setIfInBounds_toArray, List.set_cons_zero, List.set_cons_succ] at hQ
      have e1 : w3 = W2.drew := HJ.out.2.2.1 hf.1
      subst e1
      have hput := HP.out.1
      go_wp2_with (go_at_call 32; (with_reducible refine hput.mono ?_); rintro e w4 ⟨rfl, R', lo', hQ4, hF4⟩; have H4 := Lib.hid (And.intro hQ4 hF4); clear hQ4 hF4 hput)
      exact hQ _ _ rfl (J1.fin ⟨blk_one H0.out.2.2.1.drew H4.out.2 H0.out.2.2.2, by rw [(blk_one H0.out.2.2.1.drew H4.out.2 H0.out.2.2.2).rd]; rfl, (fun h => by cases h), fun _ => ⟨R', lo', H4.out.1, H4.out.2⟩⟩)
    simp only [Act.put, List.setIfInBounds_toArray, List.set_cons_zero, List.set_cons_succ]
    refine wpJ_nil ?_
    intro w5 hJ5
    obtain ⟨_, _, _, hq⟩ := (J1.over hJ5 rfl)
    obtain ⟨R', lo', hq1, hq2⟩ := hq rfl
    obtain ⟨mb', n', k1, k2, k3, k4⟩ := hq1.map
    have c0 := hq1.cell 0 (by omega)
    rw [k2] at c0
    have H5 := Lib.hid (And.intro hq1 (And.intro hq2 (And.intro k1 (And.intro k3 k4))))
    clear hJ5 hq hq1 hq2 k1 k2 k3 k4
    go_wp2_with (at_delete; refine wp_mapdel _ rfl _ _ 54 3 rfl 31 Try.underlying3 Try.underlying54 mb' n' L.length (mL L) rfl H5.out.2.2.2.1 id hid rfl ?_; intro w6 hM6 hu6; have H6 := Lib.hid (H5.out.1.setMap H5.out.2.2.1 hM6 H5.out.2.2.2.2 (Nat.le_refl _) hu6); clear hM6 hu6)
    go_returns
    refine ⟨rfl, lo', fin_drow (x := (id, ((0 : Int), (i : Int), d))) H.out.1.gd H.out.2.1 HH.out.1 (r := 1) (i := i) (by omega) hi HP.out.2 (by simp) (by rw [mL_some H.out.1.gd H.out.2.1]; rfl) H6.out.1, ?_⟩
    exact ((H0.out.2.1.trans ⟨(Upd.refl _ W2).drew, fun r k h => Or.inl ⟨r, h⟩⟩).trans H5.out.2.1).trans H6.out.2
end
end Go.Proofs.Ytpajebedeacpgaa
