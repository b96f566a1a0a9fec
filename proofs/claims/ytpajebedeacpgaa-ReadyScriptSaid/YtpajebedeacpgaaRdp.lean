/-
  The queue: Drop: what is left.
-/
import Derived.Test.YtpajebedeacpgaaRad
namespace Go.Proofs.Ytpajebedeacpgaa
set_option linter.unusedSimpArgs false
set_option linter.unusedVariables false
open Go.RowKit Own Sl
open RegJ hiding Up
open RegF hiding put_size

def DropX (w : World) (qb : Nat) (L : List One) (lo : Lo) (N : Nat) (e : Ending) (w' : World) : Prop := e = .returned (.bool true) ∧ QX w qb L lo N w'
section
variable {w w' : World} {qb : Nat} {L : List One} {lo : Lo} {N : Nat}
theorem fin_drow {R : Nat → Value} {W : Nat → Nat} (hg : Gd L) {x : One} (hx : x ∈ L) (hW : ∀ r, r < 2 → WD (W r) (hasL (FL L) r)) {r i : Nat} (hr : r < 2) (hi : i < 64) (hrow : inRow (64 * r + i) x = true) (hc : x.2.1 ≠ 1) {s : Nat} (hs : s = L.length - 1)
    (hQ : QB w qb R (putF (FL L) (64 * r + i) (remL (FL L (64 * r + i)) x.1)) (tkW W r i (remL (FL L (64 * r + i)) x.1)) (mdel (mL L) x.1) s (HL L) lo N) : QA w qb (delA L x.1) lo N := by
  subst hs
  refine ⟨hg.del _, R, tkW W r i (remL (FL L (64 * r + i)) x.1), ?_, ?_⟩
  · have h1 := HL_del hg hx
    rw [if_neg hc] at h1
    have h2 := hQ.perm h1.symm
    rw [← FL_del hg hx (by omega) hrow, ← mL_del hg] at h2
    have h3 := delA_len hg hx
    rw [show L.length - 1 = (delA L x.1).length by omega] at h2
    exact h2
  · rw [FL_del hg hx (by omega) hrow]
    exact wd_del hW hr hi (fun e => by
      have h1 : x.1 ∈ FL L (64 * r + i) := FL_mem.2 ⟨by omega, x.2, hx, hrow⟩
      rw [e] at h1; cases h1)
theorem fl_ne {x : One} (hx : x ∈ L) {j : Nat} (hj : j < 128) (hrow : inRow j x = true) : FL L j ≠ [] := fun e => by
  have h1 : x.1 ∈ FL L j := FL_mem.2 ⟨hj, x.2, hx, hrow⟩
  rw [e] at h1; cases h1
theorem fin_dheap {R : Nat → Value} {W : Nat → Nat} (hg : Gd L) {x : One} (hx : x ∈ L) (hW : ∀ r, r < 2 → WD (W r) (hasL (FL L) r)) (hc : x.2.1 = 1) {s : Nat} (hs : s = L.length - 1)
    (hQ : QB w qb R (FL L) W (mdel (mL L) x.1) s (HL (delA L x.1)) lo N) : QA w qb (delA L x.1) lo N := by
  subst hs
  have hF := FL_del_no hg hx (no_row hc)
  refine ⟨hg.del _, R, W, ?_, by rw [hF]; exact hW⟩
  rw [hF, mL_del hg]
  have h3 := delA_len hg hx
  rw [show L.length - 1 = (delA L x.1).length by omega] at hQ
  exact hQ
theorem heap_rest (hg : Gd L) {x : One} (hx : x ∈ L) (hc : x.2.1 = 1) {ys xs : List It} {k : Int} (hp : (ys ++ [(x.1, k)]).Perm xs) (h3 : xs.Perm (HL L)) : ys.Perm (HL (delA L x.1)) := by
  have h1 := HL_del hg hx
  rw [if_pos hc] at h1
  have h2 := hp.trans h3
  have hk : k = x.2.2.2 := by
    have h4 : (x.1, k) ∈ HL L := h2.mem_iff.1 (by simp)
    unfold HL at h4
    obtain ⟨y, hy, e⟩ := List.mem_map.1 h4
    have hy := (List.mem_filter.1 hy).1
    injection e with e1 e2
    have := hg.uniq hy hx e1
    rw [this] at e2
    exact e2.symm
  rw [hk] at h2
  exact (List.perm_append_right_iff _).1 (h2.trans h1.symm)
end
end Go.Proofs.Ytpajebedeacpgaa
/-
  The queue: Drop, a thread of class 0.
-/
namespace Go.Proofs.Ytpajebedeacpgaa
set_option linter.unusedSimpArgs false
set_option linter.unusedVariables false
open Go.RowKit Own Sl
open RegJ hiding Up
open RegF hiding put_size
section
variable {w w' : World} {qb : Nat} {L : List One} {lo : Lo} {N : Nat}
set_option maxRecDepth 100000 in
set_option maxHeartbeats 4000000 in
theorem qdrop_b (h : QA w qb L lo N) (id : Int) (i : Nat) (hi : i < 64) (d : Int) (hx : (id, (0 : Int), (i : Int), d) ∈ L) (hid : (Lit.int .i64 id).wf = true) (hN : N ≤ 1000) :
    Calls Try.prog 12 #[.pointer (some ⟨qb, 0, none⟩), .int .i64 id] w (DropX w qb (delA L id) lo N) := by
  have hhas := qhas_is h id hid
  rw [hasO_iff.2 (List.mem_map_of_mem (f := Prod.fst) hx)] at hhas
  have H := Lib.hid (And.intro h (And.intro hx hN))
  clear h hx hN
  go_enter Try.func12, Try.ntmps12
  go_upto_region 5 with (go_at_call 19; (with_reducible refine hhas.mono ?_); rintro e w1 ⟨rfl, hB⟩; obtain ⟨R, W, hQ, hW⟩ := (H.out.1.below hB).ex; obtain ⟨mb, n, m1, m2, m3, m4⟩ := hQ.map; have c0 := hQ.cell 0 (by omega); rw [m2] at c0; have hlk := m3.look (t := 54) (e := 31) Try.underlying3 Try.underlying54 (zeroPr w1) id hid; rw [mL_some H.out.1.gd H.out.2.1] at hlk; simp only [Option.getD_some, prV] at hlk; have H1 := Lib.hid (And.intro hB (And.intro hQ (And.intro hW m1))); clear hB hQ hW m1 m2 m3 m4 hhas)
  clear hlk c0
  have hbx0 := Blk.new w1 #[.int .i64 0, .int .i64 i, .int .i64 d] 31
  have hQ0 := H1.out.2.1.below (blk3 w1 0 i d)
  have hF0 : QFr lo lo w (w1.alloc (.cells #[.int .i64 0, .int .i64 i, .int .i64 d] 31)) := QFr.of_below (H1.out.1.trans ((blk3 w1 0 i d).mono H1.out.1.size))
  have hnb : ∀ r k, lo r = some k → k ≠ w1.heap.size := fun r k hk e => by have := H1.out.2.1.lt r k hk; omega
  have H0 := Lib.hid (And.intro hQ0 (And.intro hF0 (And.intro hbx0 hnb)))
  clear hQ0 hF0 hbx0 hnb
  have HH := Lib.hid (And.intro H1.out.2.2.1 H1.out.2.2.2)
  clear H1
  have hrow : inRow (64 * 1 + i) (id, (0 : Int), (i : Int), d) = true := inRow_iff.2 ⟨by simp only; split <;> omega, by simp only; omega⟩
  generalize hW2 : w1.alloc (.cells #[.int .i64 0, .int .i64 i, .int .i64 d] 31) = W2 at *
  generalize w1.heap.size = bx at *
  clear hW2
  have hQ5 : QB W2.drew qb R (FL L) W (mL L) L.length (HL L) lo N := H0.out.1.upd ((Upd.refl (fun _ => False) W2).drew) (fun _ _ _ h => h)
  have hput : Calls Try.prog 32 #[.pointer (some ⟨qb, 66, none⟩), .int .i64 id, .int .i64 i] W2.drew (PutP W2.drew qb (putF (FL L) (64 * 1 + i) (remL (FL L (64 * 1 + i)) id)) (tkW W 1 i (remL (FL L (64 * 1 + i)) id)) (mL L) L.length (HL L) lo N) := rtake_is (r := 1) (i := i) hQ5 (by omega) hi id H.out.2.2 (fl_ne H.out.2.1 (by omega) hrow) (HH.out.1 1 (by omega)).1
  have HP := Lib.hid (And.intro hput hrow)
  clear hput hQ5 hrow
  refine region_J (J1 6 (One1 W2.drew bx #[.int .i64 0, .int .i64 i, .int .i64 d] ⟨bx, 0, none⟩ (.int .i64 0) (fun w4 => ∃ R' lo', QB w4 qb R' (putF (FL L) (64 * 1 + i) (remL (FL L (64 * 1 + i)) id)) (tkW W 1 i (remL (FL L (64 * 1 + i)) id)) (mL L) L.length (HL L) lo' N ∧ QFr lo lo' W2.drew w4))) (by kernel_rfl) (by kernel_rfl) ?_ ?_
  · exact ⟨H0.out.2.2.1.drew, by rw [(H0.out.2.2.1.drew).rd]; rfl, fun _ => rfl, fun h => by cases h⟩
  · iterate 6
      apply wpJ_op rfl (by rfl)
      · intro f w3 hf hJ Q1 hQ
        have hJ' : One1 W2.drew bx #[.int .i64 0, .int .i64 i, .int .i64 d] ⟨bx, 0, none⟩ (.int .i64 0) (fun w4 => ∃ R' lo', QB w4 qb R' (putF (FL L) (64 * 1 + i) (remL (FL L (64 * 1 + i)) id)) (tkW W 1 i (remL (FL L (64 * 1 + i)) id)) (mL L) L.length (HL L) lo' N ∧ QFr lo lo' W2.drew w4) (f 6) w3 := hJ
        have c1 := hJ'.1.rd
        have HJ := Lib.hid hJ'
        clear hJ'
        simp only [Act.put, List.setIfInBounds_toArray, List.set_cons_zero, List.set_cons_succ] at hQ
        go_wp2_with (fail)
        exact hQ _ _ rfl (J1.other hJ (by decide))
      simp only [Act.put, List.setIfInBounds_toArray, List.set_cons_zero, List.set_cons_succ]
    apply wpJ_op rfl (by rfl)
    · intro f w3 hf hJ Q1 hQ
      have hJ' : One1 W2.drew bx #[.int .i64 0, .int .i64 i, .int .i64 d] ⟨bx, 0, none⟩ (.int .i64 0) (fun w4 => ∃ R' lo', QB w4 qb R' (putF (FL L) (64 * 1 + i) (remL (FL L (64 * 1 + i)) id)) (tkW W 1 i (remL (FL L (64 * 1 + i)) id)) (mL L) L.length (HL L) lo' N ∧ QFr lo lo' W2.drew w4) (f 6) w3 := hJ
      have c1 := hJ'.1.rd
      have HJ := Lib.hid hJ'
      clear hJ'
      simp only [Act.put, List.setIfInBounds_toArray, List.set_cons_zero, List.set_cons_succ] at hQ
      have e1 : w3 = W2.drew := HJ.out.2.2.1 hf.1
      subst e1
      have hput := HP.out.1
      go_wp2_with (go_at_call 32; (with_reducible refine hput.mono ?_); rintro e w4 ⟨rfl, R', lo', hQ4, hF4⟩; have H4 := Lib.hid (And.intro hQ4 hF4); clear hQ4 hF4 hput)
      exact hQ _ _ rfl (J1.fin ⟨blk_one H0.out.2.2.1.drew H4.out.2 H0.out.2.2.2, by rw [(blk_one H0.out.2.2.1.drew H4.out.2 H0.out.2.2.2).rd]; rfl, (fun h => by cases h), fun _ => ⟨R', lo', H4.out.1, H4.out.2⟩⟩)
    simp only [Act.put, List.setIfInBounds_toArray, List.set_cons_zero, List.set_cons_succ]
    refine wpJ_nil ?_
    intro w5 hJ5
    obtain ⟨_, _, _, hq⟩ := (J1.over hJ5 rfl)
    obtain ⟨R', lo', hq1, hq2⟩ := hq rfl
    obtain ⟨mb', n', k1, k2, k3, k4⟩ := hq1.map
    have c0 := hq1.cell 0 (by omega)
    rw [k2] at c0
    have H5 := Lib.hid (And.intro hq1 (And.intro hq2 (And.intro k1 (And.intro k3 k4))))
    clear hJ5 hq hq1 hq2 k1 k2 k3 k4
    go_wp2_with (at_delete; refine wp_mapdel _ rfl _ _ 54 3 rfl 31 Try.underlying3 Try.underlying54 mb' n' L.length (mL L) rfl H5.out.2.2.2.1 id hid rfl ?_; intro w6 hM6 hu6; have H6 := Lib.hid (H5.out.1.setMap H5.out.2.2.1 hM6 H5.out.2.2.2.2 (Nat.le_refl _) hu6); clear hM6 hu6)
    go_returns
    refine ⟨rfl, lo', fin_drow (x := (id, ((0 : Int), (i : Int), d))) H.out.1.gd H.out.2.1 HH.out.1 (r := 1) (i := i) (by omega) hi HP.out.2 (by simp) (by rw [mL_some H.out.1.gd H.out.2.1]; rfl) H6.out.1, ?_⟩
    exact ((H0.out.2.1.trans ⟨(Upd.refl _ W2).drew, fun r k h => Or.inl ⟨r, h⟩⟩).trans H5.out.2.1).trans H6.out.2
end
end Go.Proofs.Ytpajebedeacpgaa
/-
  The queue: Drop, a thread of class 1.
-/
namespace Go.Proofs.Ytpajebedeacpgaa
set_option linter.unusedSimpArgs false
set_option linter.unusedVariables false
open Go.RowKit Own Sl
open RegJ hiding Up
open RegF hiding put_size
section
variable {w w' : World} {qb : Nat} {L : List One} {lo : Lo} {N : Nat}
set_option maxRecDepth 100000 in
set_option maxHeartbeats 4000000 in
theorem qdrop_n (h : QA w qb L lo N) (id l d : Int) (hx : (id, (1 : Int), l, d) ∈ L) (hid : (Lit.int .i64 id).wf = true) (hN : N ≤ 1000) :
    Calls Try.prog 12 #[.pointer (some ⟨qb, 0, none⟩), .int .i64 id] w (DropX w qb (delA L id) lo N) := by
  have hhas := qhas_is h id hid
  rw [hasO_iff.2 (List.mem_map_of_mem (f := Prod.fst) hx)] at hhas
  have H := Lib.hid (And.intro h (And.intro hx hN))
  clear h hx hN
  go_enter Try.func12, Try.ntmps12
  go_upto_region 9 with (go_at_call 19; (with_reducible refine hhas.mono ?_); rintro e w1 ⟨rfl, hB⟩; obtain ⟨R, W, hQ, hW⟩ := (H.out.1.below hB).ex; obtain ⟨mb, n, m1, m2, m3, m4⟩ := hQ.map; have c0 := hQ.cell 0 (by omega); rw [m2] at c0; have hlk := m3.look (t := 54) (e := 31) Try.underlying3 Try.underlying54 (zeroPr w1) id hid; rw [mL_some H.out.1.gd H.out.2.1] at hlk; simp only [Option.getD_some, prV] at hlk; have H1 := Lib.hid (And.intro hB (And.intro hQ (And.intro hW m1))); clear hB hQ hW m1 m2 m3 m4 hhas)
  clear hlk c0
  have hbx0 := Blk.new w1 #[.int .i64 1, .int .i64 l, .int .i64 d] 31
  have hQ0 := H1.out.2.1.below (blk3 w1 1 l d)
  have hF0 : QFr lo lo w (w1.alloc (.cells #[.int .i64 1, .int .i64 l, .int .i64 d] 31)) := QFr.of_below (H1.out.1.trans ((blk3 w1 1 l d).mono H1.out.1.size))
  have hnb : ∀ r k, lo r = some k → k ≠ w1.heap.size := fun r k hk e => by have := H1.out.2.1.lt r k hk; omega
  have H0 := Lib.hid (And.intro hQ0 (And.intro hF0 (And.intro hbx0 hnb)))
  clear hQ0 hF0 hbx0 hnb
  have HH := Lib.hid (And.intro H1.out.2.2.1 H1.out.2.2.2)
  clear H1
  generalize hW2 : w1.alloc (.cells #[.int .i64 1, .int .i64 l, .int .i64 d] 31) = W2 at *
  generalize w1.heap.size = bx at *
  clear hW2
  obtain ⟨hb, h1, h2, xs, h3, h4⟩ := H0.out.1.heap
  have hyes : hasB xs id = true := by
    have h5 : hasB (HL L) id = true := HL_hasB.2 ⟨_, H.out.2.1, rfl, rfl⟩
    unfold hasB at h5 ⊢
    rw [List.any_eq_true] at h5 ⊢
    obtain ⟨p, hp, he⟩ := h5
    exact ⟨p, h3.mem_iff.2 hp, he⟩
  have hps := drop_yes h4 id hyes
  have hch : W2.cell? ⟨qb, 131, none⟩ = some (.pointer (some ⟨hb, 0, none⟩)) := by
    have := H0.out.1.cell 131 (by omega)
    rw [h2] at this
    exact this
  have HP := Lib.hid (And.intro h1 h3)
  clear h1 h2 h3 h4 hyes
  go_upto_region 10 with (go_at_call 33; (with_reducible refine hps.mono ?_); rintro e w4 ⟨rfl, ys, k, hp, hh, hf4⟩; have hr := H0.out.1.setHeap HP.out.1 (heap_rest H.out.1.gd H.out.2.1 rfl hp HP.out.2) hh hf4; have H4 := Lib.hid hr; clear hp hh hf4 hps hr)
  obtain ⟨mb', n', k1, k2, k3, k4⟩ := H4.out.1.map
  have c0 := H4.out.1.cell 0 (by omega)
  rw [k2] at c0
  have H5 := Lib.hid (And.intro k1 (And.intro k3 k4))
  clear k1 k2 k3 k4
  go_wp2_with (at_delete; refine wp_mapdel _ rfl _ _ 54 3 rfl 31 Try.underlying3 Try.underlying54 mb' n' L.length (mL L) rfl H5.out.2.1 id hid rfl ?_; intro w6 hM6 hu6; have H6 := Lib.hid (H4.out.1.setMap H5.out.1 hM6 H5.out.2.2 (Nat.le_refl _) hu6); clear hM6 hu6)
  go_returns
  refine ⟨rfl, _, fin_dheap (x := (id, ((1 : Int), l, d))) H.out.1.gd H.out.2.1 HH.out.1 rfl (by rw [mL_some H.out.1.gd H.out.2.1]; rfl) H6.out.1, ?_⟩
  exact (H0.out.2.1.trans H4.out.2).trans H6.out.2
end
end Go.Proofs.Ytpajebedeacpgaa
/-
  The queue: Drop, a thread of class 2.
-/
namespace Go.Proofs.Ytpajebedeacpgaa
set_option linter.unusedSimpArgs false
set_option linter.unusedVariables false
open Go.RowKit Own Sl
open RegJ hiding Up
open RegF hiding put_size
section
variable {w w' : World} {qb : Nat} {L : List One} {lo : Lo} {N : Nat}
set_option maxRecDepth 100000 in
set_option maxHeartbeats 4000000 in
theorem qdrop_h (h : QA w qb L lo N) (id : Int) (i : Nat) (hi : i < 64) (d : Int) (hx : (id, (2 : Int), (i : Int), d) ∈ L) (hid : (Lit.int .i64 id).wf = true) (hN : N ≤ 1000) :
    Calls Try.prog 12 #[.pointer (some ⟨qb, 0, none⟩), .int .i64 id] w (DropX w qb (delA L id) lo N) := by
  have hhas := qhas_is h id hid
  rw [hasO_iff.2 (List.mem_map_of_mem (f := Prod.fst) hx)] at hhas
  have H := Lib.hid (And.intro h (And.intro hx hN))
  clear h hx hN
  go_enter Try.func12, Try.ntmps12
  go_upto_region 7 with (go_at_call 19; (with_reducible refine hhas.mono ?_); rintro e w1 ⟨rfl, hB⟩; obtain ⟨R, W, hQ, hW⟩ := (H.out.1.below hB).ex; obtain ⟨mb, n, m1, m2, m3, m4⟩ := hQ.map; have c0 := hQ.cell 0 (by omega); rw [m2] at c0; have hlk := m3.look (t := 54) (e := 31) Try.underlying3 Try.underlying54 (zeroPr w1) id hid; rw [mL_some H.out.1.gd H.out.2.1] at hlk; simp only [Option.getD_some, prV] at hlk; have H1 := Lib.hid (And.intro hB (And.intro hQ (And.intro hW m1))); clear hB hQ hW m1 m2 m3 m4 hhas)
  clear hlk c0
  have hbx0 := Blk.new w1 #[.int .i64 2, .int .i64 i, .int .i64 d] 31
  have hQ0 := H1.out.2.1.below (blk3 w1 2 i d)
  have hF0 : QFr lo lo w (w1.alloc (.cells #[.int .i64 2, .int .i64 i, .int .i64 d] 31)) := QFr.of_below (H1.out.1.trans ((blk3 w1 2 i d).mono H1.out.1.size))
  have hnb : ∀ r k, lo r = some k → k ≠ w1.heap.size := fun r k hk e => by have := H1.out.2.1.lt r k hk; omega
  have H0 := Lib.hid (And.intro hQ0 (And.intro hF0 (And.intro hbx0 hnb)))
  clear hQ0 hF0 hbx0 hnb
  have HH := Lib.hid (And.intro H1.out.2.2.1 H1.out.2.2.2)
  clear H1
  have hrow : inRow (64 * 0 + i) (id, (2 : Int), (i : Int), d) = true := inRow_iff.2 ⟨by simp only; split <;> omega, by simp only; omega⟩
  generalize hW2 : w1.alloc (.cells #[.int .i64 2, .int .i64 i, .int .i64 d] 31) = W2 at *
  generalize w1.heap.size = bx at *
  clear hW2
  have hQ5 : QB W2.drew qb R (FL L) W (mL L) L.length (HL L) lo N := H0.out.1.upd ((Upd.refl (fun _ => False) W2).drew) (fun _ _ _ h => h)
  have hput : Calls Try.prog 32 #[.pointer (some ⟨qb, 1, none⟩), .int .i64 id, .int .i64 i] W2.drew (PutP W2.drew qb (putF (FL L) (64 * 0 + i) (remL (FL L (64 * 0 + i)) id)) (tkW W 0 i (remL (FL L (64 * 0 + i)) id)) (mL L) L.length (HL L) lo N) := rtake_is (r := 0) (i := i) hQ5 (by omega) hi id H.out.2.2 (fl_ne H.out.2.1 (by omega) hrow) (HH.out.1 0 (by omega)).1
  have HP := Lib.hid (And.intro hput hrow)
  clear hput hQ5 hrow
  refine region_J (J1 6 (One1 W2.drew bx #[.int .i64 2, .int .i64 i, .int .i64 d] ⟨bx, 0, none⟩ (.int .i64 2) (fun w4 => ∃ R' lo', QB w4 qb R' (putF (FL L) (64 * 0 + i) (remL (FL L (64 * 0 + i)) id)) (tkW W 0 i (remL (FL L (64 * 0 + i)) id)) (mL L) L.length (HL L) lo' N ∧ QFr lo lo' W2.drew w4))) (by kernel_rfl) (by kernel_rfl) ?_ ?_
  · exact ⟨H0.out.2.2.1.drew, by rw [(H0.out.2.2.1.drew).rd]; rfl, fun _ => rfl, fun h => by cases h⟩
  · iterate 6
      apply wpJ_op rfl (by rfl)
      · intro f w3 hf hJ Q1 hQ
        have hJ' : One1 W2.drew bx #[.int .i64 2, .int .i64 i, .int .i64 d] ⟨bx, 0, none⟩ (.int .i64 2) (fun w4 => ∃ R' lo', QB w4 qb R' (putF (FL L) (64 * 0 + i) (remL (FL L (64 * 0 + i)) id)) (tkW W 0 i (remL (FL L (64 * 0 + i)) id)) (mL L) L.length (HL L) lo' N ∧ QFr lo lo' W2.drew w4) (f 6) w3 := hJ
        have c1 := hJ'.1.rd
        have HJ := Lib.hid hJ'
        clear hJ'
        simp only [Act.put, List.setIfInBounds_toArray, List.set_cons_zero, List.set_cons_succ] at hQ
        go_wp2_with (fail)
        exact hQ _ _ rfl (J1.other hJ (by decide))
      simp only [Act.put, List.setIfInBounds_toArray, List.set_cons_zero, List.set_cons_succ]
    apply wpJ_op rfl (by rfl)
    · intro f w3 hf hJ Q1 hQ
      have hJ' : One1 W2.drew bx #[.int .i64 2, .int .i64 i, .int .i64 d] ⟨bx, 0, none⟩ (.int .i64 2) (fun w4 => ∃ R' lo', QB w4 qb R' (putF (FL L) (64 * 0 + i) (remL (FL L (64 * 0 + i)) id)) (tkW W 0 i (remL (FL L (64 * 0 + i)) id)) (mL L) L.length (HL L) lo' N ∧ QFr lo lo' W2.drew w4) (f 6) w3 := hJ
      have c1 := hJ'.1.rd
      have HJ := Lib.hid hJ'
      clear hJ'
      simp only [Act.put, List.setIfInBounds_toArray, List.set_cons_zero, List.set_cons_succ] at hQ
      have e1 : w3 = W2.drew := HJ.out.2.2.1 hf.1
      subst e1
      have hput := HP.out.1
      go_wp2_with (go_at_call 32; (with_reducible refine hput.mono ?_); rintro e w4 ⟨rfl, R', lo', hQ4, hF4⟩; have H4 := Lib.hid (And.intro hQ4 hF4); clear hQ4 hF4 hput)
      exact hQ _ _ rfl (J1.fin ⟨blk_one H0.out.2.2.1.drew H4.out.2 H0.out.2.2.2, by rw [(blk_one H0.out.2.2.1.drew H4.out.2 H0.out.2.2.2).rd]; rfl, (fun h => by cases h), fun _ => ⟨R', lo', H4.out.1, H4.out.2⟩⟩)
    simp only [Act.put, List.setIfInBounds_toArray, List.set_cons_zero, List.set_cons_succ]
    refine wpJ_nil ?_
    intro w5 hJ5
    obtain ⟨_, _, _, hq⟩ := (J1.over hJ5 rfl)
    obtain ⟨R', lo', hq1, hq2⟩ := hq rfl
    obtain ⟨mb', n', k1, k2, k3, k4⟩ := hq1.map
    have c0 := hq1.cell 0 (by omega)
    rw [k2] at c0
    have H5 := Lib.hid (And.intro hq1 (And.intro hq2 (And.intro k1 (And.intro k3 k4))))
    clear hJ5 hq hq1 hq2 k1 k2 k3 k4
    go_wp2_with (at_delete; refine wp_mapdel _ rfl _ _ 54 3 rfl 31 Try.underlying3 Try.underlying54 mb' n' L.length (mL L) rfl H5.out.2.2.2.1 id hid rfl ?_; intro w6 hM6 hu6; have H6 := Lib.hid (H5.out.1.setMap H5.out.2.2.1 hM6 H5.out.2.2.2.2 (Nat.le_refl _) hu6); clear hM6 hu6)
    go_returns
    refine ⟨rfl, lo', fin_drow (x := (id, ((2 : Int), (i : Int), d))) H.out.1.gd H.out.2.1 HH.out.1 (r := 0) (i := i) (by omega) hi HP.out.2 (by simp) (by rw [mL_some H.out.1.gd H.out.2.1]; rfl) H6.out.1, ?_⟩
    exact ((H0.out.2.1.trans ⟨(Upd.refl _ W2).drew, fun r k h => Or.inl ⟨r, h⟩⟩).trans H5.out.2.1).trans H6.out.2
end
end Go.Proofs.Ytpajebedeacpgaa
/-
  The queue: Drop.
-/
namespace Go.Proofs.Ytpajebedeacpgaa
set_option linter.unusedSimpArgs false
set_option linter.unusedVariables false
open Go.RowKit Own Sl
open RegJ hiding Up
open RegF hiding put_size
section
variable {w w' : World} {qb : Nat} {L : List One} {lo : Lo} {N : Nat}
def dropL (L : List One) (id : Int) : List One := if hasO L id = true then delA L id else L
set_option maxRecDepth 100000 in
theorem qdrop_no (h : QA w qb L lo N) (id : Int) (hb : hasO L id = false) (hid : (Lit.int .i64 id).wf = true) : Calls Try.prog 12 #[.pointer (some ⟨qb, 0, none⟩), .int .i64 id] w (BoolB false w) := by
  have hhas := qhas_is h id hid
  rw [hb] at hhas
  clear h hb
  go_enter Try.func12, Try.ntmps12
  go_wp2_with (go_at_call 19; (with_reducible refine hhas.mono ?_); rintro e w1 ⟨rfl, hB⟩; have HB := Lib.hid hB; clear hB hhas)
  go_returns
  exact ⟨rfl, HB.out⟩
theorem qdrop_yes (h : QA w qb L lo N) {id : Int} (hb : hasO L id = true) (hid : (Lit.int .i64 id).wf = true) (hN : N ≤ 1000) : Calls Try.prog 12 #[.pointer (some ⟨qb, 0, none⟩), .int .i64 id] w (DropX w qb (delA L id) lo N) := by
  obtain ⟨⟨id', c, l, d⟩, hx, e⟩ := List.mem_map.1 (hasO_iff.1 hb)
  simp only at e
  subst e
  have hm := (h.gd.ok _ hx).2
  rcases may_cases hm with ⟨hcl, hl1, hl2, hd⟩ | ⟨hcl, hl0, hd1, hd2⟩ | ⟨hcl, hl1, hl2, hd⟩ <;> simp only at hcl <;> subst hcl
  · obtain ⟨i, hi⟩ : ∃ i : Nat, l = i := ⟨l.toNat, by simp only at hl1; omega⟩
    simp only at hl2
    subst hi
    exact qdrop_b h id' i (by omega) d hx hid hN
  · exact qdrop_n h id' l d hx hid hN
  · obtain ⟨i, hi⟩ : ∃ i : Nat, l = i := ⟨l.toNat, by simp only at hl1; omega⟩
    simp only at hl2
    subst hi
    exact qdrop_h h id' i (by omega) d hx hid hN
theorem qdrop_is (h : QA w qb L lo N) (id : Int) (hid : (Lit.int .i64 id).wf = true) (hN : N ≤ 1000) : Calls Try.prog 12 #[.pointer (some ⟨qb, 0, none⟩), .int .i64 id] w (fun e w' => e = .returned (.bool (hasO L id)) ∧ QX w qb (dropL L id) lo N w') := by
  unfold dropL
  cases hb : hasO L id with
  | false => exact (qdrop_no h id hb hid).mono fun e w' ⟨h1, h2⟩ => ⟨h1, lo, h.below h2, QFr.of_below h2⟩
  | true => exact qdrop_yes h hb hid hN
end
end Go.Proofs.Ytpajebedeacpgaa
