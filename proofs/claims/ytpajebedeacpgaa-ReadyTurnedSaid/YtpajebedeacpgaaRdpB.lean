/-
  The queue: Drop, a thread of class 1.
-/
import Derived.Test.YtpajebedeacpgaaRdpH
namespace Go.Proofs.Ytpajebedeacpgaa
set_option linter.unusedSimpArgs false
set_option linter.unusedVariables false
open Go.RowKit Own Sl
open RegJ hiding Up
open RegF hiding put_size
section
variable {w w' : World} {qb : Nat} {L : List One} {lo : Lo} {N : Nat}
set_option maxRecDepth 100000 in
set_option maxHeartbeats 4000000 in
theorem qdrop_n (h : QA w qb L lo N) (id l d : Int) (hx : (id, (1 : Int), l, d) ∈ L) (hid : (Lit.int .i64 id).wf = true) (hN : N ≤ 1000) :
    Calls Try.prog 12 #[.pointer (some ⟨qb, 0, none⟩), .int .i64 id] w (DropX w qb (delA L id) lo N) := by
  have hhas := qhas_is h id hid
  rw [hasO_iff.2 (List.mem_map_of_mem (f := Prod.fst) hx)] at hhas
  have H := Lib.hid (And.intro h (And.intro hx hN))
  clear h hx hN
  go_enter Try.func12, Try.ntmps12
  go_upto_region 9 with (go_at_call 19; (with_reducible refine hhas.mono ?_); rintro e w1 ⟨rfl, hB⟩; obtain ⟨R, W, hQ, hW⟩ := (H.out.1.below hB).ex; obtain ⟨mb, n, m1, m2, m3, m4⟩ := hQ.map; have c0 := hQ.cell 0 (by omega); rw [m2] at c0; have hlk := m3.look (t := 54) (e := 31) Try.underlying3 Try.underlying54 (zeroPr w1) id hid; rw [mL_some H.out.1.gd H.out.2.1] at hlk; simp only [Option.getD_some, prV] at hlk; have H1 := Lib.hid (And.intro hB (And.intro hQ (And.intro hW m1))); clear hB hQ hW m1 m2 m3 m4 hhas)
  clear hlk c0
  have hbx0 := Blk.new w1 #[.int .i64 1, .int .i64 l, .int .i64 d] 31
  have hQ0 := H1.out.2.1.below (blk3 w1 1 l d)
  have hF0 : QFr lo lo w (w1.alloc (.cells #[.int .i64 1, .int .i64 l, .int .i64 d] 31)) := QFr.of_below (H1.out.1.trans ((blk3 w1 1 l d).mono H1.out.1.size))
  have hnb : ∀ r k, lo r = some k → k ≠ w1.heap.size := fun r k hk e => by have := H1.out.2.1.lt r k hk; omega
  have H0 := Lib.hid (And.intro hQ0 (And.intro hF0 (And.intro hbx0 hnb)))
  clear hQ0 hF0 hbx0 hnb
  have HH := Lib.hid (And.intro H1.out.2.2.1 H1.out.2.2.2)
  clear H1
  generalize hW2 : w1.alloc (.cells #[.int .i64 1, .int .i64 l, .int .i64 d] 31) = W2 at *
  generalize w1.heap.size = bx at *
  clear hW2
  obtain ⟨hb, h1, h2, xs, h3, h4⟩ := H0.out.1.heap
  have hyes : hasB xs id = true := by
    have h5 : hasB (HL L) id = true := HL_hasB.2 ⟨_, H.out.2.1, rfl, rfl⟩
    unfold hasB at h5 ⊢
    rw [List.any_eq_true] at h5 ⊢
    obtain ⟨p, hp, he⟩ := h5
    exact ⟨p, h3.mem_iff.2 hp, he⟩
  have hps := drop_yes h4 id hyes
  have hch : W2.cell? ⟨qb, 131, none⟩ = some (.pointer (some ⟨hb, 0, none⟩)) := by
    have := H0.out.1.cell 131 (by omega)
    rw [h2] at this
    exact this
  have HP := Lib.hid (And.intro h1 h3)
  clear h1 h2 h3 h4 hyes
  go_upto_region 10 with (go_at_call 33; (with_reducible refine hps.mono ?_); rintro e w4 ⟨rfl, ys, k, hp, hh, hf4⟩; have hr := H0.out.1.setHeap HP.out.1 (heap_rest H.out.1.gd H.out.2.1 rfl hp HP.out.2) hh hf4; have H4 := Lib.hid hr; clear hp hh hf4 hps hr)
  obtain ⟨mb', n', k1, k2, k3, k4⟩ := H4.out.1.map
  have c0 := H4.out.1.cell 0 (by omega)
  rw [k2] at c0
  have H5 := Lib.hid (And.intro k1 (And.intro k3 k4))
  clear k1 k2 k3 k4
  go_wp2_with (at_delete; refine wp_mapdel _ rfl _ _ 54 3 rfl 31 Try.underlying3 Try.underlying54 mb' n' L.length (mL L) rfl H5.out.2.1 id hid rfl ?_; intro w6 hM6 hu6; have H6 := Lib.hid (H4.out.1.setMap H5.out.1 hM6 H5.out.2.2 (Nat.le_refl _) hu6); clear hM6 hu6)
  go_returns
  refine ⟨rfl, _, fin_dheap (x := (id, ((1 : Int), l, d))) H.out.1.gd H.out.2.1 HH.out.1 rfl (by rw [mL_some H.out.1.gd H.out.2.1]; rfl) H6.out.1, ?_⟩
  exact (H0.out.2.1.trans H4.out.2).trans H6.out.2
end
end Go.Proofs.Ytpajebedeacpgaa
