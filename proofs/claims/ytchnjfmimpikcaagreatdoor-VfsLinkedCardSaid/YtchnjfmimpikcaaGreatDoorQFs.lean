/-
  The document's frames: Take of a fresh one, Give.
-/
import Derived.Test.YtchnjfmimpikcaaGreatDoorQFr
namespace Go.Proofs.YtchnjfmimpikcaaGreatDoor
set_option linter.unusedSimpArgs false
set_option linter.unusedVariables false
open Go.RowKit Own RegC
open RegJ hiding Up
open RegF hiding put_size

theorem RowV.neT {w : World} {E T : TypeId} {v : Value} {xs : List Value} {b : Option Nat} {b' : Nat} {cs : Array Value} (h : RowV w E v xs b) (h' : Blk w b' cs T) (hT : E ≠ T) (g : Nat) (hg : b = some g) : g ≠ b' := by
  rcases h with ⟨_, _, hb⟩ | ⟨g', cap, rest, hv, hb, hB, hc, hm⟩
  · rw [hb] at hg; cases hg
  · rw [hb] at hg; cases hg
    exact hB.neT h' hT
section
variable {w w' : World} {O O' F : Nat → Prop} {fb tb bb n fr : Nat} {tk : List Bool} {back : List Int}
set_option maxRecDepth 100000 in
set_option maxHeartbeats 1000000 in
theorem rtake_new (h : FD w O fb tb bb n tk [] fr) (hfr : fr < n) : Calls Tryz.prog 100 #[.pointer (some ⟨fb, 0, none⟩)] w (RTakeP w O fb tb bb n tk [] (fr + 1) fr) := by
  have H := Lib.hid h
  have HN := Lib.hid h.ne
  obtain ⟨vb, bk, h1, h2, h3⟩ := h.blk
  obtain ⟨cs, h4, h5⟩ := h.row
  obtain ⟨a, c, rfl, hc, -⟩ := h2.slice
  have hn64 := h.n64
  have c1 := h1.rd
  have f1 := h1.nf
  have i1 : (fr : Int) < n := by omega
  have i2 : (0 : Int) ≤ fr := by omega
  have d5 : ((fr : Int) == (n : Int)) = false := by simp; omega
  have HH := Lib.hid (And.intro h1 (And.intro h2 (And.intro h4 (And.intro h5 (And.intro h3 hfr)))))
  clear h h1 h2 h4 h5 h3 hc hfr
  go_enter Tryz.func100, Tryz.ntmps100
  go_wp2
  go_quiet (fail)
  go_upto_region 8 with (fail)
  have hu : Upd (fun k => k = fb) w ((w.drewN nq).setCell ⟨fb, 3, none⟩ (.int .i64 ((fr : Int) + 1))) := (((Upd.refl (fun k => k = fb) w).drewN nq).setCell (p := ⟨fb, 3, none⟩) (fun _ => rfl) _)
  have q1 := Blk.of ((HH.out.1.drewN nq).set 3 (.int .i64 ((fr : Int) + 1))) (show _ = #[.slice (some ⟨tb, 0, none⟩) n n, .slice (some ⟨bb, 0, none⟩) n n, .slice a (icells []).length c, .int .i64 ((fr + 1 : Nat) : Int)] from rfl)
  have HK := Lib.hid (And.intro q1 (And.intro hu (And.intro (HH.out.2.1.upd hu (fun g hg e => HH.out.2.1.neT HH.out.1 (by decide) g hg e)) (And.intro (Blk.upd hu H.out.tak (fun e => HN.out.1 e.symm)) (Blk.upd hu HH.out.2.2.1 (fun e => HN.out.2.1 e.symm))))))
  clear q1 hu c1 f1
  generalize (w.drewN nq).setCell ⟨fb, 3, none⟩ (.int .i64 ((fr : Int) + 1)) = wk at HK ⊢
  have c1 := HK.out.1.rd
  obtain ⟨u2, hu2⟩ : ∃ u, tk[fr]? = some u := ⟨_, List.getElem?_eq_getElem (by rw [H.out.len]; exact HH.out.2.2.2.2.2)⟩
  have c2 : wk.cell? ⟨tb, fr, none⟩ = some (.bool u2) := by rw [HK.out.2.2.2.1.rd, List.getElem?_toArray, List.getElem?_map, hu2]; rfl
  have f2 := HK.out.2.2.2.1.nf
  clear hu2
  go_upto_region 9 with (fail)
  have ht2 := Blk.of (HK.out.2.2.2.1.set fr (.bool true)) (show (tk.map Value.bool).toArray.setIfInBounds fr (.bool true) = ((tk.set fr true).map Value.bool).toArray by simp [List.map_set])
  have hu3 : Upd (fun k => k = tb) wk (wk.setCell ⟨tb, fr, none⟩ (.bool true)) := (Upd.refl (fun k => k = tb) wk).setCell (p := ⟨tb, fr, none⟩) (fun _ => rfl) _
  have HM := Lib.hid (And.intro (Blk.upd hu3 HK.out.1 HN.out.1) (And.intro ht2 (And.intro (Blk.upd hu3 HK.out.2.2.2.2 (fun e => HN.out.2.2 e.symm)) (And.intro (HK.out.2.2.1.upd hu3 (fun g hg e => HK.out.2.2.1.neT HK.out.2.2.2.1 (by decide) g hg e)) ((HK.out.2.1.mono (fun k _ e => Or.inl e : ∀ k, _ → k = fb → FF fb tb bb k)).trans hu3 (fun k _ e => Or.inr (Or.inl e)))))))
  clear ht2 hu3 c1 c2 f2
  generalize wk.setCell ⟨tb, fr, none⟩ (.bool true) = wm at HM ⊢
  have c1 := HM.out.1.rd
  obtain ⟨u3, hu3⟩ : ∃ u, cs[fr]? = some u := ⟨_, Array.getElem?_eq_getElem (by rw [HH.out.2.2.2.1]; exact HH.out.2.2.2.2.2)⟩
  have c3 : wm.cell? ⟨bb, fr, none⟩ = some u3 := by rw [HM.out.2.2.1.rd]; exact hu3
  clear hu3
  have f3 := HM.out.2.2.1.nf
  have m1 : ∀ w', (Instr.makeSlice 23 (.int .i64 64) (.int .i64 64)).run Tryz.prog w' = .ok (.slice (some ⟨w'.heap.size, 0, none⟩) 64 64) (w'.alloc (.cells (madeCells (Value.int .u8 0).cells (64 * 1)) 5)) := make_of' 23 5 (.int .u8 0) 1 1 64 Tryz.underlying23 (by kernel_rfl) (by omega) (by omega)
  generalize madeCells (Value.int .u8 0).cells (64 * 1) = Z at m1
  have c1a := (HM.out.1.alloc (.cells Z 5)).rd
  have c3a : (wm.alloc (.cells Z 5)).cell? ⟨bb, fr, none⟩ = some u3 := by rw [(HM.out.2.2.1.alloc (.cells Z 5)).rd]; rw [HM.out.2.2.1.rd] at c3; exact c3
  have f3a := (HM.out.2.2.1.alloc (.cells Z 5)).nf
  go_region
  all_goals go_wp2
  all_goals go_returns
  exact rtake_fin H.out HN.out HH.out.2.2.2.2.2 (Upd.refl (FF fb tb bb) w) HM.out.1 HM.out.2.1 HM.out.2.2.1 HH.out.2.2.2.1 HM.out.2.2.2.1 HM.out.2.2.2.2 ⟨HH.out.2.2.2.2.2, Nat.zero_le _, fun x hx => (by cases hx)⟩ (fun g hg => Or.inl ⟨HH.out.2.2.2.2.1 g hg, HM.out.2.2.2.1.neT HM.out.2.2.1 (by decide) g hg⟩) _ _
set_option maxRecDepth 100000 in
theorem ris_yes (h : FD w O fb tb bb n tk back fr) {i : Nat} (hi : tk[i]? = some true) : Calls Tryz.prog 130 #[.pointer (some ⟨fb, 0, none⟩), .int .i64 i] w fun e w' => e = .returned (.int .i64 0) ∧ w = w' := by
  obtain ⟨vb, bk, h1, h2, h3⟩ := h.blk
  have hl := h.len
  have hin := (List.getElem?_eq_some_iff.1 hi).1
  have c1 := h1.rd
  have c2 : w.cell? ⟨tb, i, none⟩ = some (.bool true) := by rw [h.tak.rd, List.getElem?_toArray, List.getElem?_map, hi]; rfl
  have d1 : decide ((i : Int) < 0) = false := by simp
  have d2 : decide ((i : Int) ≥ (n : Int)) = false := by simp; omega
  have d2n : decide (i ≥ n) = false := by simp; omega
  have i1 : (i : Int) < n := by omega
  have i2 : (0 : Int) ≤ i := by omega
  clear h h1 h2 h3 hl hin hi
  go_enter Tryz.func130, Tryz.ntmps130
  go_wp2
  go_ret
  exact ⟨rfl, rfl⟩
def RGiveP (w : World) (O : Nat → Prop) (fb tb bb n : Nat) (tk : List Bool) (back : List Int) (fr i : Nat) (e : Ending) (w' : World) : Prop := e = .returned (.int .i64 0) ∧ FD w' (nx w w' O) fb tb bb n (tk.set i false) (back ++ [(i : Int)]) fr ∧ Upd (FF fb tb bb) w w'
set_option maxRecDepth 100000 in
set_option maxHeartbeats 1000000 in
theorem rgive_is (h : FD w O fb tb bb n tk back fr) {i : Nat} (hi : tk[i]? = some true) (hb : back.length < n) : Calls Tryz.prog 115 #[.pointer (some ⟨fb, 0, none⟩), .int .i64 i] w (RGiveP w O fb tb bb n tk back fr i) := by
  have his := ris_yes h hi
  have H := Lib.hid (And.intro h (And.intro hi hb))
  have HN := Lib.hid h.ne
  obtain ⟨vb, bk, h1, h2, h3⟩ := h.blk
  obtain ⟨a, c, rfl, hc, -⟩ := h2.slice
  have hl := h.len
  have hin := (List.getElem?_eq_some_iff.1 hi).1
  have hn64 := h.n64
  have c1 := h1.rd
  have c2 : w.cell? ⟨tb, i, none⟩ = some (.bool true) := by rw [h.tak.rd, List.getElem?_toArray, List.getElem?_map, hi]; rfl
  have f2 := h.tak.nf
  have i1 : (i : Int) < n := by omega
  have i2 : (0 : Int) ≤ i := by omega
  have HH := Lib.hid (And.intro h1 (And.intro h2 (And.intro h3 hin)))
  obtain ⟨L, hL⟩ : ∃ L, (icells back).length = L := ⟨_, rfl⟩
  have HL := Lib.hid hL
  rw [hL] at c1 hc
  clear h h1 h2 h3 hl hin hi hL hb
  go_enter Tryz.func115, Tryz.ntmps115
  go_upto_region 4 with (go_at_call 130; (with_reducible refine his.mono ?_); rintro e w1 ⟨rfl, rfl⟩; clear his)
  have ht2 := Blk.of (H.out.1.tak.set i (.bool false)) (show (tk.map Value.bool).toArray.setIfInBounds i (.bool false) = ((tk.set i false).map Value.bool).toArray by simp [List.map_set])
  have hu3 : Upd (fun k => k = tb) w (w.setCell ⟨tb, i, none⟩ (.bool false)) := (Upd.refl (fun k => k = tb) w).setCell (p := ⟨tb, i, none⟩) (fun _ => rfl) _
  have HM := Lib.hid (And.intro (Blk.upd hu3 HH.out.1 HN.out.1) (And.intro ht2 (And.intro hu3 (HH.out.2.1.upd hu3 (fun g hg e => HH.out.2.1.neT H.out.1.tak (by decide) g hg e)))))
  clear ht2 hu3 c1 c2 f2
  generalize wk_eq : w.setCell ⟨tb, i, none⟩ (.bool false) = wk at HM ⊢
  have c1 := HM.out.1.rd
  rw [HL.out] at c1
  go_wp2_with (first
    | (at_builtin; refine wp_appV rfl _ _ 79 3 _ 8 infoI rfl (by decide) underI rfl _ [] none rfl (Or.inl ⟨rfl, rfl, rfl⟩) a L c (icells back) HL.out rfl (fun hp => by (have hr := RowV.rd (by have := HM.out.2.2.2; rw [HL.out] at this; exact this); obtain ⟨A, hA, _⟩ := hr 0 _ (List.getElem?_eq_getElem (by rw [HL.out]; exact hp)); exact ⟨A, hA, fun j u hj => by obtain ⟨A', e, h⟩ := hr j u hj; rw [hA] at e; cases e; exact h⟩)) (one_i back) (by have := H.out.1.bkn; have := H.out.1.n64; simp; omega) ?_; intro v3 w3 B3 hI3 hB3 hU3; rw [List.nil_append] at hI3; have H3 := Lib.hid (And.intro hI3 (And.intro hB3 hU3)); clear hI3 hB3 hU3)
    | (at_builtin; refine wp_appV rfl _ _ 79 3 _ 8 infoI rfl (by decide) underI rfl _ (icells back) B3 rfl (H3.out.1.below ((Below.refl _ _).alloc (Nat.le_refl _) _)) (some ⟨w3.heap.size, 0, none⟩) 1 1 (icells [(i : Int)]) rfl rfl (fun _ => ⟨_, rfl, fun j u hj => by rw [add_off, (Blk.new w3 #[.int .i64 i] 3).rd]; exact List.getElem?_toArray.trans hj⟩) (one_i _) (by have := H.out.1.bkn; have := H.out.1.n64; simp; omega) ?_; intro v4 w4 B4 hI4 hB4 hU4; obtain ⟨a4, l4, k4, rfl⟩ := hI4.sl; have hB3' : ∀ g, B3 = some g → wk.heap.size ≤ g := (fun g hg => (H3.out.2.1 g hg).elim (fun h => by cases h) id); have hBel : Below wk.heap.size wk w3 := H3.out.2.2.below (Nat.le_refl _) (fun k hk => by cases hk); have hb4 : Below wk.heap.size wk w4 := (hBel.alloc hBel.size _).trans (hU4.below (by have := hBel.size; simp; omega) (fun k hk => hB3' k hk)); have hq4 := Blk.below hb4 HM.out.1 HM.out.1.lt; have c4 := hq4.rd; rw [HL.out] at c4; have f4 := hq4.nf; have H4 := Lib.hid (And.intro hI4 (And.intro (fun g hg => (hB4 g hg).elim (fun h => hB3' g h) (fun h => by have := hBel.size; simp at h; omega) : ∀ g, B4 = some g → wk.heap.size ≤ g) hb4)); clear hI4 hB4 hU4 hB3' hBel hb4 hq4))
  go_ret
  obtain ⟨hI4, hB4, hb4⟩ := H4.out
  have hz := HM.out.2.2.1.size
  have hz4 := hb4.size
  have hu4 : Upd (fun k => k = fb) w4 (w4.setCell ⟨fb, 2, none⟩ (.slice a4 l4 k4)) := (Upd.refl (fun k => k = fb) w4).setCell (p := ⟨fb, 2, none⟩) (fun _ => rfl) _
  have q1 := Blk.of ((Blk.below hb4 HM.out.1 HM.out.1.lt).set 2 (.slice a4 l4 k4)) (show _ = #[.slice (some ⟨tb, 0, none⟩) n n, .slice (some ⟨bb, 0, none⟩) n n, .slice a4 l4 k4, .int .i64 fr] from rfl)
  have q2 := Blk.upd hu4 (Blk.below hb4 HM.out.2.1 HM.out.2.1.lt) (fun e => HN.out.1 e.symm)
  obtain ⟨cs, h4, h5⟩ := H.out.1.row
  have q3' := Blk.upd HM.out.2.2.1 h4 (fun e => HN.out.2.2 e.symm)
  have q3 := Blk.upd hu4 (Blk.below hb4 q3' q3'.lt) (fun e => HN.out.2.1 e.symm)
  have q4 := hI4.upd hu4 (fun g hg e => hI4.neT (Blk.below hb4 HM.out.1 HM.out.1.lt) (by decide) g hg e)
  have hh := H.out.1
  rw [show icells back ++ icells [(i : Int)] = icells (back ++ [(i : Int)]) by simp [icells]] at q4
  refine ⟨rfl, ⟨⟨_, B4, q1, q4, fun g hg => ⟨Or.inr (by have := hB4 g hg; omega), q4.lt g hg⟩⟩, q2, ⟨cs, q3, h5⟩, by simp [hh.len], hh.n64, hh.frn, by have := H.out.2.2; simp; omega, fun x hx => ?_, nx_old hh.of.1 q1.lt, nx_old hh.of.2.1 q2.lt, nx_old hh.of.2.2 q3.lt⟩, ?_⟩
  · rw [List.mem_append, List.mem_singleton] at hx
    rcases hx with hx | rfl
    · exact hh.bkr x hx
    · have := HH.out.2.2.2; rw [hh.len] at this; omega
  · exact ((HM.out.2.2.1.mono (fun k _ e => Or.inr (Or.inl e) : ∀ k, _ → k = tb → FF fb tb bb k)).trans ((Upd.of_below (F := fun _ => False) hb4).mono (fun _ _ h => h.elim) : Upd (FF fb tb bb) wk w4) (fun _ _ h => h)).trans hu4 (fun k _ e => Or.inl e)
end
end Go.Proofs.YtchnjfmimpikcaaGreatDoor
