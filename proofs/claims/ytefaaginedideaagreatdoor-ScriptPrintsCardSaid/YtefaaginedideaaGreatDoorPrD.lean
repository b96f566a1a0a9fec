/-
  Scripts printed, by the document.
-/
import Derived.Test.YtefaaginedideaaGreatDoorPrE
import Derived.Test.YtefaaginedideaaGreatDoorPrG
namespace Go.Proofs.YtefaaginedideaaGreatDoor
set_option linter.unusedSimpArgs false
set_option linter.unusedVariables false
open Go.RowKit Own RegJ
open Go.Lib hiding intOf

theorem stR_ln {α : Type} {R : Bool → Txt → Prop} {f : α → Txt} {g : α → Bool} {L : List α} {i : Nat} {x : α} {bad0 g1 : Bool} {l0 t : Txt} (hx : L[i]? = some x) (hf : f x = t ++ [10]) (hg : g x = g1) (h : R ((bad0 || (L.take i).any g) || g1) ((l0 ++ (L.take i).flatMap f) ++ t ++ [10])) : R (bad0 || (L.take (i + 1)).any g) (l0 ++ (L.take (i + 1)).flatMap f) := by
  rw [any_next hx, fm_next hx, ← Bool.or_assoc, ← List.append_assoc, hf, hg, ← List.append_assoc]; exact h
theorem stR_ef {α : Type} {R : Bool → Txt → Prop} {f : α → Txt} {g : α → Bool} {L : List α} {i : Nat} {x : α} {bad0 g1 g2 : Bool} {l0 t u : Txt} (hx : L[i]? = some x) (hf : f x = t ++ [10] ++ u) (hg : g x = (g1 || g2)) (h : R (((bad0 || (L.take i).any g) || g1) || g2) (((l0 ++ (L.take i).flatMap f) ++ t ++ [10]) ++ u)) : R (bad0 || (L.take (i + 1)).any g) (l0 ++ (L.take (i + 1)).flatMap f) := by
  rw [any_next hx, fm_next hx, ← Bool.or_assoc, ← List.append_assoc, hf, hg, ← Bool.or_assoc, ← List.append_assoc, ← List.append_assoc]; exact h
theorem cell_alloc {w : World} {p : Addr} {v : Value} (h : w.cell? p = some v) (o : Obj) : (w.alloc o).cell? p = some v := (((Below.refl _ _).alloc (Nat.le_refl _) o).cell (World.block_lt_of_cell? _ _ h)).trans h
theorem PdR.drew {b : Nat} {bad : Bool} {out : Txt} {w w' : World} (h : PdR b bad out w w') : PdR b bad out w w'.drew := ⟨h.1, h.2.drew⟩
theorem rput_new {b : Nat} {bad : Bool} {out word : Txt} {w : World} (ns : List Int) (n c : Nat) (cs : Array Value) (hcs : cs = (icells ns).toArray) (h : PdV b bad out w) (hn : ns.length = n) (hm : n ≤ 100000) (hw : word.length ≤ 100) (hl : out.length ≤ 9000000000000) :
    Calls Tryz.prog 39 #[.pointer (some ⟨b, 0, none⟩), .string (Go.Proofs.YtefaaginedideaaGreatDoor.B word), .slice (some ⟨w.heap.size, 0, none⟩) n c] (w.alloc (.cells cs 3)) fun e w' => e = .returned (.tuple #[]) ∧ PdR b (bad || badB ns) (out ++ rlineT word ns ++ [10]) w w' := by
  subst hcs
  have hal := (Below.refl w.heap.size w).alloc (Nat.le_refl _) (.cells (icells ns).toArray 3)
  refine (rput_is n c (h.below hal) rd_newI hn hm hw hl).mono ?_
  rintro e w' ⟨he, hr⟩
  exact ⟨he, PdR.trans (PdR.bel ⟨h, Upd.refl _ _⟩ hal) hr⟩
theorem mtxD_len (m : Int × Int) : (mtxD m).length ≤ 60 := by
  have := rline_len (word := mutexW) (ns := [m.1, m.2])
  unfold mtxD
  simp only [mutexW, List.length_append, List.length_cons, List.length_nil] at *
  omega
theorem gapD_len (g : Int) : (gapD g).length ≤ 60 := by
  have := rline_len (word := gapW) (ns := [g])
  unfold gapD
  simp only [gapW, List.length_append, List.length_cons, List.length_nil] at *
  omega
theorem evD_len (e : EvV) : (evD e).length ≤ 100 := by
  have := rline_len (word := atW) (ns := [e.tick, e.line + 1, e.task])
  unfold evD
  simp only [atW, List.length_append, List.length_cons, List.length_nil] at *
  omega
theorem effD_len {b : EffV} (hp : b.prog.length ≤ 20000) : (effD b).length ≤ 41000000 := by
  have := rline_len (word := bestW) (ns := [b.lv])
  have := opsD_len hp
  unfold effD
  simp only [bestW, List.length_append, List.length_cons, List.length_nil] at *
  omega
theorem taskD_len {t : TaskV} (hk : t.uses.length ≤ 20000 ∧ t.prog.length ≤ 20000) : (taskD t).length ≤ 41000000 := by
  have h1 := rline_len (word := taskW) (ns := taskNs t)
  have h2 := opsD_len hk.2
  have h3 : (taskNs t).length = 6 + t.uses.length := by unfold taskNs; rw [List.length_append]; rfl
  rw [h3] at h1
  unfold taskD
  simp only [taskW, List.length_append, List.length_cons, List.length_nil] at *
  omega
theorem headD_len (c : CfgV) : (headD c).length ≤ 100 := by
  have h1 := rline_len (word := framesW) (ns := [c.frames])
  have h2 := rline_len (word := dogW) (ns := [c.dog])
  unfold headD
  simp only [framesW, dogW, List.length_append, List.length_cons, List.length_nil] at *
  omega
theorem bad_task {c : CfgV} {es : List EvV} {i : Nat} {x : TaskV} (hx : c.tasks[i]? = some x) (h : 999999 < x.li) : printE c es = 19 ∧ printT c es = [] := by
  have hf : okCfg c es = false := by
    cases hk : okCfg c es
    · rfl
    · obtain ⟨_, _, _, _, h5, _⟩ := okCfg_parts hk
      have h6 := h5 x (List.mem_of_getElem? hx)
      unfold okTask at h6
      rw [Bool.and_eq_true, List.all_eq_true] at h6
      have h7 := h6.1 (x.li + 1) (by unfold taskNs; simp)
      unfold goodB at h7
      simp at h7
      omega
  have e1 : printE c es = 19 := by unfold printE; rw [if_pos hf]
  exact ⟨e1, by unfold printT; rw [e1]; rfl⟩
theorem bad_ev {c : CfgV} {es : List EvV} {i : Nat} {x : EvV} (hx : es[i]? = some x) (h : 999999 < x.line) : printE c es = 19 ∧ printT c es = [] := by
  have hf : okCfg c es = false := by
    cases hk : okCfg c es
    · rfl
    · obtain ⟨_, _, _, _, _, _, h5⟩ := okCfg_parts hk
      have h6 := h5 x (List.mem_of_getElem? hx)
      unfold okEv at h6
      rw [Bool.and_eq_true, Bool.and_eq_true] at h6
      have h7 := h6.1.2
      unfold goodB at h7
      simp at h7
      omega
  have e1 : printE c es = 19 := by unfold printE; rw [if_pos hf]
  exact ⟨e1, by unfold printT; rw [e1]; rfl⟩
set_option maxRecDepth 100000 in
set_option maxHeartbeats 8000000 in
theorem rprint_go {w : World} {c : CfgV} {es : List EvV} {tv bv mv gv : Value} {tq : List TQ} {eq : List EQ} {ea : Option Addr} {ec : Nat} (ne : Nat) (h : RdCfg w c tv bv mv gv tq eq) (he : RdC w ea (vCells es)) (hne : es.length = ne) (hR : CfgR c) (hRe : EvsR es) (hN : CfgN c 20000) (hNe : ne ≤ 20000) :
    Calls Tryz.prog 21 #[.agg #[tv, bv, mv, gv, .int .i64 c.frames, .int .i64 c.dog], .slice ea ne ec] w (ValB (.tuple #[.string (B (printT c es)), .int .i64 (printE c es)]) w) := by
  obtain ⟨a0, c0, rfl, hT⟩ := h.rt
  obtain ⟨a1, c1, rfl, hE⟩ := h.re
  obtain ⟨a2, c2, rfl, hM⟩ := h.rm
  obtain ⟨a3, c3, rfl, hG⟩ := h.rg
  obtain ⟨n0, e0⟩ : ∃ n, c.tasks.length = n := ⟨_, rfl⟩
  obtain ⟨n1, e1⟩ : ∃ n, c.best.length = n := ⟨_, rfl⟩
  obtain ⟨n2, e2⟩ : ∃ n, c.mtx.length = n := ⟨_, rfl⟩
  obtain ⟨n3, e3⟩ : ∃ n, c.gaps.length = n := ⟨_, rfl⟩
  have HN := Lib.hid (And.intro e0 (And.intro e1 (And.intro e2 (And.intro e3 (And.intro hne (And.intro hR (And.intro hRe hN)))))))
  have m0 : n0 ≤ 20000 := by have := hN.t; omega
  have m1 : n1 ≤ 20000 := by have := hN.b; omega
  have m2 : n2 ≤ 20000 := by have := hN.m; omega
  have m3 : n3 ≤ 20000 := by have := hN.g; omega
  have HC := Lib.hid (And.intro h (And.intro hT (And.intro hE (And.intro hM (And.intro hG he)))))
  rw [e0, e1, e2, e3]
  obtain ⟨fr, hfr⟩ : ∃ fr, c.frames = fr := ⟨_, rfl⟩
  obtain ⟨dg, hdg⟩ : ∃ dg, c.dog = dg := ⟨_, rfl⟩
  rw [hfr, hdg]
  have HFD := Lib.hid (And.intro hfr hdg)
  have hB1 := (Blk.new w #[.slice a0 n0 c0, .slice a1 n1 c1, .slice a2 n2 c2, .slice a3 n3 c3, .int .i64 fr, .int .i64 dg] 41).alloc (.cells #[.string ⟨#[]⟩, .bool true] 99)
  have hPd : PdV (w.heap.size + 1) false [] ((w.alloc (.cells #[.slice a0 n0 c0, .slice a1 n1 c1, .slice a2 n2 c2, .slice a3 n3 c3, .int .i64 fr, .int .i64 dg] 41)).alloc (.cells #[.string ⟨#[]⟩, .bool true] 99)) := by
    have := Blk.new (w.alloc (.cells #[.slice a0 n0 c0, .slice a1 n1 c1, .slice a2 n2 c2, .slice a3 n3 c3, .int .i64 fr, .int .i64 dg] 41)) #[.string ⟨#[]⟩, .bool true] 99
    rw [show (w.alloc (.cells #[.slice a0 n0 c0, .slice a1 n1 c1, .slice a2 n2 c2, .slice a3 n3 c3, .int .i64 fr, .int .i64 dg] 41)).heap.size = w.heap.size + 1 by simp] at this
    exact this
  have hbel : Below w.heap.size w ((w.alloc (.cells #[.slice a0 n0 c0, .slice a1 n1 c1, .slice a2 n2 c2, .slice a3 n3 c3, .int .i64 fr, .int .i64 dg] 41)).alloc (.cells #[.string ⟨#[]⟩, .bool true] 99)) := ((Below.refl _ _).alloc (Nat.le_refl _) _).alloc (by simp) _
  have hsz2 : w.heap.size + 2 ≤ ((w.alloc (.cells #[.slice a0 n0 c0, .slice a1 n1 c1, .slice a2 n2 c2, .slice a3 n3 c3, .int .i64 fr, .int .i64 dg] 41)).alloc (.cells #[.string ⟨#[]⟩, .bool true] 99)).heap.size := by simp
  clear h hT hE hM hG he e0 e1 e2 e3 hne hR hRe hN hfr hdg
  go_enter Tryz.func21, Tryz.ntmps21
  go_upto_region 2 with (fail)
  obtain ⟨W2, hW2⟩ : ∃ W2, ((w.alloc (.cells #[.slice a0 n0 c0, .slice a1 n1 c1, .slice a2 n2 c2, .slice a3 n3 c3, .int .i64 fr, .int .i64 dg] 41)).alloc (.cells #[.string ⟨#[]⟩, .bool true] 99)) = W2 := ⟨_, rfl⟩
  rw [hW2] at hB1 hPd hbel hsz2 ⊢
  clear hW2
  have r0 := hB1.rd
  have HB := Lib.hid (And.intro hbel (And.intro hB1 hsz2))
  clear hB1 hbel hsz2
  have hl1 := rput_new (word := framesW) [fr] 1 1 #[.int .i64 fr] rfl hPd rfl (by omega) (by decide) (by simp)
  rw [show B framesW = ⟨#[102, 114, 97, 109, 101, 115]⟩ from rfl] at hl1
  go_upto_region 3 with (go_at_call 39; refine hl1.mono ?_; rintro e w3 ⟨rfl, hr3⟩; have H3 := Lib.hid hr3; clear hr3 hl1)
  clear r0
  have r3 := (Blk.upd H3.out.2 HB.out.2.1 (by omega)).rd
  have hl2 := rput_new (word := dogW) [dg] 1 1 #[.int .i64 dg] rfl H3.out.1 rfl (by omega) (by decide) (by have := rline_len (word := framesW) (ns := [fr]); simp only [framesW, List.length_append, List.length_cons, List.length_nil] at *; omega)
  rw [show B dogW = ⟨#[100, 111, 103]⟩ from rfl] at hl2
  go_upto_region 4 with (go_at_call 39; refine hl2.mono ?_; rintro e w4 ⟨rfl, hr4⟩; have H4 := Lib.hid hr4; clear hr4 hl2)
  have HS := Lib.hid (show PdR (w.heap.size + 1) (headB c) (headD c) W2 w4 by
    have h := H3.out.trans H4.out
    have e1 : headB c = ((false || badB [fr]) || badB [dg]) := by unfold headB; rw [HFD.out.1, HFD.out.2]; rfl
    have e2 : headD c = [] ++ rlineT framesW [fr] ++ [10] ++ rlineT dogW [dg] ++ [10] := by unfold headD; rw [HFD.out.1, HFD.out.2]; rfl
    rw [e1, e2]; exact h)
  have hlh := headD_len c
  clear r3 H3 H4
  go_wp2_with (fail)
  go_loopw [7] (fun ix wr => ∃ i : Nat, i ≤ n2 ∧ ix = .int .i64 i ∧ Hid (PdR (w.heap.size + 1) (headB c || (c.mtx.take i).any mtxB) (headD c ++ (c.mtx.take i).flatMap mtxD) W2 wr)) (fun ix _ => n2 - (intOf ix).toNat)
  case atStart => exact ⟨0, Nat.zero_le _, rfl, Lib.hid (by rw [List.take_zero, List.any_nil, List.flatMap_nil, Bool.or_false, List.append_nil]; exact HS.out)⟩
  case round =>
    obtain ⟨i, hi, rfl, H⟩ := hrel
    clear HS
    have HW := Lib.hid (HB.out.1.trans (H.out.2.below (B := w.heap.size) (by have := HB.out.2.2; omega) (fun k hk => by omega)))
    have rb := (Blk.upd H.out.2 HB.out.2.1 (by omega)).rd
    by_cases hil : i < n2
    · obtain ⟨⟨y0, y1⟩, hx⟩ : ∃ x, c.mtx[i]? = some x := ⟨c.mtx[i]'(by rw [HN.out.2.2.1]; exact hil), List.getElem?_eq_getElem _⟩
      obtain ⟨g, o, rfl, ka⟩ := (HC.out.2.2.2.1.below HW.out).at (mCells_at hx (by omega : 0 < 2))
      have k0 := ka _ _ (mCells_at hx (by omega : 0 < 2))
      have k1 := ka _ _ (mCells_at hx (by omega : 1 < 2))
      rw [← Nat.add_assoc] at k1
      rw [Nat.add_zero] at k0
      dsimp only at k0 k1
      have d1 : decide ((i : Int) < (n2 : Int)) = true := by simp; omega
      have i1 : (i : Int) < (n2 : Int) := by omega
      have i2 : (0 : Int) ≤ i := by omega
      have hfl := fm_take (f := mtxD) (i := i) (fun x hx => mtxD_len x) (Nat.le_of_eq HN.out.2.2.1)
      have hP : PdV (w.heap.size + 1) (headB c || (c.mtx.take i).any mtxB) (headD c ++ (c.mtx.take i).flatMap mtxD) wr.drew := H.out.1
      have hl := rput_new (word := mutexW) [y0, y1] 2 2 #[.int .i64 y0, .int .i64 y1] rfl hP rfl (by omega) (by decide) (by rw [List.length_append]; omega)
      rw [show B mutexW = ⟨#[109, 117, 116, 101, 120]⟩ from rfl] at hl
      have hl2 := hl.mono (fun e w' h => And.intro h.1 (stR_ln (R := fun bd l => PdR (w.heap.size + 1) bd l W2 w') (f := mtxD) (g := mtxB) hx rfl rfl (H.out.drew.trans h.2)))
      have hFW : (fun u => (∀ k, u.cell? ⟨w.heap.size, k, none⟩ = (#[.slice a0 n0 c0, .slice a1 n1 c1, .slice (some ⟨g, o, none⟩) n2 c2, .slice a3 n3 c3, .int .i64 fr, .int .i64 dg] : Array Value)[k]?) ∧ u.cell? ⟨g, o + i * 2, none⟩ = some (.int .i64 y0) ∧ u.cell? ⟨g, o + i * 2 + 1, none⟩ = some (.int .i64 y1)) wr.drew := ⟨rb, k0, k1⟩
      have hFC : (fun u => (∀ k, u.cell? ⟨w.heap.size, k, none⟩ = (#[.slice a0 n0 c0, .slice a1 n1 c1, .slice (some ⟨g, o, none⟩) n2 c2, .slice a3 n3 c3, .int .i64 fr, .int .i64 dg] : Array Value)[k]?) ∧ u.cell? ⟨g, o + i * 2, none⟩ = some (.int .i64 y0) ∧ u.cell? ⟨g, o + i * 2 + 1, none⟩ = some (.int .i64 y1)) (wr.drew.alloc (.cells #[.int .i64 y0, .int .i64 y1] 3)) := ⟨fun k => (Blk.alloc (w := wr.drew) (Blk.upd H.out.2 HB.out.2.1 (by omega)) _).rd k, cell_alloc (w := wr.drew) k0 _, cell_alloc (w := wr.drew) k1 _⟩
      have HQ := Lib.hid (And.intro hl2 (And.intro hFW hFC))
      clear hl hl2 hFW hFC hP hfl hx ka k0 k1
      go_upto_region 7 with (fail)
      clear rb
      refine region_Ch 11 12 13 14 wr.drew wr.drew wr.drew (wr.drew.alloc (.cells #[.int .i64 y0, .int .i64 y1] 3)) (fun w9 => PdR (w.heap.size + 1) (headB c || (c.mtx.take (i + 1)).any mtxB) (headD c ++ (c.mtx.take (i + 1)).flatMap mtxD) W2 w9) rfl (by kernel_rfl) (by kernel_rfl) ?_
      apply wpJ_op rfl (by rfl)
      · intro f w1 hf hJ Q1 hQ
        simp only [Act.put, List.setIfInBounds_toArray, List.set_cons_zero, List.set_cons_succ] at hQ
        go_wp2_with (fail)
        exact hQ _ _ rfl (hJ.other rfl hf (by decide) (by decide) (by decide) (by decide))
      simp only [Act.put, List.setIfInBounds_toArray, List.set_cons_zero, List.set_cons_succ]
      apply wpJ_op rfl (by rfl)
      · intro f w1 hf hJ Q1 hQ
        simp only [Act.put, List.setIfInBounds_toArray, List.set_cons_zero, List.set_cons_succ] at hQ
        go_wp2_with (fail)
        exact hQ _ _ rfl (hJ.other rfl hf (by decide) (by decide) (by decide) (by decide))
      simp only [Act.put, List.setIfInBounds_toArray, List.set_cons_zero, List.set_cons_succ]
      apply wpJ_op rfl (by rfl)
      · intro f w1 hf hJ Q1 hQ
        have hL : f 14 = false := path_no hJ.1 [13, 6, 5, 4, 2] (by kernel_rfl) (by decide) hf.1
        have hF := hJ.pre (F := (fun u => (∀ k, u.cell? ⟨w.heap.size, k, none⟩ = (#[.slice a0 n0 c0, .slice a1 n1 c1, .slice (some ⟨g, o, none⟩) n2 c2, .slice a3 n3 c3, .int .i64 fr, .int .i64 dg] : Array Value)[k]?) ∧ u.cell? ⟨g, o + i * 2, none⟩ = some (.int .i64 y0) ∧ u.cell? ⟨g, o + i * 2 + 1, none⟩ = some (.int .i64 y1))) hL HQ.out.2.1 HQ.out.2.1 HQ.out.2.1 HQ.out.2.2
        have k0 := hF.1 2
        simp only [Act.put, List.setIfInBounds_toArray, List.set_cons_zero, List.set_cons_succ] at hQ
        go_wp2_with (fail)
        exact hQ _ _ rfl (hJ.other rfl hf (by decide) (by decide) (by decide) (by decide))
      simp only [Act.put, List.setIfInBounds_toArray, List.set_cons_zero, List.set_cons_succ]
      apply wpJ_op rfl (by rfl)
      · intro f w1 hf hJ Q1 hQ
        simp only [Act.put, List.setIfInBounds_toArray, List.set_cons_zero, List.set_cons_succ] at hQ
        go_wp2_with (fail)
        exact hQ _ _ rfl (hJ.other rfl hf (by decide) (by decide) (by decide) (by decide))
      simp only [Act.put, List.setIfInBounds_toArray, List.set_cons_zero, List.set_cons_succ]
      apply wpJ_op rfl (by rfl)
      · intro f w1 hf hJ Q1 hQ
        simp only [Act.put, List.setIfInBounds_toArray, List.set_cons_zero, List.set_cons_succ] at hQ
        go_wp2_with (fail)
        exact hQ _ _ rfl (hJ.other rfl hf (by decide) (by decide) (by decide) (by decide))
      simp only [Act.put, List.setIfInBounds_toArray, List.set_cons_zero, List.set_cons_succ]
      apply wpJ_op rfl (by rfl)
      · intro f w1 hf hJ Q1 hQ
        simp only [Act.put, List.setIfInBounds_toArray, List.set_cons_zero, List.set_cons_succ] at hQ
        go_wp2_with (fail)
        exact hQ _ _ rfl (hJ.other rfl hf (by decide) (by decide) (by decide) (by decide))
      simp only [Act.put, List.setIfInBounds_toArray, List.set_cons_zero, List.set_cons_succ]
      apply wpJ_op rfl (by rfl)
      · intro f w1 hf hJ Q1 hQ
        have hL : f 14 = false := path_no hJ.1 [13, 6] (by kernel_rfl) (by decide) hf.1
        have hF := hJ.pre (F := (fun u => (∀ k, u.cell? ⟨w.heap.size, k, none⟩ = (#[.slice a0 n0 c0, .slice a1 n1 c1, .slice (some ⟨g, o, none⟩) n2 c2, .slice a3 n3 c3, .int .i64 fr, .int .i64 dg] : Array Value)[k]?) ∧ u.cell? ⟨g, o + i * 2, none⟩ = some (.int .i64 y0) ∧ u.cell? ⟨g, o + i * 2 + 1, none⟩ = some (.int .i64 y1))) hL HQ.out.2.1 HQ.out.2.1 HQ.out.2.1 HQ.out.2.2
        have k1 := hF.2.1
        simp only [Act.put, List.setIfInBounds_toArray, List.set_cons_zero, List.set_cons_succ] at hQ
        go_wp2_with (fail)
        exact hQ _ _ rfl (hJ.other rfl hf (by decide) (by decide) (by decide) (by decide))
      simp only [Act.put, List.setIfInBounds_toArray, List.set_cons_zero, List.set_cons_succ]
      apply wpJ_op rfl (by rfl)
      · intro f w1 hf hJ Q1 hQ
        simp only [Act.put, List.setIfInBounds_toArray, List.set_cons_zero, List.set_cons_succ] at hQ
        go_wp2_with (fail)
        exact hQ _ _ rfl (hJ.other rfl hf (by decide) (by decide) (by decide) (by decide))
      simp only [Act.put, List.setIfInBounds_toArray, List.set_cons_zero, List.set_cons_succ]
      apply wpJ_op rfl (by rfl)
      · intro f w1 hf hJ Q1 hQ
        have hL : f 14 = false := path_no hJ.1 [13, 12, 11, 10, 8] (by kernel_rfl) (by decide) hf.1
        have hF := hJ.pre (F := (fun u => (∀ k, u.cell? ⟨w.heap.size, k, none⟩ = (#[.slice a0 n0 c0, .slice a1 n1 c1, .slice (some ⟨g, o, none⟩) n2 c2, .slice a3 n3 c3, .int .i64 fr, .int .i64 dg] : Array Value)[k]?) ∧ u.cell? ⟨g, o + i * 2, none⟩ = some (.int .i64 y0) ∧ u.cell? ⟨g, o + i * 2 + 1, none⟩ = some (.int .i64 y1))) hL HQ.out.2.1 HQ.out.2.1 HQ.out.2.1 HQ.out.2.2
        have k0 := hF.1 2
        simp only [Act.put, List.setIfInBounds_toArray, List.set_cons_zero, List.set_cons_succ] at hQ
        go_wp2_with (fail)
        exact hQ _ _ rfl (hJ.other rfl hf (by decide) (by decide) (by decide) (by decide))
      simp only [Act.put, List.setIfInBounds_toArray, List.set_cons_zero, List.set_cons_succ]
      apply wpJ_op rfl (by rfl)
      · intro f w1 hf hJ Q1 hQ
        simp only [Act.put, List.setIfInBounds_toArray, List.set_cons_zero, List.set_cons_succ] at hQ
        go_wp2_with (fail)
        exact hQ _ _ rfl (hJ.other rfl hf (by decide) (by decide) (by decide) (by decide))
      simp only [Act.put, List.setIfInBounds_toArray, List.set_cons_zero, List.set_cons_succ]
      apply wpJ_op rfl (by rfl)
      · intro f w1 hf hJ Q1 hQ
        simp only [Act.put, List.setIfInBounds_toArray, List.set_cons_zero, List.set_cons_succ] at hQ
        go_wp2_with (fail)
        exact hQ _ _ rfl (hJ.other rfl hf (by decide) (by decide) (by decide) (by decide))
      simp only [Act.put, List.setIfInBounds_toArray, List.set_cons_zero, List.set_cons_succ]
      apply wpJ_op rfl (by rfl)
      · intro f w1 hf hJ Q1 hQ
        have hA : f 12 = false := path_no hJ.1 [11] (by kernel_rfl) (by decide) hf.1
        have hC : f 13 = false := path_no hJ.1 [12] (by kernel_rfl) (by decide) hA
        have hL : f 14 = false := path_no hJ.1 [13] (by kernel_rfl) (by decide) hC
        rw [hJ.atN hf.1 hA hC hL]
        simp only [Act.put, List.setIfInBounds_toArray, List.set_cons_zero, List.set_cons_succ] at hQ
        go_wp2_with (fail)
        exact hQ _ _ rfl (hJ.goN rfl hf hA hC hL (by decide) (by decide) (by decide))
      simp only [Act.put, List.setIfInBounds_toArray, List.set_cons_zero, List.set_cons_succ]
      apply wpJ_op rfl (by rfl)
      · intro f w1 hf hJ Q1 hQ
        have hC : f 13 = false := path_no hJ.1 [12] (by kernel_rfl) (by decide) hf.1
        have hL : f 14 = false := path_no hJ.1 [13] (by kernel_rfl) (by decide) hC
        have hN : f 11 = true := up_dep hf 11 (by kernel_rfl)
        rw [hJ.atA hN hf.1 hC hL]
        have k2 := HQ.out.2.1.2.2
        simp only [Act.put, List.setIfInBounds_toArray, List.set_cons_zero, List.set_cons_succ] at hQ
        go_wp2_with (fail)
        exact hQ _ _ rfl (hJ.goA rfl hf hC hL (by decide) (by decide))
      simp only [Act.put, List.setIfInBounds_toArray, List.set_cons_zero, List.set_cons_succ]
      apply wpJ_op rfl (by rfl)
      · intro f w1 hf hJ Q1 hQ
        have hL : f 14 = false := path_no hJ.1 [13] (by kernel_rfl) (by decide) hf.1
        have hA : f 12 = true := up_dep hf 12 (by kernel_rfl)
        rw [hJ.atC hA hf.1 hL]
        simp only [Act.put, List.setIfInBounds_toArray, List.set_cons_zero, List.set_cons_succ] at hQ
        go_wp2_with (fail)
        exact hQ _ _ rfl (hJ.goC rfl hf hL (by decide))
      simp only [Act.put, List.setIfInBounds_toArray, List.set_cons_zero, List.set_cons_succ]
      apply wpJ_op rfl (by rfl)
      · intro f w1 hf hJ Q1 hQ
        have hC : f 13 = true := up_dep hf 13 (by kernel_rfl)
        rw [hJ.atL hC hf.1]
        simp only [Act.put, List.setIfInBounds_toArray, List.set_cons_zero, List.set_cons_succ] at hQ
        go_wp2_with (have hl := HQ.out.1; go_at_call 39; refine hl.mono ?_; rintro e w8 ⟨rfl, hq⟩)
        exact hQ _ _ rfl (hJ.goL rfl hf hq)
      simp only [Act.put, List.setIfInBounds_toArray, List.set_cons_zero, List.set_cons_succ]
      refine wpJ_nil ?_
      intro w9 hJ9
      have hq9 := hJ9.fin rfl
      clear hJ9
      have H5 := Lib.hid hq9
      clear hq9
      go_wp2_with (fail)
      go_roundw
      case rel => exact ⟨i + 1, by omega, by go_num, H5⟩
      case measure => simp [intOf]; omega
    · have d1 : decide ((i : Int) < (n2 : Int)) = false := by simp; omega
      have d2 : decide (i < n2) = false := by simp; omega
      obtain rfl : n2 = i := by omega
      have HS := Lib.hid (show PdR (w.heap.size + 1) (headB c || c.mtx.any mtxB) (headD c ++ c.mtx.flatMap mtxD) W2 wr by have h := H.out; rw [← any_all HN.out.2.2.1, ← fm_all HN.out.2.2.1] at h; exact h)
      clear hil hi H HW
      have hlh2 : (headD c ++ c.mtx.flatMap mtxD).length ≤ 1300000 := by
        have h := fm_len (f := mtxD) (M := 60) c.mtx (fun x hx => mtxD_len x)
        rw [HN.out.2.2.1] at h
        rw [List.length_append]; omega
      replace hlh := hlh2
      clear hlh2
      go_wp2_with (fail)
      clear rb
      go_loopw [8] (fun ix wr => ∃ i : Nat, i ≤ n3 ∧ ix = .int .i64 i ∧ Hid (PdR (w.heap.size + 1) ((headB c || c.mtx.any mtxB) || (c.gaps.take i).any gapB) ((headD c ++ c.mtx.flatMap mtxD) ++ (c.gaps.take i).flatMap gapD) W2 wr)) (fun ix _ => n3 - (intOf ix).toNat)
      case atStart => exact ⟨0, Nat.zero_le _, rfl, Lib.hid (by rw [List.take_zero, List.any_nil, List.flatMap_nil, Bool.or_false, List.append_nil]; exact HS.out)⟩
      case round =>
        obtain ⟨i, hi, rfl, H⟩ := hrel
        clear HS
        have HW := Lib.hid (HB.out.1.trans (H.out.2.below (B := w.heap.size) (by have := HB.out.2.2; omega) (fun k hk => by omega)))
        have rb := (Blk.upd H.out.2 HB.out.2.1 (by omega)).rd
        by_cases hil : i < n3
        · obtain ⟨y0, hx⟩ : ∃ x, c.gaps[i]? = some x := ⟨c.gaps[i]'(by rw [HN.out.2.2.2.1]; exact hil), List.getElem?_eq_getElem _⟩
          obtain ⟨g, o, rfl, ka⟩ := (HC.out.2.2.2.2.1.below HW.out).at (i := i) (v := .int .i64 y0) (by rw [List.getElem?_map, hx]; rfl)
          have k0 := ka i (.int .i64 y0) (by rw [List.getElem?_map, hx]; rfl)
          have d1 : decide ((i : Int) < (n3 : Int)) = true := by simp; omega
          have i1 : (i : Int) < (n3 : Int) := by omega
          have i2 : (0 : Int) ≤ i := by omega
          have hfl := fm_take (f := gapD) (i := i) (fun x hx => gapD_len x) (Nat.le_of_eq HN.out.2.2.2.1)
          have hl := rput_new (word := gapW) [y0] 1 1 #[.int .i64 y0] rfl H.out.1 rfl (by omega) (by decide) (by rw [List.length_append]; omega)
          rw [show B gapW = ⟨#[103, 97, 112]⟩ from rfl] at hl
          have hM := Lib.hid hx
          clear hx ka hfl
          go_wp2_with (go_at_call 39; refine hl.mono ?_; rintro e w5 ⟨rfl, hr5⟩; have H5 := Lib.hid (stR_ln (R := fun bd l => PdR (w.heap.size + 1) bd l W2 w5) (f := gapD) (g := gapB) hM.out rfl rfl (H.out.trans hr5)); clear hr5 hl)
          go_roundw
          case rel => exact ⟨i + 1, by omega, by go_num, H5⟩
          case measure => simp [intOf]; omega
        · have d1 : decide ((i : Int) < (n3 : Int)) = false := by simp; omega
          have d2 : decide (i < n3) = false := by simp; omega
          obtain rfl : n3 = i := by omega
          have HS := Lib.hid (show PdR (w.heap.size + 1) ((headB c || c.mtx.any mtxB) || c.gaps.any gapB) ((headD c ++ c.mtx.flatMap mtxD) ++ c.gaps.flatMap gapD) W2 wr by have h := H.out; rw [← any_all HN.out.2.2.2.1, ← fm_all HN.out.2.2.2.1] at h; exact h)
          clear hil hi H HW
          have hlh2 : ((headD c ++ c.mtx.flatMap mtxD) ++ c.gaps.flatMap gapD).length ≤ 2600000 := by
            have h := fm_len (f := gapD) (M := 60) c.gaps (fun x hx => gapD_len x)
            rw [HN.out.2.2.2.1] at h
            rw [List.length_append]; omega
          replace hlh := hlh2
          clear hlh2
          go_wp2_with (fail)
          clear rb
          go_loopw [9] (fun ix wr => ∃ i : Nat, i ≤ n0 ∧ ix = .int .i64 i ∧ Hid (PdR (w.heap.size + 1) (((headB c || c.mtx.any mtxB) || c.gaps.any gapB) || (c.tasks.take i).any taskBd) (((headD c ++ c.mtx.flatMap mtxD) ++ c.gaps.flatMap gapD) ++ (c.tasks.take i).flatMap taskD) W2 wr)) (fun ix _ => n0 - (intOf ix).toNat)
          case atStart => exact ⟨0, Nat.zero_le _, rfl, Lib.hid (by rw [List.take_zero, List.any_nil, List.flatMap_nil, Bool.or_false, List.append_nil]; exact HS.out)⟩
          case round =>
            obtain ⟨i, hi, rfl, H⟩ := hrel
            clear HS
            have HW := Lib.hid (HB.out.1.trans (H.out.2.below (B := w.heap.size) (by have := HB.out.2.2; omega) (fun k hk => by omega)))
            have rb := (Blk.upd H.out.2 HB.out.2.1 (by omega)).rd
            by_cases hil : i < n0
            · have hil2 : i < c.tasks.length := by rw [HN.out.1]; exact hil
              have hx := List.getElem?_eq_getElem hil2
              have hq1 := List.getElem?_eq_getElem (show i < tq.length by rw [HC.out.1.lt]; exact hil2)
              generalize c.tasks[i] = x at hx
              generalize tq[i]'_ = q1 at hq1
              obtain ⟨ua, uc, hu1, hu2, hu3⟩ := HC.out.1.us i x q1 hx hq1
              obtain ⟨pa, pc, hp1, hp2, hp3⟩ := HC.out.1.pt i x q1 hx hq1
              obtain ⟨g, o, rfl, ka⟩ := (HC.out.2.1.below HW.out).at (tCells_at hx hq1 (by omega : 0 < 8))
              have p0 := ka _ _ (tCells_at hx hq1 (by omega : 0 < 8))
              have p1 := ka _ _ (tCells_at hx hq1 (by omega : 1 < 8))
              have p2 := ka _ _ (tCells_at hx hq1 (by omega : 2 < 8))
              have p3 := ka _ _ (tCells_at hx hq1 (by omega : 3 < 8))
              have p4 := ka _ _ (tCells_at hx hq1 (by omega : 4 < 8))
              have p5 := ka _ _ (tCells_at hx hq1 (by omega : 5 < 8))
              have p6 := ka _ _ (tCells_at hx hq1 (by omega : 6 < 8))
              have p7 := ka _ _ (tCells_at hx hq1 (by omega : 7 < 8))
              rw [← Nat.add_assoc] at p1 p2 p3 p4 p5 p6 p7
              rw [Nat.add_zero] at p0
              obtain ⟨nu, hnu⟩ : ∃ nu, x.uses.length = nu := ⟨_, rfl⟩
              obtain ⟨np, hnp⟩ : ∃ np, x.prog.length = np := ⟨_, rfl⟩
              rw [hu1, hnu] at p6
              rw [hp1, hnp] at p7
              have hpn := HN.out.2.2.2.2.2.2.2.u _ (List.mem_of_getElem? hx)
              rw [hnu, hnp] at hpn
              have hpn1 := hpn.1
              have hpn2 := hpn.2
              have hli := (HN.out.2.2.2.2.2.1.t _ (List.mem_of_getElem? hx)).2.2.2.2.2.1
              have hM := Lib.hid (And.intro hx (And.intro hu2 (And.intro hp2 (And.intro hnu (And.intro hnp hli)))))
              have d1 : decide ((i : Int) < (n0 : Int)) = true := by simp; omega
              have i1 : (i : Int) < (n0 : Int) := by omega
              have i2 : (0 : Int) ≤ i := by omega
              clear hx hq1 ka hp1 hp2 hp3 hu1 hu2 hu3 hil2 hnp hnu hpn hli
              go_upto_region 16 with (refine wpList_store_row rfl 89 (.tmp 10) (.tmp 73) rfl wr.heap.size #[.int .i64 x.cl, .int .i64 x.lv, .int .i64 x.pe, .int .i64 x.de, .int .i64 x.bu, .int .i64 x.li, .slice ua nu uc, .slice pa np pc] rfl rfl 89 #[Value.int .i64 0, .int .i64 0, .int .i64 0, .int .i64 0, .int .i64 0, .int .i64 0, .slice none 0 0, .slice none 0 0] (Blk.new wr _ _) info_sizes.2.1 rfl (by simp [Value.oneCell']) ?_)
              clear p0 p1 p2 p3 p4 p5 p6 p7 rb
              have hcb := copy_bel wr #[Value.int .i64 0, .int .i64 0, .int .i64 0, .int .i64 0, .int .i64 0, .int .i64 0, .slice none 0 0, .slice none 0 0] #[.int .i64 x.cl, .int .i64 x.lv, .int .i64 x.pe, .int .i64 x.de, .int .i64 x.bu, .int .i64 x.li, .slice ua nu uc, .slice pa np pc] 89
              have hcr := Blk.row (Blk.new wr #[Value.int .i64 0, .int .i64 0, .int .i64 0, .int .i64 0, .int .i64 0, .int .i64 0, .slice none 0 0, .slice none 0 0] 89) #[.int .i64 x.cl, .int .i64 x.lv, .int .i64 x.pe, .int .i64 x.de, .int .i64 x.bu, .int .i64 x.li, .slice ua nu uc, .slice pa np pc]
              obtain ⟨wW, hW⟩ : ∃ W', ((wr.alloc (.cells #[Value.int .i64 0, .int .i64 0, .int .i64 0, .int .i64 0, .int .i64 0, .int .i64 0, .slice none 0 0, .slice none 0 0] 89)).setRow wr.heap.size #[.int .i64 x.cl, .int .i64 x.lv, .int .i64 x.pe, .int .i64 x.de, .int .i64 x.bu, .int .i64 x.li, .slice ua nu uc, .slice pa np pc]) = W' := ⟨_, rfl⟩
              rw [hW] at hcb hcr ⊢
              clear hW
              have k := hcr.rd
              by_cases h9 : x.li > 999999
              · obtain ⟨e1, e2⟩ := bad_task (es := es) hM.out.1 h9
                have HR := Lib.hid (HW.out.trans (hcb.mono HW.out.size))
                clear hcb hcr
                go_wp2_with (fail)
                go_ret2
                exact ⟨by rw [e1, e2]; rfl, HR.out⟩
              · have d9 : decide (x.li > 999999) = false := by simp; omega
                have j1 : x.li ≤ 999999 := by omega
                have j2 : -9223372036854775808 ≤ x.li := hM.out.2.2.2.2.2.1
                clear h9
                have hP := H.out.1.below hcb
                have hbr := H.out.1.lt
                have hal := (Below.refl wW.heap.size wW).alloc (Nat.le_refl _) (.cells #[.int .i64 x.cl, .int .i64 x.lv, .int .i64 x.pe, .int .i64 x.de, .int .i64 x.bu, .int .i64 (x.li + 1)] 3)
                have hI : Rw (wW.alloc (.cells #[.int .i64 x.cl, .int .i64 x.lv, .int .i64 x.pe, .int .i64 x.de, .int .i64 x.bu, .int .i64 (x.li + 1)] 3)) 3 1 (.slice (some ⟨wW.heap.size, 0, none⟩) 6 6) 6 (icells [x.cl, x.lv, x.pe, x.de, x.bu, x.li + 1]) (some wW.heap.size) := ⟨rfl, .inr ⟨_, 6, [], rfl, rfl, Blk.new wW _ _, rfl, by omega, by decide⟩⟩
                have hbW := HW.out.trans (hcb.mono HW.out.size)
                obtain ⟨v', WC, hrun, hA⟩ := app_uses (uc := uc) hI rfl (hM.out.2.1.below (hbW.trans (hal.mono hbW.size))) nu hM.out.2.2.2.1 (by omega)
                obtain ⟨a3, c3, rfl⟩ := hA.slice
                rw [show icells [x.cl, x.lv, x.pe, x.de, x.bu, x.li + 1] ++ icells x.uses = icells (taskNs x) by unfold taskNs; simp [icells]] at hA
                have hbC : Below wW.heap.size wW WC := hal.trans (by
                  obtain ⟨_, _, hu, _⟩ := hA
                  exact hu.below (by simp) (fun k hk => by simp at hk; omega))
                have hnl : (taskNs x).length = 6 + nu := by unfold taskNs; rw [List.length_append, hM.out.2.2.2.1]; rfl
                have hfl := fm_take (f := taskD) (i := i) (fun x hx => taskD_len (HN.out.2.2.2.2.2.2.2.u x hx)) (Nat.le_of_eq HN.out.1)
                have hri : RdI WC a3 (taskNs x) := by
                  obtain ⟨_, hR, _, _⟩ := hA
                  obtain ⟨a', c', hv, hrd⟩ := hR.rdc
                  simp only [Value.slice.injEq, true_and] at hv
                  obtain ⟨rfl, rfl⟩ := hv
                  exact hrd.rdI
                have hl := rput_is (word := taskW) (6 + nu) c3 (hP.below hbC) hri hnl (by omega) (by decide) (by rw [List.length_append]; omega)
                rw [show B taskW = ⟨#[116, 97, 115, 107]⟩ from rfl] at hl
                have kA := (hcr.alloc (.cells #[.int .i64 x.cl, .int .i64 x.lv, .int .i64 x.pe, .int .i64 x.de, .int .i64 x.bu, .int .i64 (x.li + 1)] 3)).rd
                have hbX := hbW.trans (hbC.mono hbW.size)
                have HQ := Lib.hid (And.intro (PdR.bel (PdR.bel H.out hcb) hbC) (And.intro (Blk.below hbC hcr hcr.lt) (And.intro hbX (And.intro hbr (And.intro hfl hnl)))))
                clear hcb hcr hP hbr hal hI hbW hA hbC hnl hfl hri hbX
                go_upto_region 19 with (first
                  | (at_builtin; refine wp_appX rfl _ _ 39 rfl rfl rfl hrun ?_)
                  | (go_at_call 39; refine hl.mono ?_; rintro e w5 ⟨rfl, hr5⟩; have H5 := Lib.hid hr5; clear hr5 hl))
                clear k kA hrun
                have k := (Blk.upd H5.out.2 HQ.out.2.1 (by have := HQ.out.2.2.2.1; omega)).rd
                have hbY := HQ.out.2.2.1.trans (H5.out.2.below (B := w.heap.size) (HQ.out.2.2.1.size) (fun k hk => by omega))
                have hs := rsteps_is np pc H5.out.1 (hM.out.2.2.1.below hbY) hM.out.2.2.2.2.1 (by omega) (by
                  have h := rline_len (word := taskW) (ns := taskNs x)
                  rw [HQ.out.2.2.2.2.2] at h
                  have h2 := HQ.out.2.2.2.2.1
                  rw [List.length_append, List.length_append, List.length_append]
                  simp only [taskW, List.length_cons, List.length_nil] at h ⊢
                  omega)
                clear hbY
                go_wp2_with (go_at_call 40; refine hs.mono ?_; rintro e w6 ⟨rfl, hr6⟩; have H6 := Lib.hid (stR_ef (R := fun bd l => PdR (w.heap.size + 1) bd l W2 w6) (f := taskD) (g := taskBd) hM.out.1 rfl rfl ((HQ.out.1.trans H5.out).trans hr6)); clear hr6 hs)
                go_roundw
                case rel => exact ⟨i + 1, by omega, by go_num, H6⟩
                case measure => simp [intOf]; omega
            · have d1 : decide ((i : Int) < (n0 : Int)) = false := by simp; omega
              have d2 : decide (i < n0) = false := by simp; omega
              obtain rfl : n0 = i := by omega
              have HS := Lib.hid (show PdR (w.heap.size + 1) (((headB c || c.mtx.any mtxB) || c.gaps.any gapB) || c.tasks.any taskBd) (((headD c ++ c.mtx.flatMap mtxD) ++ c.gaps.flatMap gapD) ++ c.tasks.flatMap taskD) W2 wr by have h := H.out; rw [← any_all HN.out.1, ← fm_all HN.out.1] at h; exact h)
              clear hil hi H HW
              have hlh2 : (((headD c ++ c.mtx.flatMap mtxD) ++ c.gaps.flatMap gapD) ++ c.tasks.flatMap taskD).length ≤ 820010000000 := by
                have h := fm_len (f := taskD) (M := 41000000) c.tasks (fun x hx => taskD_len (HN.out.2.2.2.2.2.2.2.u x hx))
                rw [HN.out.1] at h
                rw [List.length_append]; omega
              replace hlh := hlh2
              clear hlh2
              go_wp2_with (fail)
              clear rb
              go_loopw [11] (fun ix wr => ∃ i : Nat, i ≤ n1 ∧ ix = .int .i64 i ∧ Hid (PdR (w.heap.size + 1) ((((headB c || c.mtx.any mtxB) || c.gaps.any gapB) || c.tasks.any taskBd) || (c.best.take i).any effB) ((((headD c ++ c.mtx.flatMap mtxD) ++ c.gaps.flatMap gapD) ++ c.tasks.flatMap taskD) ++ (c.best.take i).flatMap effD) W2 wr)) (fun ix _ => n1 - (intOf ix).toNat)
              case atStart => exact ⟨0, Nat.zero_le _, rfl, Lib.hid (by rw [List.take_zero, List.any_nil, List.flatMap_nil, Bool.or_false, List.append_nil]; exact HS.out)⟩
              case round =>
                obtain ⟨i, hi, rfl, H⟩ := hrel
                clear HS
                have HW := Lib.hid (HB.out.1.trans (H.out.2.below (B := w.heap.size) (by have := HB.out.2.2; omega) (fun k hk => by omega)))
                have rb := (Blk.upd H.out.2 HB.out.2.1 (by omega)).rd
                by_cases hil : i < n1
                · have hil2 : i < c.best.length := by rw [HN.out.2.1]; exact hil
                  have hx := List.getElem?_eq_getElem hil2
                  have hq1 := List.getElem?_eq_getElem (show i < eq.length by rw [HC.out.1.le]; exact hil2)
                  generalize c.best[i] = x at hx
                  generalize eq[i]'_ = q1 at hq1
                  obtain ⟨pa, pc, hp1, hp2, hp3⟩ := HC.out.1.pe i x q1 hx hq1
                  obtain ⟨g, o, rfl, hg, ka⟩ := (HC.out.2.2.1.rdb (Nat.le_refl _) HW.out).at (eCells_at hx hq1 (by omega : 0 < 2))
                  have k0 := ka _ _ (eCells_at hx hq1 (by omega : 0 < 2))
                  have k1 := ka _ _ (eCells_at hx hq1 (by omega : 1 < 2))
                  rw [← Nat.add_assoc] at k1
                  rw [Nat.add_zero] at k0
                  have hpn := HN.out.2.2.2.2.2.2.2.p _ (List.mem_of_getElem? hx)
                  obtain ⟨np, hnp⟩ : ∃ np, x.prog.length = np := ⟨_, rfl⟩
                  replace k1 : wr.cell? ⟨g, o + i * 2 + 1, none⟩ = some (.slice pa np pc) := by rw [k1, ← hnp, ← hp1]
                  obtain ⟨y0, hy0⟩ : ∃ y, x.lv = y := ⟨_, rfl⟩
                  replace k0 : wr.cell? ⟨g, o + i * 2, none⟩ = some (.int .i64 y0) := by rw [k0, ← hy0]
                  rw [hnp] at hpn
                  have hM := Lib.hid (And.intro hx (And.intro hp2 (And.intro hnp (And.intro hy0 (And.intro hg k1)))))
                  have d1 : decide ((i : Int) < (n1 : Int)) = true := by simp; omega
                  have i1 : (i : Int) < (n1 : Int) := by omega
                  have i2 : (0 : Int) ≤ i := by omega
                  have hfl := fm_take (f := effD) (i := i) (fun x hx => effD_len (HN.out.2.2.2.2.2.2.2.p x hx)) (Nat.le_of_eq HN.out.2.1)
                  have hl := rput_new (word := bestW) [y0] 1 1 #[.int .i64 y0] rfl H.out.1 rfl (by omega) (by decide) (by rw [List.length_append]; omega)
                  rw [show B bestW = ⟨#[98, 101, 115, 116]⟩ from rfl] at hl
                  have HF := Lib.hid hfl
                  clear hx hq1 ka hp1 hp2 hp3 hil2 hnp hy0 hg k1 hfl
                  go_upto_region 24 with (go_at_call 39; refine hl.mono ?_; rintro e w5 ⟨rfl, hr5⟩; have H5 := Lib.hid hr5; clear hr5 hl)
                  clear rb k0
                  have hu5 := H5.out.2.below (B := w.heap.size) HW.out.size (fun k hk => by omega)
                  have k1 := (hu5.cell (p := ⟨g, o + i * 2 + 1, none⟩) hM.out.2.2.2.2.1).trans hM.out.2.2.2.2.2
                  have rb := (Blk.upd (H.out.trans H5.out).2 HB.out.2.1 (by omega)).rd
                  have hs := rsteps_is np pc H5.out.1 (hM.out.2.1.below (HW.out.trans hu5)) hM.out.2.2.1 (by omega) (by
                    have h := rline_len (word := bestW) (ns := [y0])
                    have h2 := HF.out
                    rw [List.length_append, List.length_append, List.length_append]
                    simp only [bestW, List.length_cons, List.length_nil] at h ⊢
                    omega)
                  clear hu5
                  go_wp2_with (go_at_call 40; refine hs.mono ?_; rintro e w6 ⟨rfl, hr6⟩; have H6 := Lib.hid (stR_ef (R := fun bd l => PdR (w.heap.size + 1) bd l W2 w6) (f := effD) (g := effB) (g1 := badB [y0]) hM.out.1 (by unfold effD; rw [hM.out.2.2.2.1]) (by unfold effB; rw [hM.out.2.2.2.1]) ((H.out.trans H5.out).trans hr6)); clear hr6 hs)
                  go_roundw
                  case rel => exact ⟨i + 1, by omega, by go_num, H6⟩
                  case measure => simp [intOf]; omega
                · have d1 : decide ((i : Int) < (n1 : Int)) = false := by simp; omega
                  have d2 : decide (i < n1) = false := by simp; omega
                  obtain rfl : n1 = i := by omega
                  have HS := Lib.hid (show PdR (w.heap.size + 1) ((((headB c || c.mtx.any mtxB) || c.gaps.any gapB) || c.tasks.any taskBd) || c.best.any effB) ((((headD c ++ c.mtx.flatMap mtxD) ++ c.gaps.flatMap gapD) ++ c.tasks.flatMap taskD) ++ c.best.flatMap effD) W2 wr by have h := H.out; rw [← any_all HN.out.2.1, ← fm_all HN.out.2.1] at h; exact h)
                  clear hil hi H HW
                  have hlh2 : ((((headD c ++ c.mtx.flatMap mtxD) ++ c.gaps.flatMap gapD) ++ c.tasks.flatMap taskD) ++ c.best.flatMap effD).length ≤ 1640020000000 := by
                    have h := fm_len (f := effD) (M := 41000000) c.best (fun x hx => effD_len (HN.out.2.2.2.2.2.2.2.p x hx))
                    rw [HN.out.2.1] at h
                    rw [List.length_append]; omega
                  replace hlh := hlh2
                  clear hlh2
                  go_wp2_with (fail)
                  clear rb
                  go_loopw [12] (fun ix wr => ∃ i : Nat, i ≤ ne ∧ ix = .int .i64 i ∧ Hid (PdR (w.heap.size + 1) (((((headB c || c.mtx.any mtxB) || c.gaps.any gapB) || c.tasks.any taskBd) || c.best.any effB) || (es.take i).any evBd) (((((headD c ++ c.mtx.flatMap mtxD) ++ c.gaps.flatMap gapD) ++ c.tasks.flatMap taskD) ++ c.best.flatMap effD) ++ (es.take i).flatMap evD) W2 wr)) (fun ix _ => ne - (intOf ix).toNat)
                  case atStart => exact ⟨0, Nat.zero_le _, rfl, Lib.hid (by rw [List.take_zero, List.any_nil, List.flatMap_nil, Bool.or_false, List.append_nil]; exact HS.out)⟩
                  case round =>
                    obtain ⟨i, hi, rfl, H⟩ := hrel
                    clear HS
                    have HW := Lib.hid (HB.out.1.trans (H.out.2.below (B := w.heap.size) (by have := HB.out.2.2; omega) (fun k hk => by omega)))
                    have rb := (Blk.upd H.out.2 HB.out.2.1 (by omega)).rd
                    by_cases hil : i < ne
                    · obtain ⟨⟨y0, y1, y2⟩, hx⟩ : ∃ x, es[i]? = some x := ⟨es[i]'(by rw [HN.out.2.2.2.2.1]; exact hil), List.getElem?_eq_getElem _⟩
                      obtain ⟨g, o, rfl, ka⟩ := (HC.out.2.2.2.2.2.below HW.out).at (vCells_at hx (by omega : 0 < 3))
                      have k0 := ka _ _ (vCells_at hx (by omega : 0 < 3))
                      have k1 := ka _ _ (vCells_at hx (by omega : 1 < 3))
                      have k2 := ka _ _ (vCells_at hx (by omega : 2 < 3))
                      rw [← Nat.add_assoc] at k1 k2
                      rw [Nat.add_zero] at k0
                      dsimp only at k0 k1 k2
                      have d1 : decide ((i : Int) < (ne : Int)) = true := by simp; omega
                      have i1 : (i : Int) < (ne : Int) := by omega
                      have i2 : (0 : Int) ≤ i := by omega
                      have j2 : -9223372036854775808 ≤ y1 := (HN.out.2.2.2.2.2.2.1 _ (List.mem_of_getElem? hx)).2.1.1
                      clear rb
                      by_cases h9 : y1 > 999999
                      · obtain ⟨e1, e2⟩ := bad_ev (c := c) hx h9
                        clear hx ka k0 k2
                        go_wp2_with (fail)
                        go_ret2
                        exact ⟨by rw [e1, e2]; rfl, HW.out⟩
                      · have d9 : decide (y1 > 999999) = false := by simp; omega
                        have j1 : y1 ≤ 999999 := by omega
                        clear h9
                        have hfl := fm_take (f := evD) (i := i) (fun x hx => evD_len x) (Nat.le_of_eq HN.out.2.2.2.2.1)
                        have hP : PdV (w.heap.size + 1) (((((headB c || c.mtx.any mtxB) || c.gaps.any gapB) || c.tasks.any taskBd) || c.best.any effB) || (es.take i).any evBd) (((((headD c ++ c.mtx.flatMap mtxD) ++ c.gaps.flatMap gapD) ++ c.tasks.flatMap taskD) ++ c.best.flatMap effD) ++ (es.take i).flatMap evD) wr.drew := H.out.1
                        have hl := rput_new (word := atW) [y0, (y1 + 1), y2] 3 3 #[.int .i64 y0, .int .i64 (y1 + 1), .int .i64 y2] rfl hP rfl (by omega) (by decide) (by rw [List.length_append]; omega)
                        rw [show B atW = ⟨#[97, 116]⟩ from rfl] at hl
                        have hl2 := hl.mono (fun e w' h => And.intro h.1 (stR_ln (R := fun bd l => PdR (w.heap.size + 1) bd l W2 w') (f := evD) (g := evBd) hx rfl rfl (H.out.drew.trans h.2)))
                        have hFW : (fun u => u.cell? ⟨g, o + i * 3, none⟩ = some (.int .i64 y0) ∧ u.cell? ⟨g, o + i * 3 + 1, none⟩ = some (.int .i64 y1) ∧ u.cell? ⟨g, o + i * 3 + 2, none⟩ = some (.int .i64 y2)) wr.drew := ⟨k0, k1, k2⟩
                        have hFC : (fun u => u.cell? ⟨g, o + i * 3, none⟩ = some (.int .i64 y0) ∧ u.cell? ⟨g, o + i * 3 + 1, none⟩ = some (.int .i64 y1) ∧ u.cell? ⟨g, o + i * 3 + 2, none⟩ = some (.int .i64 y2)) (wr.drew.alloc (.cells #[.int .i64 y0, .int .i64 (y1 + 1), .int .i64 y2] 3)) := ⟨cell_alloc (w := wr.drew) k0 _, cell_alloc (w := wr.drew) k1 _, cell_alloc (w := wr.drew) k2 _⟩
                        have HQ := Lib.hid (And.intro hl2 (And.intro hFW hFC))
                        clear hl hl2 hFW hFC hP hfl hx ka k0 k2
                        go_upto_region 30 with (fail)
                        clear k1
                        refine region_Ch 15 16 17 18 wr.drew wr.drew wr.drew (wr.drew.alloc (.cells #[.int .i64 y0, .int .i64 (y1 + 1), .int .i64 y2] 3)) (fun w9 => PdR (w.heap.size + 1) (((((headB c || c.mtx.any mtxB) || c.gaps.any gapB) || c.tasks.any taskBd) || c.best.any effB) || (es.take (i + 1)).any evBd) (((((headD c ++ c.mtx.flatMap mtxD) ++ c.gaps.flatMap gapD) ++ c.tasks.flatMap taskD) ++ c.best.flatMap effD) ++ (es.take (i + 1)).flatMap evD) W2 w9) rfl (by kernel_rfl) (by kernel_rfl) ?_
                        apply wpJ_op rfl (by rfl)
                        · intro f w1 hf hJ Q1 hQ
                          simp only [Act.put, List.setIfInBounds_toArray, List.set_cons_zero, List.set_cons_succ] at hQ
                          go_wp2_with (fail)
                          exact hQ _ _ rfl (hJ.other rfl hf (by decide) (by decide) (by decide) (by decide))
                        simp only [Act.put, List.setIfInBounds_toArray, List.set_cons_zero, List.set_cons_succ]
                        apply wpJ_op rfl (by rfl)
                        · intro f w1 hf hJ Q1 hQ
                          simp only [Act.put, List.setIfInBounds_toArray, List.set_cons_zero, List.set_cons_succ] at hQ
                          go_wp2_with (fail)
                          exact hQ _ _ rfl (hJ.other rfl hf (by decide) (by decide) (by decide) (by decide))
                        simp only [Act.put, List.setIfInBounds_toArray, List.set_cons_zero, List.set_cons_succ]
                        apply wpJ_op rfl (by rfl)
                        · intro f w1 hf hJ Q1 hQ
                          simp only [Act.put, List.setIfInBounds_toArray, List.set_cons_zero, List.set_cons_succ] at hQ
                          go_wp2_with (fail)
                          exact hQ _ _ rfl (hJ.other rfl hf (by decide) (by decide) (by decide) (by decide))
                        simp only [Act.put, List.setIfInBounds_toArray, List.set_cons_zero, List.set_cons_succ]
                        apply wpJ_op rfl (by rfl)
                        · intro f w1 hf hJ Q1 hQ
                          simp only [Act.put, List.setIfInBounds_toArray, List.set_cons_zero, List.set_cons_succ] at hQ
                          go_wp2_with (fail)
                          exact hQ _ _ rfl (hJ.other rfl hf (by decide) (by decide) (by decide) (by decide))
                        simp only [Act.put, List.setIfInBounds_toArray, List.set_cons_zero, List.set_cons_succ]
                        apply wpJ_op rfl (by rfl)
                        · intro f w1 hf hJ Q1 hQ
                          simp only [Act.put, List.setIfInBounds_toArray, List.set_cons_zero, List.set_cons_succ] at hQ
                          go_wp2_with (fail)
                          exact hQ _ _ rfl (hJ.other rfl hf (by decide) (by decide) (by decide) (by decide))
                        simp only [Act.put, List.setIfInBounds_toArray, List.set_cons_zero, List.set_cons_succ]
                        apply wpJ_op rfl (by rfl)
                        · intro f w1 hf hJ Q1 hQ
                          have hL : f 18 = false := path_no hJ.1 [17, 5] (by kernel_rfl) (by decide) hf.1
                          have hF := hJ.pre (F := (fun u => u.cell? ⟨g, o + i * 3, none⟩ = some (.int .i64 y0) ∧ u.cell? ⟨g, o + i * 3 + 1, none⟩ = some (.int .i64 y1) ∧ u.cell? ⟨g, o + i * 3 + 2, none⟩ = some (.int .i64 y2))) hL HQ.out.2.1 HQ.out.2.1 HQ.out.2.1 HQ.out.2.2
                          have k0 := hF.1
                          simp only [Act.put, List.setIfInBounds_toArray, List.set_cons_zero, List.set_cons_succ] at hQ
                          go_wp2_with (fail)
                          exact hQ _ _ rfl (hJ.other rfl hf (by decide) (by decide) (by decide) (by decide))
                        simp only [Act.put, List.setIfInBounds_toArray, List.set_cons_zero, List.set_cons_succ]
                        apply wpJ_op rfl (by rfl)
                        · intro f w1 hf hJ Q1 hQ
                          simp only [Act.put, List.setIfInBounds_toArray, List.set_cons_zero, List.set_cons_succ] at hQ
                          go_wp2_with (fail)
                          exact hQ _ _ rfl (hJ.other rfl hf (by decide) (by decide) (by decide) (by decide))
                        simp only [Act.put, List.setIfInBounds_toArray, List.set_cons_zero, List.set_cons_succ]
                        apply wpJ_op rfl (by rfl)
                        · intro f w1 hf hJ Q1 hQ
                          simp only [Act.put, List.setIfInBounds_toArray, List.set_cons_zero, List.set_cons_succ] at hQ
                          go_wp2_with (fail)
                          exact hQ _ _ rfl (hJ.other rfl hf (by decide) (by decide) (by decide) (by decide))
                        simp only [Act.put, List.setIfInBounds_toArray, List.set_cons_zero, List.set_cons_succ]
                        apply wpJ_op rfl (by rfl)
                        · intro f w1 hf hJ Q1 hQ
                          simp only [Act.put, List.setIfInBounds_toArray, List.set_cons_zero, List.set_cons_succ] at hQ
                          go_wp2_with (fail)
                          exact hQ _ _ rfl (hJ.other rfl hf (by decide) (by decide) (by decide) (by decide))
                        simp only [Act.put, List.setIfInBounds_toArray, List.set_cons_zero, List.set_cons_succ]
                        apply wpJ_op rfl (by rfl)
                        · intro f w1 hf hJ Q1 hQ
                          simp only [Act.put, List.setIfInBounds_toArray, List.set_cons_zero, List.set_cons_succ] at hQ
                          go_wp2_with (fail)
                          exact hQ _ _ rfl (hJ.other rfl hf (by decide) (by decide) (by decide) (by decide))
                        simp only [Act.put, List.setIfInBounds_toArray, List.set_cons_zero, List.set_cons_succ]
                        apply wpJ_op rfl (by rfl)
                        · intro f w1 hf hJ Q1 hQ
                          have hL : f 18 = false := path_no hJ.1 [17, 11, 10] (by kernel_rfl) (by decide) hf.1
                          have hF := hJ.pre (F := (fun u => u.cell? ⟨g, o + i * 3, none⟩ = some (.int .i64 y0) ∧ u.cell? ⟨g, o + i * 3 + 1, none⟩ = some (.int .i64 y1) ∧ u.cell? ⟨g, o + i * 3 + 2, none⟩ = some (.int .i64 y2))) hL HQ.out.2.1 HQ.out.2.1 HQ.out.2.1 HQ.out.2.2
                          have k1 := hF.2.1
                          simp only [Act.put, List.setIfInBounds_toArray, List.set_cons_zero, List.set_cons_succ] at hQ
                          go_wp2_with (fail)
                          exact hQ _ _ rfl (hJ.other rfl hf (by decide) (by decide) (by decide) (by decide))
                        simp only [Act.put, List.setIfInBounds_toArray, List.set_cons_zero, List.set_cons_succ]
                        apply wpJ_op rfl (by rfl)
                        · intro f w1 hf hJ Q1 hQ
                          simp only [Act.put, List.setIfInBounds_toArray, List.set_cons_zero, List.set_cons_succ] at hQ
                          go_wp2_with (fail)
                          exact hQ _ _ rfl (hJ.other rfl hf (by decide) (by decide) (by decide) (by decide))
                        simp only [Act.put, List.setIfInBounds_toArray, List.set_cons_zero, List.set_cons_succ]
                        apply wpJ_op rfl (by rfl)
                        · intro f w1 hf hJ Q1 hQ
                          simp only [Act.put, List.setIfInBounds_toArray, List.set_cons_zero, List.set_cons_succ] at hQ
                          go_wp2_with (fail)
                          exact hQ _ _ rfl (hJ.other rfl hf (by decide) (by decide) (by decide) (by decide))
                        simp only [Act.put, List.setIfInBounds_toArray, List.set_cons_zero, List.set_cons_succ]
                        apply wpJ_op rfl (by rfl)
                        · intro f w1 hf hJ Q1 hQ
                          simp only [Act.put, List.setIfInBounds_toArray, List.set_cons_zero, List.set_cons_succ] at hQ
                          go_wp2_with (fail)
                          exact hQ _ _ rfl (hJ.other rfl hf (by decide) (by decide) (by decide) (by decide))
                        simp only [Act.put, List.setIfInBounds_toArray, List.set_cons_zero, List.set_cons_succ]
                        apply wpJ_op rfl (by rfl)
                        · intro f w1 hf hJ Q1 hQ
                          simp only [Act.put, List.setIfInBounds_toArray, List.set_cons_zero, List.set_cons_succ] at hQ
                          go_wp2_with (fail)
                          exact hQ _ _ rfl (hJ.other rfl hf (by decide) (by decide) (by decide) (by decide))
                        simp only [Act.put, List.setIfInBounds_toArray, List.set_cons_zero, List.set_cons_succ]
                        apply wpJ_op rfl (by rfl)
                        · intro f w1 hf hJ Q1 hQ
                          have hA : f 16 = false := path_no hJ.1 [15] (by kernel_rfl) (by decide) hf.1
                          have hC : f 17 = false := path_no hJ.1 [16] (by kernel_rfl) (by decide) hA
                          have hL : f 18 = false := path_no hJ.1 [17] (by kernel_rfl) (by decide) hC
                          rw [hJ.atN hf.1 hA hC hL]
                          simp only [Act.put, List.setIfInBounds_toArray, List.set_cons_zero, List.set_cons_succ] at hQ
                          go_wp2_with (fail)
                          exact hQ _ _ rfl (hJ.goN rfl hf hA hC hL (by decide) (by decide) (by decide))
                        simp only [Act.put, List.setIfInBounds_toArray, List.set_cons_zero, List.set_cons_succ]
                        apply wpJ_op rfl (by rfl)
                        · intro f w1 hf hJ Q1 hQ
                          have hC : f 17 = false := path_no hJ.1 [16] (by kernel_rfl) (by decide) hf.1
                          have hL : f 18 = false := path_no hJ.1 [17] (by kernel_rfl) (by decide) hC
                          have hN : f 15 = true := up_dep hf 15 (by kernel_rfl)
                          rw [hJ.atA hN hf.1 hC hL]
                          have k2 := HQ.out.2.1.2.2
                          simp only [Act.put, List.setIfInBounds_toArray, List.set_cons_zero, List.set_cons_succ] at hQ
                          go_wp2_with (fail)
                          exact hQ _ _ rfl (hJ.goA rfl hf hC hL (by decide) (by decide))
                        simp only [Act.put, List.setIfInBounds_toArray, List.set_cons_zero, List.set_cons_succ]
                        apply wpJ_op rfl (by rfl)
                        · intro f w1 hf hJ Q1 hQ
                          have hL : f 18 = false := path_no hJ.1 [17] (by kernel_rfl) (by decide) hf.1
                          have hA : f 16 = true := up_dep hf 16 (by kernel_rfl)
                          rw [hJ.atC hA hf.1 hL]
                          simp only [Act.put, List.setIfInBounds_toArray, List.set_cons_zero, List.set_cons_succ] at hQ
                          go_wp2_with (fail)
                          exact hQ _ _ rfl (hJ.goC rfl hf hL (by decide))
                        simp only [Act.put, List.setIfInBounds_toArray, List.set_cons_zero, List.set_cons_succ]
                        apply wpJ_op rfl (by rfl)
                        · intro f w1 hf hJ Q1 hQ
                          have hC : f 17 = true := up_dep hf 17 (by kernel_rfl)
                          rw [hJ.atL hC hf.1]
                          simp only [Act.put, List.setIfInBounds_toArray, List.set_cons_zero, List.set_cons_succ] at hQ
                          go_wp2_with (have hl := HQ.out.1; go_at_call 39; refine hl.mono ?_; rintro e w8 ⟨rfl, hq⟩)
                          exact hQ _ _ rfl (hJ.goL rfl hf hq)
                        simp only [Act.put, List.setIfInBounds_toArray, List.set_cons_zero, List.set_cons_succ]
                        refine wpJ_nil ?_
                        intro w9 hJ9
                        have hq9 := hJ9.fin rfl
                        clear hJ9
                        have H5 := Lib.hid hq9
                        clear hq9
                        go_wp2_with (fail)
                        go_roundw
                        case rel => exact ⟨i + 1, by omega, by go_num, H5⟩
                        case measure => simp [intOf]; omega
                    · have d1 : decide ((i : Int) < (ne : Int)) = false := by simp; omega
                      have d2 : decide (i < ne) = false := by simp; omega
                      obtain rfl : ne = i := by omega
                      have HS := Lib.hid (show PdR (w.heap.size + 1) (((((headB c || c.mtx.any mtxB) || c.gaps.any gapB) || c.tasks.any taskBd) || c.best.any effB) || es.any evBd) (((((headD c ++ c.mtx.flatMap mtxD) ++ c.gaps.flatMap gapD) ++ c.tasks.flatMap taskD) ++ c.best.flatMap effD) ++ es.flatMap evD) W2 wr by have h := H.out; rw [← any_all HN.out.2.2.2.2.1, ← fm_all HN.out.2.2.2.2.1] at h; exact h)
                      clear hil hi H HW
                      have hlh2 : (((((headD c ++ c.mtx.flatMap mtxD) ++ c.gaps.flatMap gapD) ++ c.tasks.flatMap taskD) ++ c.best.flatMap effD) ++ es.flatMap evD).length ≤ 1640030000000 := by
                        have h := fm_len (f := evD) (M := 100) es (fun x hx => evD_len x)
                        rw [HN.out.2.2.2.2.1] at h
                        rw [List.length_append]; omega
                      replace hlh := hlh2
                      clear hlh2
                      have HE := Lib.hid (show PdR (w.heap.size + 1) (cfgBd c es) (cfgD c es) W2 wr from HS.out)
                      clear HS hlh rb
                      have hbel := HB.out.1.trans (HE.out.2.below (B := w.heap.size) (by have := HB.out.2.2; omega) (fun k hk => by omega))
                      have hP := HE.out.1
                      cases hok : okCfg c es
                      · have cb : cfgBd c es = true := by rw [cfgBd_not, hok]; rfl
                        rw [cb] at hP
                        have c2 : wr.cell? ⟨w.heap.size + 1, 1, none⟩ = some (.bool false) := hP.rd 1
                        have e1 : printE c es = 19 := by unfold printE; rw [if_pos hok]
                        have e2 : printT c es = [] := by unfold printT; rw [e1]; rfl
                        clear cb hP
                        go_wp2_with (fail)
                        go_ret2
                        exact ⟨by rw [e1, e2]; rfl, hbel⟩
                      · have cb : cfgBd c es = false := by rw [cfgBd_not, hok]; rfl
                        have ct : cfgD c es = cfgT c es := cfgD_ok hok
                        rw [cb, ct] at hP
                        have c2 : wr.cell? ⟨w.heap.size + 1, 1, none⟩ = some (.bool true) := hP.rd 1
                        have c1 : wr.cell? ⟨w.heap.size + 1, 0, none⟩ = some (.string (B (cfgT c es))) := hP.rd 0
                        have hm := B_size (cfgT c es)
                        obtain ⟨q, hq⟩ : ∃ q, B (cfgT c es) = q := ⟨_, rfl⟩
                        rw [hq] at c1 hm
                        have HZ := Lib.hid (And.intro hok (And.intro hq hm))
                        clear cb hP hok ct hq hm
                        by_cases h3 : 65536 < q.size
                        · have e1 : printE c es = 3 := by unfold printE; rw [if_neg (by rw [HZ.out.1]; decide), if_pos (by rw [← HZ.out.2.2]; exact h3)]
                          have e2 : printT c es = [] := by unfold printT; rw [e1]; rfl
                          have d1 : decide ((q.size : Int) > 65536) = true := by simp; omega
                          have d3 : (q.size : Int) > 65536 := by omega
                          go_wp2_with (fail)
                          go_ret2
                          exact ⟨by rw [e1, e2]; rfl, hbel⟩
                        · have e1 : printE c es = 0 := by unfold printE; rw [if_neg (by rw [HZ.out.1]; decide), if_neg (by rw [← HZ.out.2.2]; exact h3)]
                          have e2 : printT c es = cfgT c es := by unfold printT; rw [if_pos e1]
                          have d1 : decide ((q.size : Int) > 65536) = false := by simp; omega
                          have d3 : decide (65536 < q.size) = false := by simp; omega
                          go_wp2_with (fail)
                          go_ret2
                          exact ⟨by rw [e1, e2, HZ.out.2.1]; rfl, hbel⟩
end Go.Proofs.YtefaaginedideaaGreatDoor
