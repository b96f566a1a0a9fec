/-
  Script: a text read, by the document.
-/
import Derived.Test.YtefaaginedideaaGreatDoorSRead
import Derived.Test.YtefaaginedideaaGreatDoorSBk
namespace Go.Proofs.YtefaaginedideaaGreatDoor
set_option linter.unusedSimpArgs false
set_option linter.unusedVariables false
open Go.RowKit Own RegJ
open Go.Lib hiding intOf

set_option maxRecDepth 100000 in
theorem rpar_long (l : Txt) (w : World) (hl : 65536 < l.length) : Calls Tryz.prog 15 #[.string (B l)] w (ParV l w) := by
  have hP := Lib.hid (fun w' (hb : Below w.heap.size w w') => ParV.err (at' := 0) (e := 3) (show parseF l = (cfg0, [], 0, 3) by unfold parseF; rw [if_pos hl]) hb)
  have hsz := B_size l
  have d1 : ((B l).size : Int) > 65536 := by omega
  clear hsz hl
  generalize B l = s at *
  go_enter Tryz.func15, Tryz.ntmps15
  go_wp2_with (fail)
  refine bodyPost_ret (results_cell4 rfl _ _ w.heap.size _ zCfg _ rfl (Blk.new w _ _) Tryz.underlying41 rfl infoCfg) rfl ?_
  exact hP.out _ ((Below.refl _ _).alloc (Nat.le_refl _) _)
theorem lines_len (l : Txt) (hl : l.length ≤ 65536) : (linesF l).length ≤ 90000 ∧ ∀ y ∈ linesF l, y.length ≤ 90000 := by
  have h1 := spc_len 10 l
  have h2 := spc_mem 10 l
  unfold linesF
  split
  · exact ⟨by simp, fun y hy => by cases hy⟩
  · split
    · refine ⟨by rw [List.length_dropLast]; omega, fun y hy => ?_⟩
      have := (h2 y ((List.dropLast_sublist _).subset hy)).2
      omega
    · exact ⟨by omega, fun y hy => by have := (h2 y hy).2; omega⟩
/-- three blocks: the result's, the read one's -/
theorem rp_bel {w w1 w2 : World} {zs cs : Array Value} {T : TypeId} (h1 : Below (w.heap.size + 1) (w.alloc (.cells zs T)) w1) (h2 : Below w1.heap.size w1 w2) : Below (w.heap.size + 1) (w.alloc (.cells zs T)) (((w2.alloc (.cells zs T)).setRow w2.heap.size cs)) := by
  have hs := h1.size
  simp at hs
  have hA : Below w2.heap.size w2 ((w2.alloc (.cells zs T)).setRow w2.heap.size cs) := ((Below.refl _ _).alloc (Nat.le_refl _) _).trans ((Upd.row _ _ _).below (by simp) (fun k hk => by omega))
  have h12 := h1.trans (h2.mono hs)
  exact h12.trans (hA.mono (Nat.le_trans hs h2.size))
theorem ParV.ok {l : Txt} {w W : World} {st : PSt} {tv bv mv gv ev : Value} {tq : List TQ} {eq : List EQ} {tb bb mb gb eb : Option Nat} (hp : parseF l = (st.c, st.es, 0, 0)) (hC : Core W w.heap.size st.c tv bv mv gv tq eq tb bb mb gb) (hE : Rw W 58 3 ev st.es.length (vCells st.es) eb) (hlo : ∀ g, eb = some g → w.heap.size ≤ g) (hb : Below w.heap.size w W) :
    ParV l w (.returned (.tuple #[.agg #[tv, bv, mv, gv, .int .i64 st.c.frames, .int .i64 st.c.dog], ev, .int .i64 0, .int .i64 0])) W :=
  ⟨tv, bv, mv, gv, ev, tq, eq, tb, bb, mb, gb, eb, by rw [hp], by rw [hp]; exact hC, by rw [hp]; exact hE, hlo, hb⟩
theorem rp_fin {w w1 w2 : World} {zs cs zc : Array Value} {T : TypeId} (h1 : Below (w.heap.size + 1) (w.alloc (.cells zs T)) w1) (h2 : Below w1.heap.size w1 w2) : Below w.heap.size w ((((w2.alloc (.cells zs T)).setRow w2.heap.size cs)).setRow w.heap.size zc) := by
  have hb := (((Below.refl w.heap.size w).alloc (Nat.le_refl _) (.cells zs T))).trans ((rp_bel (cs := cs) h1 h2).mono (Nat.le_succ _))
  exact hb.trans ((Upd.row _ _ _).below hb.size (fun k hk => by omega))
set_option maxRecDepth 100000 in
set_option maxHeartbeats 2000000 in
theorem rpar_bad (l : Txt) (w : World) (hl : l.length ≤ 65536) {k : Nat} (hk : readF pst0 1 (linesF l) = .error k) : Calls Tryz.prog 15 #[.string (B l)] w (ParV l w) := by
  have hP := Lib.hid (fun w' (hb : Below w.heap.size w w') => ParV.err (at' := k) (e := 19) (show parseF l = (cfg0, [], (k : Int), 19) by unfold parseF; rw [if_neg (by omega), hk]) hb)
  have hrr : readR (linesF l) = (cfg0, [], (k : Int)) := by unfold readR; rw [hk]
  have hk1 := read_at _ _ _ _ hk
  have hsz := B_size l
  have d1 : decide (((B l).size : Int) > 65536) = false := by simp; omega
  have d2 : ((k : Nat) : Int) > 0 := by omega
  have hln := fun w0 => lines_is l w0 (by omega)
  obtain ⟨hn1, hn2⟩ := lines_len l hl
  have HR := Lib.hid (And.intro hn1 (And.intro hn2 hrr))
  clear hn1 hn2 hrr hk hsz hl hk1
  generalize B l = s at *
  go_enter Tryz.func15, Tryz.ntmps15
  go_wp2_with (first
    | (go_at_call 33; refine (hln _).mono ?_; rintro e w1 ⟨a1, c1, rfl, hT, hb1⟩; have H1 := Lib.hid (And.intro hT hb1); clear hT hb1 hln)
    | (go_at_call 32; refine (read_is _ _ H1.out.1 rfl HR.out.1 HR.out.2.1).mono ?_; rintro e w2 ⟨tv, bv, mv, gv, ev, tq, eq, tb, bb, mb, gb, eb, rfl, hC, hR, hlo, hb2⟩; rw [HR.out.2.2] at hC hR; rw [HR.out.2.2]; obtain ⟨a4, c4, rfl⟩ := hC.rt.slice; obtain ⟨a5, c5, rfl⟩ := hC.re.slice; obtain ⟨a6, c6, rfl⟩ := hC.rm.slice; obtain ⟨a7, c7, rfl⟩ := hC.rg.slice; have H2 := Lib.hid (And.intro H1.out.2 hb2); clear hC hR hlo hb2)
    | (refine wpList_store_row rfl 41 (.tmp 6) (.tmp 17) rfl w2.heap.size _ rfl rfl 41 zCfg (Blk.new w2 _ _) infoCfg rfl (by simp [Value.oneCell']) ?_)
    | (refine wpList_store_row rfl 41 (.tmp 2) (.tmp 22) rfl w.heap.size zCfg rfl rfl 41 zCfg (Blk.below (rp_bel (by simpa using H2.out.1) H2.out.2) (Blk.new w _ _) (Nat.lt_succ_self _)) infoCfg rfl (by simp [Value.oneCell']) ?_))
  refine bodyPost_ret (results_cell4 rfl _ _ w.heap.size _ zCfg _ rfl (Blk.row (Blk.below (rp_bel (by simpa using H2.out.1) H2.out.2) (Blk.new w _ _) (Nat.lt_succ_self _)) _) Tryz.underlying41 rfl infoCfg) rfl ?_
  exact hP.out _ (rp_fin (by simpa using H2.out.1) H2.out.2)
set_option maxRecDepth 100000 in
set_option maxHeartbeats 2000000 in
theorem rpar_ok (l : Txt) (w : World) (hl : l.length ≤ 65536) {st : PSt} (hk : readF pst0 1 (linesF l) = .ok st) : Calls Tryz.prog 15 #[.string (B l)] w (ParV l w) := by
  have hpf : parseF l = (st.c, st.es, 0, 0) := by unfold parseF; rw [if_neg (by omega), hk]
  have hrr : readR (linesF l) = (st.c, st.es, 0) := by unfold readR; rw [hk]
  have hsz := B_size l
  have d1 : decide (((B l).size : Int) > 65536) = false := by simp; omega
  have hln := fun w0 => lines_is l w0 (by omega)
  obtain ⟨hn1, hn2⟩ := lines_len l hl
  have HR := Lib.hid (And.intro hn1 (And.intro hn2 (And.intro hrr hpf)))
  clear hn1 hn2 hrr hk hsz hl hpf
  generalize hgs : B l = s at *
  clear hgs
  go_enter Tryz.func15, Tryz.ntmps15
  go_wp2_with (first
    | (go_at_call 33; refine (hln _).mono ?_; rintro e w1 ⟨a1, c1, rfl, hT, hb1⟩; have H1 := Lib.hid (And.intro hT hb1); clear hT hb1 hln)
    | (go_at_call 32; refine (read_is _ _ H1.out.1 rfl HR.out.1 HR.out.2.1).mono ?_; rintro e w2 ⟨tv, bv, mv, gv, ev, tq, eq, tb, bb, mb, gb, eb, rfl, hC, hR, hlo, hb2⟩; rw [HR.out.2.2.1] at hC hR; rw [HR.out.2.2.1]; obtain ⟨a4, c4, rfl⟩ := hC.rt.slice; obtain ⟨a5, c5, rfl⟩ := hC.re.slice; obtain ⟨a6, c6, rfl⟩ := hC.rm.slice; obtain ⟨a7, c7, rfl⟩ := hC.rg.slice; obtain ⟨a8, c8, rfl⟩ := hR.slice; have H2 := Lib.hid (And.intro H1.out.2 hb2); have HC := Lib.hid (And.intro hC (And.intro hR hlo)); have hrd := (Blk.row (Blk.new w2 zCfg 41) #[.slice a4 st.c.tasks.length c4, .slice a5 st.c.best.length c5, .slice a6 st.c.mtx.length c6, .slice a7 st.c.gaps.length c7, .int .i64 st.c.frames, .int .i64 st.c.dog]).rd; clear hC hR hlo hb2)
    | (refine wpList_store_row rfl 41 (.tmp 6) (.tmp 17) rfl w2.heap.size #[.slice a4 st.c.tasks.length c4, .slice a5 st.c.best.length c5, .slice a6 st.c.mtx.length c6, .slice a7 st.c.gaps.length c7, .int .i64 st.c.frames, .int .i64 st.c.dog] rfl rfl 41 zCfg (Blk.new w2 _ _) infoCfg rfl (by simp [Value.oneCell']) ?_)
    | (refine wpList_store_row rfl 41 (.tmp 2) (.tmp 24) rfl w.heap.size #[.slice a4 st.c.tasks.length c4, .slice a5 st.c.best.length c5, .slice a6 st.c.mtx.length c6, .slice a7 st.c.gaps.length c7, .int .i64 st.c.frames, .int .i64 st.c.dog] rfl rfl 41 zCfg (Blk.below (rp_bel (by simpa using H2.out.1) H2.out.2) (Blk.new w _ _) (Nat.lt_succ_self _)) infoCfg rfl (by simp [Value.oneCell']) ?_))
  refine bodyPost_ret (results_cell4 rfl _ _ w.heap.size _ #[.slice a4 st.c.tasks.length c4, .slice a5 st.c.best.length c5, .slice a6 st.c.mtx.length c6, .slice a7 st.c.gaps.length c7, .int .i64 st.c.frames, .int .i64 st.c.dog] _ rfl (Blk.row (Blk.below (rp_bel (by simpa using H2.out.1) H2.out.2) (Blk.new w _ _) (Nat.lt_succ_self _)) _) Tryz.underlying41 rfl infoCfg) rfl ?_
  have hb0 := (rp_bel (cs := #[.slice a4 st.c.tasks.length c4, .slice a5 st.c.best.length c5, .slice a6 st.c.mtx.length c6, .slice a7 st.c.gaps.length c7, .int .i64 st.c.frames, .int .i64 st.c.dog]) (zs := zCfg) (T := 41) (by simpa using H2.out.1) H2.out.2)
  have hb := (((Below.refl w.heap.size w).alloc (Nat.le_refl _) (.cells zCfg 41))).trans (hb0.mono (Nat.le_succ _))
  have hs1 := H2.out.1.size
  simp at hs1
  have hs2 := H2.out.2.size
  have hu1 := ((Below.refl w2.heap.size w2).alloc (Nat.le_refl _) (.cells zCfg 41))
  have hB0 := Blk.below hb0 (Blk.new w zCfg 41) (Nat.lt_succ_self _)
  have hBn := Blk.new w2 zCfg 41
  have hu2 := Upd.row (w2.alloc (.cells zCfg 41)) w2.heap.size #[.slice a4 st.c.tasks.length c4, .slice a5 st.c.best.length c5, .slice a6 st.c.mtx.length c6, .slice a7 st.c.gaps.length c7, .int .i64 st.c.frames, .int .i64 st.c.dog]
  have hu3 := Upd.row ((w2.alloc (.cells zCfg 41)).setRow w2.heap.size #[.slice a4 st.c.tasks.length c4, .slice a5 st.c.best.length c5, .slice a6 st.c.mtx.length c6, .slice a7 st.c.gaps.length c7, .int .i64 st.c.frames, .int .i64 st.c.dog]) w.heap.size #[.slice a4 st.c.tasks.length c4, .slice a5 st.c.best.length c5, .slice a6 st.c.mtx.length c6, .slice a7 st.c.gaps.length c7, .int .i64 st.c.frames, .int .i64 st.c.dog]
  have hT : ∀ {W : World} {b : Nat} {cs : Array Value}, Blk W b cs 41 → ∀ g cs T, Blk W g cs T → g = b → T = 41 := fun h1 g cs T hB e => by
    subst e
    unfold Blk at hB h1
    rw [hB] at h1
    cases h1
    rfl
  have hE1 := HC.out.2.1.below hu1
  have hE2 := hE1.upd hu2 (fun g hg e => by
    obtain ⟨_, _, _, hB, _⟩ := hE1.blk g hg
    exact absurd (hT hBn _ _ _ hB e) (by decide))
  have hE3 := hE2.upd hu3 (fun g hg e => by
    obtain ⟨_, _, _, hB, _⟩ := hE2.blk g hg
    exact absurd (hT hB0 _ _ _ hB e) (by decide))
  have hC1 := HC.out.1.below hu1
  have hC2 := hC1.keep hu2 (fun g cs T hB hf => by rw [hT hBn g cs T hB hf]; exact cT)
  have hC3 := hC2.keep hu3 (fun g cs T hB hf => by rw [hT hB0 g cs T hB hf]; exact cT)
  exact ParV.ok HR.out.2.2.2 (hC3.weak (by omega)) hE3 (fun g hg => by have := HC.out.2.2 g hg; omega) (hb.trans (hu3.below hb.size (fun k hk => by omega)))
theorem rparse_is (l : Txt) (w : World) : Calls Tryz.prog 15 #[.string (B l)] w (ParV l w) := by
  by_cases h : 65536 < l.length
  · exact rpar_long l w h
  · cases hk : readF pst0 1 (linesF l) with
    | ok st => exact rpar_ok l w (by omega) hk
    | error k => exact rpar_bad l w (by omega) hk
end Go.Proofs.YtefaaginedideaaGreatDoor
