/-
  Script: Parse, by the program.
-/
import Derived.Test.YtefaaginedideaaGreatDoorSRl
namespace Go.Proofs.YtefaaginedideaaGreatDoor
set_option linter.unusedSimpArgs false
set_option linter.unusedVariables false
open Go.RowKit Own RegJ
open Go.Lib hiding intOf

theorem results_cell4 {P : Program} {fn : Func} {p s u v : Tmp} {ty : TypeId} (h : fn.results = #[.cell p ty, .tmp s, .tmp u, .tmp v]) (tmps : Array Value) (w : World) (g : Nat) (t : TypeId) (cs : Array Value) (d : TypeDesc)
    (hp : tmps.getD p undef = .pointer (some ⟨g, 0, none⟩)) (hg : Blk w g cs t)
    (hu : P.underlying ty = some d) (hd : (match d with | .struct _ | .array _ _ => true | _ => false) = true) (hi : (P.info? ty).map (·.size) = some cs.size) :
    (results fn tmps).run P w = .ok (.tuple #[.agg cs, tmps.getD s undef, tmps.getD u undef, tmps.getD v undef]) w := by
  have hp' : tmps[p]?.getD undef = .pointer (some ⟨g, 0, none⟩) := by simpa using hp
  simp [results, h, hp', asAddr, run_loadVar_row w g t ty cs _ d hg hu hd hi]
theorem mem_first {c : UInt8} : ∀ {s : Txt}, c ∈ s → ∃ a b, s = a ++ c :: b ∧ c ∉ a
  | x :: r, h => by
    by_cases e : x = c
    · subst e; exact ⟨[], r, rfl, by simp⟩
    · have hr : c ∈ r := by
        rcases List.mem_cons.1 h with h | h
        · exact absurd h.symm e
        · exact h
      obtain ⟨a, b, rfl, hn⟩ := mem_first hr
      exact ⟨x :: a, b, rfl, by simp; exact ⟨fun h => e h.symm, hn⟩⟩
/-- the lines, one after the other -/
theorem lines_cut (s : Txt) (h : s ≠ []) : linesF s = (cut s [10]).1 :: linesF (cut s [10]).2.1 ∧ (cut s [10]).2.1.length < s.length ∧ (cut s [10]).1.length ≤ s.length := by
  by_cases h10 : (10 : UInt8) ∈ s
  · obtain ⟨a, b, rfl, hna⟩ := mem_first h10
    rw [cut_app _ _ _ hna]
    refine ⟨?_, by simp; omega, by simp⟩
    unfold linesF
    rw [if_neg h, spc_app _ _ _ hna]
    by_cases hb : b = []
    · subst hb
      have e : spc 10 ([] : Txt) = [[]] := rfl
      rw [e]; rfl
    · rw [if_neg hb]
      have hne := spc_ne 10 b
      obtain ⟨y, ys, hy⟩ : ∃ y ys, spc 10 b = y :: ys := by cases hs : spc 10 b with | nil => exact absurd hs hne | cons y ys => exact ⟨y, ys, rfl⟩
      rw [hy, List.getLast?_cons_cons]
      split
      · rw [List.dropLast_cons_cons]
      · rfl
  · rw [cut_no _ _ h10]
    refine ⟨?_, by cases s with | nil => exact absurd rfl h | cons _ _ => simp, Nat.le_refl _⟩
    unfold linesF
    rw [if_neg h, spc_no _ _ h10, if_pos rfl, if_neg (by simpa using h)]
theorem scut_is (l : Txt) (w : World) (hE : Env w) (hl : l.length ≤ 1000000) : Calls Tryz.prog 30 #[.string (B l), .string ⟨#[10]⟩] w fun e w' => e = .returned (.tuple #[.string (B (cut l [10]).1), .string (B (cut l [10]).2.1), .bool (cut l [10]).2.2]) ∧ ∃ n, w' = w.drewN n := by
  obtain ⟨m, hm⟩ := hE.mx
  have := Tryz.strings_Cut (B l) (B [10]) m w (by rw [B_size]; omega) hm
  rw [data_B, data_B] at this
  exact this
theorem Sz.mono {st : PSt} {N M : Nat} (h : Sz st N) (hm : N ≤ M) : Sz st M := ⟨Nat.le_trans h.1 hm, Nat.le_trans h.2.1 hm, Nat.le_trans h.2.2.1 hm, Nat.le_trans h.2.2.2.1 hm, Nat.le_trans h.2.2.2.2.1 hm, fun t ht => Nat.le_trans (h.2.2.2.2.2.1 t ht) hm, fun t ht => Nat.le_trans (h.2.2.2.2.2.2 t ht) hm⟩
theorem modLast_len {α : Type} (f : α → α) (l : List α) : (modLast f l).length ≤ l.length := by
  unfold modLast
  cases h : l.getLast? with
  | none => simp
  | some x =>
    have : l ≠ [] := fun e => by subst e; cases h
    have := List.length_pos_iff.2 this
    simp; omega
theorem modLast_mem {α : Type} {f : α → α} {l : List α} {y : α} (h : y ∈ modLast f l) : y ∈ l ∨ ∃ x ∈ l, y = f x := by
  unfold modLast at h
  cases hl : l.getLast? with
  | none => rw [hl] at h; cases h
  | some x =>
    rw [hl] at h
    simp only [List.mem_append, List.mem_singleton] at h
    rcases h with h | h
    · exact .inl ((List.dropLast_sublist l).subset h)
    · exact .inr ⟨x, List.mem_of_getLast? hl, h⟩
theorem Sz.op {st : PSt} {N : Nat} (h : Sz st N) (o : OpV) : Sz (addOp st o) (N + 1) := by
  obtain ⟨h1, h2, h3, h4, h5, h6, h7⟩ := h
  unfold addOp
  split
  · refine ⟨Nat.le_trans (modLast_len _ _) (by omega), by simp only; omega, by simp only; omega, by simp only; omega, by simp only; omega, fun t ht => ?_, fun t ht => Nat.le_trans (h7 t ht) (by omega)⟩
    rcases modLast_mem ht with hm | ⟨x, hm, rfl⟩
    · have := h6 t hm; omega
    · have := h6 x hm; simp; omega
  · refine ⟨by simp only; omega, Nat.le_trans (modLast_len _ _) (by omega), by simp only; omega, by simp only; omega, by simp only; omega, fun t ht => Nat.le_trans (h6 t ht) (by omega), fun t ht => ?_⟩
    rcases modLast_mem ht with hm | ⟨x, hm, rfl⟩
    · have := h7 t hm; omega
    · have := h7 x hm; simp; omega
theorem Sz.num {st st' : PSt} {N : Nat} (h : Sz st N) {w : Txt} {n : List Int} (hd : doF st w n = some st') : Sz st' (N + 1) := by
  obtain ⟨h1, h2, h3, h4, h5, h6, h7⟩ := h
  have k6 : ∀ t ∈ st.c.tasks, t.prog.length ≤ N + 1 := fun t ht => Nat.le_trans (h6 t ht) (by omega)
  have k7 : ∀ t ∈ st.c.best, t.prog.length ≤ N + 1 := fun t ht => Nat.le_trans (h7 t ht) (by omega)
  unfold doF at hd
  repeat' split at hd
  all_goals first
    | cases hd; exact ⟨by simp only; omega, by simp only; omega, by simp only; omega, by simp only; omega, by simp only; omega, k6, k7⟩
    | cases hd; exact ⟨by simp only; omega, by simp only; omega, by simp; omega, by simp only; omega, by simp only; omega, k6, k7⟩
    | cases hd; exact ⟨by simp only; omega, by simp only; omega, by simp only; omega, by simp; omega, by simp only; omega, k6, k7⟩
    | cases hd; exact ⟨by simp only; omega, by simp only; omega, by simp only; omega, by simp only; omega, by simp; omega, k6, k7⟩
    | cases hd; exact ⟨by simp; omega, by simp only; omega, by simp only; omega, by simp only; omega, by simp only; omega, fun t ht => (by rw [List.mem_append, List.mem_singleton] at ht; rcases ht with ht | rfl; exact k6 t ht; simp), k7⟩
    | cases hd; exact ⟨by simp only; omega, by simp; omega, by simp only; omega, by simp only; omega, by simp only; omega, k6, fun t ht => (by rw [List.mem_append, List.mem_singleton] at ht; rcases ht with ht | rfl; exact k7 t ht; simp)⟩
    | cases hd
theorem Sz.line {st st' : PSt} {N : Nat} (h : Sz st N) {l : Txt} (hd : lineF st l = some st') : Sz st' (N + 1) := by
  unfold lineF at hd
  split at hd
  · cases hd
  · split at hd
    · split at hd
      · cases hd
      · rw [Option.map_eq_some_iff] at hd
        obtain ⟨o, _, rfl⟩ := hd
        exact h.op o
    · split at hd
      · exact h.num hd
      · cases hd
theorem Core.nil (w : World) (B : Nat) : Core w B cfg0 (.slice none 0 0) (.slice none 0 0) (.slice none 0 0) (.slice none 0 0) [] [] none none none none :=
  ⟨rfl, rfl, Rw.nil _ _ _, Rw.nil _ _ _, Rw.nil _ _ _, Rw.nil _ _ _, fun i t q h => (by cases i <;> cases h), fun i t q h => (by cases i <;> cases h), fun i t q h => (by cases i <;> cases h), fun i j g h => (by cases i <;> cases h), fun g h => (by rcases h with h | h | h | h | ⟨q, h, _⟩ | ⟨q, h, _⟩ <;> cases h)⟩
theorem Core.weak {w : World} {B B' : Nat} {c : CfgV} {tv bv mv gv : Value} {tq : List TQ} {eq : List EQ} {tb bb mb gb : Option Nat} (h : Core w B c tv bv mv gv tq eq tb bb mb gb) (hB : B' ≤ B) : Core w B' c tv bv mv gv tq eq tb bb mb gb :=
  ⟨h.lt, h.le, h.rt, h.re, h.rm, h.rg, h.us, h.pt, h.pe, h.pd, fun g hg => Nat.le_trans hB (h.lo g hg)⟩
theorem SJ.any {S : Nat} {md : Region.Mode} {ops : Array Oper} {W WS w : World} {f : Nat → Bool} {F : World → Prop} (h : SJ S md ops W WS f w) (h1 : F W) (h2 : F WS) : F w := by
  have := h.2
  rw [this]
  cases f S <;> assumption
theorem Upd.row (W : World) (b : Nat) (cs : Array Value) : Upd (fun k => k = b) W (W.setRow b cs) := ⟨rfl, rfl, rfl, by simp, fun k _ hk => setRow_other W b k cs hk⟩
theorem Blk.row {W : World} {b : Nat} {T : TypeId} {old : Array Value} (h : Blk W b old T) (cs : Array Value) : Blk (W.setRow b cs) b cs T := setRow_heap W b old cs T _ h
/-- what Parse hands back -/
def ParV (s : Txt) (w : World) (e : Ending) (w' : World) : Prop := ∃ tv bv mv gv ev tq eq tb bb mb gb eb, e = .returned (.tuple #[.agg #[tv, bv, mv, gv, .int .i64 (parseF s).1.frames, .int .i64 (parseF s).1.dog], ev, .int .i64 (parseF s).2.2.1, .int .i64 (parseF s).2.2.2]) ∧
  Core w' w.heap.size (parseF s).1 tv bv mv gv tq eq tb bb mb gb ∧ Rw w' 58 3 ev (parseF s).2.1.length (vCells (parseF s).2.1) eb ∧ (∀ g, eb = some g → w.heap.size ≤ g) ∧ Below w.heap.size w w'
abbrev zCfg : Array Value := #[.slice none 0 0, .slice none 0 0, .slice none 0 0, .slice none 0 0, .int .i64 0, .int .i64 0]
theorem ParV.err {s : Txt} {w w' : World} {at' e : Int} (h : parseF s = (cfg0, [], at', e)) (hb : Below w.heap.size w w') : ParV s w (.returned (.tuple #[.agg zCfg, .slice none 0 0, .int .i64 at', .int .i64 e])) w' :=
  ⟨_, _, _, _, _, _, _, _, _, _, _, none, by rw [h]; rfl, by rw [h]; exact Core.nil _ _, by rw [h]; exact Rw.nil _ _ _, fun g hg => (by cases hg), hb⟩
theorem infoCfg : (Tryz.prog.info? 41).map (·.size) = some 6 := by kernel_rfl
set_option maxRecDepth 100000 in
theorem par_long (l : Txt) (w : World) (hl : 65536 < l.length) : Calls Tryz.prog 14 #[.string (B l)] w (ParV l w) := by
  have hP := Lib.hid (fun w' (hb : Below w.heap.size w w') => ParV.err (at' := 0) (e := 3) (show parseF l = (cfg0, [], 0, 3) by unfold parseF; rw [if_pos hl]) hb)
  have hsz := B_size l
  have d1 : ((B l).size : Int) > 65536 := by omega
  clear hsz hl
  generalize B l = s at *
  go_enter Tryz.func14, Tryz.ntmps14
  go_wp2_with (fail)
  refine bodyPost_ret (results_cell4 rfl _ _ w.heap.size _ zCfg _ rfl (Blk.new w _ _) Tryz.underlying41 rfl infoCfg) rfl ?_
  exact hP.out _ ((Below.refl _ _).alloc (Nat.le_refl _) _)
/-- how far the reading is -/
def PLS (s : Txt) (w : World) (l : Txt) (i : Nat) (wr : World) : Prop := ∃ st, readF pst0 1 (linesF s) = readF st i (linesF l) ∧ PSI wr (w.heap.size + 1) st (w.heap.size + 1) ∧ Blk wr w.heap.size zCfg 41 ∧ Below w.heap.size w wr ∧ Sz st (i - 1) ∧ i + l.length ≤ s.length + 1 ∧ 1 ≤ i
theorem B_nil_iff (l : Txt) : ((B l).toList != ([] : Txt)) = decide (l ≠ []) := by rw [B_list]; cases l <;> rfl
set_option maxRecDepth 100000 in
set_option maxHeartbeats 2000000 in
theorem par_all (l : Txt) (w : World) (hE : Env w) (hl : l.length ≤ 65536) : Calls Tryz.prog 14 #[.string (B l)] w (ParV l w) := by
  have hsz := B_size l
  have d1 : decide (((B l).size : Int) > 65536) = false := by simp; omega
  have d2 : decide (65536 < (l.length : Int)) = false := by simp; omega
  have HQ := Lib.hid (And.intro hE hl)
  have hW1 : Below w.heap.size w ((w.alloc (.cells zCfg 41)).alloc (.cells (psCs (.slice none 0 0) (.slice none 0 0) (.slice none 0 0) (.slice none 0 0) 0 0 (.slice none 0 0) (.pointer none)) 78)) := ((Below.refl _ _).alloc (Nat.le_refl _) _).alloc (by simp) _
  have hbl := (Blk.new w zCfg 41).alloc (.cells (psCs (.slice none 0 0) (.slice none 0 0) (.slice none 0 0) (.slice none 0 0) 0 0 (.slice none 0 0) (.pointer none)) 78)
  have hps : PSI ((w.alloc (.cells zCfg 41)).alloc (.cells (psCs (.slice none 0 0) (.slice none 0 0) (.slice none 0 0) (.slice none 0 0) 0 0 (.slice none 0 0) (.pointer none)) 78)) (w.heap.size + 1) pst0 (w.heap.size + 1) := by
    refine ⟨_, _, _, _, _, _, _, _, _, _, _, _, none, Nat.le_refl _, by simp, ?_, Core.nil _ _, Rw.nil _ _ _, fun g hg => (by cases hg), .inl ⟨rfl, rfl⟩⟩
    have := Blk.new (w.alloc (.cells zCfg 41)) (psCs (.slice none 0 0) (.slice none 0 0) (.slice none 0 0) (.slice none 0 0) 0 0 (.slice none 0 0) (.pointer none)) 78
    rw [show (w.alloc (.cells zCfg 41)).heap.size = w.heap.size + 1 by simp] at this
    exact this
  have HS := Lib.hid (show PLS l w l 1 _ from ⟨pst0, rfl, hps, hbl, hW1, ⟨by simp [pst0, cfg0], by simp [pst0, cfg0], by simp [pst0, cfg0], by simp [pst0, cfg0], by simp [pst0, cfg0], fun t ht => (by cases ht), fun t ht => (by cases ht)⟩, by omega, by omega⟩)
  simp only [psCs] at HS
  clear hbl hW1 hps hE hl hsz
  go_enter Tryz.func14, Tryz.ntmps14
  go_wp2_with (fail)
  go_loopw [0, 7] (fun v0 v7 wr => ∃ (m : Txt) (i : Nat), v0 = .string (B m) ∧ v7 = .int .i64 i ∧ i ≤ 70000 ∧ Hid (PLS l w m i wr)) (fun v0 _ _ => match v0 with | .string b => b.size | _ => 0)
  case atStart => exact ⟨l, 1, rfl, rfl, by omega, HS⟩
  case round =>
    obtain ⟨m, i, rfl, rfl, hi, HR⟩ := hrel
    by_cases hm : m = []
    · subst hm
      obtain ⟨st, e1, hp, hz, hb, hs, hlen⟩ := HR.out
      obtain ⟨tv, bv, mv, gv, ev, p7, tq, eq, tb, bb, mb, gb, eb, k1, k2, k3, k4, k5, k6, k7⟩ := hp
      have hpf : parseF l = (st.c, st.es, 0, 0) := by
        unfold parseF
        rw [if_neg (by have := HQ.out.2; omega), e1]
        rfl
      have q1 : ((B ([] : Txt)).toList != []) = false := by rw [B_nil_iff]; rfl
      obtain ⟨a1, c1, rfl⟩ := k4.rt.slice
      obtain ⟨a2, c2, rfl⟩ := k4.re.slice
      obtain ⟨a3, c3, rfl⟩ := k4.rm.slice
      obtain ⟨a4, c4, rfl⟩ := k4.rg.slice
      obtain ⟨a5, c5, rfl⟩ := k5.slice
      have hrd := k3.rd
      have hzr := hz.rd
      have hznf := hz.nf
      have n1 : w.heap.size ≠ w.heap.size + 1 := by omega
      have n2 : w.heap.size + 1 ≠ w.heap.size := by omega
      have hfin := Lib.hid (And.intro k3 (And.intro k4 (And.intro k5 (And.intro k6 (And.intro hz (And.intro hb hpf))))))
      have hu6 := Upd.row wr.drew w.heap.size #[.slice a1 st.c.tasks.length c1, .slice a2 st.c.best.length c2, .slice a3 st.c.mtx.length c3, .slice a4 st.c.gaps.length c4, .int .i64 st.c.frames, .int .i64 st.c.dog]
      have hZB := Lib.hid hz.drew
      have CA := Lib.hid (And.intro (show wr.drew.cell? ⟨w.heap.size + 1, 6, none⟩ = some (.slice a5 st.es.length c5) from k3.rd 6) (show _ = some (Value.slice a5 st.es.length c5) from (Blk.upd hu6 k3.drew (by omega)).rd 6))
      have CS := Lib.hid (And.intro hrd (And.intro hzr hznf))
      clear e1 hs hlen k1 k2 k3 k4 k5 k6 k7 hz hb hpf hrd hzr hznf HR
      simp only [psCs] at CS
      go_wp2_with (fail)
      refine region_S 8 wr.drew (wr.drew.setRow w.heap.size #[.slice a1 st.c.tasks.length c1, .slice a2 st.c.best.length c2, .slice a3 st.c.mtx.length c3, .slice a4 st.c.gaps.length c4, .int .i64 st.c.frames, .int .i64 st.c.dog]) rfl (by kernel_rfl) (by kernel_rfl) ?_
      apply wpJ_op rfl (by rfl)
      · intro f w1 hf hJ Q1 hQ
        simp only [Act.put, List.setIfInBounds_toArray, List.set_cons_zero, List.set_cons_succ] at hQ
        go_wp2_with (fail)
        exact hQ _ _ rfl (hJ.other rfl hf (by decide))
      simp only [Act.put, List.setIfInBounds_toArray, List.set_cons_zero, List.set_cons_succ]
      apply wpJ_op rfl (by rfl)
      · intro f w1 hf hJ Q1 hQ
        simp only [Act.put, List.setIfInBounds_toArray, List.set_cons_zero, List.set_cons_succ] at hQ
        go_wp2_with (fail)
        exact hQ _ _ rfl (hJ.other rfl hf (by decide))
      simp only [Act.put, List.setIfInBounds_toArray, List.set_cons_zero, List.set_cons_succ]
      apply wpJ_op rfl (by rfl)
      · intro f w1 hf hJ Q1 hQ
        simp only [Act.put, List.setIfInBounds_toArray, List.set_cons_zero, List.set_cons_succ] at hQ
        go_wp2_with (fail)
        exact hQ _ _ rfl (hJ.other rfl hf (by decide))
      simp only [Act.put, List.setIfInBounds_toArray, List.set_cons_zero, List.set_cons_succ]
      apply wpJ_op rfl (by rfl)
      · intro f w1 hf hJ Q1 hQ
        have hS : f 8 = false := path_no hJ.1 [3] (by kernel_rfl) (by decide) hf.1
        rw [hJ.atS hS]
        have hF := CS.out
        obtain ⟨hR, hZ, hN⟩ := hF
        simp only [Act.put, List.setIfInBounds_toArray, List.set_cons_zero, List.set_cons_succ] at hQ
        go_wp2_with (fail)
        exact hQ _ _ rfl (by have h9 := hJ.other rfl hf (by decide); rwa [hJ.atS hS] at h9)
      simp only [Act.put, List.setIfInBounds_toArray, List.set_cons_zero, List.set_cons_succ]
      apply wpJ_op rfl (by rfl)
      · intro f w1 hf hJ Q1 hQ
        simp only [Act.put, List.setIfInBounds_toArray, List.set_cons_zero, List.set_cons_succ] at hQ
        go_wp2_with (fail)
        exact hQ _ _ rfl (hJ.other rfl hf (by decide))
      simp only [Act.put, List.setIfInBounds_toArray, List.set_cons_zero, List.set_cons_succ]
      apply wpJ_op rfl (by rfl)
      · intro f w1 hf hJ Q1 hQ
        simp only [Act.put, List.setIfInBounds_toArray, List.set_cons_zero, List.set_cons_succ] at hQ
        go_wp2_with (fail)
        exact hQ _ _ rfl (hJ.other rfl hf (by decide))
      simp only [Act.put, List.setIfInBounds_toArray, List.set_cons_zero, List.set_cons_succ]
      apply wpJ_op rfl (by rfl)
      · intro f w1 hf hJ Q1 hQ
        simp only [Act.put, List.setIfInBounds_toArray, List.set_cons_zero, List.set_cons_succ] at hQ
        go_wp2_with (fail)
        exact hQ _ _ rfl (hJ.other rfl hf (by decide))
      simp only [Act.put, List.setIfInBounds_toArray, List.set_cons_zero, List.set_cons_succ]
      apply wpJ_op rfl (by rfl)
      · intro f w1 hf hJ Q1 hQ
        have hF := hJ.any (F := fun x => x.cell? ⟨w.heap.size + 1, 6, none⟩ = some (Value.slice a5 st.es.length c5)) CA.out.1 CA.out.2
        simp only [Act.put, List.setIfInBounds_toArray, List.set_cons_zero, List.set_cons_succ] at hQ
        go_wp2_with (fail)
        exact hQ _ _ rfl (hJ.other rfl hf (by decide))
      simp only [Act.put, List.setIfInBounds_toArray, List.set_cons_zero, List.set_cons_succ]
      apply wpJ_op (v := undef) rfl (by rfl)
      · intro f w1 hf hJ Q1 hQ
        rw [hJ.atS hf.1]
        simp only [Act.put, List.setIfInBounds_toArray, List.set_cons_zero, List.set_cons_succ] at hQ
        go_wp2_with (refine wpList_store_row rfl 41 (.tmp 2) (.tmp 37) rfl w.heap.size #[.slice a1 st.c.tasks.length c1, .slice a2 st.c.best.length c2, .slice a3 st.c.mtx.length c3, .slice a4 st.c.gaps.length c4, .int .i64 st.c.frames, .int .i64 st.c.dog] rfl rfl 41 zCfg hZB.out infoCfg rfl (by simp [Value.oneCell']) ?_)
        exact hQ _ _ rfl (hJ.goS rfl hf)
      simp only [Act.put, List.setIfInBounds_toArray, List.set_cons_zero, List.set_cons_succ]
      apply wpJ_op rfl (by rfl)
      · intro f w1 hf hJ Q1 hQ
        simp only [Act.put, List.setIfInBounds_toArray, List.set_cons_zero, List.set_cons_succ] at hQ
        go_wp2_with (fail)
        exact hQ _ _ rfl (hJ.other rfl hf (by decide))
      simp only [Act.put, List.setIfInBounds_toArray, List.set_cons_zero, List.set_cons_succ]
      apply wpJ_op rfl (by rfl)
      · intro f w1 hf hJ Q1 hQ
        simp only [Act.put, List.setIfInBounds_toArray, List.set_cons_zero, List.set_cons_succ] at hQ
        go_wp2_with (fail)
        exact hQ _ _ rfl (hJ.other rfl hf (by decide))
      simp only [Act.put, List.setIfInBounds_toArray, List.set_cons_zero, List.set_cons_succ]
      apply wpJ_op rfl (by rfl)
      · intro f w1 hf hJ Q1 hQ
        simp only [Act.put, List.setIfInBounds_toArray, List.set_cons_zero, List.set_cons_succ] at hQ
        go_wp2_with (fail)
        exact hQ _ _ rfl (hJ.other rfl hf (by decide))
      simp only [Act.put, List.setIfInBounds_toArray, List.set_cons_zero, List.set_cons_succ]
      refine wpJ_nil ?_
      intro w9 hJ9
      rw [hJ9.fin rfl]
      clear hJ9
      go_wp2_with (fail)
      obtain ⟨k3, k4, k5, k6, hz, hb, hpf⟩ := hfin.out
      refine bodyPost_ret (results_cell4 rfl _ _ w.heap.size _ #[.slice a1 st.c.tasks.length c1, .slice a2 st.c.best.length c2, .slice a3 st.c.mtx.length c3, .slice a4 st.c.gaps.length c4, .int .i64 st.c.frames, .int .i64 st.c.dog] _ rfl (Blk.row hZB.out _) Tryz.underlying41 rfl infoCfg) rfl ?_
      refine ⟨_, _, _, _, _, tq, eq, tb, bb, mb, gb, eb, by rw [hpf]; rfl, ?_, ?_, fun g hg => by have := k6 g hg; omega, ?_⟩
      · rw [hpf]
        refine (((k4.below (Below.refl _ _).drew).keep hu6 fun g ds T hS hg => ?_).weak (Nat.le_succ _))
        subst hg
        have h1 := hZB.out
        unfold Blk at h1 hS
        rw [h1] at hS
        cases hS
        decide
      · rw [hpf]
        exact (k5.below (Below.refl _ _).drew).upd hu6 (fun g hg e => by have := k6 g hg; omega)
      · exact hb.drew.trans (hu6.below hb.drew.size (fun k hk => by omega))
    · obtain ⟨hlc, hl1, hl2⟩ := lines_cut m hm
      have hmn : ∀ n, Env (wr.drewN n) := fun n => by
        obtain ⟨st, e1, hp, hz, hb, hs, hlen⟩ := HR.out
        exact HQ.out.1.bel (below_drewN hb n)
      have q1 : ((B m).toList != []) = true := by rw [B_nil_iff]; simpa using hm
      have q2 : m.isEmpty = false := by cases m with | nil => exact absurd rfl hm | cons _ _ => rfl
      have hml : m.length ≤ 65536 := by
        obtain ⟨st, e1, hp, hz, hb, hs, hlen, hi1⟩ := HR.out
        have := HQ.out.2
        omega
      have hcut := scut_is m wr (hmn 0) (by omega)
      obtain ⟨a, ha⟩ : ∃ a, (cut m [10]).1 = a := ⟨_, rfl⟩
      obtain ⟨b, hb⟩ : ∃ b, (cut m [10]).2.1 = b := ⟨_, rfl⟩
      obtain ⟨f, hf⟩ : ∃ f, (cut m [10]).2.2 = f := ⟨_, rfl⟩
      rw [ha, hb, hf] at hcut
      rw [ha, hb] at hlc
      rw [hb] at hl1
      rw [ha] at hl2
      obtain ⟨st, e1, hp, hz, hbw, hs, hlen, hi1⟩ := HR.out
      have hE2 := HQ.out.1
      have hl0 := HQ.out.2
      have hln := fun n => line_ps (hp.below (below_drewN (Below.refl _ _) n)) (hmn n) (by have := hE2.size; omega) a (by omega) hs (by omega)
      rw [hlc] at e1
      simp only [readF] at e1
      cases hlf : lineF st a with
      | none =>
        rw [hlf] at hln e1
        simp only at e1
        have hP := Lib.hid (fun w' (hb : Below w.heap.size w w') => ParV.err (at' := (i : Int)) (e := 19) (show parseF l = (cfg0, [], (i : Int), 19) by
          unfold parseF
          rw [if_neg (by omega), e1]) hb)
        have hln2 : ∀ n, Calls Tryz.prog 31 #[.pointer (some ⟨w.heap.size + 1, 0, none⟩), .string (B a)] (wr.drewN n) (fun e w' => e = .returned (.bool false) ∧ Below (w.heap.size + 1) (wr.drewN n) w') := fun n => (hln n).mono fun e w' h => ⟨h.1, h.2.2⟩
        have HZ := Lib.hid (And.intro hz hbw)
        clear hln hmn e1 hp hz hbw hs hlen hlf hlc hE2
        go_wp2_with (first
          | (go_at_call 30; (with_reducible refine hcut.mono ?_); rintro e w2 ⟨rfl, n, rfl⟩; have hl3 := hln2 n; have hzn := Blk.below (below_drewN (Below.refl wr.heap.size wr) n) HZ.out.1 HZ.out.1.lt; have HN := Lib.hid (And.intro hzn (below_drewN HZ.out.2 n)); clear hcut hln2 hzn)
          | (go_at_call 31; (with_reducible refine hl3.mono ?_); rintro e w3 ⟨rfl, hb3⟩; have hz3 := Blk.below hb3 HN.out.1 (Nat.lt_succ_self _); have H3 := Lib.hid (And.intro hz3 (HN.out.2.trans (hb3.mono (Nat.le_succ _)))); clear hb3 hl3 hz3)
          | (refine wpList_store_row rfl 41 (.tmp 2) (.tmp 31) rfl w.heap.size zCfg rfl rfl 41 zCfg H3.out.1 infoCfg rfl (by simp [Value.oneCell']) ?_))
        refine bodyPost_ret (results_cell4 rfl _ _ w.heap.size _ zCfg _ rfl (Blk.row H3.out.1 _) Tryz.underlying41 rfl infoCfg) rfl ?_
        exact hP.out _ (H3.out.2.trans ((Upd.row _ _ _).below H3.out.2.size (fun k hk => by omega)))
      | some st' =>
        rw [hlf] at hln e1
        simp only at e1
        have hs' := hs.line hlf
        have hln2 : ∀ n, Calls Tryz.prog 31 #[.pointer (some ⟨w.heap.size + 1, 0, none⟩), .string (B a)] (wr.drewN n) (fun e w' => e = .returned (.bool true) ∧ PSI w' (w.heap.size + 1) st' (w.heap.size + 1) ∧ Below (w.heap.size + 1) (wr.drewN n) w') := fun n => (hln n).mono fun e w' h => ⟨h.1, h.2.1 st' rfl, h.2.2⟩
        have HZ := Lib.hid (And.intro hz (And.intro hbw (And.intro e1 (And.intro (hs'.mono (show i - 1 + 1 ≤ i + 1 - 1 by omega)) (show i + 1 + b.length ≤ l.length + 1 by omega)))))
        have i2 : i + 1 ≤ 70000 := by omega
        have hbs : b.length < m.length := hl1
        clear hln hmn e1 hp hz hbw hs hs' hlen hlf hlc hE2 ha hb
        go_wp2_with (first
          | (go_at_call 30; (with_reducible refine hcut.mono ?_); rintro e w2 ⟨rfl, n, rfl⟩; have hl3 := hln2 n; have hzn := Blk.below (below_drewN (Below.refl wr.heap.size wr) n) HZ.out.1 HZ.out.1.lt; have HN := Lib.hid (And.intro hzn (below_drewN HZ.out.2.1 n)); clear hcut hln2 hzn)
          | (go_at_call 31; (with_reducible refine hl3.mono ?_); rintro e w3 ⟨rfl, hp3, hb3⟩; have H3 := Lib.hid (And.intro (Blk.below hb3 HN.out.1 (Nat.lt_succ_self _)) (And.intro (HN.out.2.trans (hb3.mono (Nat.le_succ _))) hp3)); clear hb3 hl3 hp3))
        go_roundw
        case rel => exact ⟨b, i + 1, rfl, by go_num, i2, Lib.hid ⟨st', HZ.out.2.2.1, H3.out.2.2, H3.out.1, H3.out.2.1, HZ.out.2.2.2.1, HZ.out.2.2.2.2, by omega⟩⟩
        case measure => simpa [B_size] using hbs
theorem parse_is (l : Txt) (w : World) (hE : Env w) : Calls Tryz.prog 14 #[.string (B l)] w (ParV l w) := by
  by_cases h : 65536 < l.length
  · exact par_long l w h
  · exact par_all l w hE (by omega)
end Go.Proofs.YtefaaginedideaaGreatDoor
