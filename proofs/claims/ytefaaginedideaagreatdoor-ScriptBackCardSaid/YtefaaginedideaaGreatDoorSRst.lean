/-
  Script: a step's line, read by the document.
-/
import Derived.Test.YtefaaginedideaaGreatDoorSR2
import Derived.Test.YtefaaginedideaaGreatDoorSRl
import Derived.Test.YtefaaginedideaaGreatDoorSPar
namespace Go.Proofs.YtefaaginedideaaGreatDoor
set_option linter.unusedSimpArgs false
set_option linter.unusedVariables false
open Go.RowKit Own RegJ
open Go.Lib hiding intOf

theorem KJ.pre2 {A S : Nat} {md : Region.Mode} {ops : Array Oper} {W WA WC WS w : World} {f : Nat → Bool} {F : World → Prop} (h : KJ A S S md ops W WA WC WS f w) (hS : f S = false) (h1 : F W) (h2 : F WA) : F w := by
  have := h.2
  rw [hS] at this
  unfold Stg at this
  rw [this]
  cases f A <;> assumption
theorem infoOpS : (Tryz.prog.info? 25).map (·.size) = some 9 := by kernel_rfl
abbrev zOp : Array Value := #[Value.int .i64 0, .int .i64 0, .int .i64 0, .int .i64 0, .int .i64 0, .int .i64 0, .int .i64 0, .string ⟨#[]⟩, .string ⟨#[]⟩]
theorem results_cell1 {P : Program} {fn : Func} {p s : Tmp} {ty : TypeId} (h : fn.results = #[.cell p ty, .tmp s]) (tmps : Array Value) (w : World) (g : Nat) (t : TypeId) (cs : Array Value) (d : TypeDesc)
    (hp : tmps.getD p undef = .pointer (some ⟨g, 0, none⟩)) (hg : Blk w g cs t)
    (hu : P.underlying ty = some d) (hd : (match d with | .struct _ | .array _ _ => true | _ => false) = true) (hi : (P.info? ty).map (·.size) = some cs.size) :
    (results fn tmps).run P w = .ok (.tuple #[.agg cs, tmps.getD s undef]) w := by
  have hp' : tmps[p]?.getD undef = .pointer (some ⟨g, 0, none⟩) := by simpa using hp
  simp [results, h, hp', asAddr, run_loadVar_row w g t ty cs _ d hg hu hd hi]
/-- the step's block bo, the result's block br -/
def StI (w : World) (bo : Nat) (cs : Array Value) (br : Nat) (s : Bool) (w1 : World) : Prop := Blk w1 bo cs 25 ∧ Blk w1 br (if s then cs else zOp) 25 ∧ Below w.heap.size w w1 ∧ bo ≠ br ∧ br = w.heap.size
theorem StI.row {w w1 : World} {bo br : Nat} {cs : Array Value} (h : StI w bo cs br false w1) : StI w bo cs br true (w1.setRow br cs) :=
  ⟨Blk.upd (Upd.row w1 br cs) h.1 h.2.2.2.1, Blk.row h.2.1 cs, h.2.2.1.trans ((Upd.row w1 br cs).below h.2.2.1.size (fun k hk => by have := h.2.2.2.2; omega)), h.2.2.2⟩
theorem StI.drew {w w1 : World} {bo br : Nat} {cs : Array Value} {s : Bool} (h : StI w bo cs br s w1) : StI w bo cs br s w1.drew := ⟨h.1, h.2.1, h.2.2.1.drew, h.2.2.2⟩
theorem StI.bel {w w1 w2 : World} {bo br c : Nat} {cs : Array Value} {f : Nat → Bool} (h : J1 c (StI w bo cs br) f w1) (hb : Below w1.heap.size w1 w2) : J1 c (StI w bo cs br) f w2 := by
  unfold J1 at *
  exact ⟨Blk.below hb h.1 h.1.lt, Blk.below hb h.2.1 h.2.1.lt, h.2.2.1.trans (hb.mono h.2.2.1.size), h.2.2.2⟩
theorem StI.rd {w w1 : World} {bo br c : Nat} {cs : Array Value} {f : Nat → Bool} (h : J1 c (StI w bo cs br) f w1) : Blk w1 bo cs 25 := by
  unfold J1 at h; exact h.1
/-- what the document's step hands back -/
def RStV (ws : List Txt) (w : World) (e : Ending) (w' : World) : Prop := ∃ o : OpV, e = .returned (.tuple #[opV o, .bool (stepF ws).isSome]) ∧ (∀ x, stepF ws = some x → o = x) ∧ Below w.heap.size w w'
def op0 : OpV := ⟨0, 0, 0, 0, 0, 0, 0, [], []⟩
theorem RStV.no {ws : List Txt} {w w' : World} (h : stepF ws = none) (hb : Below w.heap.size w w') : RStV ws w (.returned (.tuple #[.agg zOp, .bool false])) w' := ⟨op0, by rw [h]; rfl, fun x hx => (by rw [h] at hx; cases hx), hb⟩
theorem RStV.yes {ws : List Txt} {w w' : World} {o : OpV} {b : Bool} {v : Value} (hv : v = opV o) (h : stepF ws = if b = true then some o else none) (hb : Below w.heap.size w w') : RStV ws w (.returned (.tuple #[v, .bool b])) w' := by
  subst hv
  refine ⟨o, ?_, fun x hx => ?_, hb⟩
  · rw [h]; cases b <;> rfl
  · rw [h] at hx
    split at hx
    · cases hx; rfl
    · cases hx
set_option maxRecDepth 100000 in
theorem rst_no {w : World} {a : Option Addr} {x : Txt} {r : List Txt} (n c : Nat) (hr : RdT w a (x :: r)) (hn : (x :: r).length = n) (hn5 : n ≤ 100000) (hs : stepF (x :: r) = none) (h1 : x = opW → n ≠ 5) (h2 : x = callW → n ≠ 6) (hc : n ≤ c) :
    Calls Tryz.prog 71 #[.slice a n c] w (RStV (x :: r) w) := by
  have hP := Lib.hid (fun w' hb => RStV.no (w := w) (w' := w') hs hb)
  have hn0 : 0 < n := by simp at hn; omega
  have hcs : ((x == ([111, 112] : Txt)) = false) ∨ ((x == ([111, 112] : Txt)) = true ∧ ((n : Int) == 5) = false) := by
    rw [beq_dec]
    by_cases h : x = opW
    · exact .inr ⟨decide_eq_true h, by have := h1 h; simp; omega⟩
    · exact .inl (decide_eq_false h)
  have hcs2 : ((x == ([99, 97, 108, 108] : Txt)) = false) ∨ ((x == ([99, 97, 108, 108] : Txt)) = true ∧ ((n : Int) == 6) = false) := by
    rw [beq_dec]
    by_cases h : x = callW
    · exact .inr ⟨decide_eq_true h, by have := h2 h; simp; omega⟩
    · exact .inl (decide_eq_false h)
  obtain ⟨g, oo, rfl, k0⟩ := hr 0 x rfl
  rw [Nat.add_zero] at k0
  have k1 := ((hr.below ((Below.refl _ _).alloc (Nat.le_refl _) (.cells zOp 25))) 0 x rfl)
  obtain ⟨g1, o1, e1, k1⟩ := k1
  simp only [Option.some.injEq, Addr.mk.injEq, and_true] at e1
  obtain ⟨rfl, rfl⟩ := e1
  rw [Nat.add_zero] at k1
  clear hr hn hs h1 h2
  rcases hcs with q1 | ⟨q1, q2⟩ <;> rcases hcs2 with q3 | ⟨q3, q4⟩
  all_goals
    go_enter Tryz.func71, Tryz.ntmps71
    go_wp2_with (fail)
    refine bodyPost_ret (results_cell1 rfl _ _ w.heap.size _ zOp _ rfl (Blk.new w _ _) Tryz.underlying25 rfl infoOpS) rfl ?_
    exact hP.out _ ((Below.refl _ _).alloc (Nat.le_refl _) _)
set_option maxRecDepth 100000 in
set_option maxHeartbeats 2000000 in
theorem rst_op_none {w : World} {a : Option Addr} {x1 x2 x3 x4 : Txt} (c : Nat) (hr : RdT w a [opW, x1, x2, x3, x4]) (hc : 5 ≤ c) (hl : ∀ y ∈ [opW, x1, x2, x3, x4], y.length ≤ 100000) (hns : numsF [x1, x2, x3, x4] = none) :
    Calls Tryz.prog 71 #[.slice a 5 c] w (RStV [opW, x1, x2, x3, x4] w) := by
  have hP := Lib.hid (fun w' hb => RStV.no (w := w) (w' := w') (ws := [opW, x1, x2, x3, x4]) (by rw [stepF_op, hns]) hb)
  obtain ⟨g, oo, rfl, k0⟩ := hr 0 opW rfl
  rw [Nat.add_zero] at k0
  have hb0 : Below w.heap.size w (w.alloc (.cells zOp 25)) := (Below.refl _ _).alloc (Nat.le_refl _) _
  have hr1 := hr.below hb0
  obtain ⟨g1, o1, e1, k1⟩ := hr1 0 opW rfl
  simp only [Option.some.injEq, Addr.mk.injEq, and_true] at e1
  obtain ⟨rfl, rfl⟩ := e1
  rw [Nat.add_zero] at k1
  have c1 : ¬ c = 1 := by omega
  have c2 : ¬ c - 1 = 0 := by omega
  have c3 : ((c - 1 : Nat) == 0) = false := by simp; omega
  have c4 : 1 ≤ c := by omega
  have c5 : 4 ≤ c := by omega
  have hnum := rnumbers_is (ws := [x1, x2, x3, x4]) 4 (c - 1) hr1.tl rfl (by omega) (fun y hy => by have := hl y (List.mem_cons_of_mem _ hy); omega)
  unfold NumsV at hnum
  rw [hns] at hnum
  have HB0 := Lib.hid hb0
  clear hr hr1 hl hns hb0
  go_enter Tryz.func71, Tryz.ntmps71
  go_wp2_with (first | (go_at_call 72; (with_reducible refine hnum.mono ?_); rintro e w2 ⟨hb2, rfl⟩; have hz := Blk.below hb2 (Blk.new w zOp 25) (by simp); have H2 := Lib.hid (And.intro hz (HB0.out.trans (hb2.mono HB0.out.size))); clear hb2 hnum hz) | (refine wpList_store_row rfl 25 (.tmp 2) (.tmp 31) rfl w.heap.size zOp rfl rfl 25 zOp H2.out.1 infoOpS rfl (by simp [Value.oneCell']) ?_))
  refine bodyPost_ret (results_cell1 rfl _ _ w.heap.size _ zOp _ rfl (Blk.row H2.out.1 _) Tryz.underlying25 rfl infoOpS) rfl ?_
  exact hP.out _ (H2.out.2.trans ((Upd.row _ _ _).below H2.out.2.size (fun k hk => by omega)))
set_option maxRecDepth 100000 in
set_option maxHeartbeats 2000000 in
theorem rst_op_ten {w : World} {a : Option Addr} {x1 x2 x3 x4 : Txt} (c : Nat) (hr : RdT w a [opW, x1, x2, x3, x4]) (hc : 5 ≤ c) (hl : ∀ y ∈ [opW, x1, x2, x3, x4], y.length ≤ 100000) {i j q : Int} (hns : numsF [x1, x2, x3, x4] = some [10, i, j, q]) :
    Calls Tryz.prog 71 #[.slice a 5 c] w (RStV [opW, x1, x2, x3, x4] w) := by
  have hP := Lib.hid (fun w' v hv hb => RStV.yes (w := w) (w' := w') (ws := [opW, x1, x2, x3, x4]) (v := v) (o := opNums 10 i j q) (b := false) hv (by rw [stepF_op, hns]; simp) hb)
  obtain ⟨g, oo, rfl, k0⟩ := hr 0 opW rfl
  rw [Nat.add_zero] at k0
  have hb0 : Below w.heap.size w (w.alloc (.cells zOp 25)) := (Below.refl _ _).alloc (Nat.le_refl _) _
  have hr1 := hr.below hb0
  obtain ⟨g1, o1, e1, k1⟩ := hr1 0 opW rfl
  simp only [Option.some.injEq, Addr.mk.injEq, and_true] at e1
  obtain ⟨rfl, rfl⟩ := e1
  rw [Nat.add_zero] at k1
  have c1 : ¬ c = 1 := by omega
  have c2 : ¬ c - 1 = 0 := by omega
  have c3 : ((c - 1 : Nat) == 0) = false := by simp; omega
  have c4 : 1 ≤ c := by omega
  have c5 : 4 ≤ c := by omega
  have hnum := rnumbers_is (ws := [x1, x2, x3, x4]) 4 (c - 1) hr1.tl rfl (by omega) (fun y hy => by have := hl y (List.mem_cons_of_mem _ hy); omega)
  unfold NumsV at hnum
  rw [hns] at hnum
  have HB0 := Lib.hid hb0
  clear hr hr1 hl hns hb0
  go_enter Tryz.func71, Tryz.ntmps71
  go_wp2_with (go_at_call 72; (with_reducible refine hnum.mono ?_); rintro e w2 ⟨hb2, v2, b2, rfl, hI, hbI⟩; obtain ⟨g9, c9, rfl, hg9, hc9, hrd⟩ := hI.some_of (by simp); have r0 := hrd 0 10 rfl; have r1 := hrd 1 i rfl; have r2 := hrd 2 j rfl; have r3 := hrd 3 q rfl; simp only [List.length_cons, List.length_nil, Nat.zero_add, Nat.reduceAdd] at hc9 ⊢; have hz := Blk.below hb2 (Blk.new w zOp 25) (by simp); have H2 := Lib.hid (And.intro hz (HB0.out.trans (hb2.mono HB0.out.size))); have hgl := hI.lt g9 hg9; clear hb2 hnum hz hI hbI hrd)
  have hab := ((Below.refl w2.heap.size w2).alloc (Nat.le_refl _) (.cells zOp 25)).drew
  have CW := Lib.hid (And.intro r0 (And.intro r1 (And.intro r2 r3)))
  have CA := Lib.hid (And.intro ((hab.cell (p := ⟨g9, 0, none⟩) hgl).trans r0) (And.intro ((hab.cell (p := ⟨g9, 1, none⟩) hgl).trans r1) (And.intro ((hab.cell (p := ⟨g9, 2, none⟩) hgl).trans r2) ((hab.cell (p := ⟨g9, 3, none⟩) hgl).trans r3))))
  clear r0 r1 r2 r3 hab hgl
  refine region_K 13 14 14 (w2.drew) ((w2.alloc (.cells #[Value.int .i64 0, .int .i64 0, .int .i64 0, .int .i64 0, .int .i64 0, .int .i64 0, .int .i64 0, .string ⟨#[]⟩, .string ⟨#[]⟩] 25)).drew) (((w2.alloc (.cells #[Value.int .i64 0, .int .i64 0, .int .i64 0, .int .i64 0, .int .i64 0, .int .i64 0, .int .i64 0, .string ⟨#[]⟩, .string ⟨#[]⟩] 25)).drew).setRow w2.heap.size #[.int .i64 10, .int .i64 i, .int .i64 j, .int .i64 q, .int .i64 0, .int .i64 0, .int .i64 0, .string ⟨#[]⟩, .string ⟨#[]⟩]) (((w2.alloc (.cells #[Value.int .i64 0, .int .i64 0, .int .i64 0, .int .i64 0, .int .i64 0, .int .i64 0, .int .i64 0, .string ⟨#[]⟩, .string ⟨#[]⟩] 25)).drew).setRow w2.heap.size #[.int .i64 10, .int .i64 i, .int .i64 j, .int .i64 q, .int .i64 0, .int .i64 0, .int .i64 0, .string ⟨#[]⟩, .string ⟨#[]⟩]) rfl (by kernel_rfl) (by kernel_rfl) ?_
  apply wpJ_op rfl (by rfl)
  · intro f w1 hf hJ Q1 hQ
    simp only [Act.put, List.setIfInBounds_toArray, List.set_cons_zero, List.set_cons_succ] at hQ
    go_wp2_with (fail)
    exact hQ _ _ rfl (hJ.other rfl hf (by decide) (by decide) (by decide))
  simp only [Act.put, List.setIfInBounds_toArray, List.set_cons_zero, List.set_cons_succ]
  apply wpJ_op rfl (by rfl)
  · intro f w1 hf hJ Q1 hQ
    simp only [Act.put, List.setIfInBounds_toArray, List.set_cons_zero, List.set_cons_succ] at hQ
    go_wp2_with (fail)
    exact hQ _ _ rfl (hJ.other rfl hf (by decide) (by decide) (by decide))
  simp only [Act.put, List.setIfInBounds_toArray, List.set_cons_zero, List.set_cons_succ]
  apply wpJ_op rfl (by rfl)
  · intro f w1 hf hJ Q1 hQ
    have hS : f 14 = false := path_no hJ.1 [12, 2] (by kernel_rfl) (by decide) hf.1
    have hF := KJ.pre2 (F := (fun x : World => x.cell? ⟨g9, 0, none⟩ = some (.int .i64 10) ∧ x.cell? ⟨g9, 1, none⟩ = some (.int .i64 i) ∧ x.cell? ⟨g9, 2, none⟩ = some (.int .i64 j) ∧ x.cell? ⟨g9, 3, none⟩ = some (.int .i64 q))) hJ hS CW.out CA.out
    have g1 := hF.1
    clear hF
    simp only [Act.put, List.setIfInBounds_toArray, List.set_cons_zero, List.set_cons_succ] at hQ
    go_wp2_with (fail)
    exact hQ _ _ rfl (hJ.other rfl hf (by decide) (by decide) (by decide))
  simp only [Act.put, List.setIfInBounds_toArray, List.set_cons_zero, List.set_cons_succ]
  apply wpJ_op rfl (by rfl)
  · intro f w1 hf hJ Q1 hQ
    simp only [Act.put, List.setIfInBounds_toArray, List.set_cons_zero, List.set_cons_succ] at hQ
    go_wp2_with (fail)
    exact hQ _ _ rfl (hJ.other rfl hf (by decide) (by decide) (by decide))
  simp only [Act.put, List.setIfInBounds_toArray, List.set_cons_zero, List.set_cons_succ]
  apply wpJ_op rfl (by rfl)
  · intro f w1 hf hJ Q1 hQ
    simp only [Act.put, List.setIfInBounds_toArray, List.set_cons_zero, List.set_cons_succ] at hQ
    go_wp2_with (fail)
    exact hQ _ _ rfl (hJ.other rfl hf (by decide) (by decide) (by decide))
  simp only [Act.put, List.setIfInBounds_toArray, List.set_cons_zero, List.set_cons_succ]
  apply wpJ_op rfl (by rfl)
  · intro f w1 hf hJ Q1 hQ
    have hS : f 14 = false := path_no hJ.1 [12, 5] (by kernel_rfl) (by decide) hf.1
    have hF := KJ.pre2 (F := (fun x : World => x.cell? ⟨g9, 0, none⟩ = some (.int .i64 10) ∧ x.cell? ⟨g9, 1, none⟩ = some (.int .i64 i) ∧ x.cell? ⟨g9, 2, none⟩ = some (.int .i64 j) ∧ x.cell? ⟨g9, 3, none⟩ = some (.int .i64 q))) hJ hS CW.out CA.out
    have g1 := hF.2.1
    clear hF
    simp only [Act.put, List.setIfInBounds_toArray, List.set_cons_zero, List.set_cons_succ] at hQ
    go_wp2_with (fail)
    exact hQ _ _ rfl (hJ.other rfl hf (by decide) (by decide) (by decide))
  simp only [Act.put, List.setIfInBounds_toArray, List.set_cons_zero, List.set_cons_succ]
  apply wpJ_op rfl (by rfl)
  · intro f w1 hf hJ Q1 hQ
    simp only [Act.put, List.setIfInBounds_toArray, List.set_cons_zero, List.set_cons_succ] at hQ
    go_wp2_with (fail)
    exact hQ _ _ rfl (hJ.other rfl hf (by decide) (by decide) (by decide))
  simp only [Act.put, List.setIfInBounds_toArray, List.set_cons_zero, List.set_cons_succ]
  apply wpJ_op rfl (by rfl)
  · intro f w1 hf hJ Q1 hQ
    simp only [Act.put, List.setIfInBounds_toArray, List.set_cons_zero, List.set_cons_succ] at hQ
    go_wp2_with (fail)
    exact hQ _ _ rfl (hJ.other rfl hf (by decide) (by decide) (by decide))
  simp only [Act.put, List.setIfInBounds_toArray, List.set_cons_zero, List.set_cons_succ]
  apply wpJ_op rfl (by rfl)
  · intro f w1 hf hJ Q1 hQ
    have hS : f 14 = false := path_no hJ.1 [12, 8] (by kernel_rfl) (by decide) hf.1
    have hF := KJ.pre2 (F := (fun x : World => x.cell? ⟨g9, 0, none⟩ = some (.int .i64 10) ∧ x.cell? ⟨g9, 1, none⟩ = some (.int .i64 i) ∧ x.cell? ⟨g9, 2, none⟩ = some (.int .i64 j) ∧ x.cell? ⟨g9, 3, none⟩ = some (.int .i64 q))) hJ hS CW.out CA.out
    have g1 := hF.2.2.1
    clear hF
    simp only [Act.put, List.setIfInBounds_toArray, List.set_cons_zero, List.set_cons_succ] at hQ
    go_wp2_with (fail)
    exact hQ _ _ rfl (hJ.other rfl hf (by decide) (by decide) (by decide))
  simp only [Act.put, List.setIfInBounds_toArray, List.set_cons_zero, List.set_cons_succ]
  apply wpJ_op rfl (by rfl)
  · intro f w1 hf hJ Q1 hQ
    simp only [Act.put, List.setIfInBounds_toArray, List.set_cons_zero, List.set_cons_succ] at hQ
    go_wp2_with (fail)
    exact hQ _ _ rfl (hJ.other rfl hf (by decide) (by decide) (by decide))
  simp only [Act.put, List.setIfInBounds_toArray, List.set_cons_zero, List.set_cons_succ]
  apply wpJ_op rfl (by rfl)
  · intro f w1 hf hJ Q1 hQ
    simp only [Act.put, List.setIfInBounds_toArray, List.set_cons_zero, List.set_cons_succ] at hQ
    go_wp2_with (fail)
    exact hQ _ _ rfl (hJ.other rfl hf (by decide) (by decide) (by decide))
  simp only [Act.put, List.setIfInBounds_toArray, List.set_cons_zero, List.set_cons_succ]
  apply wpJ_op rfl (by rfl)
  · intro f w1 hf hJ Q1 hQ
    have hS : f 14 = false := path_no hJ.1 [12, 11] (by kernel_rfl) (by decide) hf.1
    have hF := KJ.pre2 (F := (fun x : World => x.cell? ⟨g9, 0, none⟩ = some (.int .i64 10) ∧ x.cell? ⟨g9, 1, none⟩ = some (.int .i64 i) ∧ x.cell? ⟨g9, 2, none⟩ = some (.int .i64 j) ∧ x.cell? ⟨g9, 3, none⟩ = some (.int .i64 q))) hJ hS CW.out CA.out
    have g1 := hF.2.2.2
    clear hF
    simp only [Act.put, List.setIfInBounds_toArray, List.set_cons_zero, List.set_cons_succ] at hQ
    go_wp2_with (fail)
    exact hQ _ _ rfl (hJ.other rfl hf (by decide) (by decide) (by decide))
  simp only [Act.put, List.setIfInBounds_toArray, List.set_cons_zero, List.set_cons_succ]
  apply wpJ_op rfl (by rfl)
  · intro f w1 hf hJ Q1 hQ
    simp only [Act.put, List.setIfInBounds_toArray, List.set_cons_zero, List.set_cons_succ] at hQ
    go_wp2_with (fail)
    exact hQ _ _ rfl (hJ.other rfl hf (by decide) (by decide) (by decide))
  simp only [Act.put, List.setIfInBounds_toArray, List.set_cons_zero, List.set_cons_succ]
  apply wpJ_op rfl (by rfl)
  · intro f w1 hf hJ Q1 hQ
    have hS : f 14 = false := path_no hJ.1 [13] (by kernel_rfl) (by decide) hf.1
    rw [hJ.atA hf.1 hS hS]
    simp only [Act.put, List.setIfInBounds_toArray, List.set_cons_zero, List.set_cons_succ] at hQ
    go_wp2_with (fail)
    exact hQ _ _ rfl (hJ.goA rfl hf hS hS (by decide) (by decide))
  simp only [Act.put, List.setIfInBounds_toArray, List.set_cons_zero, List.set_cons_succ]
  apply wpJ_op (v := undef) rfl (by rfl)
  · intro f w1 hf hJ Q1 hQ
    have hA : f 13 = true := up_dep hf 13 (by kernel_rfl)
    rw [hJ.atC hA hf.1 hf.1]
    simp only [Act.put, List.setIfInBounds_toArray, List.set_cons_zero, List.set_cons_succ] at hQ
    go_wp2_with (refine wpList_store_row rfl 25 (.tmp 6) (.tmp 44) rfl w2.heap.size #[.int .i64 10, .int .i64 i, .int .i64 j, .int .i64 q, .int .i64 0, .int .i64 0, .int .i64 0, .string ⟨#[]⟩, .string ⟨#[]⟩] rfl rfl 25 #[Value.int .i64 0, .int .i64 0, .int .i64 0, .int .i64 0, .int .i64 0, .int .i64 0, .int .i64 0, .string ⟨#[]⟩, .string ⟨#[]⟩] (Blk.new w2 _ _).drew infoOpS rfl (by simp [Value.oneCell']) ?_)
    exact hQ _ _ rfl (hJ.goS rfl hf)
  simp only [Act.put, List.setIfInBounds_toArray, List.set_cons_zero, List.set_cons_succ]
  refine wpJ_nil ?_
  intro w9 hJ9
  rw [hJ9.fin rfl]
  clear hJ9
  have HI := Lib.hid (show StI w w2.heap.size #[.int .i64 10, .int .i64 i, .int .i64 j, .int .i64 q, .int .i64 0, .int .i64 0, .int .i64 0, .string ⟨#[]⟩, .string ⟨#[]⟩] w.heap.size false _ from ⟨Blk.row (Blk.new w2 _ _).drew #[.int .i64 10, .int .i64 i, .int .i64 j, .int .i64 q, .int .i64 0, .int .i64 0, .int .i64 0, .string ⟨#[]⟩, .string ⟨#[]⟩], Blk.upd (Upd.row _ _ _) (Blk.below (((Below.refl w2.heap.size w2).alloc (Nat.le_refl _) (.cells zOp 25)).drew) H2.out.1 H2.out.1.lt) (by have := H2.out.1.lt; omega), H2.out.2.trans (((((Below.refl w2.heap.size w2).alloc (Nat.le_refl _) (.cells zOp 25)).drew).trans ((Upd.row _ w2.heap.size #[.int .i64 10, .int .i64 i, .int .i64 j, .int .i64 q, .int .i64 0, .int .i64 0, .int .i64 0, .string ⟨#[]⟩, .string ⟨#[]⟩]).below (by simp [World.drew]) (fun k hk => by omega))).mono H2.out.2.size), by have := H2.out.1.lt; omega, rfl⟩)
  clear CW CA
  go_wp2_with (fail)
  refine region_J (J1 8 (StI w w2.heap.size #[.int .i64 10, .int .i64 i, .int .i64 j, .int .i64 q, .int .i64 0, .int .i64 0, .int .i64 0, .string ⟨#[]⟩, .string ⟨#[]⟩] w.heap.size)) (by kernel_rfl) (by kernel_rfl) (StI.drew HI.out) ?_
  apply wpJ_op rfl (by rfl)
  · intro f w1 hf hJ Q1 hQ
    have g1 := (StI.rd hJ).rd
    simp only [Act.put, List.setIfInBounds_toArray, List.set_cons_zero, List.set_cons_succ] at hQ
    go_wp2_with (fail)
    clear g1
    exact hQ _ _ rfl (hJ.other (by decide))
  simp only [Act.put, List.setIfInBounds_toArray, List.set_cons_zero, List.set_cons_succ]
  apply wpJ_op rfl (by rfl)
  · intro f w1 hf hJ Q1 hQ
    simp only [Act.put, List.setIfInBounds_toArray, List.set_cons_zero, List.set_cons_succ] at hQ
    go_wp2_with (fail)
    exact hQ _ _ rfl (hJ.other (by decide))
  simp only [Act.put, List.setIfInBounds_toArray, List.set_cons_zero, List.set_cons_succ]
  apply wpJ_op rfl (by rfl)
  · intro f w1 hf hJ Q1 hQ
    have g1 := (StI.rd hJ).rd
    simp only [Act.put, List.setIfInBounds_toArray, List.set_cons_zero, List.set_cons_succ] at hQ
    go_wp2_with (fail)
    clear g1
    exact hQ _ _ rfl (hJ.other (by decide))
  simp only [Act.put, List.setIfInBounds_toArray, List.set_cons_zero, List.set_cons_succ]
  apply wpJ_op rfl (by rfl)
  · intro f w1 hf hJ Q1 hQ
    simp only [Act.put, List.setIfInBounds_toArray, List.set_cons_zero, List.set_cons_succ] at hQ
    go_wp2_with (fail)
    exact hQ _ _ rfl (hJ.other (by decide))
  simp only [Act.put, List.setIfInBounds_toArray, List.set_cons_zero, List.set_cons_succ]
  apply wpJ_op rfl (by rfl)
  · intro f w1 hf hJ Q1 hQ
    simp only [Act.put, List.setIfInBounds_toArray, List.set_cons_zero, List.set_cons_succ] at hQ
    go_wp2_with (fail)
    exact hQ _ _ rfl (hJ.other (by decide))
  simp only [Act.put, List.setIfInBounds_toArray, List.set_cons_zero, List.set_cons_succ]
  refine wpJ_skip (by rfl) (fun f w1 hf hJ => hJ.other (by decide)) ?_
  simp only [Act.put, List.setIfInBounds_toArray, List.set_cons_zero, List.set_cons_succ]
  refine wpJ_skip (by rfl) (fun f w1 hf hJ => hJ.other (by decide)) ?_
  simp only [Act.put, List.setIfInBounds_toArray, List.set_cons_zero, List.set_cons_succ]
  apply wpJ_op rfl (by rfl)
  · intro f w1 hf hJ Q1 hQ
    simp only [Act.put, List.setIfInBounds_toArray, List.set_cons_zero, List.set_cons_succ] at hQ
    go_wp2_with (fail)
    exact hQ _ _ rfl (hJ.other (by decide))
  simp only [Act.put, List.setIfInBounds_toArray, List.set_cons_zero, List.set_cons_succ]
  apply wpJ_op (v := undef) rfl (by rfl)
  · intro f w1 hf hJ Q1 hQ
    have h1 := hJ.here hf.1
    simp only [Act.put, List.setIfInBounds_toArray, List.set_cons_zero, List.set_cons_succ] at hQ
    go_wp2_with (refine wpList_store_row rfl 25 (.tmp 2) (.tmp 45) rfl w.heap.size #[.int .i64 10, .int .i64 i, .int .i64 j, .int .i64 q, .int .i64 0, .int .i64 0, .int .i64 0, .string ⟨#[]⟩, .string ⟨#[]⟩] rfl rfl 25 #[Value.int .i64 0, .int .i64 0, .int .i64 0, .int .i64 0, .int .i64 0, .int .i64 0, .int .i64 0, .string ⟨#[]⟩, .string ⟨#[]⟩] h1.2.1 infoOpS rfl (by simp [Value.oneCell']) ?_)
    exact hQ _ _ rfl (J1.fin h1.row)
  simp only [Act.put, List.setIfInBounds_toArray, List.set_cons_zero, List.set_cons_succ]
  apply wpJ_op rfl (by rfl)
  · intro f w1 hf hJ Q1 hQ
    simp only [Act.put, List.setIfInBounds_toArray, List.set_cons_zero, List.set_cons_succ] at hQ
    go_wp2_with (fail)
    exact hQ _ _ rfl (hJ.other (by decide))
  simp only [Act.put, List.setIfInBounds_toArray, List.set_cons_zero, List.set_cons_succ]
  refine wpJ_nil ?_
  intro w9 hJ9
  have h9 := hJ9.over rfl
  clear hJ9
  go_wp2_with (fail)
  refine bodyPost_ret (results_cell1 rfl _ _ w.heap.size _ #[.int .i64 10, .int .i64 i, .int .i64 j, .int .i64 q, .int .i64 0, .int .i64 0, .int .i64 0, .string ⟨#[]⟩, .string ⟨#[]⟩] _ rfl h9.2.1 Tryz.underlying25 rfl infoOpS) rfl ?_
  exact hP.out _ _ rfl h9.2.2.1
set_option maxRecDepth 100000 in
set_option maxHeartbeats 2000000 in
theorem rst_op_may {w : World} {a : Option Addr} {x1 x2 x3 x4 : Txt} (c : Nat) (hr : RdT w a [opW, x1, x2, x3, x4]) (hc : 5 ≤ c) (hl : ∀ y ∈ [opW, x1, x2, x3, x4], y.length ≤ 100000) {k i j q : Int} (hk : k ≠ 10) (hns : numsF [x1, x2, x3, x4] = some [k, i, j, q]) :
    Calls Tryz.prog 71 #[.slice a 5 c] w (RStV [opW, x1, x2, x3, x4] w) := by
  obtain ⟨bm, hbm⟩ : ∃ bm, mayO (opNums k i j q) = bm := ⟨_, rfl⟩
  have hP := Lib.hid (fun w' v hv hb => RStV.yes (w := w) (w' := w') (ws := [opW, x1, x2, x3, x4]) (v := v) (o := opNums k i j q) (b := bm) hv (by rw [stepF_op, hns]; simp [hk, hbm]) hb)
  have hmay := rmay_is hbm
  simp only [opV, opNums] at hmay
  have dk : (k != 10) = true := by simpa using hk
  obtain ⟨g, oo, rfl, k0⟩ := hr 0 opW rfl
  rw [Nat.add_zero] at k0
  have hb0 : Below w.heap.size w (w.alloc (.cells zOp 25)) := (Below.refl _ _).alloc (Nat.le_refl _) _
  have hr1 := hr.below hb0
  obtain ⟨g1, o1, e1, k1⟩ := hr1 0 opW rfl
  simp only [Option.some.injEq, Addr.mk.injEq, and_true] at e1
  obtain ⟨rfl, rfl⟩ := e1
  rw [Nat.add_zero] at k1
  have c1 : ¬ c = 1 := by omega
  have c2 : ¬ c - 1 = 0 := by omega
  have c3 : ((c - 1 : Nat) == 0) = false := by simp; omega
  have c4 : 1 ≤ c := by omega
  have c5 : 4 ≤ c := by omega
  have hnum := rnumbers_is (ws := [x1, x2, x3, x4]) 4 (c - 1) hr1.tl rfl (by omega) (fun y hy => by have := hl y (List.mem_cons_of_mem _ hy); omega)
  unfold NumsV at hnum
  rw [hns] at hnum
  have HB0 := Lib.hid hb0
  clear hr hr1 hl hns hb0
  clear hbm
  go_enter Tryz.func71, Tryz.ntmps71
  go_wp2_with (go_at_call 72; (with_reducible refine hnum.mono ?_); rintro e w2 ⟨hb2, v2, b2, rfl, hI, hbI⟩; obtain ⟨g9, c9, rfl, hg9, hc9, hrd⟩ := hI.some_of (by simp); have r0 := hrd 0 k rfl; have r1 := hrd 1 i rfl; have r2 := hrd 2 j rfl; have r3 := hrd 3 q rfl; simp only [List.length_cons, List.length_nil, Nat.zero_add, Nat.reduceAdd] at hc9 ⊢; have hz := Blk.below hb2 (Blk.new w zOp 25) (by simp); have H2 := Lib.hid (And.intro hz (HB0.out.trans (hb2.mono HB0.out.size))); have hgl := hI.lt g9 hg9; clear hb2 hnum hz hI hbI hrd)
  have hab := ((Below.refl w2.heap.size w2).alloc (Nat.le_refl _) (.cells zOp 25)).drew
  have CW := Lib.hid (And.intro r0 (And.intro r1 (And.intro r2 r3)))
  have CA := Lib.hid (And.intro ((hab.cell (p := ⟨g9, 0, none⟩) hgl).trans r0) (And.intro ((hab.cell (p := ⟨g9, 1, none⟩) hgl).trans r1) (And.intro ((hab.cell (p := ⟨g9, 2, none⟩) hgl).trans r2) ((hab.cell (p := ⟨g9, 3, none⟩) hgl).trans r3))))
  clear r0 r1 r2 r3 hab hgl
  refine region_K 13 14 14 (w2.drew) ((w2.alloc (.cells #[Value.int .i64 0, .int .i64 0, .int .i64 0, .int .i64 0, .int .i64 0, .int .i64 0, .int .i64 0, .string ⟨#[]⟩, .string ⟨#[]⟩] 25)).drew) (((w2.alloc (.cells #[Value.int .i64 0, .int .i64 0, .int .i64 0, .int .i64 0, .int .i64 0, .int .i64 0, .int .i64 0, .string ⟨#[]⟩, .string ⟨#[]⟩] 25)).drew).setRow w2.heap.size #[.int .i64 k, .int .i64 i, .int .i64 j, .int .i64 q, .int .i64 0, .int .i64 0, .int .i64 0, .string ⟨#[]⟩, .string ⟨#[]⟩]) (((w2.alloc (.cells #[Value.int .i64 0, .int .i64 0, .int .i64 0, .int .i64 0, .int .i64 0, .int .i64 0, .int .i64 0, .string ⟨#[]⟩, .string ⟨#[]⟩] 25)).drew).setRow w2.heap.size #[.int .i64 k, .int .i64 i, .int .i64 j, .int .i64 q, .int .i64 0, .int .i64 0, .int .i64 0, .string ⟨#[]⟩, .string ⟨#[]⟩]) rfl (by kernel_rfl) (by kernel_rfl) ?_
  apply wpJ_op rfl (by rfl)
  · intro f w1 hf hJ Q1 hQ
    simp only [Act.put, List.setIfInBounds_toArray, List.set_cons_zero, List.set_cons_succ] at hQ
    go_wp2_with (fail)
    exact hQ _ _ rfl (hJ.other rfl hf (by decide) (by decide) (by decide))
  simp only [Act.put, List.setIfInBounds_toArray, List.set_cons_zero, List.set_cons_succ]
  apply wpJ_op rfl (by rfl)
  · intro f w1 hf hJ Q1 hQ
    simp only [Act.put, List.setIfInBounds_toArray, List.set_cons_zero, List.set_cons_succ] at hQ
    go_wp2_with (fail)
    exact hQ _ _ rfl (hJ.other rfl hf (by decide) (by decide) (by decide))
  simp only [Act.put, List.setIfInBounds_toArray, List.set_cons_zero, List.set_cons_succ]
  apply wpJ_op rfl (by rfl)
  · intro f w1 hf hJ Q1 hQ
    have hS : f 14 = false := path_no hJ.1 [12, 2] (by kernel_rfl) (by decide) hf.1
    have hF := KJ.pre2 (F := (fun x : World => x.cell? ⟨g9, 0, none⟩ = some (.int .i64 k) ∧ x.cell? ⟨g9, 1, none⟩ = some (.int .i64 i) ∧ x.cell? ⟨g9, 2, none⟩ = some (.int .i64 j) ∧ x.cell? ⟨g9, 3, none⟩ = some (.int .i64 q))) hJ hS CW.out CA.out
    have g1 := hF.1
    clear hF
    simp only [Act.put, List.setIfInBounds_toArray, List.set_cons_zero, List.set_cons_succ] at hQ
    go_wp2_with (fail)
    exact hQ _ _ rfl (hJ.other rfl hf (by decide) (by decide) (by decide))
  simp only [Act.put, List.setIfInBounds_toArray, List.set_cons_zero, List.set_cons_succ]
  apply wpJ_op rfl (by rfl)
  · intro f w1 hf hJ Q1 hQ
    simp only [Act.put, List.setIfInBounds_toArray, List.set_cons_zero, List.set_cons_succ] at hQ
    go_wp2_with (fail)
    exact hQ _ _ rfl (hJ.other rfl hf (by decide) (by decide) (by decide))
  simp only [Act.put, List.setIfInBounds_toArray, List.set_cons_zero, List.set_cons_succ]
  apply wpJ_op rfl (by rfl)
  · intro f w1 hf hJ Q1 hQ
    simp only [Act.put, List.setIfInBounds_toArray, List.set_cons_zero, List.set_cons_succ] at hQ
    go_wp2_with (fail)
    exact hQ _ _ rfl (hJ.other rfl hf (by decide) (by decide) (by decide))
  simp only [Act.put, List.setIfInBounds_toArray, List.set_cons_zero, List.set_cons_succ]
  apply wpJ_op rfl (by rfl)
  · intro f w1 hf hJ Q1 hQ
    have hS : f 14 = false := path_no hJ.1 [12, 5] (by kernel_rfl) (by decide) hf.1
    have hF := KJ.pre2 (F := (fun x : World => x.cell? ⟨g9, 0, none⟩ = some (.int .i64 k) ∧ x.cell? ⟨g9, 1, none⟩ = some (.int .i64 i) ∧ x.cell? ⟨g9, 2, none⟩ = some (.int .i64 j) ∧ x.cell? ⟨g9, 3, none⟩ = some (.int .i64 q))) hJ hS CW.out CA.out
    have g1 := hF.2.1
    clear hF
    simp only [Act.put, List.setIfInBounds_toArray, List.set_cons_zero, List.set_cons_succ] at hQ
    go_wp2_with (fail)
    exact hQ _ _ rfl (hJ.other rfl hf (by decide) (by decide) (by decide))
  simp only [Act.put, List.setIfInBounds_toArray, List.set_cons_zero, List.set_cons_succ]
  apply wpJ_op rfl (by rfl)
  · intro f w1 hf hJ Q1 hQ
    simp only [Act.put, List.setIfInBounds_toArray, List.set_cons_zero, List.set_cons_succ] at hQ
    go_wp2_with (fail)
    exact hQ _ _ rfl (hJ.other rfl hf (by decide) (by decide) (by decide))
  simp only [Act.put, List.setIfInBounds_toArray, List.set_cons_zero, List.set_cons_succ]
  apply wpJ_op rfl (by rfl)
  · intro f w1 hf hJ Q1 hQ
    simp only [Act.put, List.setIfInBounds_toArray, List.set_cons_zero, List.set_cons_succ] at hQ
    go_wp2_with (fail)
    exact hQ _ _ rfl (hJ.other rfl hf (by decide) (by decide) (by decide))
  simp only [Act.put, List.setIfInBounds_toArray, List.set_cons_zero, List.set_cons_succ]
  apply wpJ_op rfl (by rfl)
  · intro f w1 hf hJ Q1 hQ
    have hS : f 14 = false := path_no hJ.1 [12, 8] (by kernel_rfl) (by decide) hf.1
    have hF := KJ.pre2 (F := (fun x : World => x.cell? ⟨g9, 0, none⟩ = some (.int .i64 k) ∧ x.cell? ⟨g9, 1, none⟩ = some (.int .i64 i) ∧ x.cell? ⟨g9, 2, none⟩ = some (.int .i64 j) ∧ x.cell? ⟨g9, 3, none⟩ = some (.int .i64 q))) hJ hS CW.out CA.out
    have g1 := hF.2.2.1
    clear hF
    simp only [Act.put, List.setIfInBounds_toArray, List.set_cons_zero, List.set_cons_succ] at hQ
    go_wp2_with (fail)
    exact hQ _ _ rfl (hJ.other rfl hf (by decide) (by decide) (by decide))
  simp only [Act.put, List.setIfInBounds_toArray, List.set_cons_zero, List.set_cons_succ]
  apply wpJ_op rfl (by rfl)
  · intro f w1 hf hJ Q1 hQ
    simp only [Act.put, List.setIfInBounds_toArray, List.set_cons_zero, List.set_cons_succ] at hQ
    go_wp2_with (fail)
    exact hQ _ _ rfl (hJ.other rfl hf (by decide) (by decide) (by decide))
  simp only [Act.put, List.setIfInBounds_toArray, List.set_cons_zero, List.set_cons_succ]
  apply wpJ_op rfl (by rfl)
  · intro f w1 hf hJ Q1 hQ
    simp only [Act.put, List.setIfInBounds_toArray, List.set_cons_zero, List.set_cons_succ] at hQ
    go_wp2_with (fail)
    exact hQ _ _ rfl (hJ.other rfl hf (by decide) (by decide) (by decide))
  simp only [Act.put, List.setIfInBounds_toArray, List.set_cons_zero, List.set_cons_succ]
  apply wpJ_op rfl (by rfl)
  · intro f w1 hf hJ Q1 hQ
    have hS : f 14 = false := path_no hJ.1 [12, 11] (by kernel_rfl) (by decide) hf.1
    have hF := KJ.pre2 (F := (fun x : World => x.cell? ⟨g9, 0, none⟩ = some (.int .i64 k) ∧ x.cell? ⟨g9, 1, none⟩ = some (.int .i64 i) ∧ x.cell? ⟨g9, 2, none⟩ = some (.int .i64 j) ∧ x.cell? ⟨g9, 3, none⟩ = some (.int .i64 q))) hJ hS CW.out CA.out
    have g1 := hF.2.2.2
    clear hF
    simp only [Act.put, List.setIfInBounds_toArray, List.set_cons_zero, List.set_cons_succ] at hQ
    go_wp2_with (fail)
    exact hQ _ _ rfl (hJ.other rfl hf (by decide) (by decide) (by decide))
  simp only [Act.put, List.setIfInBounds_toArray, List.set_cons_zero, List.set_cons_succ]
  apply wpJ_op rfl (by rfl)
  · intro f w1 hf hJ Q1 hQ
    simp only [Act.put, List.setIfInBounds_toArray, List.set_cons_zero, List.set_cons_succ] at hQ
    go_wp2_with (fail)
    exact hQ _ _ rfl (hJ.other rfl hf (by decide) (by decide) (by decide))
  simp only [Act.put, List.setIfInBounds_toArray, List.set_cons_zero, List.set_cons_succ]
  apply wpJ_op rfl (by rfl)
  · intro f w1 hf hJ Q1 hQ
    have hS : f 14 = false := path_no hJ.1 [13] (by kernel_rfl) (by decide) hf.1
    rw [hJ.atA hf.1 hS hS]
    simp only [Act.put, List.setIfInBounds_toArray, List.set_cons_zero, List.set_cons_succ] at hQ
    go_wp2_with (fail)
    exact hQ _ _ rfl (hJ.goA rfl hf hS hS (by decide) (by decide))
  simp only [Act.put, List.setIfInBounds_toArray, List.set_cons_zero, List.set_cons_succ]
  apply wpJ_op (v := undef) rfl (by rfl)
  · intro f w1 hf hJ Q1 hQ
    have hA : f 13 = true := up_dep hf 13 (by kernel_rfl)
    rw [hJ.atC hA hf.1 hf.1]
    simp only [Act.put, List.setIfInBounds_toArray, List.set_cons_zero, List.set_cons_succ] at hQ
    go_wp2_with (refine wpList_store_row rfl 25 (.tmp 6) (.tmp 44) rfl w2.heap.size #[.int .i64 k, .int .i64 i, .int .i64 j, .int .i64 q, .int .i64 0, .int .i64 0, .int .i64 0, .string ⟨#[]⟩, .string ⟨#[]⟩] rfl rfl 25 #[Value.int .i64 0, .int .i64 0, .int .i64 0, .int .i64 0, .int .i64 0, .int .i64 0, .int .i64 0, .string ⟨#[]⟩, .string ⟨#[]⟩] (Blk.new w2 _ _).drew infoOpS rfl (by simp [Value.oneCell']) ?_)
    exact hQ _ _ rfl (hJ.goS rfl hf)
  simp only [Act.put, List.setIfInBounds_toArray, List.set_cons_zero, List.set_cons_succ]
  refine wpJ_nil ?_
  intro w9 hJ9
  rw [hJ9.fin rfl]
  clear hJ9
  have HI := Lib.hid (show StI w w2.heap.size #[.int .i64 k, .int .i64 i, .int .i64 j, .int .i64 q, .int .i64 0, .int .i64 0, .int .i64 0, .string ⟨#[]⟩, .string ⟨#[]⟩] w.heap.size false _ from ⟨Blk.row (Blk.new w2 _ _).drew #[.int .i64 k, .int .i64 i, .int .i64 j, .int .i64 q, .int .i64 0, .int .i64 0, .int .i64 0, .string ⟨#[]⟩, .string ⟨#[]⟩], Blk.upd (Upd.row _ _ _) (Blk.below (((Below.refl w2.heap.size w2).alloc (Nat.le_refl _) (.cells zOp 25)).drew) H2.out.1 H2.out.1.lt) (by have := H2.out.1.lt; omega), H2.out.2.trans (((((Below.refl w2.heap.size w2).alloc (Nat.le_refl _) (.cells zOp 25)).drew).trans ((Upd.row _ w2.heap.size #[.int .i64 k, .int .i64 i, .int .i64 j, .int .i64 q, .int .i64 0, .int .i64 0, .int .i64 0, .string ⟨#[]⟩, .string ⟨#[]⟩]).below (by simp [World.drew]) (fun k hk => by omega))).mono H2.out.2.size), by have := H2.out.1.lt; omega, rfl⟩)
  clear CW CA
  go_wp2_with (fail)
  refine region_J (J1 8 (StI w w2.heap.size #[.int .i64 k, .int .i64 i, .int .i64 j, .int .i64 q, .int .i64 0, .int .i64 0, .int .i64 0, .string ⟨#[]⟩, .string ⟨#[]⟩] w.heap.size)) (by kernel_rfl) (by kernel_rfl) (StI.drew HI.out) ?_
  apply wpJ_op rfl (by rfl)
  · intro f w1 hf hJ Q1 hQ
    have g1 := (StI.rd hJ).rd
    simp only [Act.put, List.setIfInBounds_toArray, List.set_cons_zero, List.set_cons_succ] at hQ
    go_wp2_with (fail)
    clear g1
    exact hQ _ _ rfl (hJ.other (by decide))
  simp only [Act.put, List.setIfInBounds_toArray, List.set_cons_zero, List.set_cons_succ]
  apply wpJ_op rfl (by rfl)
  · intro f w1 hf hJ Q1 hQ
    simp only [Act.put, List.setIfInBounds_toArray, List.set_cons_zero, List.set_cons_succ] at hQ
    go_wp2_with (fail)
    exact hQ _ _ rfl (hJ.other (by decide))
  simp only [Act.put, List.setIfInBounds_toArray, List.set_cons_zero, List.set_cons_succ]
  apply wpJ_op rfl (by rfl)
  · intro f w1 hf hJ Q1 hQ
    have g1 := (StI.rd hJ).rd
    simp only [Act.put, List.setIfInBounds_toArray, List.set_cons_zero, List.set_cons_succ] at hQ
    go_wp2_with (fail)
    clear g1
    exact hQ _ _ rfl (hJ.other (by decide))
  simp only [Act.put, List.setIfInBounds_toArray, List.set_cons_zero, List.set_cons_succ]
  apply wpJ_op rfl (by rfl)
  · intro f w1 hf hJ Q1 hQ
    simp only [Act.put, List.setIfInBounds_toArray, List.set_cons_zero, List.set_cons_succ] at hQ
    go_wp2_with (fail)
    exact hQ _ _ rfl (hJ.other (by decide))
  simp only [Act.put, List.setIfInBounds_toArray, List.set_cons_zero, List.set_cons_succ]
  apply wpJ_op rfl (by rfl)
  · intro f w1 hf hJ Q1 hQ
    simp only [Act.put, List.setIfInBounds_toArray, List.set_cons_zero, List.set_cons_succ] at hQ
    go_wp2_with (fail)
    exact hQ _ _ rfl (hJ.other (by decide))
  simp only [Act.put, List.setIfInBounds_toArray, List.set_cons_zero, List.set_cons_succ]
  apply wpJ_op rfl (by rfl)
  · intro f w1 hf hJ Q1 hQ
    have g1 := (StI.rd hJ).rd
    simp only [Act.put, List.setIfInBounds_toArray, List.set_cons_zero, List.set_cons_succ] at hQ
    go_wp2_with (fail)
    clear g1
    exact hQ _ _ rfl (hJ.other (by decide))
  simp only [Act.put, List.setIfInBounds_toArray, List.set_cons_zero, List.set_cons_succ]
  apply wpJ_op rfl (by rfl)
  · intro f w1 hf hJ Q1 hQ
    simp only [Act.put, List.setIfInBounds_toArray, List.set_cons_zero, List.set_cons_succ] at hQ
    go_wp2_with (go_at_call 26; (with_reducible refine (hmay _).mono ?_); rintro e w8 ⟨rfl, hb8⟩)
    exact hQ _ _ rfl (J1.other (StI.bel hJ hb8) (by decide))
  simp only [Act.put, List.setIfInBounds_toArray, List.set_cons_zero, List.set_cons_succ]
  apply wpJ_op rfl (by rfl)
  · intro f w1 hf hJ Q1 hQ
    simp only [Act.put, List.setIfInBounds_toArray, List.set_cons_zero, List.set_cons_succ] at hQ
    go_wp2_with (fail)
    exact hQ _ _ rfl (hJ.other (by decide))
  simp only [Act.put, List.setIfInBounds_toArray, List.set_cons_zero, List.set_cons_succ]
  apply wpJ_op (v := undef) rfl (by rfl)
  · intro f w1 hf hJ Q1 hQ
    have h1 := hJ.here hf.1
    simp only [Act.put, List.setIfInBounds_toArray, List.set_cons_zero, List.set_cons_succ] at hQ
    go_wp2_with (refine wpList_store_row rfl 25 (.tmp 2) (.tmp 45) rfl w.heap.size #[.int .i64 k, .int .i64 i, .int .i64 j, .int .i64 q, .int .i64 0, .int .i64 0, .int .i64 0, .string ⟨#[]⟩, .string ⟨#[]⟩] rfl rfl 25 #[Value.int .i64 0, .int .i64 0, .int .i64 0, .int .i64 0, .int .i64 0, .int .i64 0, .int .i64 0, .string ⟨#[]⟩, .string ⟨#[]⟩] h1.2.1 infoOpS rfl (by simp [Value.oneCell']) ?_)
    exact hQ _ _ rfl (J1.fin h1.row)
  simp only [Act.put, List.setIfInBounds_toArray, List.set_cons_zero, List.set_cons_succ]
  apply wpJ_op rfl (by rfl)
  · intro f w1 hf hJ Q1 hQ
    simp only [Act.put, List.setIfInBounds_toArray, List.set_cons_zero, List.set_cons_succ] at hQ
    go_wp2_with (fail)
    exact hQ _ _ rfl (hJ.other (by decide))
  simp only [Act.put, List.setIfInBounds_toArray, List.set_cons_zero, List.set_cons_succ]
  refine wpJ_nil ?_
  intro w9 hJ9
  have h9 := hJ9.over rfl
  clear hJ9
  go_wp2_with (fail)
  refine bodyPost_ret (results_cell1 rfl _ _ w.heap.size _ #[.int .i64 k, .int .i64 i, .int .i64 j, .int .i64 q, .int .i64 0, .int .i64 0, .int .i64 0, .string ⟨#[]⟩, .string ⟨#[]⟩] _ rfl h9.2.1 Tryz.underlying25 rfl infoOpS) rfl ?_
  exact hP.out _ _ rfl h9.2.2.1
theorem runquote_ev (l : Txt) (w : World) (hl : l.length ≤ 100000) : Calls Tryz.prog 84 #[.string (B l)] w (fun e w2 => ∃ t : Txt, e = .returned (.tuple #[.string (B t), .bool (unquoteF l).isSome]) ∧ (∀ x, unquoteF l = some x → t = x) ∧ Below w.heap.size w w2) := runquote_is l w hl
set_option maxRecDepth 100000 in
set_option maxHeartbeats 2000000 in
theorem rst_call_no {w : World} {a : Option Addr} {x1 x2 x3 x4 x5 : Txt} (c : Nat) (hr : RdT w a [callW, x1, x2, x3, x4, x5]) (hc : 6 ≤ c) (hl : ∀ y ∈ [callW, x1, x2, x3, x4, x5], y.length ≤ 100000) (hns : numsF [x1, x2, x3] = none) :
    Calls Tryz.prog 71 #[.slice a 6 c] w (RStV [callW, x1, x2, x3, x4, x5] w) := by
  have hP := Lib.hid (fun w' hb => RStV.no (w := w) (w' := w') (ws := [callW, x1, x2, x3, x4, x5]) (by rw [stepF_call]; simp only [hns]) hb)
  obtain ⟨g, oo, rfl, k0⟩ := hr 0 callW rfl
  rw [Nat.add_zero] at k0
  have hb0 : Below w.heap.size w (w.alloc (.cells zOp 25)) := (Below.refl _ _).alloc (Nat.le_refl _) _
  have hr1 := hr.below hb0
  obtain ⟨g1, o1, e1, k1⟩ := hr1 0 callW rfl
  simp only [Option.some.injEq, Addr.mk.injEq, and_true] at e1
  obtain ⟨rfl, rfl⟩ := e1
  rw [Nat.add_zero] at k1
  have c1 : ¬ c = 1 := by omega
  have c2 : ¬ c - 1 = 0 := by omega
  have c3 : ((c - 1 : Nat) == 0) = false := by simp; omega
  have c4 : 1 ≤ c := by omega
  have c5 : 4 ≤ c := by omega
  have hnum := rnumbers_is (ws := [x1, x2, x3]) 3 (c - 1) (show RdT (w.alloc (.cells zOp 25)) (some ⟨g, oo + 1, none⟩) [x1, x2, x3] from fun k y hy => hr1.tl k y (by
    match k, hy with
    | 0, hy => exact hy
    | 1, hy => exact hy
    | 2, hy => exact hy)) rfl (by omega) (fun y hy => by have := hl y (by simp at hy; rcases hy with rfl | rfl | rfl <;> simp); omega)
  unfold NumsV at hnum
  rw [hns] at hnum
  have hu4 := fun w' => runquote_ev x4 w' (hl x4 (by simp))
  have hu5 := fun w' => runquote_ev x5 w' (hl x5 (by simp))
  generalize (unquoteF x4).isSome = b4 at hu4
  generalize (unquoteF x5).isSome = b5 at hu5
  try simp only [Option.isSome_none, Option.isSome_some] at hu4 hu5
  have HB0 := Lib.hid (And.intro hb0 hr1)
  clear hr hr1 hl hns hb0 
  go_enter Tryz.func71, Tryz.ntmps71
  go_wp2_with (first
    | (go_at_call 72; refine hnum.mono ?_; rintro e w1 ⟨hb1, rfl⟩; obtain ⟨g1, o1, e1, q3⟩ := (HB0.out.2.below hb1) 4 x4 rfl; simp only [Option.some.injEq, Addr.mk.injEq, and_true] at e1; obtain ⟨rfl, rfl⟩ := e1; have H1 := Lib.hid hb1; clear hb1 hnum)
    | (go_at_call 84; (with_reducible refine (hu4 _).mono ?_); rintro e w2 ⟨t4, rfl, ht4, hb2⟩; obtain ⟨g1, o1, e1, q4⟩ := (HB0.out.2.below (H1.out.trans (hb2.mono H1.out.size))) 5 x5 rfl; simp only [Option.some.injEq, Addr.mk.injEq, and_true] at e1; obtain ⟨rfl, rfl⟩ := e1; have H2 := Lib.hid (And.intro hb2 ht4); clear hb2 ht4 hu4 q3)
    | (go_at_call 84; (with_reducible refine (hu5 _).mono ?_); rintro e w3 ⟨t5, rfl, ht5, hb3⟩; have H3 := Lib.hid (And.intro hb3 ht5); clear hb3 ht5 hu5 q4)
    | (refine wpList_store_row rfl 25 (.tmp 2) (.tmp 92) rfl w.heap.size zOp rfl rfl 25 zOp (Blk.below (H1.out.trans ((H2.out.1.mono H1.out.size).trans (H3.out.1.mono (Nat.le_trans H1.out.size H2.out.1.size)))) (Blk.new w zOp 25) (by simp)) infoOpS rfl (by simp [Value.oneCell']) ?_))
  have hbw1 := H1.out.trans ((H2.out.1.mono H1.out.size).trans (H3.out.1.mono (Nat.le_trans H1.out.size H2.out.1.size)))
  have hbr := Blk.below hbw1 (Blk.new w zOp 25) (by simp)
  have hbw : Below w.heap.size w w3 := HB0.out.1.trans (hbw1.mono HB0.out.1.size)
  refine bodyPost_ret (results_cell1 rfl _ _ w.heap.size _ zOp _ rfl (Blk.row hbr _) Tryz.underlying25 rfl infoOpS) rfl ?_
  exact hP.out _ (hbw.trans ((Upd.row _ _ _).below hbw.size (fun k hk => by omega)))
set_option maxRecDepth 100000 in
set_option maxHeartbeats 2000000 in
theorem rst_call_one {w : World} {a : Option Addr} {x1 x2 x3 x4 x5 : Txt} (c : Nat) (hr : RdT w a [callW, x1, x2, x3, x4, x5]) (hc : 6 ≤ c) (hl : ∀ y ∈ [callW, x1, x2, x3, x4, x5], y.length ≤ 100000) {y p q : Int} (hns : numsF [x1, x2, x3] = some [y, p, q]) (hu : unquoteF x4 = none) :
    Calls Tryz.prog 71 #[.slice a 6 c] w (RStV [callW, x1, x2, x3, x4, x5] w) := by
  have hP := Lib.hid (fun w' hb => RStV.no (w := w) (w' := w') (ws := [callW, x1, x2, x3, x4, x5]) (by rw [stepF_call]; simp only [hns, hu]) hb)
  obtain ⟨g, oo, rfl, k0⟩ := hr 0 callW rfl
  rw [Nat.add_zero] at k0
  have hb0 : Below w.heap.size w (w.alloc (.cells zOp 25)) := (Below.refl _ _).alloc (Nat.le_refl _) _
  have hr1 := hr.below hb0
  obtain ⟨g1, o1, e1, k1⟩ := hr1 0 callW rfl
  simp only [Option.some.injEq, Addr.mk.injEq, and_true] at e1
  obtain ⟨rfl, rfl⟩ := e1
  rw [Nat.add_zero] at k1
  have c1 : ¬ c = 1 := by omega
  have c2 : ¬ c - 1 = 0 := by omega
  have c3 : ((c - 1 : Nat) == 0) = false := by simp; omega
  have c4 : 1 ≤ c := by omega
  have c5 : 4 ≤ c := by omega
  have hnum := rnumbers_is (ws := [x1, x2, x3]) 3 (c - 1) (show RdT (w.alloc (.cells zOp 25)) (some ⟨g, oo + 1, none⟩) [x1, x2, x3] from fun k y hy => hr1.tl k y (by
    match k, hy with
    | 0, hy => exact hy
    | 1, hy => exact hy
    | 2, hy => exact hy)) rfl (by omega) (fun y hy => by have := hl y (by simp at hy; rcases hy with rfl | rfl | rfl <;> simp); omega)
  unfold NumsV at hnum
  rw [hns] at hnum
  have hu4 := fun w' => runquote_ev x4 w' (hl x4 (by simp))
  have hu5 := fun w' => runquote_ev x5 w' (hl x5 (by simp))
  simp only [hu] at hu4
  generalize (unquoteF x5).isSome = b5 at hu5
  try simp only [Option.isSome_none, Option.isSome_some] at hu4 hu5
  have HB0 := Lib.hid (And.intro hb0 hr1)
  clear hr hr1 hl hns hb0 hu
  go_enter Tryz.func71, Tryz.ntmps71
  go_wp2_with (first
    | (go_at_call 72; refine hnum.mono ?_; rintro e w1 ⟨hb1, v1, b1, rfl, hI, hbI⟩; obtain ⟨a9, c9, rfl⟩ := hI.slice; have HI0 := Lib.hid (And.intro hI hbI); clear hI hbI; obtain ⟨g1, o1, e1, q3⟩ := (HB0.out.2.below hb1) 4 x4 rfl; simp only [Option.some.injEq, Addr.mk.injEq, and_true] at e1; obtain ⟨rfl, rfl⟩ := e1; have H1 := Lib.hid hb1; clear hb1 hnum)
    | (go_at_call 84; (with_reducible refine (hu4 _).mono ?_); rintro e w2 ⟨t4, rfl, ht4, hb2⟩; obtain ⟨g1, o1, e1, q4⟩ := (HB0.out.2.below (H1.out.trans (hb2.mono H1.out.size))) 5 x5 rfl; simp only [Option.some.injEq, Addr.mk.injEq, and_true] at e1; obtain ⟨rfl, rfl⟩ := e1; have H2 := Lib.hid (And.intro hb2 ht4); clear hb2 ht4 hu4 q3)
    | (go_at_call 84; (with_reducible refine (hu5 _).mono ?_); rintro e w3 ⟨t5, rfl, ht5, hb3⟩; have H3 := Lib.hid (And.intro hb3 ht5); clear hb3 ht5 hu5 q4)
    | (refine wpList_store_row rfl 25 (.tmp 2) (.tmp 92) rfl w.heap.size zOp rfl rfl 25 zOp (Blk.below (H1.out.trans ((H2.out.1.mono H1.out.size).trans (H3.out.1.mono (Nat.le_trans H1.out.size H2.out.1.size)))) (Blk.new w zOp 25) (by simp)) infoOpS rfl (by simp [Value.oneCell']) ?_))
  have hbw1 := H1.out.trans ((H2.out.1.mono H1.out.size).trans (H3.out.1.mono (Nat.le_trans H1.out.size H2.out.1.size)))
  have hbr := Blk.below hbw1 (Blk.new w zOp 25) (by simp)
  have hbw : Below w.heap.size w w3 := HB0.out.1.trans (hbw1.mono HB0.out.1.size)
  refine bodyPost_ret (results_cell1 rfl _ _ w.heap.size _ zOp _ rfl (Blk.row hbr _) Tryz.underlying25 rfl infoOpS) rfl ?_
  exact hP.out _ (hbw.trans ((Upd.row _ _ _).below hbw.size (fun k hk => by omega)))
set_option maxRecDepth 100000 in
set_option maxHeartbeats 2000000 in
theorem rst_call_two {w : World} {a : Option Addr} {x1 x2 x3 x4 x5 : Txt} (c : Nat) (hr : RdT w a [callW, x1, x2, x3, x4, x5]) (hc : 6 ≤ c) (hl : ∀ y ∈ [callW, x1, x2, x3, x4, x5], y.length ≤ 100000) {y p q : Int} (hns : numsF [x1, x2, x3] = some [y, p, q]) {s : Txt} (hu : unquoteF x4 = some s) (hv : unquoteF x5 = none) :
    Calls Tryz.prog 71 #[.slice a 6 c] w (RStV [callW, x1, x2, x3, x4, x5] w) := by
  have hP := Lib.hid (fun w' hb => RStV.no (w := w) (w' := w') (ws := [callW, x1, x2, x3, x4, x5]) (by rw [stepF_call]; simp only [hns, hu, hv]) hb)
  obtain ⟨g, oo, rfl, k0⟩ := hr 0 callW rfl
  rw [Nat.add_zero] at k0
  have hb0 : Below w.heap.size w (w.alloc (.cells zOp 25)) := (Below.refl _ _).alloc (Nat.le_refl _) _
  have hr1 := hr.below hb0
  obtain ⟨g1, o1, e1, k1⟩ := hr1 0 callW rfl
  simp only [Option.some.injEq, Addr.mk.injEq, and_true] at e1
  obtain ⟨rfl, rfl⟩ := e1
  rw [Nat.add_zero] at k1
  have c1 : ¬ c = 1 := by omega
  have c2 : ¬ c - 1 = 0 := by omega
  have c3 : ((c - 1 : Nat) == 0) = false := by simp; omega
  have c4 : 1 ≤ c := by omega
  have c5 : 4 ≤ c := by omega
  have hnum := rnumbers_is (ws := [x1, x2, x3]) 3 (c - 1) (show RdT (w.alloc (.cells zOp 25)) (some ⟨g, oo + 1, none⟩) [x1, x2, x3] from fun k y hy => hr1.tl k y (by
    match k, hy with
    | 0, hy => exact hy
    | 1, hy => exact hy
    | 2, hy => exact hy)) rfl (by omega) (fun y hy => by have := hl y (by simp at hy; rcases hy with rfl | rfl | rfl <;> simp); omega)
  unfold NumsV at hnum
  rw [hns] at hnum
  have hu4 := fun w' => runquote_ev x4 w' (hl x4 (by simp))
  have hu5 := fun w' => runquote_ev x5 w' (hl x5 (by simp))
  simp only [hu] at hu4
  simp only [hv] at hu5
  try simp only [Option.isSome_none, Option.isSome_some] at hu4 hu5
  have HB0 := Lib.hid (And.intro hb0 hr1)
  clear hr hr1 hl hns hb0 hu hv
  go_enter Tryz.func71, Tryz.ntmps71
  go_wp2_with (first
    | (go_at_call 72; refine hnum.mono ?_; rintro e w1 ⟨hb1, v1, b1, rfl, hI, hbI⟩; obtain ⟨a9, c9, rfl⟩ := hI.slice; have HI0 := Lib.hid (And.intro hI hbI); clear hI hbI; obtain ⟨g1, o1, e1, q3⟩ := (HB0.out.2.below hb1) 4 x4 rfl; simp only [Option.some.injEq, Addr.mk.injEq, and_true] at e1; obtain ⟨rfl, rfl⟩ := e1; have H1 := Lib.hid hb1; clear hb1 hnum)
    | (go_at_call 84; (with_reducible refine (hu4 _).mono ?_); rintro e w2 ⟨t4, rfl, ht4, hb2⟩; obtain ⟨g1, o1, e1, q4⟩ := (HB0.out.2.below (H1.out.trans (hb2.mono H1.out.size))) 5 x5 rfl; simp only [Option.some.injEq, Addr.mk.injEq, and_true] at e1; obtain ⟨rfl, rfl⟩ := e1; have H2 := Lib.hid (And.intro hb2 ht4); clear hb2 ht4 hu4 q3)
    | (go_at_call 84; (with_reducible refine (hu5 _).mono ?_); rintro e w3 ⟨t5, rfl, ht5, hb3⟩; have H3 := Lib.hid (And.intro hb3 ht5); clear hb3 ht5 hu5 q4)
    | (refine wpList_store_row rfl 25 (.tmp 2) (.tmp 92) rfl w.heap.size zOp rfl rfl 25 zOp (Blk.below (H1.out.trans ((H2.out.1.mono H1.out.size).trans (H3.out.1.mono (Nat.le_trans H1.out.size H2.out.1.size)))) (Blk.new w zOp 25) (by simp)) infoOpS rfl (by simp [Value.oneCell']) ?_))
  have hbw1 := H1.out.trans ((H2.out.1.mono H1.out.size).trans (H3.out.1.mono (Nat.le_trans H1.out.size H2.out.1.size)))
  have hbr := Blk.below hbw1 (Blk.new w zOp 25) (by simp)
  have hbw : Below w.heap.size w w3 := HB0.out.1.trans (hbw1.mono HB0.out.1.size)
  refine bodyPost_ret (results_cell1 rfl _ _ w.heap.size _ zOp _ rfl (Blk.row hbr _) Tryz.underlying25 rfl infoOpS) rfl ?_
  exact hP.out _ (hbw.trans ((Upd.row _ _ _).below hbw.size (fun k hk => by omega)))
set_option maxRecDepth 100000 in
set_option maxHeartbeats 2000000 in
theorem rst_call_ok {w : World} {a : Option Addr} {x1 x2 x3 x4 x5 : Txt} (c : Nat) (hr : RdT w a [callW, x1, x2, x3, x4, x5]) (hc : 6 ≤ c) (hl : ∀ y ∈ [callW, x1, x2, x3, x4, x5], y.length ≤ 100000) {y p q : Int} (hns : numsF [x1, x2, x3] = some [y, p, q]) {s t : Txt} (hu : unquoteF x4 = some s) (hv : unquoteF x5 = some t) :
    Calls Tryz.prog 71 #[.slice a 6 c] w (RStV [callW, x1, x2, x3, x4, x5] w) := by
  obtain ⟨bm, hbm⟩ : ∃ bm, mayO (opCall y p q s t) = bm := ⟨_, rfl⟩
  have hP := Lib.hid (fun w' v hvv hb => RStV.yes (w := w) (w' := w') (ws := [callW, x1, x2, x3, x4, x5]) (v := v) (o := opCall y p q s t) (b := bm) hvv (by rw [stepF_call]; simp only [hns, hu, hv]; rw [hbm]) hb)
  have hmay := rmay_is hbm
  simp only [opV, opCall] at hmay
  obtain ⟨g, oo, rfl, k0⟩ := hr 0 callW rfl
  rw [Nat.add_zero] at k0
  have hb0 : Below w.heap.size w (w.alloc (.cells zOp 25)) := (Below.refl _ _).alloc (Nat.le_refl _) _
  have hr1 := hr.below hb0
  obtain ⟨g1, o1, e1, k1⟩ := hr1 0 callW rfl
  simp only [Option.some.injEq, Addr.mk.injEq, and_true] at e1
  obtain ⟨rfl, rfl⟩ := e1
  rw [Nat.add_zero] at k1
  have c1 : ¬ c = 1 := by omega
  have c2 : ¬ c - 1 = 0 := by omega
  have c3 : ((c - 1 : Nat) == 0) = false := by simp; omega
  have c4 : 1 ≤ c := by omega
  have c5 : 4 ≤ c := by omega
  have hnum := rnumbers_is (ws := [x1, x2, x3]) 3 (c - 1) (show RdT (w.alloc (.cells zOp 25)) (some ⟨g, oo + 1, none⟩) [x1, x2, x3] from fun k y hy => hr1.tl k y (by
    match k, hy with
    | 0, hy => exact hy
    | 1, hy => exact hy
    | 2, hy => exact hy)) rfl (by omega) (fun y hy => by have := hl y (by simp at hy; rcases hy with rfl | rfl | rfl <;> simp); omega)
  unfold NumsV at hnum
  rw [hns] at hnum
  have hu4 := fun w' => runquote_ev x4 w' (hl x4 (by simp))
  have hu5 := fun w' => runquote_ev x5 w' (hl x5 (by simp))
  simp only [hu] at hu4
  simp only [hv] at hu5
  try simp only [Option.isSome_none, Option.isSome_some] at hu4 hu5
  have HB0 := Lib.hid (And.intro hb0 hr1)
  clear hr hr1 hl hns hb0 hu hv hbm
  go_enter Tryz.func71, Tryz.ntmps71
  go_wp2_with (first
    | (go_at_call 72; refine hnum.mono ?_; rintro e w1 ⟨hb1, v1, b1, rfl, hI, hbI⟩; obtain ⟨g9, c9, rfl, hg9, hc9, hrd⟩ := hI.some_of (by simp); have HI0 := Lib.hid (And.intro (hI.lt g9 hg9) (And.intro (hrd 0 y rfl) (And.intro (hrd 1 p rfl) (hrd 2 q rfl)))); simp only [List.length_cons, List.length_nil, Nat.zero_add, Nat.reduceAdd] at hc9 ⊢; clear hI hbI hrd; obtain ⟨g1, o1, e1, q3⟩ := (HB0.out.2.below hb1) 4 x4 rfl; simp only [Option.some.injEq, Addr.mk.injEq, and_true] at e1; obtain ⟨rfl, rfl⟩ := e1; have H1 := Lib.hid hb1; clear hb1 hnum)
    | (go_at_call 84; (with_reducible refine (hu4 _).mono ?_); rintro e w2 ⟨t4, rfl, ht4, hb2⟩; obtain ⟨g1, o1, e1, q4⟩ := (HB0.out.2.below (H1.out.trans (hb2.mono H1.out.size))) 5 x5 rfl; simp only [Option.some.injEq, Addr.mk.injEq, and_true] at e1; obtain ⟨rfl, rfl⟩ := e1; have H2 := Lib.hid (And.intro hb2 ht4); clear hb2 ht4 hu4 q3)
    | (go_at_call 84; (with_reducible refine (hu5 _).mono ?_); rintro e w3 ⟨t5, rfl, ht5, hb3⟩; have H3 := Lib.hid (And.intro hb3 ht5); clear hb3 ht5 hu5 q4))
  have hbw1 := H1.out.trans ((H2.out.1.mono H1.out.size).trans (H3.out.1.mono (Nat.le_trans H1.out.size H2.out.1.size)))
  have hbr := Blk.below hbw1 (Blk.new w zOp 25) (by simp)
  have hbw : Below w.heap.size w w3 := HB0.out.1.trans (hbw1.mono HB0.out.1.size)
  have e4 := H2.out.2 s rfl
  have e5 := H3.out.2 t rfl
  subst e4 e5
  have hb13 : Below w1.heap.size w1 w3 := H2.out.1.trans (H3.out.1.mono H2.out.1.size)
  have m0 := (hb13.cell (p := ⟨g9, 0, none⟩) HI0.out.1).trans HI0.out.2.1
  have m1 := (hb13.cell (p := ⟨g9, 1, none⟩) HI0.out.1).trans HI0.out.2.2.1
  have m2 := (hb13.cell (p := ⟨g9, 2, none⟩) HI0.out.1).trans HI0.out.2.2.2
  have hgl : g9 < w3.heap.size := Nat.lt_of_lt_of_le HI0.out.1 hb13.size
  have hab := ((Below.refl w3.heap.size w3).alloc (Nat.le_refl _) (.cells zOp 25)).drew
  have CW := Lib.hid (And.intro m0 (And.intro m1 m2))
  have CA := Lib.hid (And.intro ((hab.cell (p := ⟨g9, 0, none⟩) hgl).trans m0) (And.intro ((hab.cell (p := ⟨g9, 1, none⟩) hgl).trans m1) ((hab.cell (p := ⟨g9, 2, none⟩) hgl).trans m2)))
  have HBR := Lib.hid (And.intro hbr hbw)
  clear m0 m1 m2 hb13 hab hgl hbr hbw hbw1
  refine region_K 13 14 14 (w3.drew) ((w3.alloc (.cells #[Value.int .i64 0, .int .i64 0, .int .i64 0, .int .i64 0, .int .i64 0, .int .i64 0, .int .i64 0, .string ⟨#[]⟩, .string ⟨#[]⟩] 25)).drew) (((w3.alloc (.cells #[Value.int .i64 0, .int .i64 0, .int .i64 0, .int .i64 0, .int .i64 0, .int .i64 0, .int .i64 0, .string ⟨#[]⟩, .string ⟨#[]⟩] 25)).drew).setRow w3.heap.size #[.int .i64 10, .int .i64 0, .int .i64 0, .int .i64 0, .int .i64 y, .int .i64 p, .int .i64 q, .string (B t4), .string (B t5)]) (((w3.alloc (.cells #[Value.int .i64 0, .int .i64 0, .int .i64 0, .int .i64 0, .int .i64 0, .int .i64 0, .int .i64 0, .string ⟨#[]⟩, .string ⟨#[]⟩] 25)).drew).setRow w3.heap.size #[.int .i64 10, .int .i64 0, .int .i64 0, .int .i64 0, .int .i64 y, .int .i64 p, .int .i64 q, .string (B t4), .string (B t5)]) rfl (by kernel_rfl) (by kernel_rfl) ?_
  apply wpJ_op rfl (by rfl)
  · intro f w1 hf hJ Q1 hQ
    simp only [Act.put, List.setIfInBounds_toArray, List.set_cons_zero, List.set_cons_succ] at hQ
    go_wp2_with (fail)
    exact hQ _ _ rfl (hJ.other rfl hf (by decide) (by decide) (by decide))
  simp only [Act.put, List.setIfInBounds_toArray, List.set_cons_zero, List.set_cons_succ]
  apply wpJ_op rfl (by rfl)
  · intro f w1 hf hJ Q1 hQ
    simp only [Act.put, List.setIfInBounds_toArray, List.set_cons_zero, List.set_cons_succ] at hQ
    go_wp2_with (fail)
    exact hQ _ _ rfl (hJ.other rfl hf (by decide) (by decide) (by decide))
  simp only [Act.put, List.setIfInBounds_toArray, List.set_cons_zero, List.set_cons_succ]
  apply wpJ_op rfl (by rfl)
  · intro f w1 hf hJ Q1 hQ
    have hS : f 14 = false := path_no hJ.1 [12, 11, 2] (by kernel_rfl) (by decide) hf.1
    have hF := KJ.pre2 (F := (fun x : World => x.cell? ⟨g9, 0, none⟩ = some (.int .i64 y) ∧ x.cell? ⟨g9, 1, none⟩ = some (.int .i64 p) ∧ x.cell? ⟨g9, 2, none⟩ = some (.int .i64 q))) hJ hS CW.out CA.out
    have g1 := hF.1
    clear hF
    simp only [Act.put, List.setIfInBounds_toArray, List.set_cons_zero, List.set_cons_succ] at hQ
    go_wp2_with (fail)
    exact hQ _ _ rfl (hJ.other rfl hf (by decide) (by decide) (by decide))
  simp only [Act.put, List.setIfInBounds_toArray, List.set_cons_zero, List.set_cons_succ]
  apply wpJ_op rfl (by rfl)
  · intro f w1 hf hJ Q1 hQ
    simp only [Act.put, List.setIfInBounds_toArray, List.set_cons_zero, List.set_cons_succ] at hQ
    go_wp2_with (fail)
    exact hQ _ _ rfl (hJ.other rfl hf (by decide) (by decide) (by decide))
  simp only [Act.put, List.setIfInBounds_toArray, List.set_cons_zero, List.set_cons_succ]
  apply wpJ_op rfl (by rfl)
  · intro f w1 hf hJ Q1 hQ
    simp only [Act.put, List.setIfInBounds_toArray, List.set_cons_zero, List.set_cons_succ] at hQ
    go_wp2_with (fail)
    exact hQ _ _ rfl (hJ.other rfl hf (by decide) (by decide) (by decide))
  simp only [Act.put, List.setIfInBounds_toArray, List.set_cons_zero, List.set_cons_succ]
  apply wpJ_op rfl (by rfl)
  · intro f w1 hf hJ Q1 hQ
    have hS : f 14 = false := path_no hJ.1 [12, 11, 5] (by kernel_rfl) (by decide) hf.1
    have hF := KJ.pre2 (F := (fun x : World => x.cell? ⟨g9, 0, none⟩ = some (.int .i64 y) ∧ x.cell? ⟨g9, 1, none⟩ = some (.int .i64 p) ∧ x.cell? ⟨g9, 2, none⟩ = some (.int .i64 q))) hJ hS CW.out CA.out
    have g1 := hF.2.1
    clear hF
    simp only [Act.put, List.setIfInBounds_toArray, List.set_cons_zero, List.set_cons_succ] at hQ
    go_wp2_with (fail)
    exact hQ _ _ rfl (hJ.other rfl hf (by decide) (by decide) (by decide))
  simp only [Act.put, List.setIfInBounds_toArray, List.set_cons_zero, List.set_cons_succ]
  apply wpJ_op rfl (by rfl)
  · intro f w1 hf hJ Q1 hQ
    simp only [Act.put, List.setIfInBounds_toArray, List.set_cons_zero, List.set_cons_succ] at hQ
    go_wp2_with (fail)
    exact hQ _ _ rfl (hJ.other rfl hf (by decide) (by decide) (by decide))
  simp only [Act.put, List.setIfInBounds_toArray, List.set_cons_zero, List.set_cons_succ]
  apply wpJ_op rfl (by rfl)
  · intro f w1 hf hJ Q1 hQ
    simp only [Act.put, List.setIfInBounds_toArray, List.set_cons_zero, List.set_cons_succ] at hQ
    go_wp2_with (fail)
    exact hQ _ _ rfl (hJ.other rfl hf (by decide) (by decide) (by decide))
  simp only [Act.put, List.setIfInBounds_toArray, List.set_cons_zero, List.set_cons_succ]
  apply wpJ_op rfl (by rfl)
  · intro f w1 hf hJ Q1 hQ
    have hS : f 14 = false := path_no hJ.1 [12, 11, 8] (by kernel_rfl) (by decide) hf.1
    have hF := KJ.pre2 (F := (fun x : World => x.cell? ⟨g9, 0, none⟩ = some (.int .i64 y) ∧ x.cell? ⟨g9, 1, none⟩ = some (.int .i64 p) ∧ x.cell? ⟨g9, 2, none⟩ = some (.int .i64 q))) hJ hS CW.out CA.out
    have g1 := hF.2.2
    clear hF
    simp only [Act.put, List.setIfInBounds_toArray, List.set_cons_zero, List.set_cons_succ] at hQ
    go_wp2_with (fail)
    exact hQ _ _ rfl (hJ.other rfl hf (by decide) (by decide) (by decide))
  simp only [Act.put, List.setIfInBounds_toArray, List.set_cons_zero, List.set_cons_succ]
  apply wpJ_op rfl (by rfl)
  · intro f w1 hf hJ Q1 hQ
    simp only [Act.put, List.setIfInBounds_toArray, List.set_cons_zero, List.set_cons_succ] at hQ
    go_wp2_with (fail)
    exact hQ _ _ rfl (hJ.other rfl hf (by decide) (by decide) (by decide))
  simp only [Act.put, List.setIfInBounds_toArray, List.set_cons_zero, List.set_cons_succ]
  apply wpJ_op rfl (by rfl)
  · intro f w1 hf hJ Q1 hQ
    simp only [Act.put, List.setIfInBounds_toArray, List.set_cons_zero, List.set_cons_succ] at hQ
    go_wp2_with (fail)
    exact hQ _ _ rfl (hJ.other rfl hf (by decide) (by decide) (by decide))
  simp only [Act.put, List.setIfInBounds_toArray, List.set_cons_zero, List.set_cons_succ]
  apply wpJ_op rfl (by rfl)
  · intro f w1 hf hJ Q1 hQ
    simp only [Act.put, List.setIfInBounds_toArray, List.set_cons_zero, List.set_cons_succ] at hQ
    go_wp2_with (fail)
    exact hQ _ _ rfl (hJ.other rfl hf (by decide) (by decide) (by decide))
  simp only [Act.put, List.setIfInBounds_toArray, List.set_cons_zero, List.set_cons_succ]
  apply wpJ_op rfl (by rfl)
  · intro f w1 hf hJ Q1 hQ
    simp only [Act.put, List.setIfInBounds_toArray, List.set_cons_zero, List.set_cons_succ] at hQ
    go_wp2_with (fail)
    exact hQ _ _ rfl (hJ.other rfl hf (by decide) (by decide) (by decide))
  simp only [Act.put, List.setIfInBounds_toArray, List.set_cons_zero, List.set_cons_succ]
  apply wpJ_op rfl (by rfl)
  · intro f w1 hf hJ Q1 hQ
    have hS : f 14 = false := path_no hJ.1 [13] (by kernel_rfl) (by decide) hf.1
    rw [hJ.atA hf.1 hS hS]
    simp only [Act.put, List.setIfInBounds_toArray, List.set_cons_zero, List.set_cons_succ] at hQ
    go_wp2_with (fail)
    exact hQ _ _ rfl (hJ.goA rfl hf hS hS (by decide) (by decide))
  simp only [Act.put, List.setIfInBounds_toArray, List.set_cons_zero, List.set_cons_succ]
  apply wpJ_op (v := undef) rfl (by rfl)
  · intro f w1 hf hJ Q1 hQ
    have hA : f 13 = true := up_dep hf 13 (by kernel_rfl)
    rw [hJ.atC hA hf.1 hf.1]
    simp only [Act.put, List.setIfInBounds_toArray, List.set_cons_zero, List.set_cons_succ] at hQ
    go_wp2_with (refine wpList_store_row rfl 25 (.tmp 13) (.tmp 105) rfl w3.heap.size #[.int .i64 10, .int .i64 0, .int .i64 0, .int .i64 0, .int .i64 y, .int .i64 p, .int .i64 q, .string (B t4), .string (B t5)] rfl rfl 25 #[Value.int .i64 0, .int .i64 0, .int .i64 0, .int .i64 0, .int .i64 0, .int .i64 0, .int .i64 0, .string ⟨#[]⟩, .string ⟨#[]⟩] (Blk.new w3 _ _).drew infoOpS rfl (by simp [Value.oneCell']) ?_)
    exact hQ _ _ rfl (hJ.goS rfl hf)
  simp only [Act.put, List.setIfInBounds_toArray, List.set_cons_zero, List.set_cons_succ]
  refine wpJ_nil ?_
  intro w9 hJ9
  rw [hJ9.fin rfl]
  clear hJ9
  have HI := Lib.hid (show StI w w3.heap.size #[.int .i64 10, .int .i64 0, .int .i64 0, .int .i64 0, .int .i64 y, .int .i64 p, .int .i64 q, .string (B t4), .string (B t5)] w.heap.size false _ from ⟨Blk.row (Blk.new w3 _ _).drew #[.int .i64 10, .int .i64 0, .int .i64 0, .int .i64 0, .int .i64 y, .int .i64 p, .int .i64 q, .string (B t4), .string (B t5)], Blk.upd (Upd.row _ _ _) (Blk.below (((Below.refl w3.heap.size w3).alloc (Nat.le_refl _) (.cells zOp 25)).drew) HBR.out.1 HBR.out.1.lt) (by have := HBR.out.1.lt; omega), HBR.out.2.trans (((((Below.refl w3.heap.size w3).alloc (Nat.le_refl _) (.cells zOp 25)).drew).trans ((Upd.row _ w3.heap.size #[.int .i64 10, .int .i64 0, .int .i64 0, .int .i64 0, .int .i64 y, .int .i64 p, .int .i64 q, .string (B t4), .string (B t5)]).below (by simp [World.drew]) (fun k hk => by omega))).mono HBR.out.2.size), by have := HBR.out.1.lt; omega, rfl⟩)
  clear CW CA
  go_wp2_with (fail)
  refine region_J (J1 3 (StI w w3.heap.size #[.int .i64 10, .int .i64 0, .int .i64 0, .int .i64 0, .int .i64 y, .int .i64 p, .int .i64 q, .string (B t4), .string (B t5)] w.heap.size)) (by kernel_rfl) (by kernel_rfl) (StI.drew HI.out) ?_
  apply wpJ_op rfl (by rfl)
  · intro f w1 hf hJ Q1 hQ
    have g1 := (StI.rd hJ).rd
    simp only [Act.put, List.setIfInBounds_toArray, List.set_cons_zero, List.set_cons_succ] at hQ
    go_wp2_with (fail)
    clear g1
    exact hQ _ _ rfl (hJ.other (by decide))
  simp only [Act.put, List.setIfInBounds_toArray, List.set_cons_zero, List.set_cons_succ]
  apply wpJ_op rfl (by rfl)
  · intro f w1 hf hJ Q1 hQ
    have g1 := (StI.rd hJ).rd
    simp only [Act.put, List.setIfInBounds_toArray, List.set_cons_zero, List.set_cons_succ] at hQ
    go_wp2_with (fail)
    clear g1
    exact hQ _ _ rfl (hJ.other (by decide))
  simp only [Act.put, List.setIfInBounds_toArray, List.set_cons_zero, List.set_cons_succ]
  apply wpJ_op rfl (by rfl)
  · intro f w1 hf hJ Q1 hQ
    simp only [Act.put, List.setIfInBounds_toArray, List.set_cons_zero, List.set_cons_succ] at hQ
    go_wp2_with (go_at_call 26; (with_reducible refine (hmay _).mono ?_); rintro e w8 ⟨rfl, hb8⟩)
    exact hQ _ _ rfl (J1.other (StI.bel hJ hb8) (by decide))
  simp only [Act.put, List.setIfInBounds_toArray, List.set_cons_zero, List.set_cons_succ]
  apply wpJ_op (v := undef) rfl (by rfl)
  · intro f w1 hf hJ Q1 hQ
    have h1 := hJ.here hf.1
    simp only [Act.put, List.setIfInBounds_toArray, List.set_cons_zero, List.set_cons_succ] at hQ
    go_wp2_with (refine wpList_store_row rfl 25 (.tmp 2) (.tmp 106) rfl w.heap.size #[.int .i64 10, .int .i64 0, .int .i64 0, .int .i64 0, .int .i64 y, .int .i64 p, .int .i64 q, .string (B t4), .string (B t5)] rfl rfl 25 #[Value.int .i64 0, .int .i64 0, .int .i64 0, .int .i64 0, .int .i64 0, .int .i64 0, .int .i64 0, .string ⟨#[]⟩, .string ⟨#[]⟩] h1.2.1 infoOpS rfl (by simp [Value.oneCell']) ?_)
    exact hQ _ _ rfl (J1.fin h1.row)
  simp only [Act.put, List.setIfInBounds_toArray, List.set_cons_zero, List.set_cons_succ]
  apply wpJ_op rfl (by rfl)
  · intro f w1 hf hJ Q1 hQ
    simp only [Act.put, List.setIfInBounds_toArray, List.set_cons_zero, List.set_cons_succ] at hQ
    go_wp2_with (fail)
    exact hQ _ _ rfl (hJ.other (by decide))
  simp only [Act.put, List.setIfInBounds_toArray, List.set_cons_zero, List.set_cons_succ]
  refine wpJ_nil ?_
  intro w9 hJ9
  have h9 := hJ9.over rfl
  clear hJ9
  go_wp2_with (fail)
  refine bodyPost_ret (results_cell1 rfl _ _ w.heap.size _ #[.int .i64 10, .int .i64 0, .int .i64 0, .int .i64 0, .int .i64 y, .int .i64 p, .int .i64 q, .string (B t4), .string (B t5)] _ rfl h9.2.1 Tryz.underlying25 rfl infoOpS) rfl ?_
  exact hP.out _ _ rfl h9.2.2.1
theorem rstep_is {w : World} {a : Option Addr} {x : Txt} {r : List Txt} (n c : Nat) (hr : RdT w a (x :: r)) (hn : (x :: r).length = n) (hn5 : n ≤ 100000) (hc : n ≤ c) (hl : ∀ y ∈ x :: r, y.length ≤ 100000) (hx : x = opW ∨ x = callW) :
    Calls Tryz.prog 71 #[.slice a n c] w (RStV (x :: r) w) := by
  subst hn
  rcases hx with rfl | rfl
  · by_cases h5 : r.length = 4
    · match r, h5 with
      | [x1, x2, x3, x4], _ =>
        cases hns : numsF [x1, x2, x3, x4] with
        | none => exact rst_op_none c hr hc hl hns
        | some ns =>
          have h4 := nums_three hns
          match ns, h4 with
          | [k, i, j, q], _ =>
            by_cases hk : k = 10
            · subst hk; exact rst_op_ten c hr hc hl hns
            · exact rst_op_may c hr hc hl hk hns
    · refine rst_no _ c hr rfl hn5 ?_ (fun _ => by simp; omega) (fun e => absurd e (by decide)) hc
      rw [stepF_op]
      cases hns : numsF r with
      | none => rfl
      | some ns =>
        have h4 := nums_three hns
        match ns, h4 with
        | [], _ => rfl
        | [_], _ => rfl
        | [_, _], _ => rfl
        | [_, _, _], _ => rfl
        | [_, _, _, _], h4 => exact absurd h4.symm h5
        | _ :: _ :: _ :: _ :: _ :: _, _ => rfl
  · by_cases h5 : r.length = 5
    · match r, h5 with
      | [x1, x2, x3, x4, x5], _ =>
        cases hns : numsF [x1, x2, x3] with
        | none => exact rst_call_no c hr hc hl hns
        | some ns =>
          have h3 := nums_three hns
          match ns, h3 with
          | [y, p, q], _ =>
            cases hu : unquoteF x4 with
            | none => exact rst_call_one c hr hc hl hns hu
            | some s =>
              cases hv : unquoteF x5 with
              | none => exact rst_call_two c hr hc hl hns hu hv
              | some t => exact rst_call_ok c hr hc hl hns hu hv
    · refine rst_no _ c hr rfl hn5 ?_ (fun e => absurd e (by decide)) (fun _ => by simp; omega) hc
      rw [stepF_call]
      match r, h5 with
      | [], _ => rfl
      | [_], _ => rfl
      | [_, _], _ => rfl
      | [_, _, _], _ => rfl
      | [_, _, _, _], _ => rfl
      | [_, _, _, _, _], h5 => exact absurd rfl h5
      | _ :: _ :: _ :: _ :: _ :: _ :: _, _ => rfl
end Go.Proofs.YtefaaginedideaaGreatDoor
