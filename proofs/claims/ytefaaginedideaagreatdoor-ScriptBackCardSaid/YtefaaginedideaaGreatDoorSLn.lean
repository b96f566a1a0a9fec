/-
  Script: lines of steps, by the program.
-/
import Derived.Test.YtefaaginedideaaGreatDoorSPs
import Derived.Test.YtefaaginedideaaGreatDoorSUnq
namespace Go.Proofs.YtefaaginedideaaGreatDoor
set_option linter.unusedSimpArgs false
set_option linter.unusedVariables false
open Go.RowKit Own RegJ
open Go.Lib hiding intOf

/-! ### one call in a region that draws its order -/
def CJ (C : Nat) (md : Region.Mode) (ops : Array Oper) (W : World) (Q : World → Prop) (f : Nat → Bool) (w : World) : Prop := RegF.Closed md ops f ∧ if f C then Q w else w = W
section
variable {C k : Nat} {md : Region.Mode} {ops : Array Oper} {W w w' : World} {Q : World → Prop} {f : Nat → Bool} {o : Oper}
theorem CJ.other (h : CJ C md ops W Q f w) (ho : ops[k]? = some o) (hf : Up md k o f) (h3 : k ≠ C) : CJ C md ops W Q (fset f k) w := by
  refine ⟨RegF.Closed.fset ho ⟨hf, h.1⟩, ?_⟩
  rw [fset_ne h3]; exact h.2
theorem CJ.atC (h : CJ C md ops W Q f w) (hC : f C = false) : w = W := by have := h.2; rw [hC] at this; exact this
theorem CJ.fin (h : CJ C md ops W Q f w) (hC : f C = true) : Q w := by have := h.2; rw [hC] at this; exact this
theorem CJ.goC (h : CJ C md ops W Q f w) (ho : ops[C]? = some o) (hf : Up md C o f) (hq : Q w') : CJ C md ops W Q (fset f C) w' := by
  refine ⟨RegF.Closed.fset ho ⟨hf, h.1⟩, ?_⟩
  rw [fset_eq]; exact hq
end
theorem region_C {P : Program} {id : Nat} {Q' : Exit → Act → World → Prop} {a : Act} {w : World} {l : List Oper} (C : Nat) (W : World) (Q : World → Prop) (hW : w.drew = W) (hm : P.follows .mixedOrders = true) (hB : Region.lexB .any l.toArray = true)
    (h : wpJ P .any l.toArray (CJ C .any l.toArray W Q) a.tmps.size (fun s a' => ∀ w', CJ C .any l.toArray W Q (flags s) w' → Q' .normal a' w') 0 l (Array.replicate l.length false) a) : (Code.region id l.toArray true).wp P Q' a w :=
  region_J (CJ C .any l.toArray W Q) hm hB ⟨fun k o ho h => (by cases h), hW⟩ h
theorem unquote_ev (l : Txt) (w : World) (hl : l.length ≤ 100000) : Calls Tryz.prog 82 #[.string (B l)] w (fun e w2 => ∃ t : Txt, e = .returned (.tuple #[.string (B t), .bool (unquoteF l).isSome]) ∧ (∀ x, unquoteF l = some x → t = x) ∧ Below w.heap.size w w2) := unquote_is l w hl
/-- how a line ends: r, what it makes of the state, or that it is wrong -/
def LnP (w : World) (B rb : Nat) (r : Option PSt) (e : Ending) (w' : World) : Prop := e = .returned (.bool r.isSome) ∧ (∀ st', r = some st' → PSI w' B st' rb) ∧ Below B w w'
def LnQ (w : World) (B rb : Nat) (r : Option PSt) (w' : World) : Prop := (∀ st', r = some st' → PSI w' B st' rb) ∧ Below B w w'
theorem LnP.of_q {w : World} {B rb : Nat} {r : Option PSt} {w' : World} {b : Bool} (hb : b = r.isSome) (h : LnQ w B rb r w') : LnP w B rb r (.returned (.bool b)) w' := ⟨by rw [hb], h.1, h.2⟩
theorem LnP.no {w w' : World} {B rb : Nat} {r : Option PSt} (hr : r = none) (h : Below B w w') : LnP w B rb r (.returned (.bool false)) w' := ⟨by rw [hr]; rfl, fun st' e => (by rw [hr] at e; cases e), h⟩
theorem LnP.from {w w1 w' : World} {B rb : Nat} {r : Option PSt} {e : Ending} (hb : Below B w w1) (h : LnP w1 B rb r e w') : LnP w B rb r e w' := ⟨h.1, h.2.1, hb.trans h.2.2⟩
theorem LnQ.from {w w1 w' : World} {B rb : Nat} {r : Option PSt} (hb : Below B w w1) (h : LnQ w1 B rb r w') : LnQ w B rb r w' := ⟨h.1, hb.trans h.2⟩
/-- the sizes of a state -/
def Sz (st : PSt) (N : Nat) : Prop := st.c.tasks.length ≤ N ∧ st.c.best.length ≤ N ∧ st.c.mtx.length ≤ N ∧ st.c.gaps.length ≤ N ∧ st.es.length ≤ N ∧ (∀ t ∈ st.c.tasks, t.prog.length ≤ N) ∧ (∀ t ∈ st.c.best, t.prog.length ≤ N)
/-- what a step makes of the state -/
def stepSt (st : PSt) (o : OpV) : Option PSt := if st.act = 0 then none else if mayO o = true then some (addOp st o) else none
theorem stepSt_of (st : PSt) (x : Option OpV) (o : OpV) (hx : x = if mayO o = true then some o else none) : (if st.act = 0 then none else x.map (addOp st)) = stepSt st o := by
  subst hx
  unfold stepSt
  by_cases h : st.act = 0
  · rw [if_pos h, if_pos h]
  · rw [if_neg h, if_neg h]
    by_cases hm : mayO o = true
    · rw [if_pos hm, if_pos hm]; rfl
    · rw [if_neg hm, if_neg hm]; rfl
section
variable {w : World} {B rb : Nat} {st : PSt}
theorem sstep_ps (h : PSI w B st rb) (o : OpV) {N : Nat} (hs : Sz st N) (hN : N + 1 ≤ 1000000) : Calls Tryz.prog 81 #[.pointer (some ⟨rb, 0, none⟩), opV o] w (LnP w B rb (stepSt st o)) := by
  unfold stepSt
  by_cases h0 : st.act = 0
  · rw [if_pos h0]
    refine (snone_ps h o (.inl h0)).mono ?_
    rintro e w' ⟨rfl, hb⟩
    exact LnP.no rfl hb
  · rw [if_neg h0]
    by_cases hm : mayO o = true
    · rw [if_pos hm]
      refine (step_ps h o h0 hm (fun t ht => by have := hs.2.2.2.2.2.1 t ht; omega) (fun t ht => by have := hs.2.2.2.2.2.2 t ht; omega)).mono ?_
      rintro e w' ⟨rfl, hp, hb⟩
      exact ⟨rfl, fun st' e => by cases e; exact hp, hb⟩
    · rw [if_neg hm]
      refine (snone_ps h o (.inr (by simpa using hm))).mono ?_
      rintro e w' ⟨rfl, hb⟩
      exact LnP.no rfl hb
/-- op's line -/
abbrev opLR (st : PSt) (ws : List Txt) : Option PSt := if st.act = 0 then none else (stepF (opW :: ws)).map (addOp st)
abbrev callLR (st : PSt) (ws : List Txt) : Option PSt := if st.act = 0 then none else (stepF (callW :: ws)).map (addOp st)
theorem none_if {st : PSt} {x : Option OpV} (h : x = none) : (if st.act = 0 then none else x.map (addOp st)) = none := by subst h; split <;> rfl
theorem stepF_op (ws : List Txt) : stepF (opW :: ws) = match numsF ws with
    | some [k, a, b, c] => if k ≠ 10 ∧ mayO (opNums k a b c) = true then some (opNums k a b c) else none
    | _ => none := by
  unfold stepF; dsimp only; rw [if_pos rfl]; rfl
theorem stepF_call (ws : List Txt) : stepF (callW :: ws) = match ws with
    | [x1, x2, x3, x4, x5] => match numsF [x1, x2, x3], unquoteF x4, unquoteF x5 with
      | some [y, p, q], some s, some t => if mayO (opCall y p q s t) = true then some (opCall y p q s t) else none
      | _, _, _ => none
    | _ => none := by
  unfold stepF; dsimp only; rw [if_neg (by decide)]; rfl
set_option maxRecDepth 100000 in
theorem op_none (h : PSI w B st rb) (hE : Env w) {a : Option Addr} {ws : List Txt} (n c : Nat) (hr : RdT w a ws) (hn : ws.length = n) (hm : n ≤ 100000) (hl : ∀ x ∈ ws, x.length ≤ 10000000) (hns : numsF ws = none) :
    Calls Tryz.prog 60 #[.pointer (some ⟨rb, 0, none⟩), .slice a n c] w (LnP w B rb (opLR st ws)) := by
  have hP := Lib.hid (fun w' (hb : Below w.heap.size w w') => LnP.no (rb := rb) (r := opLR st ws) (none_if (by rw [stepF_op, hns])) (hb.mono h.ge))
  have hnum := numbers_is n c hE hr hn hm hl
  unfold NumsV at hnum
  rw [hns] at hnum
  clear h hE hr hn hl hns
  go_enter Tryz.func60, Tryz.ntmps60
  go_wp2_with (go_at_call 69; refine hnum.mono ?_; rintro e w1 ⟨hb, rfl⟩; have HB := Lib.hid hb; clear hb)
  go_ret
  exact hP.out _ HB.out
set_option maxRecDepth 100000 in
theorem op_len (h : PSI w B st rb) (hE : Env w) {a : Option Addr} {ws : List Txt} (n c : Nat) (hr : RdT w a ws) (hn : ws.length = n) (hm : n ≤ 100000) (hl : ∀ x ∈ ws, x.length ≤ 10000000) {ns : List Int} (hns : numsF ws = some ns) (h4 : ns.length ≠ 4) :
    Calls Tryz.prog 60 #[.pointer (some ⟨rb, 0, none⟩), .slice a n c] w (LnP w B rb (opLR st ws)) := by
  have hP := Lib.hid (fun w' (hb : Below w.heap.size w w') => LnP.no (rb := rb) (r := opLR st ws) (none_if (by
    rw [stepF_op, hns]
    match ns, h4 with
    | [], _ => rfl
    | [_], _ => rfl
    | [_, _], _ => rfl
    | [_, _, _], _ => rfl
    | _ :: _ :: _ :: _ :: _ :: _, _ => rfl)) (hb.mono h.ge))
  have hnum := numbers_is n c hE hr hn hm hl
  unfold NumsV at hnum
  rw [hns] at hnum
  have d1 : ((ns.length : Int) != 4) = true := by simp; omega
  clear h hE hr hn hl hns h4
  go_enter Tryz.func60, Tryz.ntmps60
  go_wp2_with (go_at_call 69; refine hnum.mono ?_; rintro e w1 ⟨hb, v, b, rfl, hI, hb3⟩; obtain ⟨a3, c3, rfl⟩ := hI.slice; have HB := Lib.hid hb; clear hb hI hb3)
  go_ret
  exact hP.out _ HB.out
set_option maxRecDepth 100000 in
theorem op_ten (h : PSI w B st rb) (hE : Env w) {a : Option Addr} {ws : List Txt} (n c : Nat) (hr : RdT w a ws) (hn : ws.length = n) (hm : n ≤ 100000) (hl : ∀ x ∈ ws, x.length ≤ 10000000) {x y z : Int} (hns : numsF ws = some [10, x, y, z]) :
    Calls Tryz.prog 60 #[.pointer (some ⟨rb, 0, none⟩), .slice a n c] w (LnP w B rb (opLR st ws)) := by
  have hP := Lib.hid (fun w' (hb : Below w.heap.size w w') => LnP.no (rb := rb) (r := opLR st ws) (none_if (by rw [stepF_op, hns]; simp)) (hb.mono h.ge))
  have hnum := numbers_is n c hE hr hn hm hl
  unfold NumsV at hnum
  rw [hns] at hnum
  clear h hE hr hn hl hns
  go_enter Tryz.func60, Tryz.ntmps60
  go_wp2_with (go_at_call 69; refine hnum.mono ?_; rintro e w1 ⟨hb, v, b, rfl, hI, hb3⟩; obtain ⟨g, c3, rfl, _, hc3, hrd⟩ := hI.some_of (by simp); have r0 := hrd 0 10 rfl; simp only [List.length_cons, List.length_nil, Nat.zero_add, Nat.reduceAdd] at *; have HB := Lib.hid hb; clear hb hI hb3 hrd)
  go_ret
  exact hP.out _ HB.out
set_option maxRecDepth 100000 in
set_option maxHeartbeats 1000000 in
theorem op_four (h : PSI w B st rb) (hE : Env w) {a : Option Addr} {ws : List Txt} (n c : Nat) (hr : RdT w a ws) (hn : ws.length = n) (hm : n ≤ 100000) (hl : ∀ x ∈ ws, x.length ≤ 10000000) {k x y z : Int} (hns : numsF ws = some [k, x, y, z]) (hk : k ≠ 10) {N : Nat} (hs : Sz st N) (hN : N + 1 ≤ 1000000) :
    Calls Tryz.prog 60 #[.pointer (some ⟨rb, 0, none⟩), .slice a n c] w (LnP w B rb (opLR st ws)) := by
  have hge := h.ge
  have hR : opLR st ws = stepSt st (opNums k x y z) := stepSt_of st _ _ (by rw [stepF_op, hns]; simp [hk])
  rw [hR]
  have hnum := numbers_is n c hE hr hn hm hl
  unfold NumsV at hnum
  rw [hns] at hnum
  have d1 : (k == 10) = false := by simpa using hk
  have hstep := fun w' (hb : Below w.heap.size w w') => sstep_ps (h.below hb) (opNums k x y z) hs hN
  simp only [opV, opNums] at hstep
  have HG := Lib.hid hge
  have HST := Lib.hid hstep
  clear h hE hr hn hl hns hk hR hge hs hstep
  go_enter Tryz.func60, Tryz.ntmps60
  go_wp2_with (go_at_call 69; refine hnum.mono ?_; rintro e w1 ⟨hb, v, b, rfl, hI, hb3⟩; obtain ⟨g, c3, rfl, _, hc3, hrd⟩ := hI.some_of (by simp); have r0 := hrd 0 k rfl; have r1 := hrd 1 x rfl; have r2 := hrd 2 y rfl; have r3 := hrd 3 z rfl; simp only [List.length_cons, List.length_nil, Nat.zero_add, Nat.reduceAdd] at *; have HB := Lib.hid hb; clear hb hI hb3 hrd hnum)
  have hcall := HST.out w1.drew HB.out.drew
  have HR := Lib.hid (And.intro r0 (And.intro r1 (And.intro r2 r3)))
  clear r0 r1 r2 r3
  refine region_C 14 w1.drew (LnQ w1.drew B rb (stepSt st (opNums k x y z))) rfl (by kernel_rfl) (by kernel_rfl) ?_
  apply wpJ_op rfl (by rfl)
  · intro f w1 hf hJ Q1 hQ
    simp only [Act.put, List.setIfInBounds_toArray, List.set_cons_zero, List.set_cons_succ] at hQ
    go_wp2_with (fail)
    exact hQ _ _ rfl (hJ.other rfl hf (by decide))
  simp only [Act.put, List.setIfInBounds_toArray, List.set_cons_zero, List.set_cons_succ]
  apply wpJ_op rfl (by rfl)
  · intro f w1 hf hJ Q1 hQ
    simp only [Act.put, List.setIfInBounds_toArray, List.set_cons_zero, List.set_cons_succ] at hQ
    go_wp2_with (fail)
    exact hQ _ _ rfl (hJ.other rfl hf (by decide))
  simp only [Act.put, List.setIfInBounds_toArray, List.set_cons_zero, List.set_cons_succ]
  apply wpJ_op rfl (by rfl)
  · intro f w1 hf hJ Q1 hQ
    simp only [Act.put, List.setIfInBounds_toArray, List.set_cons_zero, List.set_cons_succ] at hQ
    go_wp2_with (fail)
    exact hQ _ _ rfl (hJ.other rfl hf (by decide))
  simp only [Act.put, List.setIfInBounds_toArray, List.set_cons_zero, List.set_cons_succ]
  apply wpJ_op rfl (by rfl)
  · intro f w1 hf hJ Q1 hQ
    have hC : f 14 = false := path_no hJ.1 [13, 3] (by kernel_rfl) (by decide) hf.1
    rw [hJ.atC hC]
    have hF := HR.out
    have g1 := hF.1
    clear hF
    simp only [Act.put, List.setIfInBounds_toArray, List.set_cons_zero, List.set_cons_succ] at hQ
    go_wp2_with (fail)
    exact hQ _ _ rfl (by have h9 := hJ.other rfl hf (by decide); rwa [hJ.atC hC] at h9)
  simp only [Act.put, List.setIfInBounds_toArray, List.set_cons_zero, List.set_cons_succ]
  apply wpJ_op rfl (by rfl)
  · intro f w1 hf hJ Q1 hQ
    simp only [Act.put, List.setIfInBounds_toArray, List.set_cons_zero, List.set_cons_succ] at hQ
    go_wp2_with (fail)
    exact hQ _ _ rfl (hJ.other rfl hf (by decide))
  simp only [Act.put, List.setIfInBounds_toArray, List.set_cons_zero, List.set_cons_succ]
  apply wpJ_op rfl (by rfl)
  · intro f w1 hf hJ Q1 hQ
    simp only [Act.put, List.setIfInBounds_toArray, List.set_cons_zero, List.set_cons_succ] at hQ
    go_wp2_with (fail)
    exact hQ _ _ rfl (hJ.other rfl hf (by decide))
  simp only [Act.put, List.setIfInBounds_toArray, List.set_cons_zero, List.set_cons_succ]
  apply wpJ_op rfl (by rfl)
  · intro f w1 hf hJ Q1 hQ
    have hC : f 14 = false := path_no hJ.1 [13, 6] (by kernel_rfl) (by decide) hf.1
    rw [hJ.atC hC]
    have hF := HR.out
    have g1 := hF.2.1
    clear hF
    simp only [Act.put, List.setIfInBounds_toArray, List.set_cons_zero, List.set_cons_succ] at hQ
    go_wp2_with (fail)
    exact hQ _ _ rfl (by have h9 := hJ.other rfl hf (by decide); rwa [hJ.atC hC] at h9)
  simp only [Act.put, List.setIfInBounds_toArray, List.set_cons_zero, List.set_cons_succ]
  apply wpJ_op rfl (by rfl)
  · intro f w1 hf hJ Q1 hQ
    simp only [Act.put, List.setIfInBounds_toArray, List.set_cons_zero, List.set_cons_succ] at hQ
    go_wp2_with (fail)
    exact hQ _ _ rfl (hJ.other rfl hf (by decide))
  simp only [Act.put, List.setIfInBounds_toArray, List.set_cons_zero, List.set_cons_succ]
  apply wpJ_op rfl (by rfl)
  · intro f w1 hf hJ Q1 hQ
    simp only [Act.put, List.setIfInBounds_toArray, List.set_cons_zero, List.set_cons_succ] at hQ
    go_wp2_with (fail)
    exact hQ _ _ rfl (hJ.other rfl hf (by decide))
  simp only [Act.put, List.setIfInBounds_toArray, List.set_cons_zero, List.set_cons_succ]
  apply wpJ_op rfl (by rfl)
  · intro f w1 hf hJ Q1 hQ
    have hC : f 14 = false := path_no hJ.1 [13, 9] (by kernel_rfl) (by decide) hf.1
    rw [hJ.atC hC]
    have hF := HR.out
    have g1 := hF.2.2.1
    clear hF
    simp only [Act.put, List.setIfInBounds_toArray, List.set_cons_zero, List.set_cons_succ] at hQ
    go_wp2_with (fail)
    exact hQ _ _ rfl (by have h9 := hJ.other rfl hf (by decide); rwa [hJ.atC hC] at h9)
  simp only [Act.put, List.setIfInBounds_toArray, List.set_cons_zero, List.set_cons_succ]
  apply wpJ_op rfl (by rfl)
  · intro f w1 hf hJ Q1 hQ
    simp only [Act.put, List.setIfInBounds_toArray, List.set_cons_zero, List.set_cons_succ] at hQ
    go_wp2_with (fail)
    exact hQ _ _ rfl (hJ.other rfl hf (by decide))
  simp only [Act.put, List.setIfInBounds_toArray, List.set_cons_zero, List.set_cons_succ]
  apply wpJ_op rfl (by rfl)
  · intro f w1 hf hJ Q1 hQ
    simp only [Act.put, List.setIfInBounds_toArray, List.set_cons_zero, List.set_cons_succ] at hQ
    go_wp2_with (fail)
    exact hQ _ _ rfl (hJ.other rfl hf (by decide))
  simp only [Act.put, List.setIfInBounds_toArray, List.set_cons_zero, List.set_cons_succ]
  apply wpJ_op rfl (by rfl)
  · intro f w1 hf hJ Q1 hQ
    have hC : f 14 = false := path_no hJ.1 [13, 12] (by kernel_rfl) (by decide) hf.1
    rw [hJ.atC hC]
    have hF := HR.out
    have g1 := hF.2.2.2
    clear hF
    simp only [Act.put, List.setIfInBounds_toArray, List.set_cons_zero, List.set_cons_succ] at hQ
    go_wp2_with (fail)
    exact hQ _ _ rfl (by have h9 := hJ.other rfl hf (by decide); rwa [hJ.atC hC] at h9)
  simp only [Act.put, List.setIfInBounds_toArray, List.set_cons_zero, List.set_cons_succ]
  apply wpJ_op rfl (by rfl)
  · intro f w1 hf hJ Q1 hQ
    simp only [Act.put, List.setIfInBounds_toArray, List.set_cons_zero, List.set_cons_succ] at hQ
    go_wp2_with (fail)
    exact hQ _ _ rfl (hJ.other rfl hf (by decide))
  simp only [Act.put, List.setIfInBounds_toArray, List.set_cons_zero, List.set_cons_succ]
  apply wpJ_op rfl (by rfl)
  · intro f w1 hf hJ Q1 hQ
    rw [hJ.atC hf.1]
    simp only [Act.put, List.setIfInBounds_toArray, List.set_cons_zero, List.set_cons_succ] at hQ
    go_wp2_with (go_at_call 81; refine hcall.mono ?_; rintro e w8 ⟨rfl, hq⟩)
    exact hQ _ _ rfl (hJ.goC rfl hf hq)
  simp only [Act.put, List.setIfInBounds_toArray, List.set_cons_zero, List.set_cons_succ]
  apply wpJ_op rfl (by rfl)
  · intro f w1 hf hJ Q1 hQ
    simp only [Act.put, List.setIfInBounds_toArray, List.set_cons_zero, List.set_cons_succ] at hQ
    go_wp2_with (fail)
    exact hQ _ _ rfl (hJ.other rfl hf (by decide))
  simp only [Act.put, List.setIfInBounds_toArray, List.set_cons_zero, List.set_cons_succ]
  refine wpJ_nil ?_
  intro w9 hJ9
  have hq9 := hJ9.fin rfl
  clear hJ9
  go_wp2_with (fail)
  go_ret
  exact LnP.of_q rfl (LnQ.from (HB.out.drew.mono HG.out) hq9)
theorem op_ps (h : PSI w B st rb) (hE : Env w) {a : Option Addr} {ws : List Txt} (n c : Nat) (hr : RdT w a ws) (hn : ws.length = n) (hm : n ≤ 100000) (hl : ∀ x ∈ ws, x.length ≤ 10000000) {N : Nat} (hs : Sz st N) (hN : N + 1 ≤ 1000000) :
    Calls Tryz.prog 60 #[.pointer (some ⟨rb, 0, none⟩), .slice a n c] w (LnP w B rb (opLR st ws)) := by
  cases hns : numsF ws with
  | none => exact op_none h hE n c hr hn hm hl hns
  | some ns =>
    by_cases h4 : ns.length = 4
    · match ns, h4 with
      | [k, x, y, z], _ =>
        by_cases hk : k = 10
        · subst hk; exact op_ten h hE n c hr hn hm hl hns
        · exact op_four h hE n c hr hn hm hl hns hk hs hN
    · exact op_len h hE n c hr hn hm hl hns h4
set_option maxRecDepth 100000 in
theorem callw_len (h : PSI w B st rb) {a : Option Addr} {ws : List Txt} (n c : Nat) (hn : ws.length = n) (h5 : n ≠ 5) :
    Calls Tryz.prog 61 #[.pointer (some ⟨rb, 0, none⟩), .slice a n c] w (LnP w B rb (callLR st ws)) := by
  have hP := Lib.hid (LnP.no (w := w) (w' := w) (rb := rb) (B := B) (r := callLR st ws) (none_if (by
    rw [stepF_call]
    match ws, hn with
    | [], _ => rfl
    | [_], _ => rfl
    | [_, _], _ => rfl
    | [_, _, _], _ => rfl
    | [_, _, _, _], _ => rfl
    | [_, _, _, _, _], hn => exact absurd hn.symm h5
    | _ :: _ :: _ :: _ :: _ :: _ :: _, _ => rfl)) (Below.refl _ _))
  have d1 : ((n : Int) != 5) = true := by simp; omega
  clear h hn h5
  go_enter Tryz.func61, Tryz.ntmps61
  go_wp2_with (fail)
  go_ret
  exact hP.out
set_option maxRecDepth 100000 in
set_option maxHeartbeats 1000000 in
theorem call_no (h : PSI w B st rb) (hE : Env w) {a : Option Addr} {x1 x2 x3 x4 x5 : Txt} (c : Nat) (hr : RdT w a [x1, x2, x3, x4, x5]) (hc : 5 ≤ c) (hl : ∀ x ∈ [x1, x2, x3, x4, x5], x.length ≤ 100000) (hns : numsF [x1, x2, x3] = none) :
    Calls Tryz.prog 61 #[.pointer (some ⟨rb, 0, none⟩), .slice a 5 c] w (LnP w B rb (callLR st [x1, x2, x3, x4, x5])) := by
  have hge := h.ge
  have hP := Lib.hid (fun w' (hb : Below w.heap.size w w') => LnP.no (rb := rb) (B := B) (r := callLR st [x1, x2, x3, x4, x5]) (none_if (by rw [stepF_call]; simp only [hns])) (hb.mono hge))
  obtain ⟨g, o, rfl, _⟩ := hr 0 x1 rfl
  have hc3 : 3 ≤ c := by omega
  have hnum := numbers_is (ws := [x1, x2, x3]) 3 c hE (fun k x hk => hr k x (by
    match k, hk with
    | 0, hk => exact hk
    | 1, hk => exact hk
    | 2, hk => exact hk)) rfl (by omega) (fun x hx => by have := hl x (by simp at hx; rcases hx with rfl | rfl | rfl <;> simp); omega)
  unfold NumsV at hnum
  rw [hns] at hnum
  have hu4 := fun w' => unquote_ev x4 w' (hl x4 (by simp))
  have hu5 := fun w' => unquote_ev x5 w' (hl x5 (by simp))
  generalize (unquoteF x4).isSome = b4 at hu4
  generalize (unquoteF x5).isSome = b5 at hu5
  try simp only [Option.isSome_none, Option.isSome_some] at hu4 hu5
  have HR := Lib.hid (And.intro hr hge)
  clear h hE hr hl hns 
  go_enter Tryz.func61, Tryz.ntmps61
  go_wp2_with (first
    | (go_at_call 69; refine hnum.mono ?_; rintro e w1 ⟨hb1, rfl⟩; obtain ⟨g1, o1, e1, q3⟩ := (HR.out.1.below hb1) 3 x4 rfl; simp only [Option.some.injEq, Addr.mk.injEq, and_true] at e1; obtain ⟨rfl, rfl⟩ := e1; have H1 := Lib.hid hb1; clear hb1 hnum)
    | (go_at_call 82; (with_reducible refine (hu4 _).mono ?_); rintro e w2 ⟨t4, rfl, ht4, hb2⟩; obtain ⟨g1, o1, e1, q4⟩ := (HR.out.1.below (H1.out.trans (hb2.mono H1.out.size))) 4 x5 rfl; simp only [Option.some.injEq, Addr.mk.injEq, and_true] at e1; obtain ⟨rfl, rfl⟩ := e1; have H2 := Lib.hid (And.intro hb2 ht4); clear hb2 ht4 hu4 q3)
    | (go_at_call 82; (with_reducible refine (hu5 _).mono ?_); rintro e w3 ⟨t5, rfl, ht5, hb3⟩; have H3 := Lib.hid (And.intro hb3 ht5); clear hb3 ht5 hu5 q4))
  have hbw : Below w.heap.size w w3.drew := ((H1.out.trans (H2.out.1.mono H1.out.size)).trans (H3.out.1.mono (Nat.le_trans H1.out.size H2.out.1.size))).drew
  have HB := Lib.hid hbw
  clear hbw
  refine region_J (fun _ w1 => w1 = w3.drew) (by kernel_rfl) (by kernel_rfl) rfl ?_
  apply wpJ_op rfl (by rfl)
  · intro f w1 hf hJ Q1 hQ
    subst hJ
    simp only [Act.put, List.setIfInBounds_toArray, List.set_cons_zero, List.set_cons_succ] at hQ
    go_wp2_with (fail)
    exact hQ _ _ rfl rfl
  simp only [Act.put, List.setIfInBounds_toArray, List.set_cons_zero, List.set_cons_succ]
  apply wpJ_op rfl (by rfl)
  · intro f w1 hf hJ Q1 hQ
    subst hJ
    simp only [Act.put, List.setIfInBounds_toArray, List.set_cons_zero, List.set_cons_succ] at hQ
    go_wp2_with (fail)
    exact hQ _ _ rfl rfl
  simp only [Act.put, List.setIfInBounds_toArray, List.set_cons_zero, List.set_cons_succ]
  refine wpJ_skip (by rfl) (fun f w1 hf hJ => hJ) ?_
  simp only [Act.put, List.setIfInBounds_toArray, List.set_cons_zero, List.set_cons_succ]
  apply wpJ_op rfl (by rfl)
  · intro f w1 hf hJ Q1 hQ
    subst hJ
    simp only [Act.put, List.setIfInBounds_toArray, List.set_cons_zero, List.set_cons_succ] at hQ
    go_wp2_with (fail)
    exact hQ _ _ rfl rfl
  simp only [Act.put, List.setIfInBounds_toArray, List.set_cons_zero, List.set_cons_succ]
  apply wpJ_op rfl (by rfl)
  · intro f w1 hf hJ Q1 hQ
    subst hJ
    simp only [Act.put, List.setIfInBounds_toArray, List.set_cons_zero, List.set_cons_succ] at hQ
    go_wp2_with (fail)
    exact hQ _ _ rfl rfl
  simp only [Act.put, List.setIfInBounds_toArray, List.set_cons_zero, List.set_cons_succ]
  refine wpJ_skip (by rfl) (fun f w1 hf hJ => hJ) ?_
  simp only [Act.put, List.setIfInBounds_toArray, List.set_cons_zero, List.set_cons_succ]
  apply wpJ_op rfl (by rfl)
  · intro f w1 hf hJ Q1 hQ
    subst hJ
    simp only [Act.put, List.setIfInBounds_toArray, List.set_cons_zero, List.set_cons_succ] at hQ
    go_wp2_with (fail)
    exact hQ _ _ rfl rfl
  simp only [Act.put, List.setIfInBounds_toArray, List.set_cons_zero, List.set_cons_succ]
  apply wpJ_op rfl (by rfl)
  · intro f w1 hf hJ Q1 hQ
    subst hJ
    simp only [Act.put, List.setIfInBounds_toArray, List.set_cons_zero, List.set_cons_succ] at hQ
    go_wp2_with (fail)
    exact hQ _ _ rfl rfl
  simp only [Act.put, List.setIfInBounds_toArray, List.set_cons_zero, List.set_cons_succ]
  refine wpJ_skip (by rfl) (fun f w1 hf hJ => hJ) ?_
  simp only [Act.put, List.setIfInBounds_toArray, List.set_cons_zero, List.set_cons_succ]
  refine wpJ_skip (by rfl) (fun f w1 hf hJ => hJ) ?_
  simp only [Act.put, List.setIfInBounds_toArray, List.set_cons_zero, List.set_cons_succ]
  refine wpJ_skip (by rfl) (fun f w1 hf hJ => hJ) ?_
  simp only [Act.put, List.setIfInBounds_toArray, List.set_cons_zero, List.set_cons_succ]
  refine wpJ_skip (by rfl) (fun f w1 hf hJ => hJ) ?_
  simp only [Act.put, List.setIfInBounds_toArray, List.set_cons_zero, List.set_cons_succ]
  refine wpJ_skip (by rfl) (fun f w1 hf hJ => hJ) ?_
  simp only [Act.put, List.setIfInBounds_toArray, List.set_cons_zero, List.set_cons_succ]
  refine wpJ_skip (by rfl) (fun f w1 hf hJ => hJ) ?_
  simp only [Act.put, List.setIfInBounds_toArray, List.set_cons_zero, List.set_cons_succ]
  refine wpJ_skip (by rfl) (fun f w1 hf hJ => hJ) ?_
  simp only [Act.put, List.setIfInBounds_toArray, List.set_cons_zero, List.set_cons_succ]
  refine wpJ_skip (by rfl) (fun f w1 hf hJ => hJ) ?_
  simp only [Act.put, List.setIfInBounds_toArray, List.set_cons_zero, List.set_cons_succ]
  refine wpJ_skip (by rfl) (fun f w1 hf hJ => hJ) ?_
  simp only [Act.put, List.setIfInBounds_toArray, List.set_cons_zero, List.set_cons_succ]
  refine wpJ_skip (by rfl) (fun f w1 hf hJ => hJ) ?_
  simp only [Act.put, List.setIfInBounds_toArray, List.set_cons_zero, List.set_cons_succ]
  refine wpJ_skip (by rfl) (fun f w1 hf hJ => hJ) ?_
  simp only [Act.put, List.setIfInBounds_toArray, List.set_cons_zero, List.set_cons_succ]
  refine wpJ_skip (by rfl) (fun f w1 hf hJ => hJ) ?_
  simp only [Act.put, List.setIfInBounds_toArray, List.set_cons_zero, List.set_cons_succ]
  refine wpJ_skip (by rfl) (fun f w1 hf hJ => hJ) ?_
  simp only [Act.put, List.setIfInBounds_toArray, List.set_cons_zero, List.set_cons_succ]
  refine wpJ_skip (by rfl) (fun f w1 hf hJ => hJ) ?_
  simp only [Act.put, List.setIfInBounds_toArray, List.set_cons_zero, List.set_cons_succ]
  refine wpJ_skip (by rfl) (fun f w1 hf hJ => hJ) ?_
  simp only [Act.put, List.setIfInBounds_toArray, List.set_cons_zero, List.set_cons_succ]
  apply wpJ_op rfl (by rfl)
  · intro f w1 hf hJ Q1 hQ
    subst hJ
    simp only [Act.put, List.setIfInBounds_toArray, List.set_cons_zero, List.set_cons_succ] at hQ
    go_wp2_with (fail)
    exact hQ _ _ rfl rfl
  simp only [Act.put, List.setIfInBounds_toArray, List.set_cons_zero, List.set_cons_succ]
  apply wpJ_op rfl (by rfl)
  · intro f w1 hf hJ Q1 hQ
    subst hJ
    simp only [Act.put, List.setIfInBounds_toArray, List.set_cons_zero, List.set_cons_succ] at hQ
    go_wp2_with (fail)
    exact hQ _ _ rfl rfl
  simp only [Act.put, List.setIfInBounds_toArray, List.set_cons_zero, List.set_cons_succ]
  refine wpJ_nil ?_
  intro w9 hJ9
  subst hJ9
  go_wp2_with (fail)
  go_ret
  exact hP.out _ HB.out
set_option maxRecDepth 100000 in
set_option maxHeartbeats 1000000 in
theorem call_one (h : PSI w B st rb) (hE : Env w) {a : Option Addr} {x1 x2 x3 x4 x5 : Txt} (c : Nat) (hr : RdT w a [x1, x2, x3, x4, x5]) (hc : 5 ≤ c) (hl : ∀ x ∈ [x1, x2, x3, x4, x5], x.length ≤ 100000) {y p q : Int} (hns : numsF [x1, x2, x3] = some [y, p, q]) (hu : unquoteF x4 = none) :
    Calls Tryz.prog 61 #[.pointer (some ⟨rb, 0, none⟩), .slice a 5 c] w (LnP w B rb (callLR st [x1, x2, x3, x4, x5])) := by
  have hge := h.ge
  have hP := Lib.hid (fun w' (hb : Below w.heap.size w w') => LnP.no (rb := rb) (B := B) (r := callLR st [x1, x2, x3, x4, x5]) (none_if (by rw [stepF_call]; simp only [hns, hu])) (hb.mono hge))
  obtain ⟨g, o, rfl, _⟩ := hr 0 x1 rfl
  have hc3 : 3 ≤ c := by omega
  have hnum := numbers_is (ws := [x1, x2, x3]) 3 c hE (fun k x hk => hr k x (by
    match k, hk with
    | 0, hk => exact hk
    | 1, hk => exact hk
    | 2, hk => exact hk)) rfl (by omega) (fun x hx => by have := hl x (by simp at hx; rcases hx with rfl | rfl | rfl <;> simp); omega)
  unfold NumsV at hnum
  rw [hns] at hnum
  have hu4 := fun w' => unquote_ev x4 w' (hl x4 (by simp))
  have hu5 := fun w' => unquote_ev x5 w' (hl x5 (by simp))
  simp only [hu] at hu4
  generalize (unquoteF x5).isSome = b5 at hu5
  try simp only [Option.isSome_none, Option.isSome_some] at hu4 hu5
  have HR := Lib.hid (And.intro hr hge)
  clear h hE hr hl hns hu
  go_enter Tryz.func61, Tryz.ntmps61
  go_wp2_with (first
    | (go_at_call 69; refine hnum.mono ?_; rintro e w1 ⟨hb1, v1, b1, rfl, hI, hbI⟩; obtain ⟨a9, c9, rfl⟩ := hI.slice; have HI := Lib.hid (And.intro hI hbI); clear hI hbI; obtain ⟨g1, o1, e1, q3⟩ := (HR.out.1.below hb1) 3 x4 rfl; simp only [Option.some.injEq, Addr.mk.injEq, and_true] at e1; obtain ⟨rfl, rfl⟩ := e1; have H1 := Lib.hid hb1; clear hb1 hnum)
    | (go_at_call 82; (with_reducible refine (hu4 _).mono ?_); rintro e w2 ⟨t4, rfl, ht4, hb2⟩; obtain ⟨g1, o1, e1, q4⟩ := (HR.out.1.below (H1.out.trans (hb2.mono H1.out.size))) 4 x5 rfl; simp only [Option.some.injEq, Addr.mk.injEq, and_true] at e1; obtain ⟨rfl, rfl⟩ := e1; have H2 := Lib.hid (And.intro hb2 ht4); clear hb2 ht4 hu4 q3)
    | (go_at_call 82; (with_reducible refine (hu5 _).mono ?_); rintro e w3 ⟨t5, rfl, ht5, hb3⟩; have H3 := Lib.hid (And.intro hb3 ht5); clear hb3 ht5 hu5 q4))
  have hbw : Below w.heap.size w w3.drew := ((H1.out.trans (H2.out.1.mono H1.out.size)).trans (H3.out.1.mono (Nat.le_trans H1.out.size H2.out.1.size))).drew
  have HB := Lib.hid hbw
  clear hbw
  refine region_J (fun _ w1 => w1 = w3.drew) (by kernel_rfl) (by kernel_rfl) rfl ?_
  apply wpJ_op rfl (by rfl)
  · intro f w1 hf hJ Q1 hQ
    subst hJ
    simp only [Act.put, List.setIfInBounds_toArray, List.set_cons_zero, List.set_cons_succ] at hQ
    go_wp2_with (fail)
    exact hQ _ _ rfl rfl
  simp only [Act.put, List.setIfInBounds_toArray, List.set_cons_zero, List.set_cons_succ]
  apply wpJ_op rfl (by rfl)
  · intro f w1 hf hJ Q1 hQ
    subst hJ
    simp only [Act.put, List.setIfInBounds_toArray, List.set_cons_zero, List.set_cons_succ] at hQ
    go_wp2_with (fail)
    exact hQ _ _ rfl rfl
  simp only [Act.put, List.setIfInBounds_toArray, List.set_cons_zero, List.set_cons_succ]
  apply wpJ_op rfl (by rfl)
  · intro f w1 hf hJ Q1 hQ
    subst hJ
    simp only [Act.put, List.setIfInBounds_toArray, List.set_cons_zero, List.set_cons_succ] at hQ
    go_wp2_with (fail)
    exact hQ _ _ rfl rfl
  simp only [Act.put, List.setIfInBounds_toArray, List.set_cons_zero, List.set_cons_succ]
  apply wpJ_op rfl (by rfl)
  · intro f w1 hf hJ Q1 hQ
    subst hJ
    simp only [Act.put, List.setIfInBounds_toArray, List.set_cons_zero, List.set_cons_succ] at hQ
    go_wp2_with (fail)
    exact hQ _ _ rfl rfl
  simp only [Act.put, List.setIfInBounds_toArray, List.set_cons_zero, List.set_cons_succ]
  apply wpJ_op rfl (by rfl)
  · intro f w1 hf hJ Q1 hQ
    subst hJ
    simp only [Act.put, List.setIfInBounds_toArray, List.set_cons_zero, List.set_cons_succ] at hQ
    go_wp2_with (fail)
    exact hQ _ _ rfl rfl
  simp only [Act.put, List.setIfInBounds_toArray, List.set_cons_zero, List.set_cons_succ]
  refine wpJ_skip (by rfl) (fun f w1 hf hJ => hJ) ?_
  simp only [Act.put, List.setIfInBounds_toArray, List.set_cons_zero, List.set_cons_succ]
  apply wpJ_op rfl (by rfl)
  · intro f w1 hf hJ Q1 hQ
    subst hJ
    simp only [Act.put, List.setIfInBounds_toArray, List.set_cons_zero, List.set_cons_succ] at hQ
    go_wp2_with (fail)
    exact hQ _ _ rfl rfl
  simp only [Act.put, List.setIfInBounds_toArray, List.set_cons_zero, List.set_cons_succ]
  apply wpJ_op rfl (by rfl)
  · intro f w1 hf hJ Q1 hQ
    subst hJ
    simp only [Act.put, List.setIfInBounds_toArray, List.set_cons_zero, List.set_cons_succ] at hQ
    go_wp2_with (fail)
    exact hQ _ _ rfl rfl
  simp only [Act.put, List.setIfInBounds_toArray, List.set_cons_zero, List.set_cons_succ]
  refine wpJ_skip (by rfl) (fun f w1 hf hJ => hJ) ?_
  simp only [Act.put, List.setIfInBounds_toArray, List.set_cons_zero, List.set_cons_succ]
  refine wpJ_skip (by rfl) (fun f w1 hf hJ => hJ) ?_
  simp only [Act.put, List.setIfInBounds_toArray, List.set_cons_zero, List.set_cons_succ]
  refine wpJ_skip (by rfl) (fun f w1 hf hJ => hJ) ?_
  simp only [Act.put, List.setIfInBounds_toArray, List.set_cons_zero, List.set_cons_succ]
  refine wpJ_skip (by rfl) (fun f w1 hf hJ => hJ) ?_
  simp only [Act.put, List.setIfInBounds_toArray, List.set_cons_zero, List.set_cons_succ]
  refine wpJ_skip (by rfl) (fun f w1 hf hJ => hJ) ?_
  simp only [Act.put, List.setIfInBounds_toArray, List.set_cons_zero, List.set_cons_succ]
  refine wpJ_skip (by rfl) (fun f w1 hf hJ => hJ) ?_
  simp only [Act.put, List.setIfInBounds_toArray, List.set_cons_zero, List.set_cons_succ]
  refine wpJ_skip (by rfl) (fun f w1 hf hJ => hJ) ?_
  simp only [Act.put, List.setIfInBounds_toArray, List.set_cons_zero, List.set_cons_succ]
  refine wpJ_skip (by rfl) (fun f w1 hf hJ => hJ) ?_
  simp only [Act.put, List.setIfInBounds_toArray, List.set_cons_zero, List.set_cons_succ]
  refine wpJ_skip (by rfl) (fun f w1 hf hJ => hJ) ?_
  simp only [Act.put, List.setIfInBounds_toArray, List.set_cons_zero, List.set_cons_succ]
  refine wpJ_skip (by rfl) (fun f w1 hf hJ => hJ) ?_
  simp only [Act.put, List.setIfInBounds_toArray, List.set_cons_zero, List.set_cons_succ]
  refine wpJ_skip (by rfl) (fun f w1 hf hJ => hJ) ?_
  simp only [Act.put, List.setIfInBounds_toArray, List.set_cons_zero, List.set_cons_succ]
  refine wpJ_skip (by rfl) (fun f w1 hf hJ => hJ) ?_
  simp only [Act.put, List.setIfInBounds_toArray, List.set_cons_zero, List.set_cons_succ]
  refine wpJ_skip (by rfl) (fun f w1 hf hJ => hJ) ?_
  simp only [Act.put, List.setIfInBounds_toArray, List.set_cons_zero, List.set_cons_succ]
  refine wpJ_skip (by rfl) (fun f w1 hf hJ => hJ) ?_
  simp only [Act.put, List.setIfInBounds_toArray, List.set_cons_zero, List.set_cons_succ]
  refine wpJ_skip (by rfl) (fun f w1 hf hJ => hJ) ?_
  simp only [Act.put, List.setIfInBounds_toArray, List.set_cons_zero, List.set_cons_succ]
  apply wpJ_op rfl (by rfl)
  · intro f w1 hf hJ Q1 hQ
    subst hJ
    simp only [Act.put, List.setIfInBounds_toArray, List.set_cons_zero, List.set_cons_succ] at hQ
    go_wp2_with (fail)
    exact hQ _ _ rfl rfl
  simp only [Act.put, List.setIfInBounds_toArray, List.set_cons_zero, List.set_cons_succ]
  apply wpJ_op rfl (by rfl)
  · intro f w1 hf hJ Q1 hQ
    subst hJ
    simp only [Act.put, List.setIfInBounds_toArray, List.set_cons_zero, List.set_cons_succ] at hQ
    go_wp2_with (fail)
    exact hQ _ _ rfl rfl
  simp only [Act.put, List.setIfInBounds_toArray, List.set_cons_zero, List.set_cons_succ]
  refine wpJ_nil ?_
  intro w9 hJ9
  subst hJ9
  go_wp2_with (fail)
  go_ret
  exact hP.out _ HB.out
set_option maxRecDepth 100000 in
set_option maxHeartbeats 1000000 in
theorem call_two (h : PSI w B st rb) (hE : Env w) {a : Option Addr} {x1 x2 x3 x4 x5 : Txt} (c : Nat) (hr : RdT w a [x1, x2, x3, x4, x5]) (hc : 5 ≤ c) (hl : ∀ x ∈ [x1, x2, x3, x4, x5], x.length ≤ 100000) {y p q : Int} (hns : numsF [x1, x2, x3] = some [y, p, q]) {s : Txt} (hu : unquoteF x4 = some s) (hv : unquoteF x5 = none) :
    Calls Tryz.prog 61 #[.pointer (some ⟨rb, 0, none⟩), .slice a 5 c] w (LnP w B rb (callLR st [x1, x2, x3, x4, x5])) := by
  have hge := h.ge
  have hP := Lib.hid (fun w' (hb : Below w.heap.size w w') => LnP.no (rb := rb) (B := B) (r := callLR st [x1, x2, x3, x4, x5]) (none_if (by rw [stepF_call]; simp only [hns, hu, hv])) (hb.mono hge))
  obtain ⟨g, o, rfl, _⟩ := hr 0 x1 rfl
  have hc3 : 3 ≤ c := by omega
  have hnum := numbers_is (ws := [x1, x2, x3]) 3 c hE (fun k x hk => hr k x (by
    match k, hk with
    | 0, hk => exact hk
    | 1, hk => exact hk
    | 2, hk => exact hk)) rfl (by omega) (fun x hx => by have := hl x (by simp at hx; rcases hx with rfl | rfl | rfl <;> simp); omega)
  unfold NumsV at hnum
  rw [hns] at hnum
  have hu4 := fun w' => unquote_ev x4 w' (hl x4 (by simp))
  have hu5 := fun w' => unquote_ev x5 w' (hl x5 (by simp))
  simp only [hu] at hu4
  simp only [hv] at hu5
  try simp only [Option.isSome_none, Option.isSome_some] at hu4 hu5
  have HR := Lib.hid (And.intro hr hge)
  clear h hE hr hl hns hu hv
  go_enter Tryz.func61, Tryz.ntmps61
  go_wp2_with (first
    | (go_at_call 69; refine hnum.mono ?_; rintro e w1 ⟨hb1, v1, b1, rfl, hI, hbI⟩; obtain ⟨a9, c9, rfl⟩ := hI.slice; have HI := Lib.hid (And.intro hI hbI); clear hI hbI; obtain ⟨g1, o1, e1, q3⟩ := (HR.out.1.below hb1) 3 x4 rfl; simp only [Option.some.injEq, Addr.mk.injEq, and_true] at e1; obtain ⟨rfl, rfl⟩ := e1; have H1 := Lib.hid hb1; clear hb1 hnum)
    | (go_at_call 82; (with_reducible refine (hu4 _).mono ?_); rintro e w2 ⟨t4, rfl, ht4, hb2⟩; obtain ⟨g1, o1, e1, q4⟩ := (HR.out.1.below (H1.out.trans (hb2.mono H1.out.size))) 4 x5 rfl; simp only [Option.some.injEq, Addr.mk.injEq, and_true] at e1; obtain ⟨rfl, rfl⟩ := e1; have H2 := Lib.hid (And.intro hb2 ht4); clear hb2 ht4 hu4 q3)
    | (go_at_call 82; (with_reducible refine (hu5 _).mono ?_); rintro e w3 ⟨t5, rfl, ht5, hb3⟩; have H3 := Lib.hid (And.intro hb3 ht5); clear hb3 ht5 hu5 q4))
  have hbw : Below w.heap.size w w3.drew := ((H1.out.trans (H2.out.1.mono H1.out.size)).trans (H3.out.1.mono (Nat.le_trans H1.out.size H2.out.1.size))).drew
  have HB := Lib.hid hbw
  clear hbw
  refine region_J (fun _ w1 => w1 = w3.drew) (by kernel_rfl) (by kernel_rfl) rfl ?_
  apply wpJ_op rfl (by rfl)
  · intro f w1 hf hJ Q1 hQ
    subst hJ
    simp only [Act.put, List.setIfInBounds_toArray, List.set_cons_zero, List.set_cons_succ] at hQ
    go_wp2_with (fail)
    exact hQ _ _ rfl rfl
  simp only [Act.put, List.setIfInBounds_toArray, List.set_cons_zero, List.set_cons_succ]
  apply wpJ_op rfl (by rfl)
  · intro f w1 hf hJ Q1 hQ
    subst hJ
    simp only [Act.put, List.setIfInBounds_toArray, List.set_cons_zero, List.set_cons_succ] at hQ
    go_wp2_with (fail)
    exact hQ _ _ rfl rfl
  simp only [Act.put, List.setIfInBounds_toArray, List.set_cons_zero, List.set_cons_succ]
  apply wpJ_op rfl (by rfl)
  · intro f w1 hf hJ Q1 hQ
    subst hJ
    simp only [Act.put, List.setIfInBounds_toArray, List.set_cons_zero, List.set_cons_succ] at hQ
    go_wp2_with (fail)
    exact hQ _ _ rfl rfl
  simp only [Act.put, List.setIfInBounds_toArray, List.set_cons_zero, List.set_cons_succ]
  apply wpJ_op rfl (by rfl)
  · intro f w1 hf hJ Q1 hQ
    subst hJ
    simp only [Act.put, List.setIfInBounds_toArray, List.set_cons_zero, List.set_cons_succ] at hQ
    go_wp2_with (fail)
    exact hQ _ _ rfl rfl
  simp only [Act.put, List.setIfInBounds_toArray, List.set_cons_zero, List.set_cons_succ]
  apply wpJ_op rfl (by rfl)
  · intro f w1 hf hJ Q1 hQ
    subst hJ
    simp only [Act.put, List.setIfInBounds_toArray, List.set_cons_zero, List.set_cons_succ] at hQ
    go_wp2_with (fail)
    exact hQ _ _ rfl rfl
  simp only [Act.put, List.setIfInBounds_toArray, List.set_cons_zero, List.set_cons_succ]
  apply wpJ_op rfl (by rfl)
  · intro f w1 hf hJ Q1 hQ
    subst hJ
    simp only [Act.put, List.setIfInBounds_toArray, List.set_cons_zero, List.set_cons_succ] at hQ
    go_wp2_with (fail)
    exact hQ _ _ rfl rfl
  simp only [Act.put, List.setIfInBounds_toArray, List.set_cons_zero, List.set_cons_succ]
  apply wpJ_op rfl (by rfl)
  · intro f w1 hf hJ Q1 hQ
    subst hJ
    simp only [Act.put, List.setIfInBounds_toArray, List.set_cons_zero, List.set_cons_succ] at hQ
    go_wp2_with (fail)
    exact hQ _ _ rfl rfl
  simp only [Act.put, List.setIfInBounds_toArray, List.set_cons_zero, List.set_cons_succ]
  apply wpJ_op rfl (by rfl)
  · intro f w1 hf hJ Q1 hQ
    subst hJ
    simp only [Act.put, List.setIfInBounds_toArray, List.set_cons_zero, List.set_cons_succ] at hQ
    go_wp2_with (fail)
    exact hQ _ _ rfl rfl
  simp only [Act.put, List.setIfInBounds_toArray, List.set_cons_zero, List.set_cons_succ]
  refine wpJ_skip (by rfl) (fun f w1 hf hJ => hJ) ?_
  simp only [Act.put, List.setIfInBounds_toArray, List.set_cons_zero, List.set_cons_succ]
  refine wpJ_skip (by rfl) (fun f w1 hf hJ => hJ) ?_
  simp only [Act.put, List.setIfInBounds_toArray, List.set_cons_zero, List.set_cons_succ]
  refine wpJ_skip (by rfl) (fun f w1 hf hJ => hJ) ?_
  simp only [Act.put, List.setIfInBounds_toArray, List.set_cons_zero, List.set_cons_succ]
  refine wpJ_skip (by rfl) (fun f w1 hf hJ => hJ) ?_
  simp only [Act.put, List.setIfInBounds_toArray, List.set_cons_zero, List.set_cons_succ]
  refine wpJ_skip (by rfl) (fun f w1 hf hJ => hJ) ?_
  simp only [Act.put, List.setIfInBounds_toArray, List.set_cons_zero, List.set_cons_succ]
  refine wpJ_skip (by rfl) (fun f w1 hf hJ => hJ) ?_
  simp only [Act.put, List.setIfInBounds_toArray, List.set_cons_zero, List.set_cons_succ]
  refine wpJ_skip (by rfl) (fun f w1 hf hJ => hJ) ?_
  simp only [Act.put, List.setIfInBounds_toArray, List.set_cons_zero, List.set_cons_succ]
  refine wpJ_skip (by rfl) (fun f w1 hf hJ => hJ) ?_
  simp only [Act.put, List.setIfInBounds_toArray, List.set_cons_zero, List.set_cons_succ]
  refine wpJ_skip (by rfl) (fun f w1 hf hJ => hJ) ?_
  simp only [Act.put, List.setIfInBounds_toArray, List.set_cons_zero, List.set_cons_succ]
  refine wpJ_skip (by rfl) (fun f w1 hf hJ => hJ) ?_
  simp only [Act.put, List.setIfInBounds_toArray, List.set_cons_zero, List.set_cons_succ]
  refine wpJ_skip (by rfl) (fun f w1 hf hJ => hJ) ?_
  simp only [Act.put, List.setIfInBounds_toArray, List.set_cons_zero, List.set_cons_succ]
  refine wpJ_skip (by rfl) (fun f w1 hf hJ => hJ) ?_
  simp only [Act.put, List.setIfInBounds_toArray, List.set_cons_zero, List.set_cons_succ]
  refine wpJ_skip (by rfl) (fun f w1 hf hJ => hJ) ?_
  simp only [Act.put, List.setIfInBounds_toArray, List.set_cons_zero, List.set_cons_succ]
  refine wpJ_skip (by rfl) (fun f w1 hf hJ => hJ) ?_
  simp only [Act.put, List.setIfInBounds_toArray, List.set_cons_zero, List.set_cons_succ]
  refine wpJ_skip (by rfl) (fun f w1 hf hJ => hJ) ?_
  simp only [Act.put, List.setIfInBounds_toArray, List.set_cons_zero, List.set_cons_succ]
  apply wpJ_op rfl (by rfl)
  · intro f w1 hf hJ Q1 hQ
    subst hJ
    simp only [Act.put, List.setIfInBounds_toArray, List.set_cons_zero, List.set_cons_succ] at hQ
    go_wp2_with (fail)
    exact hQ _ _ rfl rfl
  simp only [Act.put, List.setIfInBounds_toArray, List.set_cons_zero, List.set_cons_succ]
  apply wpJ_op rfl (by rfl)
  · intro f w1 hf hJ Q1 hQ
    subst hJ
    simp only [Act.put, List.setIfInBounds_toArray, List.set_cons_zero, List.set_cons_succ] at hQ
    go_wp2_with (fail)
    exact hQ _ _ rfl rfl
  simp only [Act.put, List.setIfInBounds_toArray, List.set_cons_zero, List.set_cons_succ]
  refine wpJ_nil ?_
  intro w9 hJ9
  subst hJ9
  go_wp2_with (fail)
  go_ret
  exact hP.out _ HB.out
set_option maxRecDepth 100000 in
set_option maxHeartbeats 1000000 in
theorem call_ok (h : PSI w B st rb) (hE : Env w) {a : Option Addr} {x1 x2 x3 x4 x5 : Txt} (c : Nat) (hr : RdT w a [x1, x2, x3, x4, x5]) (hc : 5 ≤ c) (hl : ∀ x ∈ [x1, x2, x3, x4, x5], x.length ≤ 100000) {y p q : Int} (hns : numsF [x1, x2, x3] = some [y, p, q]) {s t : Txt} (hu : unquoteF x4 = some s) (hv : unquoteF x5 = some t) {N : Nat} (hs : Sz st N) (hN : N + 1 ≤ 1000000) :
    Calls Tryz.prog 61 #[.pointer (some ⟨rb, 0, none⟩), .slice a 5 c] w (LnP w B rb (callLR st [x1, x2, x3, x4, x5])) := by
  have hge := h.ge
  have hR : callLR st [x1, x2, x3, x4, x5] = stepSt st (opCall y p q s t) := stepSt_of st _ _ (by rw [stepF_call]; simp only [hns, hu, hv])
  rw [hR]
  obtain ⟨g, o, rfl, _⟩ := hr 0 x1 rfl
  have hc3 : 3 ≤ c := by omega
  have hnum := numbers_is (ws := [x1, x2, x3]) 3 c hE (fun k x hk => hr k x (by
    match k, hk with
    | 0, hk => exact hk
    | 1, hk => exact hk
    | 2, hk => exact hk)) rfl (by omega) (fun x hx => by have := hl x (by simp at hx; rcases hx with rfl | rfl | rfl <;> simp); omega)
  unfold NumsV at hnum
  rw [hns] at hnum
  have hu4 := fun w' => unquote_ev x4 w' (hl x4 (by simp))
  have hu5 := fun w' => unquote_ev x5 w' (hl x5 (by simp))
  simp only [hu] at hu4
  simp only [hv] at hu5
  try simp only [Option.isSome_none, Option.isSome_some] at hu4 hu5
  have hstep := fun w' (hb : Below w.heap.size w w') => sstep_ps (h.below hb) (opCall y p q s t) hs hN
  simp only [opV, opCall] at hstep
  have HST := Lib.hid hstep
  clear hstep hR hs
  have HR := Lib.hid (And.intro hr hge)
  clear h hE hr hl hns hu hv
  go_enter Tryz.func61, Tryz.ntmps61
  go_wp2_with (first
    | (go_at_call 69; refine hnum.mono ?_; rintro e w1 ⟨hb1, v1, b1, rfl, hI, hbI⟩; obtain ⟨g9, c9, rfl, hg9, hc9, hrd⟩ := hI.some_of (by simp); have HI := Lib.hid (And.intro (hI.lt g9 hg9) (And.intro (hrd 0 y rfl) (And.intro (hrd 1 p rfl) (hrd 2 q rfl)))); simp only [List.length_cons, List.length_nil, Nat.zero_add, Nat.reduceAdd] at hc9 ⊢; clear hI hbI hrd; obtain ⟨g1, o1, e1, q3⟩ := (HR.out.1.below hb1) 3 x4 rfl; simp only [Option.some.injEq, Addr.mk.injEq, and_true] at e1; obtain ⟨rfl, rfl⟩ := e1; have H1 := Lib.hid hb1; clear hb1 hnum)
    | (go_at_call 82; (with_reducible refine (hu4 _).mono ?_); rintro e w2 ⟨t4, rfl, ht4, hb2⟩; obtain ⟨g1, o1, e1, q4⟩ := (HR.out.1.below (H1.out.trans (hb2.mono H1.out.size))) 4 x5 rfl; simp only [Option.some.injEq, Addr.mk.injEq, and_true] at e1; obtain ⟨rfl, rfl⟩ := e1; have H2 := Lib.hid (And.intro hb2 ht4); clear hb2 ht4 hu4 q3)
    | (go_at_call 82; (with_reducible refine (hu5 _).mono ?_); rintro e w3 ⟨t5, rfl, ht5, hb3⟩; have H3 := Lib.hid (And.intro hb3 ht5); clear hb3 ht5 hu5 q4))
  have hbw : Below w.heap.size w w3.drew := ((H1.out.trans (H2.out.1.mono H1.out.size)).trans (H3.out.1.mono (Nat.le_trans H1.out.size H2.out.1.size))).drew
  have HB := Lib.hid hbw
  clear hbw
  have e4 := H2.out.2 s rfl
  have e5 := H3.out.2 t rfl
  subst e4 e5
  have hcall := HST.out w3.drew HB.out
  have hb13 : Below w1.heap.size w1 w3.drew := (H2.out.1.trans (H3.out.1.mono H2.out.1.size)).drew
  have m0 := (hb13.cell (p := ⟨g9, 0, none⟩) HI.out.1).trans HI.out.2.1
  have m1 := (hb13.cell (p := ⟨g9, 1, none⟩) HI.out.1).trans HI.out.2.2.1
  have m2 := (hb13.cell (p := ⟨g9, 2, none⟩) HI.out.1).trans HI.out.2.2.2
  have HM := Lib.hid (And.intro m0 (And.intro m1 m2))
  clear m0 m1 m2 hb13
  refine region_C 22 w3.drew (LnQ w3.drew B rb (stepSt st (opCall y p q t4 t5))) rfl (by kernel_rfl) (by kernel_rfl) ?_
  apply wpJ_op rfl (by rfl)
  · intro f w1 hf hJ Q1 hQ
    simp only [Act.put, List.setIfInBounds_toArray, List.set_cons_zero, List.set_cons_succ] at hQ
    go_wp2_with (fail)
    exact hQ _ _ rfl (hJ.other rfl hf (by decide))
  simp only [Act.put, List.setIfInBounds_toArray, List.set_cons_zero, List.set_cons_succ]
  apply wpJ_op rfl (by rfl)
  · intro f w1 hf hJ Q1 hQ
    simp only [Act.put, List.setIfInBounds_toArray, List.set_cons_zero, List.set_cons_succ] at hQ
    go_wp2_with (fail)
    exact hQ _ _ rfl (hJ.other rfl hf (by decide))
  simp only [Act.put, List.setIfInBounds_toArray, List.set_cons_zero, List.set_cons_succ]
  apply wpJ_op rfl (by rfl)
  · intro f w1 hf hJ Q1 hQ
    simp only [Act.put, List.setIfInBounds_toArray, List.set_cons_zero, List.set_cons_succ] at hQ
    go_wp2_with (fail)
    exact hQ _ _ rfl (hJ.other rfl hf (by decide))
  simp only [Act.put, List.setIfInBounds_toArray, List.set_cons_zero, List.set_cons_succ]
  apply wpJ_op rfl (by rfl)
  · intro f w1 hf hJ Q1 hQ
    simp only [Act.put, List.setIfInBounds_toArray, List.set_cons_zero, List.set_cons_succ] at hQ
    go_wp2_with (fail)
    exact hQ _ _ rfl (hJ.other rfl hf (by decide))
  simp only [Act.put, List.setIfInBounds_toArray, List.set_cons_zero, List.set_cons_succ]
  apply wpJ_op rfl (by rfl)
  · intro f w1 hf hJ Q1 hQ
    simp only [Act.put, List.setIfInBounds_toArray, List.set_cons_zero, List.set_cons_succ] at hQ
    go_wp2_with (fail)
    exact hQ _ _ rfl (hJ.other rfl hf (by decide))
  simp only [Act.put, List.setIfInBounds_toArray, List.set_cons_zero, List.set_cons_succ]
  apply wpJ_op rfl (by rfl)
  · intro f w1 hf hJ Q1 hQ
    simp only [Act.put, List.setIfInBounds_toArray, List.set_cons_zero, List.set_cons_succ] at hQ
    go_wp2_with (fail)
    exact hQ _ _ rfl (hJ.other rfl hf (by decide))
  simp only [Act.put, List.setIfInBounds_toArray, List.set_cons_zero, List.set_cons_succ]
  apply wpJ_op rfl (by rfl)
  · intro f w1 hf hJ Q1 hQ
    simp only [Act.put, List.setIfInBounds_toArray, List.set_cons_zero, List.set_cons_succ] at hQ
    go_wp2_with (fail)
    exact hQ _ _ rfl (hJ.other rfl hf (by decide))
  simp only [Act.put, List.setIfInBounds_toArray, List.set_cons_zero, List.set_cons_succ]
  apply wpJ_op rfl (by rfl)
  · intro f w1 hf hJ Q1 hQ
    simp only [Act.put, List.setIfInBounds_toArray, List.set_cons_zero, List.set_cons_succ] at hQ
    go_wp2_with (fail)
    exact hQ _ _ rfl (hJ.other rfl hf (by decide))
  simp only [Act.put, List.setIfInBounds_toArray, List.set_cons_zero, List.set_cons_succ]
  apply wpJ_op rfl (by rfl)
  · intro f w1 hf hJ Q1 hQ
    simp only [Act.put, List.setIfInBounds_toArray, List.set_cons_zero, List.set_cons_succ] at hQ
    go_wp2_with (fail)
    exact hQ _ _ rfl (hJ.other rfl hf (by decide))
  simp only [Act.put, List.setIfInBounds_toArray, List.set_cons_zero, List.set_cons_succ]
  apply wpJ_op rfl (by rfl)
  · intro f w1 hf hJ Q1 hQ
    simp only [Act.put, List.setIfInBounds_toArray, List.set_cons_zero, List.set_cons_succ] at hQ
    go_wp2_with (fail)
    exact hQ _ _ rfl (hJ.other rfl hf (by decide))
  simp only [Act.put, List.setIfInBounds_toArray, List.set_cons_zero, List.set_cons_succ]
  apply wpJ_op rfl (by rfl)
  · intro f w1 hf hJ Q1 hQ
    simp only [Act.put, List.setIfInBounds_toArray, List.set_cons_zero, List.set_cons_succ] at hQ
    go_wp2_with (fail)
    exact hQ _ _ rfl (hJ.other rfl hf (by decide))
  simp only [Act.put, List.setIfInBounds_toArray, List.set_cons_zero, List.set_cons_succ]
  apply wpJ_op rfl (by rfl)
  · intro f w1 hf hJ Q1 hQ
    have hC : f 22 = false := path_no hJ.1 [21, 20, 11] (by kernel_rfl) (by decide) hf.1
    rw [hJ.atC hC]
    have hF := HM.out
    have g1 := hF.1
    clear hF
    simp only [Act.put, List.setIfInBounds_toArray, List.set_cons_zero, List.set_cons_succ] at hQ
    go_wp2_with (fail)
    exact hQ _ _ rfl (by have h9 := hJ.other rfl hf (by decide); rwa [hJ.atC hC] at h9)
  simp only [Act.put, List.setIfInBounds_toArray, List.set_cons_zero, List.set_cons_succ]
  apply wpJ_op rfl (by rfl)
  · intro f w1 hf hJ Q1 hQ
    simp only [Act.put, List.setIfInBounds_toArray, List.set_cons_zero, List.set_cons_succ] at hQ
    go_wp2_with (fail)
    exact hQ _ _ rfl (hJ.other rfl hf (by decide))
  simp only [Act.put, List.setIfInBounds_toArray, List.set_cons_zero, List.set_cons_succ]
  apply wpJ_op rfl (by rfl)
  · intro f w1 hf hJ Q1 hQ
    simp only [Act.put, List.setIfInBounds_toArray, List.set_cons_zero, List.set_cons_succ] at hQ
    go_wp2_with (fail)
    exact hQ _ _ rfl (hJ.other rfl hf (by decide))
  simp only [Act.put, List.setIfInBounds_toArray, List.set_cons_zero, List.set_cons_succ]
  apply wpJ_op rfl (by rfl)
  · intro f w1 hf hJ Q1 hQ
    have hC : f 22 = false := path_no hJ.1 [21, 20, 14] (by kernel_rfl) (by decide) hf.1
    rw [hJ.atC hC]
    have hF := HM.out
    have g1 := hF.2.1
    clear hF
    simp only [Act.put, List.setIfInBounds_toArray, List.set_cons_zero, List.set_cons_succ] at hQ
    go_wp2_with (fail)
    exact hQ _ _ rfl (by have h9 := hJ.other rfl hf (by decide); rwa [hJ.atC hC] at h9)
  simp only [Act.put, List.setIfInBounds_toArray, List.set_cons_zero, List.set_cons_succ]
  apply wpJ_op rfl (by rfl)
  · intro f w1 hf hJ Q1 hQ
    simp only [Act.put, List.setIfInBounds_toArray, List.set_cons_zero, List.set_cons_succ] at hQ
    go_wp2_with (fail)
    exact hQ _ _ rfl (hJ.other rfl hf (by decide))
  simp only [Act.put, List.setIfInBounds_toArray, List.set_cons_zero, List.set_cons_succ]
  apply wpJ_op rfl (by rfl)
  · intro f w1 hf hJ Q1 hQ
    simp only [Act.put, List.setIfInBounds_toArray, List.set_cons_zero, List.set_cons_succ] at hQ
    go_wp2_with (fail)
    exact hQ _ _ rfl (hJ.other rfl hf (by decide))
  simp only [Act.put, List.setIfInBounds_toArray, List.set_cons_zero, List.set_cons_succ]
  apply wpJ_op rfl (by rfl)
  · intro f w1 hf hJ Q1 hQ
    have hC : f 22 = false := path_no hJ.1 [21, 20, 17] (by kernel_rfl) (by decide) hf.1
    rw [hJ.atC hC]
    have hF := HM.out
    have g1 := hF.2.2
    clear hF
    simp only [Act.put, List.setIfInBounds_toArray, List.set_cons_zero, List.set_cons_succ] at hQ
    go_wp2_with (fail)
    exact hQ _ _ rfl (by have h9 := hJ.other rfl hf (by decide); rwa [hJ.atC hC] at h9)
  simp only [Act.put, List.setIfInBounds_toArray, List.set_cons_zero, List.set_cons_succ]
  apply wpJ_op rfl (by rfl)
  · intro f w1 hf hJ Q1 hQ
    simp only [Act.put, List.setIfInBounds_toArray, List.set_cons_zero, List.set_cons_succ] at hQ
    go_wp2_with (fail)
    exact hQ _ _ rfl (hJ.other rfl hf (by decide))
  simp only [Act.put, List.setIfInBounds_toArray, List.set_cons_zero, List.set_cons_succ]
  apply wpJ_op rfl (by rfl)
  · intro f w1 hf hJ Q1 hQ
    simp only [Act.put, List.setIfInBounds_toArray, List.set_cons_zero, List.set_cons_succ] at hQ
    go_wp2_with (fail)
    exact hQ _ _ rfl (hJ.other rfl hf (by decide))
  simp only [Act.put, List.setIfInBounds_toArray, List.set_cons_zero, List.set_cons_succ]
  apply wpJ_op rfl (by rfl)
  · intro f w1 hf hJ Q1 hQ
    simp only [Act.put, List.setIfInBounds_toArray, List.set_cons_zero, List.set_cons_succ] at hQ
    go_wp2_with (fail)
    exact hQ _ _ rfl (hJ.other rfl hf (by decide))
  simp only [Act.put, List.setIfInBounds_toArray, List.set_cons_zero, List.set_cons_succ]
  apply wpJ_op rfl (by rfl)
  · intro f w1 hf hJ Q1 hQ
    simp only [Act.put, List.setIfInBounds_toArray, List.set_cons_zero, List.set_cons_succ] at hQ
    go_wp2_with (fail)
    exact hQ _ _ rfl (hJ.other rfl hf (by decide))
  simp only [Act.put, List.setIfInBounds_toArray, List.set_cons_zero, List.set_cons_succ]
  apply wpJ_op rfl (by rfl)
  · intro f w1 hf hJ Q1 hQ
    rw [hJ.atC hf.1]
    simp only [Act.put, List.setIfInBounds_toArray, List.set_cons_zero, List.set_cons_succ] at hQ
    go_wp2_with (go_at_call 81; refine hcall.mono ?_; rintro e w8 ⟨rfl, hq⟩)
    exact hQ _ _ rfl (hJ.goC rfl hf hq)
  simp only [Act.put, List.setIfInBounds_toArray, List.set_cons_zero, List.set_cons_succ]
  apply wpJ_op rfl (by rfl)
  · intro f w1 hf hJ Q1 hQ
    simp only [Act.put, List.setIfInBounds_toArray, List.set_cons_zero, List.set_cons_succ] at hQ
    go_wp2_with (fail)
    exact hQ _ _ rfl (hJ.other rfl hf (by decide))
  simp only [Act.put, List.setIfInBounds_toArray, List.set_cons_zero, List.set_cons_succ]
  apply wpJ_op rfl (by rfl)
  · intro f w1 hf hJ Q1 hQ
    simp only [Act.put, List.setIfInBounds_toArray, List.set_cons_zero, List.set_cons_succ] at hQ
    go_wp2_with (fail)
    exact hQ _ _ rfl (hJ.other rfl hf (by decide))
  simp only [Act.put, List.setIfInBounds_toArray, List.set_cons_zero, List.set_cons_succ]
  refine wpJ_nil ?_
  intro w9 hJ9
  have hq9 := hJ9.fin rfl
  clear hJ9
  go_wp2_with (fail)
  go_ret
  exact LnP.of_q rfl (LnQ.from (HB.out.mono HR.out.2) hq9)
theorem nums_three : ∀ {l : List Txt} {ns : List Int}, numsF l = some ns → ns.length = l.length
  | [], ns, h => by simp [numsF] at h; subst h; rfl
  | x :: r, ns, h => by
    rw [numsF] at h
    cases hx : numF x with
    | none => rw [hx] at h; cases h
    | some n =>
      rw [hx] at h
      cases hr : numsF r with
      | none => rw [hr] at h; cases h
      | some m =>
        rw [hr] at h
        simp at h
        subst h
        simp [nums_three hr]
theorem call_ps (h : PSI w B st rb) (hE : Env w) {a : Option Addr} {ws : List Txt} (n c : Nat) (hr : RdT w a ws) (hn : ws.length = n) (hc : n ≤ c) (hl : ∀ x ∈ ws, x.length ≤ 100000) {N : Nat} (hs : Sz st N) (hN : N + 1 ≤ 1000000) :
    Calls Tryz.prog 61 #[.pointer (some ⟨rb, 0, none⟩), .slice a n c] w (LnP w B rb (callLR st ws)) := by
  subst hn
  by_cases h5 : ws.length = 5
  · match ws, h5 with
    | [x1, x2, x3, x4, x5], _ =>
      cases hns : numsF [x1, x2, x3] with
      | none => exact call_no h hE c hr hc hl hns
      | some ns =>
        have h3 := nums_three hns
        match ns, h3 with
        | [y, p, q], _ =>
          cases hu : unquoteF x4 with
          | none => exact call_one h hE c hr hc hl hns hu
          | some s =>
            cases hv : unquoteF x5 with
            | none => exact call_two h hE c hr hc hl hns hu hv
            | some t => exact call_ok h hE c hr hc hl hns hu hv hs hN
  · exact callw_len h _ c rfl h5
end
end Go.Proofs.YtefaaginedideaaGreatDoor
