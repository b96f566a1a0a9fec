/-
  Scripts printed: a line's number, and lines of steps, by the program.
-/
import Derived.Test.YtefaaginedideaaGreatDoorPrP
import Derived.Test.YtefaaginedideaaGreatDoorSLaw
import Derived.Test.YtefaaginedideaaGreatDoorSRst
namespace Go.Proofs.YtefaaginedideaaGreatDoor
set_option linter.unusedSimpArgs false
set_option linter.unusedVariables false
open Go.RowKit Own RegJ
open Go.Lib hiding intOf

/-- cells that can be read, below a bound -/
def RdB (B : Nat) (w : World) (a : Option Addr) (cs : List Value) : Prop := ∀ k v, cs[k]? = some v → ∃ g o, a = some ⟨g, o, none⟩ ∧ w.cell? ⟨g, o + k, none⟩ = some v ∧ g < B
theorem RdB.below {B : Nat} {w w' : World} {a : Option Addr} {cs : List Value} (h : RdB B w a cs) (hb : Below B w w') : RdB B w' a cs := fun k v hk => by
  obtain ⟨g, o, ha, hc, hg⟩ := h k v hk
  exact ⟨g, o, ha, (hb.cell (p := ⟨g, o + k, none⟩) hg).trans hc, hg⟩
theorem RdB.at {B : Nat} {w : World} {a : Option Addr} {cs : List Value} (h : RdB B w a cs) {i : Nat} {v : Value} (hi : cs[i]? = some v) : ∃ g o, a = some ⟨g, o, none⟩ ∧ g < B ∧ ∀ k u, cs[k]? = some u → w.cell? ⟨g, o + k, none⟩ = some u := by
  obtain ⟨g, o, rfl, _, hg⟩ := h i v hi
  refine ⟨g, o, rfl, hg, fun k u hk => ?_⟩
  obtain ⟨g', o', e, hc, _⟩ := h k u hk
  simp only [Option.some.injEq, Addr.mk.injEq, and_true] at e
  obtain ⟨rfl, rfl⟩ := e
  exact hc
theorem PrR.bad {B b : Nat} {bad v : Bool} {l : Txt} {w w' : World} (h : PrR B b bad l w w') : PrR B b v l w (w'.setCell ⟨b, 2, none⟩ (.bool v)) := by
  have h1 := h.1.tail 0 (.bool v)
  exact ⟨h1, h.2.1.setCell (p := ⟨b, 2, none⟩) h1.at.choose_spec.2.1 _, h.2.2.setCell ⟨b, 2, none⟩ rfl _⟩
set_option maxRecDepth 100000 in
theorem pnext_is {B b : Nat} {bad : Bool} {l : Txt} {w : World} (x : Int) (h : Pr B b bad l w) :
    Calls Tryz.prog 36 #[.pointer (some ⟨b, 0, none⟩), .int .i64 x] w fun e w' => e = .returned (.int .i64 (nextV x)) ∧ PrR B b (bad || nextB x) l w w' := by
  have h0 := BldR.refl h
  have c2 : w.cell? ⟨b, 2, none⟩ = some (.bool bad) := h.tl 0
  have f2 := h.nf 2
  by_cases h1 : x < -1
  · have e1 : nextB x = true := by unfold nextB; rw [decide_eq_true h1]; rfl
    have e2 : nextV x = 0 := by unfold nextV; rw [if_pos e1]
    have HP := Lib.hid (PrR.bad (v := true) h0)
    rw [e1, e2, Bool.or_true]
    clear h h0 e1 e2
    go_enter Tryz.func36, Tryz.ntmps36
    go_wp2_with (fail)
    go_ret
    exact ⟨rfl, HP.out⟩
  · have d1 : decide (x < -1) = false := decide_eq_false h1
    by_cases h2 : 999999 ≤ x
    · have e1 : nextB x = true := by unfold nextB; rw [decide_eq_true h2]; simp
      have e2 : nextV x = 0 := by unfold nextV; rw [if_pos e1]
      have HP := Lib.hid (PrR.bad (v := true) h0)
      rw [e1, e2, Bool.or_true]
      have d2 : x ≥ 999999 := h2
      clear h h0 e1 e2 h1
      go_enter Tryz.func36, Tryz.ntmps36
      go_wp2_with (fail)
      go_ret
      exact ⟨rfl, HP.out⟩
    · have e1 : nextB x = false := by unfold nextB; rw [d1, decide_eq_false h2]; rfl
      have e2 : nextV x = x + 1 := by unfold nextV; rw [e1]; rfl
      have HP := Lib.hid h0
      rw [e1, e2, Bool.or_false]
      have d2 : decide (x ≥ 999999) = false := decide_eq_false h2
      have d3 : -1 ≤ x := by omega
      have d4 : x ≤ 999998 := by omega
      clear h h0 e1 e2 h1 h2
      go_enter Tryz.func36, Tryz.ntmps36
      go_wp2_with (fail)
      go_ret
      exact ⟨rfl, HP.out⟩
theorem opsP_len {os : List OpV} {i K : Nat} (hk : os.length ≤ K) : (opsP (os.take i)).length ≤ 2001 * K := by
  refine fm_take (fun o _ => ?_) hk
  have := opR_len o
  simp; omega
set_option maxRecDepth 100000 in
set_option maxHeartbeats 4000000 in
theorem psteps_is {B b : Nat} {bad : Bool} {l : Txt} {w : World} {a : Option Addr} {os : List OpV} (n c : Nat) (hE : Env w) (h8 : 8 ≤ B) (hBw : B ≤ w.heap.size) (h : Pr B b bad l w) (hr : RdB B w a (oCells os)) (hn : os.length = n) (hk : n ≤ 1000000) (hlen : l.length ≤ 140700000000000) :
    Calls Tryz.prog 37 #[.pointer (some ⟨b, 0, none⟩), .slice a n c] w fun e w' => e = .returned (.tuple #[]) ∧ PrR B b (bad || opsB os) (l ++ opsP os) w w' := by
  have H0 := Lib.hid (show PrR B b (bad || opsB (os.take 0)) (l ++ opsP (os.take 0)) w w by
    have e1 : opsB (os.take 0) = false := rfl
    have e2 : opsP (os.take 0) = [] := rfl
    rw [e1, e2, Bool.or_false, List.append_nil]; exact BldR.refl h)
  have HE := Lib.hid (And.intro hE (And.intro hr hn))
  clear hE hr hn h
  go_enter Tryz.func37, Tryz.ntmps37
  go_wp2_with (fail)
  go_loopw [10] (fun ix wr => ∃ i : Nat, i ≤ n ∧ ix = .int .i64 i ∧ Hid (PrR B b (bad || opsB (os.take i)) (l ++ opsP (os.take i)) w wr)) (fun ix _ => n - (intOf ix).toNat)
  case atStart => exact ⟨0, Nat.zero_le _, rfl, H0⟩
  case round =>
    obtain ⟨i, hi, rfl, H⟩ := hrel
    clear H0
    by_cases hil : i < n
    · obtain ⟨x, hx⟩ : ∃ x, os[i]? = some x := ⟨os[i]'(by rw [HE.out.2.2]; exact hil), List.getElem?_eq_getElem _⟩
      have hB : B ≤ wr.heap.size := Nat.le_trans hBw H.out.2.1.size
      have hEr := HE.out.1.below h8 H.out.2.1
      obtain ⟨g, o, rfl, hg, ka⟩ := (HE.out.2.1.below H.out.2.1).at (oCells_at hx (by omega : 0 < 9))
      have p0 := ka _ _ (oCells_at hx (by omega : 0 < 9))
      have p1 := ka _ _ (oCells_at hx (by omega : 1 < 9))
      have p2 := ka _ _ (oCells_at hx (by omega : 2 < 9))
      have p3 := ka _ _ (oCells_at hx (by omega : 3 < 9))
      have p4 := ka _ _ (oCells_at hx (by omega : 4 < 9))
      have p5 := ka _ _ (oCells_at hx (by omega : 5 < 9))
      have p6 := ka _ _ (oCells_at hx (by omega : 6 < 9))
      have p7 := ka _ _ (oCells_at hx (by omega : 7 < 9))
      have p8 := ka _ _ (oCells_at hx (by omega : 8 < 9))
      rw [Nat.add_zero] at p0
      rw [← Nat.add_assoc] at p1 p2 p3 p4 p5 p6 p7 p8
      have hnx := Lib.hid (And.intro (fm_next (f := fun o => opR o ++ [10]) hx) (any_next (g := fun o => !mayO o) hx))
      obtain ⟨y, hy⟩ : ∃ y, (bad || opsB (os.take i)) = y := ⟨_, rfl⟩
      have HY := Lib.hid hy
      have d1 : decide ((i : Int) < (n : Int)) = true := by simp; omega
      have i1 : (i : Int) < (n : Int) := by omega
      have i2 : (0 : Int) ≤ i := by omega
      have hlt := opsP_len (i := i) (Nat.le_of_eq HE.out.2.2)
      have hrl := opR_len x
      have hz1 := B_size (opR x)
      have hz2 := B_app (opR x) [10]
      have hz : ¬ 9223372036854775807 < (Go.Proofs.YtefaaginedideaaGreatDoor.B (opR x)).size + 1 := by omega
      have e10 : Go.Proofs.YtefaaginedideaaGreatDoor.B [10] = ⟨#[10]⟩ := rfl
      rw [e10] at hz2
      -- the world with the step's copy
      have hA : Below wr.heap.size wr ((wr.alloc (.cells zOp 25)).setRow wr.heap.size (opCs x).toArray) := ((Below.refl _ _).alloc (Nat.le_refl _) _).trans ((Upd.row _ _ _).below (by simp) (fun k hk => by omega))
      have hop := fun w0 (h0 : Env w0) => op_is x w0 h0
      have hEA := hEr.bel hA
      have hrd := (Blk.row (Blk.new wr zOp 25) #[.int .i64 x.k, .int .i64 x.a, .int .i64 x.b, .int .i64 x.c, .int .i64 x.y, .int .i64 x.p, .int .i64 x.q, .string (Go.Proofs.YtefaaginedideaaGreatDoor.B x.s), .string (Go.Proofs.YtefaaginedideaaGreatDoor.B x.t)]).rd
      have HA := Lib.hid (And.intro hA hEA)
      have hoe : (mayO x = true ∧ opE x = 0) ∨ (mayO x = false ∧ opE x = 19) := by
        unfold opE
        cases mayO x
        · exact .inr ⟨rfl, rfl⟩
        · exact .inl ⟨rfl, rfl⟩
      -- behind the store
      have key : ∀ (y' : Bool), (y || !mayO x) = y' → ∀ W1, Below wr.heap.size wr W1 → Hid (PrR B b (bad || opsB (os.take (i + 1))) (l ++ opsP (os.take i)) w (W1.setCell ⟨b, 2, none⟩ (.bool y'))) := by
        intro y' hy' W1 hW
        have e : (bad || opsB (os.take (i + 1))) = y' := by
          have := hnx.out.2
          unfold opsB at *
          rw [this, ← Bool.or_assoc, HY.out, hy']
        rw [e]
        exact Lib.hid (PrR.bad (H.out.then hB hW))
      have hcs : (∃ v : Bool, (y || !mayO x) = v ∧ ((y = true ∧ v = true ∧ (opE x = 0 ∨ opE x = 19)) ∨ (y = false ∧ opE x = 0 ∧ v = false) ∨ (y = false ∧ opE x = 19 ∧ v = true))) := by
        rcases hoe with ⟨h1, h2⟩ | ⟨h1, h2⟩
        · cases y
          · exact ⟨false, by rw [h1]; rfl, .inr (.inl ⟨rfl, h2, rfl⟩)⟩
          · exact ⟨true, by rw [h1]; rfl, .inl ⟨rfl, rfl, .inl h2⟩⟩
        · cases y
          · exact ⟨true, by rw [h1]; rfl, .inr (.inr ⟨rfl, h2, rfl⟩)⟩
          · exact ⟨true, by rw [h1]; rfl, .inl ⟨rfl, rfl, .inr h2⟩⟩
      obtain ⟨v, hv, hcs⟩ := hcs
      have hkey := key v hv
      rw [← HY.out] at hcs
      have hkc := fun W1 (hW : Below wr.heap.size wr W1) => show W1.cell? ⟨b, 2, none⟩ = some (.bool y) from by
        have := (H.out.then hB hW).1.tl 0
        rw [hy] at this
        exact this
      have hkf := fun W1 (hW : Below wr.heap.size wr W1) => (H.out.then hB hW).1.nf 2
      rw [HY.out] at hcs
      have hws : ∀ (v : Bool) (W1 : World), Pr B b v (l ++ opsP (os.take i)) W1 → B ≤ W1.heap.size → Calls Tryz.prog 41 #[.pointer (some ⟨b, 0, none⟩), .string (Go.Proofs.YtefaaginedideaaGreatDoor.B (opR x ++ [10]))] W1 fun e w' => e = .returned (.tuple #[.int .i64 (Go.Proofs.YtefaaginedideaaGreatDoor.B (opR x ++ [10])).size, .nilIface]) ∧ PrR B b v (l ++ opsP (os.take i) ++ (opR x ++ [10])) W1 w' := fun v W1 h1 h2 => by
        have := wstr_is (Go.Proofs.YtefaaginedideaaGreatDoor.B (opR x ++ [10])) atP h1 (by rw [byteCells_length, B_size]; simp only [List.length_append, List.length_cons, List.length_nil]; omega) h2
        rw [strCells_B, cells_app] at this
        exact this
      have hfm : opsP (os.take (i + 1)) = opsP (os.take i) ++ (opR x ++ [10]) := hnx.out.1
      have HF := Lib.hid hfm
      clear hx ka key hoe hv hz1 hy hA hEA hfm hlt hrl
      generalize opE x = ee at *
      generalize hqx : Go.Proofs.YtefaaginedideaaGreatDoor.B (opR x) = qx at *
      generalize hqy : Go.Proofs.YtefaaginedideaaGreatDoor.B (opR x ++ [10]) = qy at *
      clear hqx hqy
      rcases hcs with ⟨rfl, rfl, rfl | rfl⟩ | ⟨rfl, rfl, rfl⟩ | ⟨rfl, rfl, rfl⟩
      all_goals
        go_wp2_with (first
          | (refine wpList_store_row rfl 25 (.tmp 5) (.tmp 13) rfl wr.heap.size #[.int .i64 x.k, .int .i64 x.a, .int .i64 x.b, .int .i64 x.c, .int .i64 x.y, .int .i64 x.p, .int .i64 x.q, .string (Go.Proofs.YtefaaginedideaaGreatDoor.B x.s), .string (Go.Proofs.YtefaaginedideaaGreatDoor.B x.t)] rfl rfl 25 zOp (Blk.new wr _ _) infoOpS rfl (by simp [Value.oneCell']) ?_)
          | (go_at_call 10; refine (hop _ HA.out.2).mono ?_; rintro e w1 ⟨rfl, hb1⟩; have H1 := Lib.hid (HA.out.1.trans (hb1.mono HA.out.1.size)); have c2 := hkc _ H1.out; have f2 := hkf _ H1.out; have HK := hkey _ H1.out; clear hb1 hop hkc hkf hkey)
          | (go_at_call 41; refine (hws _ _ HK.out.1 (Nat.le_trans hBw HK.out.2.1.size)).mono ?_; rintro e w3 ⟨rfl, h3⟩; have H3 := Lib.hid (HK.out.trans h3); clear h3 hws))
        go_roundw
        case rel =>
          refine ⟨i + 1, by omega, by go_num, ?_⟩
          rw [HF.out, ← List.append_assoc]
          exact H3
        case measure => simp [intOf]; omega
    · have d1 : decide ((i : Int) < (n : Int)) = false := by simp; omega
      have d2 : decide (i < n) = false := by simp; omega
      obtain rfl : i = n := by omega
      have HN := Lib.hid (show os.take i = os by rw [← HE.out.2.2, List.take_length])
      clear hil hi
      go_wp2_with (fail)
      go_returns
      rw [HN.out] at H
      exact ⟨rfl, H.out⟩
end Go.Proofs.YtefaaginedideaaGreatDoor
