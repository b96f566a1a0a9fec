/-
  Script's law: is a configuration more than is gone through?
-/
import Derived.Test.YtefaaginedideaaGreatDoorCfg
import Derived.Test.YtefaaginedideaaGreatDoorPrP
namespace Go.Proofs.YtefaaginedideaaGreatDoor
set_option linter.unusedSimpArgs false
set_option linter.unusedVariables false
open Go.RowKit Own RegJ
open Go.Lib hiding intOf

def gO (o : OpV) : Bool := decide (600 < o.s.length) || decide (600 < o.t.length)
def greatO (os : List OpV) : Bool := decide (60 < os.length) || os.any gO
def gT (t : TaskV) : Bool := decide (12 < t.uses.length) || greatO t.prog
def gB (b : EffV) : Bool := greatO b.prog
def greatC (c : CfgV) : Bool := ((((decide (12 < c.tasks.length) || decide (12 < c.best.length)) || decide (12 < c.mtx.length)) || decide (12 < c.gaps.length)) || c.tasks.any gT) || c.best.any gB
theorem greatO_len {os : List OpV} (h : greatO os = false) : os.length ≤ 60 := by
  unfold greatO at h
  rw [Bool.or_eq_false_iff] at h
  have := of_decide_eq_false h.1
  omega
theorem greatC_N {c : CfgV} (h : greatC c = false) : CfgN c 20000 := by
  unfold greatC at h
  simp only [Bool.or_eq_false_iff, decide_eq_false_iff_not, List.any_eq_false] at h
  obtain ⟨⟨⟨⟨⟨h1, h2⟩, h3⟩, h4⟩, h5⟩, h6⟩ := h
  refine ⟨by omega, by omega, by omega, by omega, fun t ht => ?_, fun b hb => ?_⟩
  · have h7 : gT t = false := by simpa using h5 t ht
    unfold gT at h7
    rw [Bool.or_eq_false_iff] at h7
    have h8 := of_decide_eq_false h7.1
    have h9 := greatO_len h7.2
    omega
  · have h7 : gB b = false := by simpa using h6 b hb
    have h9 := greatO_len h7
    omega
theorem any_at {α : Type} {g : α → Bool} {L : List α} {i : Nat} {x : α} (h : L[i]? = some x) (hx : g x = true) : L.any g = true := by
  rw [List.any_eq_true]; exact ⟨x, List.mem_of_getElem? h, hx⟩
set_option maxRecDepth 100000 in
set_option maxHeartbeats 2000000 in
theorem gops_is {w : World} {a : Option Addr} {os : List OpV} {b : Bool} (n c : Nat) (hb : greatO os = b) (hr : RdC w a (oCells os)) (hn : os.length = n) (hm : n ≤ maxLen) :
    Calls Tryz.prog 8 #[.slice a n c] w (fun e w' => e = .returned (.bool b) ∧ w' = w) := by
  unfold maxLen at hm
  by_cases h60 : (n : Int) > 60
  · obtain rfl : true = b := by
      rw [← hb]; unfold greatO; rw [hn, decide_eq_true (show 60 < n by omega)]; rfl
    clear hb hr hn
    go_enter Tryz.func8, Tryz.ntmps8
    go_wp2_with (fail)
    go_ret
    exact ⟨rfl, rfl⟩
  · have e60 : decide ((n : Int) > 60) = false := by simp; omega
    have e61 : decide (60 < n) = false := by simp; omega
    have HE := Lib.hid (And.intro hr (And.intro hn (show os.any gO = b by rw [← hb]; unfold greatO; rw [hn, decide_eq_false (show ¬ 60 < n by omega)]; rfl)))
    clear hr hn hb h60
    go_enter Tryz.func8, Tryz.ntmps8
    go_wp2_with (fail)
    go_loopw [3] (fun ix wr => ∃ i : Nat, i ≤ n ∧ ix = .int .i64 i ∧ wr = w ∧ Hid ((os.take i).any gO = false)) (fun ix _ => n - (intOf ix).toNat)
    case atStart => exact ⟨0, Nat.zero_le _, rfl, rfl, Lib.hid rfl⟩
    case round =>
      obtain ⟨i, hi, rfl, rfl, H⟩ := hrel
      by_cases hil : i < n
      · obtain ⟨x, hx⟩ : ∃ x, os[i]? = some x := ⟨os[i]'(by rw [HE.out.2.1]; exact hil), List.getElem?_eq_getElem _⟩
        obtain ⟨g, o, rfl, ka⟩ := HE.out.1.at (oCells_at hx (by omega : 0 < 9))
        have p7 := ka _ _ (oCells_at hx (by omega : 7 < 9))
        have p8 := ka _ _ (oCells_at hx (by omega : 8 < 9))
        rw [← Nat.add_assoc] at p7 p8
        have d1 : decide ((i : Int) < (n : Int)) = true := by simp; omega
        have i1 : (i : Int) < (n : Int) := by omega
        have i2 : (0 : Int) ≤ i := by omega
        have hs := B_size x.s
        have ht := B_size x.t
        by_cases e0 : 600 < x.s.length
        · obtain rfl : true = b := by rw [← HE.out.2.2, any_at hx (by unfold gO; rw [decide_eq_true e0]; rfl)]
          rw [← hs] at e0
          have e1 : ((B x.s).size : Int) > 600 := by omega
          clear hx ka hs ht e0 HE H
          generalize B x.s = s at *
          generalize B x.t = t at *
          go_wp2_with (fail)
          go_ret
          exact ⟨rfl, rfl⟩
        · by_cases e0' : 600 < x.t.length
          · obtain rfl : true = b := by rw [← HE.out.2.2, any_at hx (by unfold gO; rw [decide_eq_true e0', Bool.or_true])]
            rw [← hs] at e0
            rw [← ht] at e0'
            have e1 : decide (((B x.s).size : Int) > 600) = false := by simp; omega
            have e2 : ((B x.t).size : Int) > 600 := by omega
            have e3 : decide (600 < (B x.s).size) = false := by simp; omega
            clear hx ka hs ht e0 e0' HE H
            generalize B x.s = s at *
            generalize B x.t = t at *
            go_wp2_with (fail)
            go_ret
            exact ⟨rfl, rfl⟩
          · have HX := Lib.hid (show (os.take (i + 1)).any gO = false by rw [any_next hx, H.out]; unfold gO; rw [decide_eq_false e0, decide_eq_false e0']; rfl)
            rw [← hs] at e0
            rw [← ht] at e0'
            have e1 : decide (((B x.s).size : Int) > 600) = false := by simp; omega
            have e2 : decide (((B x.t).size : Int) > 600) = false := by simp; omega
            have e3 : decide (600 < (B x.s).size) = false := by simp; omega
            have e4 : decide (600 < (B x.t).size) = false := by simp; omega
            clear hx ka hs ht e0 e0' H
            generalize B x.s = s at *
            generalize B x.t = t at *
            go_wp2_with (fail)
            go_roundw
            case rel => exact ⟨i + 1, by omega, by go_num, by trivial, HX⟩
            case measure => simp [intOf]; omega
      · have d1 : decide ((i : Int) < (n : Int)) = false := by simp; omega
        have d2 : decide (i < n) = false := by simp; omega
        obtain rfl : i = n := by omega
        obtain rfl : false = b := by
          have h := H.out
          rw [← HE.out.2.1, List.take_length, HE.out.2.2] at h
          exact h.symm
        clear hil hi H HE
        go_wp2_with (fail)
        go_ret
        exact ⟨rfl, rfl⟩
set_option maxRecDepth 100000 in
set_option maxHeartbeats 4000000 in
theorem gcfg_is {w : World} {c : CfgV} {tv bv mv gv : Value} {tq : List TQ} {eq : List EQ} {b : Bool} (hb : greatC c = b) (h : RdCfg w c tv bv mv gv tq eq) :
    Calls Tryz.prog 19 #[.agg #[tv, bv, mv, gv, .int .i64 c.frames, .int .i64 c.dog]] w (ValB (.bool b) w) := by
  obtain ⟨a0, c0, rfl, hT⟩ := h.rt
  obtain ⟨a1, c1, rfl, hE⟩ := h.re
  obtain ⟨a2, c2, rfl, hM⟩ := h.rm
  obtain ⟨a3, c3, rfl, hG⟩ := h.rg
  obtain ⟨n0, e0⟩ : ∃ n, c.tasks.length = n := ⟨_, rfl⟩
  obtain ⟨n1, e1⟩ : ∃ n, c.best.length = n := ⟨_, rfl⟩
  obtain ⟨n2, e2⟩ : ∃ n, c.mtx.length = n := ⟨_, rfl⟩
  obtain ⟨n3, e3⟩ : ∃ n, c.gaps.length = n := ⟨_, rfl⟩
  rw [e0, e1, e2, e3]
  generalize c.frames = fr
  generalize c.dog = dg
  have hB1 := Blk.new w #[.slice a0 n0 c0, .slice a1 n1 c1, .slice a2 n2 c2, .slice a3 n3 c3, .int .i64 fr, .int .i64 dg] 41
  have hbel : Below w.heap.size w (w.alloc (.cells #[.slice a0 n0 c0, .slice a1 n1 c1, .slice a2 n2 c2, .slice a3 n3 c3, .int .i64 fr, .int .i64 dg] 41)) := (Below.refl _ _).alloc (Nat.le_refl _) _
  have r0 := hB1.rd
  by_cases hbig : 12 < n0 ∨ 12 < n1 ∨ 12 < n2 ∨ 12 < n3
  · obtain rfl : true = b := by
      rw [← hb]
      unfold greatC
      rw [e0, e1, e2, e3]
      rcases hbig with h | h | h | h <;> rw [decide_eq_true h] <;> simp
    have key : (n0 : Int) > 12 ∨ (decide ((n0 : Int) > 12) = false ∧ (n1 : Int) > 12) ∨ (decide ((n0 : Int) > 12) = false ∧ decide ((n1 : Int) > 12) = false ∧ (n2 : Int) > 12) ∨ (decide ((n0 : Int) > 12) = false ∧ decide ((n1 : Int) > 12) = false ∧ decide ((n2 : Int) > 12) = false ∧ (n3 : Int) > 12) := by
      simp only [decide_eq_false_iff_not]; omega
    clear hb h hT hE hM hG hbig hB1
    rcases key with d0 | ⟨d0, d1⟩ | ⟨d0, d1, d2⟩ | ⟨d0, d1, d2, d3⟩
    all_goals
      go_enter Tryz.func19, Tryz.ntmps19
      go_wp2_with (fail)
      go_ret
      exact ⟨rfl, hbel⟩
  · have d0 : decide ((n0 : Int) > 12) = false := by simp; omega
    have d1 : decide ((n1 : Int) > 12) = false := by simp; omega
    have d2 : decide ((n2 : Int) > 12) = false := by simp; omega
    have d3 : decide ((n3 : Int) > 12) = false := by simp; omega
    have hb2 : (c.tasks.any gT || c.best.any gB) = b := by
      rw [← hb]
      unfold greatC
      rw [e0, e1, e2, e3, decide_eq_false (show ¬ 12 < n0 by omega), decide_eq_false (show ¬ 12 < n1 by omega), decide_eq_false (show ¬ 12 < n2 by omega), decide_eq_false (show ¬ 12 < n3 by omega)]
      rfl
    have HC := Lib.hid (And.intro h (And.intro hT (And.intro hE (And.intro e0 (And.intro e1 hb2)))))
    have m0 : n0 ≤ 12 := by omega
    have m1 : n1 ≤ 12 := by omega
    have HB := Lib.hid hbel
    clear hb h hT hE hM hG e0 e1 e2 e3 hb2 hbig hB1 hbel
    go_enter Tryz.func19, Tryz.ntmps19
    go_wp2_with (fail)
    obtain ⟨W2, hW2⟩ : ∃ W2, (w.alloc (.cells #[.slice a0 n0 c0, .slice a1 n1 c1, .slice a2 n2 c2, .slice a3 n3 c3, .int .i64 fr, .int .i64 dg] 41)) = W2 := ⟨_, rfl⟩
    rw [hW2] at HB r0 ⊢
    clear hW2 d0 d1 d2 d3
    go_loopw [3] (fun ix wr => ∃ i : Nat, i ≤ n0 ∧ ix = .int .i64 i ∧ wr = W2 ∧ Hid ((c.tasks.take i).any gT = false)) (fun ix _ => n0 - (intOf ix).toNat)
    case atStart => exact ⟨0, Nat.zero_le _, rfl, rfl, Lib.hid rfl⟩
    case round =>
      obtain ⟨i, hi, rfl, rfl, H⟩ := hrel
      by_cases hil : i < n0
      · have hil2 : i < c.tasks.length := by rw [HC.out.2.2.2.1]; exact hil
        have hx := List.getElem?_eq_getElem hil2
        have hq1 := List.getElem?_eq_getElem (show i < tq.length by rw [HC.out.1.lt]; exact hil2)
        generalize c.tasks[i] = x at hx
        generalize tq[i]'_ = q1 at hq1
        obtain ⟨ua, uc, hu1, hu2, hu3⟩ := HC.out.1.us i x q1 hx hq1
        obtain ⟨pa, pc, hp1, hp2, hp3⟩ := HC.out.1.pt i x q1 hx hq1
        obtain ⟨g, o, rfl, ka⟩ := (HC.out.2.1.below HB.out).at (tCells_at hx hq1 (by omega : 0 < 8))
        have p6 := ka _ _ (tCells_at hx hq1 (by omega : 6 < 8))
        have p7 := ka _ _ (tCells_at hx hq1 (by omega : 7 < 8))
        rw [← Nat.add_assoc] at p6 p7
        obtain ⟨nu, hnu⟩ : ∃ nu, x.uses.length = nu := ⟨_, rfl⟩
        obtain ⟨np, hnp⟩ : ∃ np, x.prog.length = np := ⟨_, rfl⟩
        rw [hu1, hnu] at p6
        rw [hp1, hnp] at p7
        obtain ⟨go, hgo⟩ : ∃ go, greatO x.prog = go := ⟨_, rfl⟩
        have hop := gops_is np pc hgo (hp2.below HB.out) hnp (hnp ▸ hp3)
        have hgT : gT x = (decide (12 < nu) || go) := by unfold gT; rw [hnu, hgo]
        have t1 : decide ((i : Int) < (n0 : Int)) = true := by simp; omega
        have i1 : (i : Int) < (n0 : Int) := by omega
        have i2 : (0 : Int) ≤ i := by omega
        by_cases h12 : (nu : Int) > 12
        · obtain rfl : true = b := by rw [← HC.out.2.2.2.2.2, any_at hx (by rw [hgT, decide_eq_true (show 12 < nu by omega)]; rfl)]; rfl
          clear hx hq1 ka hu1 hu2 hu3 hp1 hp2 hp3 hop hgT hil2 hnu hnp hgo H
          go_wp2_with (fail)
          go_ret
          exact ⟨rfl, HB.out⟩
        · have d12 : decide ((nu : Int) > 12) = false := by simp; omega
          have d13 : decide (12 < nu) = false := by simp; omega
          rw [d13, Bool.false_or] at hgT
          cases go
          · have HX := Lib.hid (show (c.tasks.take (i + 1)).any gT = false by rw [any_next hx, H.out, hgT]; rfl)
            clear hx hq1 ka hu1 hu2 hu3 hp1 hp2 hp3 hgT hil2 hnu hnp hgo H h12
            go_wp2_with (go_at_call 8; refine hop.mono ?_; rintro e w1 ⟨rfl, rfl⟩)
            go_roundw
            case rel => exact ⟨i + 1, by omega, by go_num, by trivial, HX⟩
            case measure => simp [intOf]; omega
          · obtain rfl : true = b := by rw [← HC.out.2.2.2.2.2, any_at hx hgT]; rfl
            clear hx hq1 ka hu1 hu2 hu3 hp1 hp2 hp3 hgT hil2 hnu hnp hgo H h12
            go_wp2_with (go_at_call 8; refine hop.mono ?_; rintro e w1 ⟨rfl, rfl⟩)
            go_ret
            exact ⟨rfl, HB.out⟩
      · have t1 : decide ((i : Int) < (n0 : Int)) = false := by simp; omega
        have t2 : decide (i < n0) = false := by simp; omega
        obtain rfl : n0 = i := by omega
        have HS := Lib.hid (show c.best.any gB = b by
          have h := H.out
          rw [← HC.out.2.2.2.1, List.take_length] at h
          have h2 := HC.out.2.2.2.2.2
          rw [h] at h2
          exact h2)
        clear hil hi H
        go_wp2_with (fail)
        go_loopw [4] (fun ix wr2 => ∃ i : Nat, i ≤ n1 ∧ ix = .int .i64 i ∧ wr2 = wr ∧ Hid ((c.best.take i).any gB = false)) (fun ix _ => n1 - (intOf ix).toNat)
        case atStart => exact ⟨0, Nat.zero_le _, rfl, rfl, Lib.hid rfl⟩
        case round =>
          obtain ⟨i, hi, rfl, rfl, H⟩ := hrel
          by_cases hil : i < n1
          · have hil2 : i < c.best.length := by rw [HC.out.2.2.2.2.1]; exact hil
            have hx := List.getElem?_eq_getElem hil2
            have hq1 := List.getElem?_eq_getElem (show i < eq.length by rw [HC.out.1.le]; exact hil2)
            generalize c.best[i] = x at hx
            generalize eq[i]'_ = q1 at hq1
            obtain ⟨pa, pc, hp1, hp2, hp3⟩ := HC.out.1.pe i x q1 hx hq1
            obtain ⟨g, o, rfl, ka⟩ := (HC.out.2.2.1.below HB.out).at (eCells_at hx hq1 (by omega : 0 < 2))
            have p1 := ka _ _ (eCells_at hx hq1 (by omega : 1 < 2))
            rw [← Nat.add_assoc] at p1
            obtain ⟨np, hnp⟩ : ∃ np, x.prog.length = np := ⟨_, rfl⟩
            replace p1 : wr.cell? ⟨g, o + i * 2 + 1, none⟩ = some (.slice pa np pc) := by rw [p1, ← hnp, ← hp1]
            obtain ⟨go, hgo⟩ : ∃ go, gB x = go := ⟨_, rfl⟩
            have hop := gops_is np pc hgo (hp2.below HB.out) hnp (hnp ▸ hp3)
            have t1 : decide ((i : Int) < (n1 : Int)) = true := by simp; omega
            have i1 : (i : Int) < (n1 : Int) := by omega
            have i2 : (0 : Int) ≤ i := by omega
            cases go
            · have HX := Lib.hid (show (c.best.take (i + 1)).any gB = false by rw [any_next hx, H.out, hgo]; rfl)
              clear hx hq1 ka hp1 hp2 hp3 hil2 hnp hgo H
              go_wp2_with (go_at_call 8; refine hop.mono ?_; rintro e w1 ⟨rfl, rfl⟩)
              go_roundw
              case rel => exact ⟨i + 1, by omega, by go_num, by trivial, HX⟩
              case measure => simp [intOf]; omega
            · obtain rfl : true = b := by rw [← HS.out, any_at hx hgo]
              clear hx hq1 ka hp1 hp2 hp3 hil2 hnp hgo H
              go_wp2_with (go_at_call 8; refine hop.mono ?_; rintro e w1 ⟨rfl, rfl⟩)
              go_ret
              exact ⟨rfl, HB.out⟩
          · have t1 : decide ((i : Int) < (n1 : Int)) = false := by simp; omega
            have t2 : decide (i < n1) = false := by simp; omega
            obtain rfl : n1 = i := by omega
            obtain rfl : false = b := by
              have h := H.out
              rw [← HC.out.2.2.2.2.1, List.take_length, HS.out] at h
              exact h.symm
            clear hil hi H HS
            go_wp2_with (fail)
            go_ret
            exact ⟨rfl, HB.out⟩
end Go.Proofs.YtefaaginedideaaGreatDoor
