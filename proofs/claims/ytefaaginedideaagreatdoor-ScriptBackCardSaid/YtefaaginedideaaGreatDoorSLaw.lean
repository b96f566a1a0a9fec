/-
  Script's law: two lists of numbers, steps, events that are one; what is written over a list of events; numbers of errors.
-/
import Derived.Test.YtefaaginedideaaGreatDoorSDs
namespace Go.Proofs.YtefaaginedideaaGreatDoor
set_option linter.unusedSimpArgs false
set_option linter.unusedVariables false
open Go.RowKit Own RegJ
open Go.Lib hiding intOf

/-- cells that can be read, one behind another -/
def RdC (w : World) (a : Option Addr) (cs : List Value) : Prop := ∀ k v, cs[k]? = some v → ∃ g o, a = some ⟨g, o, none⟩ ∧ w.cell? ⟨g, o + k, none⟩ = some v
theorem RdC.below {w w' : World} {a : Option Addr} {cs : List Value} (h : RdC w a cs) (hb : Below w.heap.size w w') : RdC w' a cs := fun k v hk => by
  obtain ⟨g, o, ha, hc⟩ := h k v hk
  exact ⟨g, o, ha, (hb.cell (World.block_lt_of_cell? _ _ hc)).trans hc⟩
theorem RdC.drewN {w : World} {a : Option Addr} {cs : List Value} (h : RdC w a cs) (q : Nat) : RdC (w.drewN q) a cs := h.below (((Upd.refl (fun _ => False) w).drewN q).below (Nat.le_refl _) (fun _ h => h.elim))
theorem Rw.rdc {w : World} {T : TypeId} {sz n : Nat} {v : Value} {cs : List Value} {b : Option Nat} (h : Rw w T sz v n cs b) : ∃ a c, v = .slice a n c ∧ RdC w a cs := by
  rcases h.2 with ⟨rfl, rfl, rfl⟩ | ⟨g, cap, rst, rfl, rfl, hB, hc, hnc, hmx⟩
  · have hcs : cs = [] := List.eq_nil_of_length_eq_zero (by have := h.1; omega)
    subst hcs
    exact ⟨_, _, rfl, fun k v hk => by cases hk⟩
  · refine ⟨_, _, rfl, fun k v hk => ⟨g, 0, rfl, ?_⟩⟩
    rw [hB.rd, Nat.zero_add, List.getElem?_toArray, List.getElem?_append_left (List.getElem?_eq_some_iff.1 hk).1, hk]
theorem UsesOk.rdc {w : World} {v : Value} {us : List Int} {gb : Option Nat} (h : UsesOk w v us gb) : ∃ a c, v = .slice a us.length c ∧ RdC w a (icells us) := by
  obtain ⟨a, c, rfl, h⟩ := h
  refine ⟨a, c, rfl, ?_⟩
  rcases h with rfl | ⟨g, o, cs, rfl, hgb, hB, hc⟩
  · intro k v hk; cases hk
  · intro k v hk
    rw [List.getElem?_map] at hk
    obtain ⟨n, hn, rfl⟩ := Option.map_eq_some_iff.1 hk
    exact ⟨g, o, rfl, by rw [hB.rd, hc k n hn]⟩
theorem vCells_at {es : List EvV} {i k : Nat} {e : EvV} (h : es[i]? = some e) (hk : k < 3) : (vCells es)[i * 3 + k]? = ([Value.int .i64 e.tick, .int .i64 e.line, .int .i64 e.task] : List Value)[k]? := flat_at _ i k _ (ev_all3 es) (by rw [List.getElem?_map, h]; rfl) hk
theorem oCells_at {os : List OpV} {i k : Nat} {o : OpV} (h : os[i]? = some o) (hk : k < 9) : (oCells os)[i * 9 + k]? = (opCs o)[k]? := flat_at _ i k _ (op_all9 os) (by rw [List.getElem?_map, h]; rfl) hk
theorem mCells_at {ms : List (Int × Int)} {i k : Nat} {m : Int × Int} (h : ms[i]? = some m) (hk : k < 2) : (mCells ms)[i * 2 + k]? = ([Value.int .i64 m.1, .int .i64 m.2] : List Value)[k]? := flat_at _ i k _ (mx_all2 ms) (by rw [List.getElem?_map, h]; rfl) hk
/-- where the first cell lies all lie -/
theorem RdC.at {w : World} {a : Option Addr} {cs : List Value} (h : RdC w a cs) {i : Nat} {v : Value} (hi : cs[i]? = some v) : ∃ g o, a = some ⟨g, o, none⟩ ∧ ∀ k u, cs[k]? = some u → w.cell? ⟨g, o + k, none⟩ = some u := by
  obtain ⟨g, o, rfl, _⟩ := h i v hi
  refine ⟨g, o, rfl, fun k u hk => ?_⟩
  obtain ⟨g', o', e, hc⟩ := h k u hk
  simp only [Option.some.injEq, Addr.mk.injEq, and_true] at e
  obtain ⟨rfl, rfl⟩ := e
  exact hc
set_option maxRecDepth 100000 in
theorem sameI_is {w : World} {a1 a2 : Option Addr} {us : List Int} (n c1 c2 : Nat) (h1 : RdC w a1 (icells us)) (h2 : RdC w a2 (icells us)) (hn : us.length = n) (hm : n ≤ maxLen) :
    Calls Tryz.prog 34 #[.slice a1 n c1, .slice a2 n c2] w (fun e w' => e = .returned (.bool true) ∧ ∃ q, w' = w.drewN q) := by
  unfold maxLen at hm
  have HR := Lib.hid (And.intro h1 (And.intro h2 hn))
  clear h1 h2 hn
  go_enter Tryz.func34, Tryz.ntmps34
  go_wp2_with (fail)
  go_loopw [5] (fun ix wr => ∃ i q : Nat, i ≤ n ∧ ix = .int .i64 i ∧ wr = w.drewN q) (fun ix _ => n - (intOf ix).toNat)
  case atStart => exact ⟨0, 0, Nat.zero_le _, rfl, rfl⟩
  case round =>
    obtain ⟨i, q, hi, rfl, rfl⟩ := hrel
    by_cases hil : i < n
    · obtain ⟨x, hx⟩ : ∃ x, us[i]? = some x := ⟨us[i]'(by rw [HR.out.2.2]; exact hil), List.getElem?_eq_getElem _⟩
      have hxc : (icells us)[i]? = some (.int .i64 x) := by rw [List.getElem?_map, hx]; rfl
      obtain ⟨g, o, rfl, k0⟩ := HR.out.1 i _ hxc
      obtain ⟨g2, o2, rfl, k1⟩ := HR.out.2.1 i _ hxc
      clear hx hxc
      have d1 : decide ((i : Int) < (n : Int)) = true := by simp; omega
      have i1 : (i : Int) < (n : Int) := by omega
      have i2 : (0 : Int) ≤ i := by omega
      go_wp2_with (fail)
      go_quiet (fail)
      go_wp2_with (fail)
      go_roundw
      case rel => exact ⟨i + 1, q + nq, by omega, by go_num, by first | rfl | rw [World.drewN_drewN]⟩
      case measure => simp [intOf]; omega
    · have d1 : decide ((i : Int) < (n : Int)) = false := by simp; omega
      have d2 : decide (i < n) = false := by simp; omega
      clear hil hi
      go_wp2_with (fail)
      go_ret
      exact ⟨rfl, q, rfl⟩
set_option maxRecDepth 100000 in
theorem sameE_is {w : World} {a1 a2 : Option Addr} {es : List EvV} (n c1 c2 : Nat) (h1 : RdC w a1 (vCells es)) (h2 : RdC w a2 (vCells es)) (hn : es.length = n) (hm : n ≤ maxLen) :
    Calls Tryz.prog 17 #[.slice a1 n c1, .slice a2 n c2] w (fun e w' => e = .returned (.bool true) ∧ ∃ q, w' = w.drewN q) := by
  unfold maxLen at hm
  have HR := Lib.hid (And.intro h1 (And.intro h2 hn))
  clear h1 h2 hn
  go_enter Tryz.func17, Tryz.ntmps17
  go_wp2_with (fail)
  go_loopw [5] (fun ix wr => ∃ i q : Nat, i ≤ n ∧ ix = .int .i64 i ∧ wr = w.drewN q) (fun ix _ => n - (intOf ix).toNat)
  case atStart => exact ⟨0, 0, Nat.zero_le _, rfl, rfl⟩
  case round =>
    obtain ⟨i, q, hi, rfl, rfl⟩ := hrel
    by_cases hil : i < n
    · obtain ⟨x, hx⟩ : ∃ x, es[i]? = some x := ⟨es[i]'(by rw [HR.out.2.2]; exact hil), List.getElem?_eq_getElem _⟩
      obtain ⟨g, o, rfl, ka⟩ := HR.out.1.at (vCells_at hx (by omega : 0 < 3))
      obtain ⟨g2, o2, rfl, kb⟩ := HR.out.2.1.at (vCells_at hx (by omega : 0 < 3))
      have k0 := ka _ _ (vCells_at hx (by omega : 0 < 3))
      have k1 := ka _ _ (vCells_at hx (by omega : 1 < 3))
      have k2 := ka _ _ (vCells_at hx (by omega : 2 < 3))
      have k3 := kb _ _ (vCells_at hx (by omega : 0 < 3))
      have k4 := kb _ _ (vCells_at hx (by omega : 1 < 3))
      have k5 := kb _ _ (vCells_at hx (by omega : 2 < 3))
      rw [← Nat.add_assoc] at k1 k2 k4 k5
      rw [Nat.add_zero] at k0 k3
      clear hx ka kb
      have d1 : decide ((i : Int) < (n : Int)) = true := by simp; omega
      have i1 : (i : Int) < (n : Int) := by omega
      have i2 : (0 : Int) ≤ i := by omega
      generalize x.tick = y0 at *
      generalize x.line = y1 at *
      generalize x.task = y2 at *
      go_wp2_with (fail)
      go_quiet (fail)
      go_wp2_with (fail)
      go_roundw
      case rel => exact ⟨i + 1, q + nq, by omega, by go_num, by first | rfl | rw [World.drewN_drewN]⟩
      case measure => simp [intOf]; omega
    · have d1 : decide ((i : Int) < (n : Int)) = false := by simp; omega
      have d2 : decide (i < n) = false := by simp; omega
      clear hil hi
      go_wp2_with (fail)
      go_ret
      exact ⟨rfl, q, rfl⟩
set_option maxRecDepth 100000 in
theorem sameO_is {w : World} {a1 a2 : Option Addr} {os : List OpV} (n c1 c2 : Nat) (h1 : RdC w a1 (oCells os)) (h2 : RdC w a2 (oCells os)) (hn : os.length = n) (hm : n ≤ maxLen) :
    Calls Tryz.prog 35 #[.slice a1 n c1, .slice a2 n c2] w (fun e w' => e = .returned (.bool true) ∧ ∃ q, w' = w.drewN q) := by
  unfold maxLen at hm
  have HR := Lib.hid (And.intro h1 (And.intro h2 hn))
  clear h1 h2 hn
  go_enter Tryz.func35, Tryz.ntmps35
  go_wp2_with (fail)
  go_loopw [5] (fun ix wr => ∃ i q : Nat, i ≤ n ∧ ix = .int .i64 i ∧ wr = w.drewN q) (fun ix _ => n - (intOf ix).toNat)
  case atStart => exact ⟨0, 0, Nat.zero_le _, rfl, rfl⟩
  case round =>
    obtain ⟨i, q, hi, rfl, rfl⟩ := hrel
    by_cases hil : i < n
    · obtain ⟨x, hx⟩ : ∃ x, os[i]? = some x := ⟨os[i]'(by rw [HR.out.2.2]; exact hil), List.getElem?_eq_getElem _⟩
      obtain ⟨g, o, rfl, ka⟩ := HR.out.1.at (oCells_at hx (by omega : 0 < 9))
      obtain ⟨g2, o2, rfl, kb⟩ := HR.out.2.1.at (oCells_at hx (by omega : 0 < 9))
      have p0 := ka _ _ (oCells_at hx (by omega : 0 < 9))
      have q0 := kb _ _ (oCells_at hx (by omega : 0 < 9))
      have p1 := ka _ _ (oCells_at hx (by omega : 1 < 9))
      have q1 := kb _ _ (oCells_at hx (by omega : 1 < 9))
      have p2 := ka _ _ (oCells_at hx (by omega : 2 < 9))
      have q2 := kb _ _ (oCells_at hx (by omega : 2 < 9))
      have p3 := ka _ _ (oCells_at hx (by omega : 3 < 9))
      have q3 := kb _ _ (oCells_at hx (by omega : 3 < 9))
      have p4 := ka _ _ (oCells_at hx (by omega : 4 < 9))
      have q4 := kb _ _ (oCells_at hx (by omega : 4 < 9))
      have p5 := ka _ _ (oCells_at hx (by omega : 5 < 9))
      have q5 := kb _ _ (oCells_at hx (by omega : 5 < 9))
      have p6 := ka _ _ (oCells_at hx (by omega : 6 < 9))
      have q6 := kb _ _ (oCells_at hx (by omega : 6 < 9))
      have p7 := ka _ _ (oCells_at hx (by omega : 7 < 9))
      have q7 := kb _ _ (oCells_at hx (by omega : 7 < 9))
      have p8 := ka _ _ (oCells_at hx (by omega : 8 < 9))
      have q8 := kb _ _ (oCells_at hx (by omega : 8 < 9))
      rw [Nat.add_zero] at p0 q0
      rw [← Nat.add_assoc] at p1 q1 p2 q2 p3 q3 p4 q4 p5 q5 p6 q6 p7 q7 p8 q8
      clear hx ka kb
      have d1 : decide ((i : Int) < (n : Int)) = true := by simp; omega
      have i1 : (i : Int) < (n : Int) := by omega
      have i2 : (0 : Int) ≤ i := by omega
      generalize B x.s = ys at *
      generalize B x.t = yt at *
      generalize x.k = y0 at *
      generalize x.a = y1 at *
      generalize x.b = y2 at *
      generalize x.c = y3 at *
      generalize x.y = y4 at *
      generalize x.p = y5 at *
      generalize x.q = y6 at *
      go_wp2_with (fail)
      go_quiet (fail)
      go_wp2_with (fail)
      go_roundw
      case rel => exact ⟨i + 1, q + nq, by omega, by go_num, by first | rfl | rw [World.drewN_drewN]⟩
      case measure => simp [intOf]; omega
    · have d1 : decide ((i : Int) < (n : Int)) = false := by simp; omega
      have d2 : decide (i < n) = false := by simp; omega
      clear hil hi
      go_wp2_with (fail)
      go_ret
      exact ⟨rfl, q, rfl⟩
/-- Num -/
theorem num_is (n : Int) (w : World) : Calls Tryz.prog 12 #[.int .i64 n] w (fun e w' => e = .returned (.int .i64 n) ∧ w' = w) := by
  go_enter Tryz.func12, Tryz.ntmps12
  go_wp2_with (fail)
  go_ret
  exact ⟨rfl, rfl⟩
end Go.Proofs.YtefaaginedideaaGreatDoor
