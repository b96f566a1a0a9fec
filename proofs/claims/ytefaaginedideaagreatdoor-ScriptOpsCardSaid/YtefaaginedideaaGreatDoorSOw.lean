/-
  Script's law: any step has the document's line, or is refused.
-/
import Derived.Test.YtefaaginedideaaGreatDoorSAwk
namespace Go.Proofs.YtefaaginedideaaGreatDoor
set_option linter.unusedSimpArgs false
set_option linter.unusedVariables false
open Go.RowKit Own RegJ
open Go.Lib hiding intOf

set_option maxRecDepth 100000 in
set_option maxHeartbeats 2000000 in
theorem great1_is {w : World} {g c : Nat} {o : OpV} {b : Bool} (hb : b = decide (600 < o.s.length ∨ 600 < o.t.length)) (h : ∀ k, w.cell? ⟨g, k, none⟩ = (opCs o)[k]?) :
    Calls Tryz.prog 8 #[.slice (some ⟨g, 0, none⟩) 1 c] w (fun e w' => e = .returned (.bool b) ∧ w' = w) := by
  have k7 : w.cell? ⟨g, 7, none⟩ = some (.string (B o.s)) := h 7
  have k8 : w.cell? ⟨g, 8, none⟩ = some (.string (B o.t)) := h 8
  have hs := B_size o.s
  have ht := B_size o.t
  clear h
  obtain ⟨n, hn⟩ : ∃ n, o.s.length = n := ⟨_, rfl⟩
  obtain ⟨m, hm⟩ : ∃ m, o.t.length = m := ⟨_, rfl⟩
  rw [hn] at hs hb
  rw [hm] at ht hb
  generalize B o.s = s at *
  generalize B o.t = t at *
  clear hn hm
  subst hs ht
  go_enter Tryz.func8, Tryz.ntmps8
  go_wp2_with (fail)
  go_loopw [3] (fun ix wr => ∃ i : Nat, i ≤ 1 ∧ ix = .int .i64 i ∧ wr = w ∧ (i = 1 → b = false)) (fun ix _ => 1 - (intOf ix).toNat)
  case atStart => exact ⟨0, by omega, rfl, rfl, fun h => by cases h⟩
  case round =>
    obtain ⟨i, hi, rfl, rfl, hbf⟩ := hrel
    by_cases h0 : i = 0
    · subst h0
      clear hbf
      cases b
      · have hb' := of_decide_eq_false hb.symm
        have e1 : decide ((s.size : Int) > 600) = false := by simp; omega
        have e2 : decide ((t.size : Int) > 600) = false := by simp; omega
        clear hb hb' hi
        go_wp2_with (fail)
        go_roundw
        case rel => exact ⟨1, by omega, rfl, by simp⟩
        case measure => simp [intOf]
      · have hb' := of_decide_eq_true hb.symm
        by_cases e0 : (s.size : Int) > 600
        · clear hb hb' hi
          go_wp2_with (fail)
          go_ret
          exact ⟨rfl, rfl⟩
        · have e2 : (t.size : Int) > 600 := by omega
          have e1 : decide ((s.size : Int) > 600) = false := by simp; omega
          clear hb hb' hi e0
          go_wp2_with (fail)
          go_ret
          exact ⟨rfl, rfl⟩
    · obtain rfl : i = 1 := by omega
      obtain rfl := hbf rfl
      clear hb hbf h0 hi
      go_wp2_with (fail)
      go_ret
      exact ⟨rfl, rfl⟩
theorem ow_new (w : World) (cs : Array Value) (T : TypeId) (b : Nat) (hb : w.heap.size = b) : ∀ k, (w.alloc (.cells cs T)).cell? ⟨b, k, none⟩ = cs[k]? := by subst hb; exact (Blk.new w cs T).rd
set_option maxRecDepth 100000 in
set_option maxHeartbeats 2000000 in
theorem ops_v (o : OpV) (w : World) (hE : Env w) : Calls Tryz.prog 3 #[opV o] w (AwP w) := by
  have HE := Lib.hid hE
  clear hE
  have hB0 := Blk.new w #[.int .i64 o.k, .int .i64 o.a, .int .i64 o.b, .int .i64 o.c, .int .i64 o.y, .int .i64 o.p, .int .i64 o.q, .string (B o.s), .string (B o.t)] 25
  have hW0 := (Below.refl w.heap.size w).alloc (Nat.le_refl _) (.cells #[.int .i64 o.k, .int .i64 o.a, .int .i64 o.b, .int .i64 o.c, .int .i64 o.y, .int .i64 o.p, .int .i64 o.q, .string (B o.s), .string (B o.t)] 25)
  have hW1 := hW0.alloc (by simp) (.cells #[.int .i64 o.k, .int .i64 o.a, .int .i64 o.b, .int .i64 o.c, .int .i64 o.y, .int .i64 o.p, .int .i64 o.q, .string (B o.s), .string (B o.t)] 25)
  have hB1 := hB0.alloc (.cells #[.int .i64 o.k, .int .i64 o.a, .int .i64 o.b, .int .i64 o.c, .int .i64 o.y, .int .i64 o.p, .int .i64 o.q, .string (B o.s), .string (B o.t)] 25)
  have r0 := hB0.rd
  have r1 := hB1.rd
  have HB := Lib.hid (And.intro hB1 hW1)
  clear hB0 hW0 hW1 hB1
  cases hb : decide (600 < o.s.length ∨ 600 < o.t.length) with
  | true =>
    have hgr := fun (w0 : World) (g c : Nat) (h : ∀ k, w0.cell? ⟨g, k, none⟩ = (opCs o)[k]?) => great1_is (c := c) hb.symm h
    clear hb
    go_enter Tryz.func3, Tryz.ntmps3
    go_wp2_with (first
      | (go_at_call 8; refine (hgr _ _ _ (fun k => (ow_new _ _ _ _ (by simp) k).trans List.getElem?_toArray)).mono ?_; rintro e w1 ⟨rfl, rfl⟩)
      | (go_at_call 9; refine (awake_is _ (HE.out.bel HB.out.2)).mono ?_; rintro e w2 ⟨rfl, hb2⟩; have H2 := Lib.hid hb2; clear hb2))
    go_ret
    exact ⟨rfl, HB.out.2.trans (H2.out.mono HB.out.2.size)⟩
  | false =>
    have hgr := fun (w0 : World) (g c : Nat) (h : ∀ k, w0.cell? ⟨g, k, none⟩ = (opCs o)[k]?) => great1_is (c := c) hb.symm h
    clear hb
    have hoe : ∃ b : Bool, mayO o = b ∧ (b = true ∧ opE o = 0 ∨ b = false ∧ opE o = 19) := by
      unfold opE
      cases mayO o
      · exact ⟨false, rfl, .inr ⟨rfl, rfl⟩⟩
      · exact ⟨true, rfl, .inl ⟨rfl, rfl⟩⟩
    obtain ⟨b, hmb, hcs⟩ := hoe
    have hop := fun w0 (h0 : Env w0) => op_is o w0 h0
    have hrop := fun w0 => rop_is o w0
    have hmay := fun w0 => may_is hmb w0
    clear hmb
    generalize opE o = ee at *
    generalize B (opR o) = tt at *
    rcases hcs with ⟨rfl, rfl⟩ | ⟨rfl, rfl⟩
    all_goals
      go_enter Tryz.func3, Tryz.ntmps3
      go_wp2_with (first
        | (go_at_call 8; refine (hgr _ _ _ (fun k => (ow_new _ _ _ _ (by simp) k).trans List.getElem?_toArray)).mono ?_; rintro e w1 ⟨rfl, rfl⟩)
        | (go_at_call 10; refine (hop _ (HE.out.bel HB.out.2)).mono ?_; rintro e w2 ⟨rfl, hb2⟩; have H2 := Lib.hid (And.intro (Blk.below hb2 HB.out.1 HB.out.1.lt) (HB.out.2.trans (hb2.mono HB.out.2.size))); have r2 := H2.out.1.rd; clear hb2 hop)
        | (go_at_call 11; refine (hrop _).mono ?_; rintro e w3 ⟨rfl, hb3⟩; have H3 := Lib.hid (And.intro (Blk.below hb3 H2.out.1 H2.out.1.lt) (H2.out.2.trans (hb3.mono H2.out.2.size))); have r3 := H3.out.1.rd; clear hb3 hrop)
        | (go_at_call 12; refine (num_is _ _).mono ?_; rintro e w4 ⟨rfl, rfl⟩)
        | (go_at_call 13; refine (hmay _).mono ?_; rintro e w5 ⟨rfl, hb5⟩; have H5 := Lib.hid (H3.out.2.trans (hb5.mono H3.out.2.size)); clear hb5 hmay)
        | (go_at_call 9; refine (awake_is _ (HE.out.bel H5.out)).mono ?_; rintro e w6 ⟨rfl, hb6⟩; have H6 := Lib.hid hb6; clear hb6))
      go_ret
      exact ⟨rfl, H5.out.trans (H6.out.mono H5.out.size)⟩
end Go.Proofs.YtefaaginedideaaGreatDoor
