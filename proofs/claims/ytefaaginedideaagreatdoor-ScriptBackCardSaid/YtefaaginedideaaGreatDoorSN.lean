/-
  Script: numbers and texts read, of the program.
-/
import Derived.Test.YtefaaginedideaaGreatDoorSOp
import Derived.Test.YtefaaginedideaaGreatDoorRw
import Derived.Lib.AtoiErrMem
namespace Go.Proofs.YtefaaginedideaaGreatDoor
set_option linter.unusedSimpArgs false
set_option linter.unusedVariables false
open Go.RowKit Own RegJ
open Go.Lib hiding intOf

def NumV (l : Txt) (w : World) (e : Ending) (w' : World) : Prop := ∃ n : Int, e = .returned (.tuple #[.int .i64 n, .bool (numF l).isSome]) ∧ (∀ x, numF l = some x → n = x) ∧ Below w.heap.size w w'
theorem NumV.none {l : Txt} {w w' : World} {n : Int} {b : Bool} (h : numF l = none) (hb : b = false) (hB : Below w.heap.size w w') : NumV l w (.returned (.tuple #[.int .i64 n, .bool b])) w' := ⟨n, by rw [h, hb]; rfl, fun x hx => by (rw [h] at hx; cases hx), hB⟩
theorem NumV.some {l : Txt} {w w' : World} {n : Int} {b : Bool} (h : numF l = some n) (hb : b = true) (hB : Below w.heap.size w w') : NumV l w (.returned (.tuple #[.int .i64 n, .bool b])) w' := ⟨n, by rw [h, hb]; rfl, fun x hx => by (rw [h] at hx; cases hx; rfl), hB⟩
theorem satoi_ok {l : Txt} {v : Int} (w : World) (hl : l.length ≤ 10000000) (h : atoiAll l = .ok v) : Calls Tryz.prog 97 #[.string (B l)] w (ValB (.tuple #[.int .i64 v, .nilIface]) w) := by
  refine (Tryz.strconv_Atoi_ok (B l) (by rw [B_size]; omega) v (by rw [data_B]; exact h) w).mono ?_
  rintro e w' ⟨rfl, rfl | ⟨t, rfl⟩⟩
  · exact ⟨rfl, Below.refl _ _⟩
  · exact ⟨rfl, bytesWorld_below _ _ _⟩
def ErrP (w : World) (e : Ending) (w' : World) : Prop := ∃ (n : Int) (N : Nat), e = .returned (.tuple #[.int .i64 n, .iface 157 (.pointer (some ⟨N, 0, none⟩))]) ∧ Below w.heap.size w w'
theorem satoi_bad {l : Txt} (w : World) (hE : Env w) (hl : l.length ≤ 10000000) (h : ∀ v, atoiAll l ≠ .ok v) : Calls Tryz.prog 97 #[.string (B l)] w (ErrP w) := by
  cases ha : atoiAll l with
  | ok v => exact absurd ha (h v)
  | range =>
    obtain ⟨ev, h1, h2⟩ := hE.e2
    refine (Tryz.strconv_Atoi_range (B l) (by rw [B_size]; omega) (by rw [data_B]; exact ha) ev w h1 h2).mono ?_
    rintro e w' ⟨N, rfl, _, _, hb⟩
    exact ⟨_, N, rfl, hb⟩
  | _ =>
    obtain ⟨ev, h1, h2⟩ := hE.e1
    refine (Tryz.strconv_Atoi_syntax (B l) (by rw [B_size]; omega) (by rw [data_B]; exact ha) ev w h1 h2).mono ?_
    rintro e w' ⟨N, rfl, _, _, hb⟩
    exact ⟨0, N, rfl, hb⟩
set_option maxRecDepth 100000 in
theorem number_is (l : Txt) (w : World) (hE : Env w) (hl : l.length ≤ 10000000) : Calls Tryz.prog 83 #[.string (B l)] w (NumV l w) := by
  by_cases hok : ∃ v, atoiAll l = .ok v
  · obtain ⟨v, ha⟩ := hok
    have hat := satoi_ok w hl ha
    have hbd := atoiAll_bounds ha
    have hit := fun (w1 : World) (h : Env w1) => sitoa h hbd.1 hbd.2
    have HE := Lib.hid hE
    by_cases h0 : 0 ≤ v
    · by_cases h1 : v ≤ 999999
      · by_cases h2 : itoa v = l
        · have hn : numF l = some v := by unfold numF; rw [ha]; simp only; rw [if_pos ⟨h0, h1, h2⟩]
          have HN := Lib.hid (fun w' => NumV.some (w := w) (w' := w') (b := true) hn rfl)
          rw [← h2] at hat ⊢
          clear hbd ha hn hE
          rw [h2]
          rw [h2] at hat hit
          clear h2
          generalize B l = s at *
          go_enter Tryz.func83, Tryz.ntmps83
          go_wp2_with (first
            | (go_at_call 97; refine hat.mono ?_; rintro e w1 ⟨rfl, hw⟩; have hE1 := HE.out.bel hw; have HW := Lib.hid hw; clear hw)
            | (go_at_call 42; refine (hit _ hE1).mono ?_; rintro e w2 ⟨rfl, hb2⟩))
          go_ret2
          exact HN.out _ (HW.out.trans (hb2.mono HW.out.size))
        · have hn : numF l = none := by unfold numF; rw [ha]; simp only; rw [if_neg (fun h => h2 h.2.2)]
          have HN := Lib.hid (fun w' => NumV.none (w := w) (w' := w') (n := v) (b := false) hn rfl)
          have hne : B (itoa v) ≠ B l := fun h => h2 (B_inj h)
          have hne2 : ((B (itoa v)).toList == (B l).toList) = false := by rw [B_list, B_list, beq_dec, decide_eq_false h2]
          clear hbd ha hn hE h2
          generalize B l = s at *
          generalize B (itoa v) = s2 at *
          go_enter Tryz.func83, Tryz.ntmps83
          go_wp2_with (first
            | (go_at_call 97; refine hat.mono ?_; rintro e w1 ⟨rfl, hw⟩; have hE1 := HE.out.bel hw; have HW := Lib.hid hw; clear hw)
            | (go_at_call 42; refine (hit _ hE1).mono ?_; rintro e w2 ⟨rfl, hb2⟩))
          go_ret2
          exact HN.out _ (HW.out.trans (hb2.mono HW.out.size))
      · have hn : numF l = none := by unfold numF; rw [ha]; simp only; rw [if_neg (fun h => h1 h.2.1)]
        have HN := Lib.hid (fun w' => NumV.none (w := w) (w' := w') (n := v) (b := false) hn rfl)
        have d1 : decide (v ≤ 999999) = false := by simp; omega
        clear hbd ha hn hE hit
        generalize B l = s at *
        go_enter Tryz.func83, Tryz.ntmps83
        go_wp2_with (first
          | (go_at_call 97; refine hat.mono ?_; rintro e w1 ⟨rfl, hw⟩; have HW := Lib.hid hw; clear hw))
        go_ret2
        exact HN.out _ HW.out
    · have hn : numF l = none := by unfold numF; rw [ha]; simp only; rw [if_neg (fun h => h0 h.1)]
      have HN := Lib.hid (fun w' => NumV.none (w := w) (w' := w') (n := v) (b := false) hn rfl)
      have d1 : decide (v ≥ 0) = false := by simp; omega
      clear hbd ha hn hE hit
      generalize B l = s at *
      go_enter Tryz.func83, Tryz.ntmps83
      go_wp2_with (first
        | (go_at_call 97; refine hat.mono ?_; rintro e w1 ⟨rfl, hw⟩; have HW := Lib.hid hw; clear hw))
      go_ret2
      exact HN.out _ HW.out
  · have hat := satoi_bad w hE hl (fun v hv => hok ⟨v, hv⟩)
    have hn : numF l = none := by
      unfold numF
      cases ha : atoiAll l with
      | ok v => exact absurd ⟨v, ha⟩ hok
      | range => rfl
      | _ => rfl
    have HN := Lib.hid (fun n w' => NumV.none (w := w) (w' := w') (n := n) (b := false) hn rfl)
    clear hn hok hE
    generalize B l = s at *
    go_enter Tryz.func83, Tryz.ntmps83
    go_wp2_with (first
      | (go_at_call 97; refine hat.mono ?_; rintro e w1 ⟨n, N, rfl, hw⟩; have HW := Lib.hid hw; clear hw))
    go_ret2
    exact HN.out _ _ HW.out
/-! ### numbers -/
/-- a row of texts that can be read: each from its own cell -/
def RdT (w : World) (a : Option Addr) (xs : List Txt) : Prop := ∀ k x, xs[k]? = some x → ∃ g o, a = some ⟨g, o, none⟩ ∧ w.cell? ⟨g, o + k, none⟩ = some (.string (B x))
theorem cell_lt {w : World} {a : Addr} {v : Value} (h : w.cell? a = some v) : a.block < w.heap.size := by
  rcases Nat.lt_or_ge a.block w.heap.size with h1 | h1
  · exact h1
  · unfold World.cell? at h; simp [Array.getElem?_eq_none h1] at h
theorem RdT.below {w w' : World} {a : Option Addr} {xs : List Txt} (h : RdT w a xs) (hb : Below w.heap.size w w') : RdT w' a xs := fun k n hn => by
  obtain ⟨g, o, ha, hc⟩ := h k n hn
  exact ⟨g, o, ha, (hb.cell (p := ⟨g, o + k, none⟩) (cell_lt hc)).trans hc⟩
theorem numsF_app : ∀ (a b : List Txt), numsF (a ++ b) = match numsF a with
    | some x => (numsF b).map (x ++ ·)
    | none => none
  | [], b => by simp only [List.nil_append, numsF]; cases numsF b <;> simp
  | x :: r, b => by
    rw [List.cons_append, numsF, numsF]
    cases numF x with
    | none => rfl
    | some n =>
      simp only
      rw [numsF_app r b]
      cases numsF r with
      | none => rfl
      | some ns => simp only [Option.map_some]; cases numsF b <;> simp
theorem nums_next {ws : List Txt} {i : Nat} {x : Txt} {ns : List Int} {n : Int} (h : numsF (ws.take i) = some ns) (hx : ws[i]? = some x) (hn : numF x = some n) : numsF (ws.take (i + 1)) = some (ns ++ [n]) := by
  have hi : i < ws.length := (List.getElem?_eq_some_iff.1 hx).1
  rw [List.getElem?_eq_getElem hi] at hx
  rw [List.take_succ_eq_append_getElem hi, numsF_app, h, Option.some.inj hx]
  simp [numsF, hn]
theorem nums_bad {ws : List Txt} {i : Nat} {x : Txt} {ns : List Int} (h : numsF (ws.take i) = some ns) (hx : ws[i]? = some x) (hn : numF x = none) : numsF ws = none := by
  have hi : i < ws.length := (List.getElem?_eq_some_iff.1 hx).1
  rw [List.getElem?_eq_getElem hi] at hx
  have e : ws = ws.take i ++ ws[i] :: ws.drop (i + 1) := by
    conv => lhs; rw [← List.take_append_drop i ws]
    rw [List.drop_eq_getElem_cons hi]
  rw [e, numsF_app, h, Option.some.inj hx]
  simp [numsF, hn]
theorem nums_len : ∀ (ws : List Txt) (ns : List Int), numsF ws = some ns → ns.length = ws.length
  | [], ns, h => by simp [numsF] at h; subst h; rfl
  | x :: r, ns, h => by
    rw [numsF] at h
    split at h
    · cases hr : numsF r with
      | none => rw [hr] at h; cases h
      | some m =>
        rw [hr] at h
        simp at h
        subst h
        simp [nums_len r m hr]
    · cases h
theorem infoInt : (Tryz.prog.info? 3).map (fun i => (i.zero, i.size, i.bytes)) = some (some (.int .i64 0), 1, 8) := by kernel_rfl
/-- a row of integers of the call's own -/
abbrev IRow (w : World) (v : Value) (ns : List Int) (b : Option Nat) : Prop := Rw w 3 1 v ns.length (icells ns) b
def NumsV (ws : List Txt) (w : World) (e : Ending) (w' : World) : Prop := Below w.heap.size w w' ∧ match numsF ws with
  | some ns => ∃ v b, e = .returned (.tuple #[v, .bool true]) ∧ IRow w' v ns b ∧ ∀ g, b = some g → w.heap.size ≤ g
  | none => e = .returned (.tuple #[.slice none 0 0, .bool false])
theorem NumsV.none {ws : List Txt} {w w' : World} (h : numsF ws = none) (hB : Below w.heap.size w w') : NumsV ws w (.returned (.tuple #[.slice none 0 0, .bool false])) w' := ⟨hB, by rw [h]⟩
theorem NumsV.some {ws : List Txt} {w w' : World} {ns : List Int} {v : Value} {b : Option Nat} (h : numsF ws = some ns) (hB : Below w.heap.size w w') (hI : IRow w' v ns b) (hb : ∀ g, b = some g → w.heap.size ≤ g) : NumsV ws w (.returned (.tuple #[v, .bool true])) w' := ⟨hB, by rw [h]; exact ⟨v, b, rfl, hI, hb⟩⟩
theorem icells_snoc (ns : List Int) (n : Int) : icells ns ++ [.int .i64 n] = icells (ns ++ [n]) := by simp
theorem Rw.alloc {w : World} {T : TypeId} {sz n : Nat} {v : Value} {cs : List Value} {b : Option Nat} (h : Rw w T sz v n cs b) (o : Obj) : Rw (w.alloc o) T sz v n cs b := h.below ((Below.refl _ _).alloc (Nat.le_refl _) o)
theorem IRow.app {w : World} {v : Value} {ns : List Int} {n : Int} {b : Option Nat} {W : World} (h : AppR W 3 1 (ns.length + 1) (icells ns ++ [.int .i64 n]) b v w) : ∃ b', IRow w v (ns ++ [n]) b' ∧ Upd (fun k => b = some k) W w ∧ ∀ g, b' = some g → b = some g ∨ W.heap.size ≤ g := by
  obtain ⟨b', h1, h2, h3⟩ := h
  rw [icells_snoc] at h1
  have e : ns.length + 1 = (ns ++ [n]).length := by simp
  rw [e] at h1
  exact ⟨b', h1, h2, h3⟩
/-- what holds in the loop -/
def NSt (ws : List Txt) (w : World) (i : Nat) (v : Value) (wr : World) : Prop := ∃ ns b, numsF (ws.take i) = some ns ∧ ns.length = i ∧ IRow wr v ns b ∧ (∀ g, b = some g → w.heap.size ≤ g) ∧ Below w.heap.size w wr
set_option maxRecDepth 100000 in
set_option maxHeartbeats 1000000 in
theorem numbers_is {w : World} {a : Option Addr} {ws : List Txt} (n c : Nat) (hE : Env w) (hr : RdT w a ws) (hn : ws.length = n) (hm : n ≤ 100000) (hl : ∀ x ∈ ws, x.length ≤ 10000000) :
    Calls Tryz.prog 69 #[.slice a n c] w (NumsV ws w) := by
  have HR := Lib.hid (And.intro hE (And.intro hr (And.intro hn hl)))
  clear hE hr hn hl
  go_enter Tryz.func69, Tryz.ntmps69
  go_wp2_with (fail)
  go_loopw [4, 11] (fun v4 ix wr => ∃ (i : Nat) (ao : Option Addr) (cc : Nat), i ≤ n ∧ ix = .int .i64 i ∧ v4 = .slice ao i cc ∧ Hid (NSt ws w i (.slice ao i cc) wr)) (fun _ ix _ => n - (intOf ix).toNat)
  case atStart => exact ⟨0, none, 0, Nat.zero_le _, rfl, rfl, Lib.hid ⟨[], none, rfl, rfl, Rw.nil _ _ _, fun g hg => (by cases hg), Below.refl _ _⟩⟩
  case round =>
    obtain ⟨i, ao, cc, hi, rfl, rfl, HS⟩ := hrel
    by_cases hil : i < n
    · obtain ⟨x, hx⟩ : ∃ x, ws[i]? = some x := ⟨ws[i]'(by rw [HR.out.2.2.1]; exact hil), List.getElem?_eq_getElem _⟩
      obtain ⟨ns, b, hns, hnl, hI, hb, hB⟩ := HS.out
      obtain ⟨g, o, rfl, k0⟩ := HR.out.2.1.below hB i x hx
      have hnum := number_is x wr (HR.out.1.bel hB) (HR.out.2.2.2 x (List.mem_of_getElem? hx))
      have d1 : decide ((i : Int) < (n : Int)) = true := by simp; omega
      have i1 : (i : Int) < (n : Int) := by omega
      have i2 : (0 : Int) ≤ i := by omega
      cases hnf : numF x with
      | none =>
        have HP := Lib.hid (fun w' => NumsV.none (w := w) (w' := w') (nums_bad hns hx hnf))
        have HN := Lib.hid hnf
        have HB := Lib.hid hB
        clear hns hx hnf hI hB hnl hb
        go_wp2_with (go_at_call 83; refine hnum.mono ?_; rintro e w1 ⟨n1, he, _, hb1⟩; rw [HN.out] at he; obtain rfl := he; have H1 := Lib.hid hb1; clear hb1 hnum)
        go_ret2
        exact HP.out _ (HB.out.trans (H1.out.mono HB.out.size))
      | some y =>
        have HX := Lib.hid (nums_next hns hx hnf)
        have HN := Lib.hid hnf
        have HI := Lib.hid (And.intro hI (And.intro hb (And.intro hB hnl)))
        clear hns hx hnf hI hB hnl hb
        go_wp2_with (first
          | (go_at_call 83; refine hnum.mono ?_; rintro e w1 ⟨n1, he, hy, hb1⟩; rw [HN.out] at he; obtain rfl := he; obtain rfl : n1 = y := hy y HN.out; have H1 := Lib.hid hb1; have hI2 := (HI.out.1.below H1.out).alloc (.cells #[.int .i64 n1] 3); clear hb1 hnum hy)
          | (at_builtin; refine wp_appR rfl _ _ 39 3 (.int .i64 0) 1 8 infoInt rfl (by decide) (by decide) Tryz.underlying39 rfl _ ns.length (icells ns) b rfl hI2 ⟨w1.heap.size, 0, none⟩ 1 1 [.int .i64 n1] rfl (by decide) rfl (new_row (cs := [.int .i64 n1]) rfl) (by intro u hu; simp at hu; subst hu; rfl) (by rw [HI.out.2.2.2]; omega) ?_; intro v' w2 hA; have HA := Lib.hid (IRow.app hA); clear hA))
        obtain ⟨b', hI3, hu3, hb3⟩ := HA.out
        obtain ⟨a3, c3, rfl⟩ := hI3.slice
        have hl3 : (ns ++ [n1]).length = i + 1 := by rw [List.length_append, HI.out.2.2.2]; rfl
        have H3 := Lib.hid (And.intro hI3 (And.intro hu3 hb3))
        rw [hl3]
        clear hI3 hu3 hb3 hI2
        go_roundw
        case rel =>
          refine ⟨i + 1, a3, c3, by omega, by go_num, rfl, Lib.hid ⟨ns ++ [n1], b', HX.out, hl3, ?_, fun g hg => ?_, ?_⟩⟩
          · rw [← hl3]; exact H3.out.1
          · rcases H3.out.2.2 g hg with h | h
            · exact HI.out.2.1 g h
            · have h1 := HI.out.2.2.1.size
              have h2 := H1.out.size
              simp at h
              omega
          · have h1 := HI.out.2.2.1
            have h2 := h1.trans (H1.out.mono h1.size)
            have h3 := h2.alloc h2.size (.cells #[.int .i64 n1] 3)
            exact h3.trans (H3.out.2.1.below h3.size (fun k hk => HI.out.2.1 k hk))
        case measure => simp [intOf]; omega
    · have hie : i = n := by omega
      obtain ⟨ns, b, hns, hnl, hI, hb, hB⟩ := HS.out
      have hns' : numsF ws = some ns := by rw [hie, ← HR.out.2.2.1, List.take_length] at hns; exact hns
      have HP := Lib.hid (NumsV.some (w := w) hns' hB hI hb)
      have d1 : decide ((i : Int) < (n : Int)) = false := by simp; omega
      have d2 : decide (i < n) = false := by simp; omega
      clear hns hns' hI hb hB hnl hie
      go_wp2_with (fail)
      go_ret2
      exact HP.out
end Go.Proofs.YtefaaginedideaaGreatDoor
