/-
  Scripts printed, by the document: lines of steps, its sheet.
-/
import Derived.Test.YtefaaginedideaaGreatDoorPrL
namespace Go.Proofs.YtefaaginedideaaGreatDoor
set_option linter.unusedSimpArgs false
set_option linter.unusedVariables false
open Go.RowKit Own RegJ
open Go.Lib hiding intOf

theorem RdC.rdI {w : World} {a : Option Addr} {ns : List Int} (h : RdC w a (icells ns)) : RdI w a ns := fun k n hn => h k (.int .i64 n) (by rw [List.getElem?_map, hn]; rfl)
theorem rline_len {word : Txt} {ns : List Int} : (rlineT word ns).length ≤ word.length + 7 * ns.length := by
  unfold rlineT
  split
  · simp
  · rename_i h
    have hg : GoodTo ns ns.length := fun j x hj hx => by
      have h2 : badB ns = false := by simpa using h
      unfold badB at h2
      rw [List.any_eq_false] at h2
      simpa using h2 x (List.mem_of_getElem? hx)
    have := numsT_lenG hg
    rw [List.take_length] at this
    unfold lineT
    rw [List.length_append]; omega
theorem opsD_len {os : List OpV} {K : Nat} (h : os.length ≤ K) : (opsD os).length ≤ 2001 * K := by
  unfold opsD
  split
  · simp
  · rename_i hb
    have hb2 : okOps os = true := by have := opsB_not os; simp [hb] at this; exact this
    have := opsP_len (i := os.length) h
    rw [List.take_length, opsP_ok hb2] at this
    exact this
/-- the document's sheet -/
def PdV (b : Nat) (bad : Bool) (out : Txt) (w : World) : Prop := Blk w b #[.string (B out), .bool (!bad)] 99
def PdR (b : Nat) (bad : Bool) (out : Txt) (w w' : World) : Prop := PdV b bad out w' ∧ Upd (fun k => k = b) w w'
theorem PdR.trans {b : Nat} {bad bad' : Bool} {out out' : Txt} {w w1 w2 : World} (h : PdR b bad out w w1) (k : PdR b bad' out' w1 w2) : PdR b bad' out' w w2 := ⟨k.1, h.2.trans k.2 (fun _ _ h => h)⟩
theorem PdV.below {b : Nat} {bad : Bool} {out : Txt} {w w' : World} (h : PdV b bad out w) (hb : Below w.heap.size w w') : PdV b bad out w' := Blk.below hb h h.lt
theorem PdR.bel {b : Nat} {bad : Bool} {out : Txt} {w w1 w2 : World} (h : PdR b bad out w w1) (hb : Below w1.heap.size w1 w2) : PdR b bad out w w2 := ⟨h.1.below hb, h.2.trans (Upd.of_below (F := fun _ => False) hb) (fun _ _ h => h.elim)⟩
theorem pd_ok {b : Nat} {bad fine : Bool} {out : Txt} {w : World} (h : PdV b bad out w) (v : Bool) (hv : v = (!bad && fine)) : PdR b (bad || !fine) out w (w.setCell ⟨b, 1, none⟩ (.bool v)) := by
  subst hv
  refine ⟨?_, (Upd.refl (fun k => k = b) w).setCell (p := ⟨b, 1, none⟩) (fun _ => rfl) _⟩
  have := Blk.set h 1 (.bool (!bad && fine))
  unfold PdV
  rw [Bool.not_or, Bool.not_not]
  exact this
theorem pd_out {b : Nat} {bad : Bool} {out out' : Txt} {w : World} (h : PdV b bad out w) : PdR b bad out' w (w.setCell ⟨b, 0, none⟩ (.string (B out'))) := ⟨Blk.set h 0 (.string (B out')), (Upd.refl (fun k => k = b) w).setCell (p := ⟨b, 0, none⟩) (fun _ => rfl) _⟩
set_option maxRecDepth 100000 in
set_option maxHeartbeats 2000000 in
/-- the document's lines of steps -/
theorem rops_is {w : World} {a : Option Addr} {os : List OpV} (n c : Nat) (hr : RdC w a (oCells os)) (hn : os.length = n) (hk : n ≤ 1000000) :
    Calls Tryz.prog 73 #[.slice a n c] w (ValB (.tuple #[.string (B (opsD os)), .bool (!opsB os)]) w) := by
  have HE := Lib.hid (And.intro hr hn)
  obtain ⟨R, hR⟩ : ∃ R, B (opsD os) = R := ⟨_, rfl⟩
  obtain ⟨bv, hbv⟩ : ∃ bv, (!opsB os) = bv := ⟨_, rfl⟩
  rw [hR, hbv]
  have HV := Lib.hid (And.intro hR hbv)
  clear hr hn hR hbv
  go_enter Tryz.func73, Tryz.ntmps73
  go_wp2_with (fail)
  go_loopw [4, 5] (fun v4 ix wr => ∃ i : Nat, i ≤ n ∧ ix = .int .i64 i ∧ v4 = .string (B (opsP (os.take i))) ∧ Hid (opsB (os.take i) = false ∧ Below w.heap.size w wr)) (fun _ ix _ => n - (intOf ix).toNat)
  case atStart => exact ⟨0, Nat.zero_le _, rfl, rfl, Lib.hid ⟨rfl, Below.refl _ _⟩⟩
  case round =>
    obtain ⟨i, hi, rfl, rfl, H⟩ := hrel
    by_cases hil : i < n
    · obtain ⟨x, hx⟩ : ∃ x, os[i]? = some x := ⟨os[i]'(by rw [HE.out.2]; exact hil), List.getElem?_eq_getElem _⟩
      obtain ⟨g, o, rfl, ka⟩ := (HE.out.1.below H.out.2).at (oCells_at hx (by omega : 0 < 9))
      have p0 := ka _ _ (oCells_at hx (by omega : 0 < 9))
      have p1 := ka _ _ (oCells_at hx (by omega : 1 < 9))
      have p2 := ka _ _ (oCells_at hx (by omega : 2 < 9))
      have p3 := ka _ _ (oCells_at hx (by omega : 3 < 9))
      have p4 := ka _ _ (oCells_at hx (by omega : 4 < 9))
      have p5 := ka _ _ (oCells_at hx (by omega : 5 < 9))
      have p6 := ka _ _ (oCells_at hx (by omega : 6 < 9))
      have p7 := ka _ _ (oCells_at hx (by omega : 7 < 9))
      have p8 := ka _ _ (oCells_at hx (by omega : 8 < 9))
      rw [Nat.add_zero] at p0
      rw [← Nat.add_assoc] at p1 p2 p3 p4 p5 p6 p7 p8
      have hnx := And.intro (fm_next (f := fun o => opR o ++ [10]) hx) (any_next (g := fun o => !mayO o) hx)
      have d1 : decide ((i : Int) < (n : Int)) = true := by simp; omega
      have i1 : (i : Int) < (n : Int) := by omega
      have i2 : (0 : Int) ≤ i := by omega
      have hop := fun w0 => rop_is x w0
      cases hm : mayO x
      · have e0 : opE x = 19 := by unfold opE; rw [hm]; rfl
        have hb : opsB os = true := by
          unfold opsB
          rw [List.any_eq_true]
          exact ⟨x, List.mem_of_getElem? hx, by rw [hm]; rfl⟩
        obtain rfl : (⟨#[]⟩ : ByteArray) = R := by rw [← HV.out.1]; unfold opsD; rw [if_pos hb]
        obtain rfl : false = bv := by rw [← HV.out.2, hb]; rfl
        rw [e0] at hop
        clear hx ka hnx hm e0 hb HV
        generalize Go.Proofs.YtefaaginedideaaGreatDoor.B (opR x) = qx at *
        generalize Go.Proofs.YtefaaginedideaaGreatDoor.B (opsP (os.take i)) = qs at *
        go_wp2_with (go_at_call 11; refine (hop _).mono ?_; rintro e w1 ⟨rfl, hb1⟩; have H1 := Lib.hid hb1; clear hb1 hop)
        go_ret2
        exact ⟨rfl, H.out.2.trans (H1.out.mono H.out.2.size)⟩
      · have e0 : opE x = 0 := by unfold opE; rw [hm]; rfl
        rw [e0] at hop
        have hlt := opsP_len (i := i) (Nat.le_of_eq HE.out.2)
        have hrl := opR_len x
        have z1 := B_size (opsP (os.take i))
        have z2 := B_size (opsP (os.take i) ++ opR x)
        have z3 := B_size (opR x)
        rw [List.length_append] at z2
        have e1 := B_app (opsP (os.take i)) (opR x)
        have e2 := B_app (opsP (os.take i) ++ opR x) [10]
        rw [show Go.Proofs.YtefaaginedideaaGreatDoor.B [10] = ⟨#[10]⟩ from rfl] at e2
        have hz1 : ¬ 9223372036854775807 < (Go.Proofs.YtefaaginedideaaGreatDoor.B (opsP (os.take i))).size + (Go.Proofs.YtefaaginedideaaGreatDoor.B (opR x)).size := by omega
        have hz2 : ¬ 9223372036854775807 < (Go.Proofs.YtefaaginedideaaGreatDoor.B (opsP (os.take i) ++ opR x)).size + 1 := by omega
        have hfin : Go.Proofs.YtefaaginedideaaGreatDoor.B (opsP (os.take i) ++ opR x ++ [10]) = Go.Proofs.YtefaaginedideaaGreatDoor.B (opsP (os.take (i + 1))) := by
          have h2 := hnx.1
          unfold opsP
          rw [h2, List.append_assoc]
        have hbn : opsB (os.take (i + 1)) = false := by
          have h2 := hnx.2
          have h3 := H.out.1
          unfold opsB at *
          rw [h2, h3, hm]; rfl
        have HF := Lib.hid (And.intro hfin hbn)
        clear hx ka hnx hm e0 hlt hrl z1 z2 z3 hfin hbn
        generalize Go.Proofs.YtefaaginedideaaGreatDoor.B (opsP (os.take i) ++ opR x ++ [10]) = q3 at *
        generalize Go.Proofs.YtefaaginedideaaGreatDoor.B (opsP (os.take i) ++ opR x) = q2 at *
        generalize Go.Proofs.YtefaaginedideaaGreatDoor.B (opR x) = qx at *
        generalize Go.Proofs.YtefaaginedideaaGreatDoor.B (opsP (os.take i)) = qs at *
        go_wp2_with (go_at_call 11; refine (hop _).mono ?_; rintro e w1 ⟨rfl, hb1⟩; have H1 := Lib.hid hb1; clear hb1 hop)
        go_roundw
        case rel => exact ⟨i + 1, by omega, by go_num, by rw [HF.out.1], Lib.hid ⟨HF.out.2, H.out.2.trans (H1.out.mono H.out.2.size)⟩⟩
        case measure => simp [intOf]; omega
    · have d1 : decide ((i : Int) < (n : Int)) = false := by simp; omega
      have d2 : decide (i < n) = false := by simp; omega
      obtain rfl : i = n := by omega
      have hb : opsB os = false := by have := H.out.1; rwa [← HE.out.2, List.take_length] at this
      have hT : opsD os = opsP (os.take i) := by
        unfold opsD
        rw [hb, if_neg (by decide), ← HE.out.2, List.take_length, opsP_ok (by have := opsB_not os; rw [hb] at this; simpa using this.symm)]
      obtain rfl : Go.Proofs.YtefaaginedideaaGreatDoor.B (opsP (os.take i)) = R := by rw [← HV.out.1, hT]
      obtain rfl : true = bv := by rw [← HV.out.2, hb]; rfl
      clear hil hi hb hT HV
      generalize Go.Proofs.YtefaaginedideaaGreatDoor.B (opsP (os.take i)) = qs at *
      go_wp2_with (fail)
      go_ret2
      exact ⟨rfl, H.out.2⟩
set_option maxRecDepth 100000 in
set_option maxHeartbeats 2000000 in
/-- the document's line -/
theorem rput_is {b : Nat} {bad : Bool} {out word : Txt} {w : World} {a : Option Addr} {ns : List Int} (n c : Nat) (h : PdV b bad out w) (hr : RdI w a ns) (hn : ns.length = n) (hm : n ≤ 100000) (hw : word.length ≤ 100) (hl : out.length ≤ 9000000000000) :
    Calls Tryz.prog 39 #[.pointer (some ⟨b, 0, none⟩), .string (B word), .slice a n c] w fun e w' => e = .returned (.tuple #[]) ∧ PdR b (bad || badB ns) (out ++ rlineT word ns ++ [10]) w w' := by
  have hln := rline_is (word := word) n c hr hn (by omega) (by omega)
  obtain ⟨fine, hf⟩ : ∃ f, (!badB ns) = f := ⟨_, rfl⟩
  have hbd : badB ns = !fine := by rw [← hf, Bool.not_not]
  rw [hf] at hln
  rw [hbd]
  clear hf hr hbd
  have hll := rline_len (word := word) (ns := ns)
  have z1 := B_size out
  have z2 := B_size (rlineT word ns)
  have z3 := B_size (out ++ rlineT word ns)
  rw [List.length_append] at z3
  have e1 := B_app out (rlineT word ns)
  have e2 := B_app (out ++ rlineT word ns) [10]
  rw [show B [10] = ⟨#[10]⟩ from rfl] at e2
  have hz1 : ¬ 9223372036854775807 < (B out).size + (B (rlineT word ns)).size := by omega
  have hz2 : ¬ 9223372036854775807 < (B (out ++ rlineT word ns)).size + 1 := by omega
  obtain ⟨v, hv⟩ : ∃ v, (!bad && fine) = v := ⟨_, rfl⟩
  have h1 := pd_ok h v hv.symm
  have h2 := pd_out (out' := out ++ rlineT word ns ++ [10]) h1.1
  have HP := Lib.hid (h1.trans h2)
  have k0 := h.rd 1
  have k1 := h1.1.rd 0
  have f0 := h.nf 1
  have f1 := h1.1.nf 0
  clear h h1 h2 hll z1 z2 z3 hn hl hm
  generalize hq3 : B (out ++ rlineT word ns ++ [10]) = q3 at *
  have HQ := Lib.hid hq3
  clear hq3
  generalize B (out ++ rlineT word ns) = q2 at *
  generalize B (rlineT word ns) = qx at *
  generalize B out = qs at *
  cases bad
  all_goals
    simp only [Bool.not_false, Bool.not_true, Bool.true_and, Bool.false_and] at hv k0 k1
    subst hv
    go_enter Tryz.func39, Tryz.ntmps39
    go_wp2_with (go_at_call 27; refine hln.mono ?_; rintro e w1 ⟨rfl, rfl⟩)
    go_returns
    exact ⟨rfl, HP.out⟩
set_option maxRecDepth 100000 in
set_option maxHeartbeats 2000000 in
/-- the document's steps -/
theorem rsteps_is {b : Nat} {bad : Bool} {out : Txt} {w : World} {a : Option Addr} {os : List OpV} (n c : Nat) (h : PdV b bad out w) (hr : RdC w a (oCells os)) (hn : os.length = n) (hk : n ≤ 1000000) (hl : out.length ≤ 9000000000000) :
    Calls Tryz.prog 40 #[.pointer (some ⟨b, 0, none⟩), .slice a n c] w fun e w' => e = .returned (.tuple #[]) ∧ PdR b (bad || opsB os) (out ++ opsD os) w w' := by
  have hln := rops_is n c hr hn hk
  obtain ⟨fine, hf⟩ : ∃ f, (!opsB os) = f := ⟨_, rfl⟩
  obtain hfb : opsB os = !fine := by rw [← hf, Bool.not_not]
  rw [hf] at hln
  have hll := opsD_len (Nat.le_of_eq hn)
  have z1 := B_size out
  have z2 := B_size (opsD os)
  have e1 := B_app out (opsD os)
  have hz1 : ¬ 9223372036854775807 < (B out).size + (B (opsD os)).size := by omega
  obtain ⟨v, hv⟩ : ∃ v, (!bad && fine) = v := ⟨_, rfl⟩
  have key : ∀ w1, Below w.heap.size w w1 → PdV b bad out w1 ∧ Hid (PdR b (bad || opsB os) (out ++ opsD os) w ((w1.setCell ⟨b, 1, none⟩ (.bool v)).setCell ⟨b, 0, none⟩ (.string (B (out ++ opsD os))))) := fun w1 hb => by
    have h1 := h.below hb
    refine ⟨h1, Lib.hid ?_⟩
    have h2 := pd_ok h1 v hv.symm
    rw [hfb]
    exact PdR.trans (PdR.bel ⟨h, Upd.refl _ _⟩ hb) (h2.trans (pd_out h2.1))
  have key2 : ∀ w1, Below w.heap.size w w1 → (w1.setCell ⟨b, 1, none⟩ (.bool v)).cell? ⟨b, 0, none⟩ = some (.string (B out)) ∧ (w1.setCell ⟨b, 1, none⟩ (.bool v)).frozen? ⟨b, 0, none⟩ = false := fun w1 hb => by
    have h2 := (pd_ok (h.below hb) v hv.symm).1
    exact ⟨h2.rd 0, h2.nf 0⟩
  have key3 : ∀ w1, Below w.heap.size w w1 → w1.cell? ⟨b, 1, none⟩ = some (.bool (!bad)) ∧ w1.frozen? ⟨b, 1, none⟩ = false := fun w1 hb => ⟨(h.below hb).rd 1, (h.below hb).nf 1⟩
  replace key := fun w1 hb => (key w1 hb).2
  clear h hll z1 z2 hn hl hf hfb
  generalize B (out ++ opsD os) = q3 at *
  generalize B (opsD os) = qx at *
  generalize B out = qs at *
  cases bad
  all_goals
    simp only [Bool.not_false, Bool.not_true, Bool.true_and, Bool.false_and] at hv key3
    subst hv
    go_enter Tryz.func40, Tryz.ntmps40
    go_wp2_with (go_at_call 73; refine hln.mono ?_; rintro e w1 ⟨rfl, hb1⟩; have HK := key _ hb1; obtain ⟨k1, f1⟩ := key2 _ hb1; obtain ⟨k2, f2⟩ := key3 _ hb1; clear key key2 key3 hln hb1)
    go_returns
    exact ⟨rfl, HK.out⟩
end Go.Proofs.YtefaaginedideaaGreatDoor
