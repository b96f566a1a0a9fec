/-
  Descriptors: a closed one closed again, no free one; Used.
-/
import Derived.Test.YtaldahogjlokkaaGreatDoorKd
namespace Go.Proofs.YtaldahogjlokkaaGreatDoor
set_option linter.unusedSimpArgs false
set_option linter.unusedVariables false
open Go.RowKit Own RegJ Two
open Go.Lib hiding intOf

section
variable {w0 w w1 w2 w' : World} {O O1 : Nat → Prop} {fdb vb tb fb sb pb mb : Nat} {ns ns' : NSt} {c N N' : Nat} {S S' : FS}
set_option maxRecDepth 100000 in
theorem k_closeno (h : FdB w fdb vb pb mb N S) (pid : Int) (hw : (Lit.int .i64 pid).wf = true) (b : Nat) (hb : S.pr pid = some b) (d : Nat) (hd : d < 8) (hx : S.sl b d = none) :
    Calls Tryz.prog 22 #[.pointer (some ⟨fdb, 0, none⟩), .int .i64 pid, .int .i64 d] w fun e w' => e = .returned (.int .i64 8) ∧ w = w' := by
  have hg := k_getno h pid hw b hb d hd hx
  clear h hb hx
  go_enter Tryz.func22, Tryz.ntmps22
  go_wp2_with (go_at_call 41; refine hg.mono ?_; rintro e w1 ⟨rfl, rfl⟩)
  go_ret
  exact ⟨rfl, rfl⟩
set_option maxRecDepth 100000 in
theorem k_openfull (h : FdB w fdb vb pb mb N S) (pid : Int) (hw : (Lit.int .i64 pid).wf = true) (b : Nat) (hb : S.pr pid = some b) (hl : ∀ k, k < 8 → S.sl b k ≠ none) (n : Int) (s : ByteArray) :
    Calls Tryz.prog 13 #[.pointer (some ⟨fdb, 0, none⟩), .int .i64 pid, .string s, .int .i64 n] w fun e w' => e = .returned (.tuple #[.int .i64 0, .int .i64 14]) ∧ Below w.heap.size w w' := by
  have hfr := freeL_none (S.sl b) hl 8 (Nat.le_refl _)
  have hfree := k_free h pid hw b hb 1 (.int .i64 0) 0 (fun e w' => e = .returned (.tuple #[.slice none 0 0, .int .i64 14]) ∧ Below w.heap.size w w') (fun hlt => by rw [hfr] at hlt; simp at hlt) (fun _ w' hB => ⟨rfl, hB⟩)
  clear h hb hw hl hfr
  go_enter Tryz.func13, Tryz.ntmps13
  go_wp2_with (go_at_call 39; refine hfree.mono ?_; rintro e w1 ⟨rfl, hB1⟩; have H1 := Lib.hid hB1; clear hfree hB1)
  go_ret2
  exact ⟨rfl, H1.out⟩
/-- the places that name something, before i -/
def usedL (f : Nat → Option Nat) : Nat → List Int
  | 0 => []
  | i + 1 => usedL f i ++ (if (f i).isSome then [(i : Int)] else [])
theorem usedL_len (f : Nat → Option Nat) : ∀ i, (usedL f i).length ≤ i
  | 0 => Nat.le_refl _
  | i + 1 => by
    have := usedL_len f i
    unfold usedL
    rw [List.length_append]
    split <;> simp <;> omega
set_option maxRecDepth 100000 in
theorem clip_is (a : Option Addr) (m c : Nat) (hmc : m ≤ c) (w : World) : Calls Tryz.prog 50 #[.slice a m c] w fun e w' => e = .returned (.slice a m m) ∧ w = w' := by
  go_enter Tryz.func50, Tryz.ntmps50
  go_wp2_with (fail)
  go_ret
  exact ⟨rfl, rfl⟩
def UsedP (w : World) (ys : List Int) (e : Ending) (w' : World) : Prop := ∃ a c g, e = .returned (.slice a ys.length ys.length) ∧ RowV w' 3 (.slice a ys.length c) (icells ys) g ∧ (∀ k, g = some k → w.heap.size ≤ k) ∧ Below w.heap.size w w'
set_option maxRecDepth 100000 in
set_option maxHeartbeats 2000000 in
theorem k_used (h : FdB w fdb vb pb mb N S) (pid : Int) (hw : (Lit.int .i64 pid).wf = true) (b : Nat) (hb : S.pr pid = some b) :
    Calls Tryz.prog 23 #[.pointer (some ⟨fdb, 0, none⟩), .int .i64 pid] w (UsedP w (usedL (S.sl b) 8)) := by
  have hp := k_proc h pid hw (some b) hb 0 (by unfold procR; rw [hb])
  have hs := fun d hd => h.slot hb (d := d) hd
  have hlt := (h.t pid b hb).lt
  have HE := Lib.hid (And.intro hs hlt)
  have HL := Lib.hid (usedL_len (S.sl b))
  clear h hb hs hlt
  simp only [ptb, Option.map] at hp
  go_enter Tryz.func23, Tryz.ntmps23
  go_wp2_with (go_at_call 46; refine hp.mono ?_; rintro e w1 ⟨rfl, rfl⟩)
  go_loopw [7, 19] (fun v10 ix wr => ∃ i : Nat, i ≤ 8 ∧ ix = .int .i64 i ∧ ∃ a m c, v10 = .slice a m c ∧ Hid (∃ g, RowV wr 3 (.slice a m c) (icells (usedL (S.sl b) i)) g ∧ (∀ k, g = some k → w.heap.size ≤ k) ∧ Below w.heap.size w wr)) (fun _ ix _ => 8 - (intOf ix).toNat)
  case atStart => exact ⟨0, Nat.zero_le _, rfl, none, 0, 0, rfl, Lib.hid ⟨none, .inl ⟨rfl, rfl, rfl⟩, fun k hk => (by cases hk), Below.refl _ _⟩⟩
  case round =>
    obtain ⟨i, hi, rfl, a, m, c, rfl, H⟩ := hrel
    obtain ⟨gr, hR, hgr, hBl⟩ := H.out
    have hm : m = (usedL (S.sl b) i).length ∧ m ≤ c := by
      obtain ⟨a', c', hv, h1, _⟩ := hR.slice
      simp only [Value.slice.injEq, List.length_map] at hv h1
      exact ⟨hv.2.1, by omega⟩
    have hml := HL.out i
    by_cases hil : i < 8
    · have d1 : decide ((i : Int) < 8) = true := by simp; omega
      have i1 : (i : Int) < 8 := by omega
      have i2 : (0 : Int) ≤ i := by omega
      have c0 : wr.cell? ⟨b, i, none⟩ = some (ptb (S.sl b i)) := (hBl.cell (p := ⟨b, i, none⟩) HE.out.2).trans (HE.out.1 i hil)
      cases hx : S.sl b i with
      | none =>
        have HX := Lib.hid (show usedL (S.sl b) (i + 1) = usedL (S.sl b) i by show usedL (S.sl b) i ++ (if (S.sl b i).isSome then [(i : Int)] else []) = _; rw [hx]; simp)
        rw [hx] at c0
        simp only [ptb, Option.map] at c0
        clear hx hR hgr hBl hm
        go_wp2_with (fail)
        go_quiet (fail)
        go_wp2_with (fail)
        go_roundw
        case rel => exact ⟨i + 1, by omega, by go_num, a, m, c, rfl, Lib.hid (by rw [HX.out]; obtain ⟨g, h1, h2, h3⟩ := H.out; exact ⟨g, h1.below (dn _ _), h2, h3.trans (((dn _ _)).mono h3.size)⟩)⟩
        case measure => simp [intOf]; omega
      | some x =>
        have HX := Lib.hid (show usedL (S.sl b) (i + 1) = usedL (S.sl b) i ++ [(i : Int)] by show usedL (S.sl b) i ++ (if (S.sl b i).isSome then [(i : Int)] else []) = _; rw [hx]; simp)
        rw [hx] at c0
        simp only [ptb, Option.map] at c0
        have HK := Lib.hid (fun q => hR.below ((dn wr q).trans ((Below.refl _ _).alloc (by simp) (.cells #[.int .i64 (i : Int)] 3))))
        obtain ⟨hm, hmc⟩ := hm
        have HM := Lib.hid (And.intro hgr (And.intro hBl hm))
        clear hx hR hgr hBl hm
        go_wp2_with (fail)
        go_quiet (fail)
        go_wp2_with (at_builtin; refine wp_appV rfl _ _ 51 3 (.int .i64 0) 8 (by kernel_rfl) rfl (by decide) Tryz.underlying51 rfl (.slice a m c) (icells (usedL (S.sl b) i)) gr rfl (HK.out _) (some ⟨wr.heap.size, 0, none⟩) 1 1 [.int .i64 i] rfl rfl (fun _ => ⟨_, rfl, new_cell (wr.drewN _) (.int .i64 i) 3⟩) (fun u hu => by (simp at hu; subst hu; rfl)) (by simp; omega) ?_; intro v' w4 row' hI hrow' hu4; obtain ⟨a2, c2, rfl, -, -⟩ := hI.slice; have H4 := Lib.hid (And.intro hI (And.intro hrow' hu4)); clear hI hrow' hu4)
        go_roundw
        case rel =>
          refine ⟨i + 1, by omega, by go_num, a2, _, c2, rfl, Lib.hid ?_⟩
          rw [HX.out, show icells (usedL (S.sl b) i ++ [(i : Int)]) = icells (usedL (S.sl b) i) ++ [Value.int .i64 i] by simp [icells]]
          have hB5 := HM.out.2.1.trans ((dn wr nq).mono HM.out.2.1.size)
          refine ⟨row', by rw [show (usedL (S.sl b) i).length + 1 = (icells (usedL (S.sl b) i) ++ [Value.int .i64 i]).length by simp]; exact H4.out.1, fun k hk => ?_, ?_⟩
          · rcases H4.out.2.1 k hk with h1 | h1
            · exact HM.out.1 k h1
            · have h2 := HM.out.2.1.size
              simp at h1
              omega
          · have h6 := (hB5.alloc hB5.size (.cells #[.int .i64 (i : Int)] 3))
            exact h6.trans (H4.out.2.2.below h6.size (fun k hk => HM.out.1 k hk))
        case measure => simp [intOf]; omega
    · have hi8 : i = 8 := by omega
      have d1 : decide ((i : Int) < 8) = false := by simp; omega
      have d0 : decide (i < 8) = false := by simp; omega
      subst hi8
      have hcl := clip_is a m c hm.2 wr
      have HF := Lib.hid (And.intro hm.1 (And.intro hR (And.intro hgr hBl)))
      clear hR hgr hBl hm hil hi
      go_wp2_with (go_at_call 50; refine hcl.mono ?_; rintro e w9 ⟨rfl, rfl⟩)
      go_ret
      refine ⟨a, c, gr, ?_, ?_, HF.out.2.2.1, HF.out.2.2.2⟩
      · rw [← HF.out.1]; rfl
      · rw [← HF.out.1]; exact HF.out.2.1
end
end Go.Proofs.YtaldahogjlokkaaGreatDoor
