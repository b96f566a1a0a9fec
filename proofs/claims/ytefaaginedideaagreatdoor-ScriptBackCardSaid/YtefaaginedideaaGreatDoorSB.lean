/-
  Script, the program's telling: a printer's line; Op.
-/
import Derived.Test.YtefaaginedideaaGreatDoorSA
namespace Go.Proofs.YtefaaginedideaaGreatDoor
set_option linter.unusedSimpArgs false
set_option linter.unusedVariables false
open Go.RowKit Own RegJ
open Go.Lib hiding intOf

/-- a block that the printer at b does not turn -/
def Safe (B b : Nat) (w : World) (g : Nat) : Prop := g < B ∨ (g ≠ b ∧ ∃ o, w.heap[g]? = some o ∧ ∀ c fz, o ≠ .cells c 5 fz)
theorem Safe.heap {B b g : Nat} {w w' : World} (h : Safe B b w g) (hB : B ≤ w.heap.size) (h1 : Below B w w') (h2 : OthersKept 5 (some b) w w') : w'.heap[g]? = w.heap[g]? := by
  rcases h with h | ⟨h, o, ho, hn⟩
  · exact h1.block g h
  · rw [h2 g o ho (by simpa using h) hn, ho]
theorem Safe.kept {B b g : Nat} {w w' : World} (h : Safe B b w g) (hB : B ≤ w.heap.size) (h1 : Below B w w') (h2 : OthersKept 5 (some b) w w') : Safe B b w' g := by
  rcases h with h | ⟨h, o, ho, hn⟩
  · exact .inl h
  · exact .inr ⟨h, o, h2 g o ho (by simpa using h) hn, hn⟩
/-- a row of integers that can be read, and that the printer does not turn -/
def RdS (B b : Nat) (w : World) (a : Option Addr) (ns : List Int) : Prop := ∀ k n, ns[k]? = some n → ∃ g o, a = some ⟨g, o, none⟩ ∧ w.cell? ⟨g, o + k, none⟩ = some (.int .i64 n) ∧ Safe B b w g
theorem RdS.kept {B b : Nat} {w w' : World} {a : Option Addr} {ns : List Int} (h : RdS B b w a ns) (hB : B ≤ w.heap.size) (h1 : Below B w w') (h2 : OthersKept 5 (some b) w w') : RdS B b w' a ns := fun k n hn => by
  obtain ⟨g, o, ha, hc, hs⟩ := h k n hn
  refine ⟨g, o, ha, ?_, hs.kept hB h1 h2⟩
  rw [← hc]; unfold World.cell?; simp only [hs.heap hB h1 h2]
/-- the numbers are ints -/
def Rng (ns : List Int) : Prop := ∀ n ∈ ns, -9223372036854775808 ≤ n ∧ n ≤ 9223372036854775807
theorem numsT_next {ns : List Int} {i : Nat} {n : Int} (h : ns[i]? = some n) : numsT (ns.take (i + 1)) = numsT (ns.take i) ++ ([32] ++ itoa n) := by
  have hi : i < ns.length := (List.getElem?_eq_some_iff.1 h).1
  unfold numsT
  rw [List.take_succ_eq_append_getElem hi, List.flatMap_append]
  rw [List.getElem?_eq_getElem hi] at h
  rw [Option.some.inj h]
  simp
theorem numsT_len {ns : List Int} (h : Rng ns) : (numsT ns).length ≤ 22 * ns.length := by
  induction ns with
  | nil => simp [numsT]
  | cons n r ih =>
    have h1 := ih (fun x hx => h x (by simp [hx]))
    have h2 := itoa_len n (h n (by simp)).1 (h n (by simp)).2
    unfold numsT at *
    rw [List.flatMap_cons, List.length_append]
    simp only [List.length_cons]; omega
def badB (ns : List Int) : Bool := ns.any fun n => !goodB n
theorem bad_next {ns : List Int} {i : Nat} {n : Int} (h : ns[i]? = some n) : badB (ns.take (i + 1)) = (badB (ns.take i) || !goodB n) := by
  have hi : i < ns.length := (List.getElem?_eq_some_iff.1 h).1
  unfold badB
  rw [List.take_succ_eq_append_getElem hi, List.any_append]
  rw [List.getElem?_eq_getElem hi] at h
  rw [Option.some.inj h]
  simp
abbrev Pr (B b : Nat) (bad : Bool) (l : Txt) (w : World) : Prop := BldV 64 [.bool bad] B b (byteCells l) w
abbrev PrR (B b : Nat) (bad : Bool) (l : Txt) (w w' : World) : Prop := BldR 64 [.bool bad] B b (byteCells l) w w'
theorem strCells_B (s : Txt) : strCells (B s) = byteCells s := by
  unfold strCells byteCells; simp
theorem cells_app (a b : Txt) : byteCells a ++ byteCells b = byteCells (a ++ b) := by simp [byteCells]
def LineQ (B b : Nat) (bad : Bool) (l : Txt) (w wr : World) (v : Bool) : Prop := Hid (PrR B b bad l w (wr.setCell ⟨b, 2, none⟩ (.bool v)))
set_option maxRecDepth 100000 in
set_option maxHeartbeats 2000000 in
theorem pline_is {B b : Nat} {bad : Bool} {l word : Txt} {w : World} {a : Option Addr} {ns : List Int} (n c : Nat) (hE : Env w) (h8 : 8 ≤ B) (hBw : B ≤ w.heap.size) (h : Pr B b bad l w) (hr : RdS B b w a ns) (hn : ns.length = n) (hrg : Rng ns) (hlen : l.length + word.length + 22 * n + 1 ≤ 140737488355328) :
    Calls Tryz.prog 22 #[.pointer (some ⟨b, 0, none⟩), .string (Go.Proofs.YtefaaginedideaaGreatDoor.B word), .slice a n c] w fun e w' => e = .returned (.tuple #[]) ∧ PrR B b (bad || badB ns) (l ++ lineT word ns ++ [10]) w w' := by
  have hw1 := wstr_is (Go.Proofs.YtefaaginedideaaGreatDoor.B word) atP h (by rw [byteCells_length, B_size]; omega) hBw
  rw [strCells_B, cells_app] at hw1
  have HE := Lib.hid (And.intro hE (And.intro hr (And.intro hn hrg)))
  clear hE hr hn hrg h
  generalize hwd : Go.Proofs.YtefaaginedideaaGreatDoor.B word = bw at *
  clear hwd
  go_enter Tryz.func22, Tryz.ntmps22
  go_wp2_with (go_at_call 41; (with_reducible refine hw1.mono ?_); rintro e w1 ⟨rfl, h1⟩; clear hw1)
  have h2 : PrR B b (bad || badB (ns.take 0)) (l ++ word ++ numsT (ns.take 0)) w w1 := by
    have e1 : badB (ns.take 0) = false := rfl
    have e2 : numsT (ns.take 0) = [] := rfl
    rw [e1, e2, Bool.or_false, List.append_nil]; exact h1
  have H2 := Lib.hid h2
  clear h1 h2
  go_loopw [15] (fun ix wr => ∃ i : Nat, i ≤ n ∧ ix = .int .i64 i ∧ Hid (PrR B b (bad || badB (ns.take i)) (l ++ word ++ numsT (ns.take i)) w wr)) (fun ix _ => n - (intOf ix).toNat)
  case atStart => exact ⟨0, Nat.zero_le _, rfl, H2⟩
  case round =>
    obtain ⟨i, hi, rfl, H⟩ := hrel
    clear H2
    by_cases hil : i < n
    · obtain ⟨x, hx⟩ : ∃ x, ns[i]? = some x := ⟨ns[i]'(by rw [HE.out.2.2.1]; exact hil), List.getElem?_eq_getElem _⟩
      have hxr := HE.out.2.2.2 x (List.mem_of_getElem? hx)
      have hB : B ≤ wr.heap.size := Nat.le_trans hBw H.out.2.1.size
      have hEr := HE.out.1.below h8 H.out.2.1
      obtain ⟨g, o, rfl, k0, -⟩ := (HE.out.2.1.kept hBw H.out.2.1 H.out.2.2) i x hx
      have hnx := Lib.hid (And.intro (numsT_next hx) (bad_next hx))
      have c2 := H.out.1.tl 0
      have f2 := H.out.1.nf 2
      obtain ⟨y, hy⟩ : ∃ y, (bad || badB (ns.take i)) = y := ⟨_, rfl⟩
      have HY := Lib.hid hy
      rw [hy] at c2
      have c2' : wr.cell? ⟨b, 2, none⟩ = some (.bool y) := c2
      have d1 : decide ((i : Int) < (n : Int)) = true := by simp; omega
      have i1 : (i : Int) < (n : Int) := by omega
      have i2 : (0 : Int) ≤ i := by omega
      have hit := itoa_len x hxr.1 hxr.2
      have hnl := numsT_len (ns := ns.take i) (fun z hz => HE.out.2.2.2 z (List.mem_of_mem_take hz))
      have htl : (ns.take i).length ≤ i := by simp; omega
      have hz1 := B_size (itoa x)
      have hz : ¬ 9223372036854775807 < 1 + (Go.Proofs.YtefaaginedideaaGreatDoor.B (itoa x)).size := by omega
      clear hx hy c2 hz1
      -- behind the store
      have key : ∀ y' : Bool, (y || !goodB x) = y' → ∀ W1, W1 = wr.setCell ⟨b, 2, none⟩ (.bool y') → Hid (PrR B b (bad || badB (ns.take (i + 1))) (l ++ word ++ numsT (ns.take i)) w W1) := by
        intro y' hy' W1 hW
        subst hW
        have h1 := H.out.1.tail 0 (.bool y')
        have e : (bad || badB (ns.take (i + 1))) = y' := by rw [hnx.out.2, ← Bool.or_assoc, HY.out, hy']
        rw [e]
        exact Lib.hid ⟨h1, H.out.2.1.setCell (p := ⟨b, 2, none⟩) h1.at.choose_spec.2.1 _, H.out.2.2.setCell ⟨b, 2, none⟩ rfl _⟩
      have g1 : x < 0 → (false || !goodB x) = true := fun h => by unfold goodB; rw [decide_eq_false (by omega)]; rfl
      have g2 : 999999 < x → (false || !goodB x) = true := fun h => by unfold goodB; rw [decide_eq_false (show ¬ x ≤ 999999 by omega)]; simp
      have g3 : 0 ≤ x → x ≤ 999999 → (false || !goodB x) = false := fun h h' => by unfold goodB; rw [decide_eq_true h, decide_eq_true h']; rfl
      have hcases : (y = true ∧ LineQ B b (bad || badB (ns.take (i + 1))) (l ++ word ++ numsT (ns.take i)) w wr true) ∨ (y = false ∧ x < 0 ∧ LineQ B b (bad || badB (ns.take (i + 1))) (l ++ word ++ numsT (ns.take i)) w wr true) ∨ (y = false ∧ 0 ≤ x ∧ 999999 < x ∧ LineQ B b (bad || badB (ns.take (i + 1))) (l ++ word ++ numsT (ns.take i)) w wr true) ∨ (y = false ∧ 0 ≤ x ∧ x ≤ 999999 ∧ LineQ B b (bad || badB (ns.take (i + 1))) (l ++ word ++ numsT (ns.take i)) w wr false) := by
        rcases Bool.eq_false_or_eq_true y with h | h
        · exact .inl ⟨h, key true (by rw [h]; rfl) _ rfl⟩
        · rcases Int.lt_or_le x 0 with h0 | h0
          · exact .inr (.inl ⟨h, h0, key true (by rw [h]; exact g1 h0) _ rfl⟩)
          · rcases Int.lt_or_le 999999 x with h1 | h1
            · exact .inr (.inr (.inl ⟨h, h0, h1, key true (by rw [h]; exact g2 h1) _ rfl⟩))
            · exact .inr (.inr (.inr ⟨h, h0, h1, key false (by rw [h]; exact g3 h0 h1) _ rfl⟩))
      clear key g1 g2 g3
      rcases hcases with ⟨rfl, HQ⟩ | ⟨rfl, hx0, HQ⟩ | ⟨rfl, hx0, hx1, HQ⟩ | ⟨rfl, hx0, hx1, HQ⟩
      all_goals
        unfold LineQ at HQ
        try have e1 : decide (x < 0) = false := decide_eq_false (by omega)
        try have e2 : decide (x > 999999) = false := decide_eq_false (by omega)
        go_wp2_with (fail)
        first
          | (obtain ⟨W1, hW1⟩ : ∃ W1, W1 = wr.setCell ⟨b, 2, none⟩ (.bool true) := ⟨_, rfl⟩; rw [← hW1] at HQ ⊢; clear hW1)
          | (obtain ⟨W1, hW1⟩ : ∃ W1, W1 = wr.setCell ⟨b, 2, none⟩ (.bool false) := ⟨_, rfl⟩; rw [← hW1] at HQ ⊢; clear hW1)
        clear HY c2' f2 k0
        have hB1 : B ≤ W1.heap.size := Nat.le_trans hBw HQ.out.2.1.size
        have hE1 := HE.out.1.below h8 HQ.out.2.1
        refine region_J (JJ 4 6 (fun p q w1 => (q = false ∧ Below W1.heap.size W1 w1) ∨ (p = true ∧ q = true ∧ PrR B b (bad || badB (ns.take (i + 1))) (l ++ word ++ numsT (ns.take (i + 1))) W1 w1))) (by kernel_rfl) (by kernel_rfl) ?_ ?_
        · exact .inl ⟨rfl, (Below.refl _ _).drew⟩
        · iterate 4
            apply wpJ_op rfl (by rfl)
            · intro f w1 hf hJ Q1 hQ
              simp only [Act.put, List.setIfInBounds_toArray, List.set_cons_zero, List.set_cons_succ] at hQ
              go_wp2_with (fail)
              exact hQ _ _ rfl (hJ.other (by decide) (by decide))
            simp only [Act.put, List.setIfInBounds_toArray, List.set_cons_zero, List.set_cons_succ]
          apply wpJ_op (v := .string (Go.Proofs.YtefaaginedideaaGreatDoor.B (itoa x))) rfl (by rfl)
          · intro f w1 hf hJ Q1 hQ
            simp only [Act.put, List.setIfInBounds_toArray, List.set_cons_zero, List.set_cons_succ] at hQ
            rcases hJ.one hf.1 with ⟨h6, hb1⟩ | ⟨h, _⟩
            · have hi1 := sitoa (hE1.bel hb1) hxr.1 hxr.2
              generalize Go.Proofs.YtefaaginedideaaGreatDoor.B (itoa x) = qx at *
              go_wp2_with (go_at_call 42; (with_reducible refine hi1.mono ?_); rintro e w' ⟨rfl, hb2⟩)
              exact hQ _ _ rfl (JJ.fin1 (.inl ⟨h6, hb1.trans (hb2.mono hb1.size)⟩) (by decide))
            · cases h
          simp only [Act.put, List.setIfInBounds_toArray, List.set_cons_zero, List.set_cons_succ]
          apply wpJ_op (v := .string (Go.Proofs.YtefaaginedideaaGreatDoor.B ([32] ++ itoa x))) rfl (by rfl)
          · intro f w1 hf hJ Q1 hQ
            simp only [Act.put, List.setIfInBounds_toArray, List.set_cons_zero, List.set_cons_succ] at hQ
            have ha := B_app [32] (itoa x)
            generalize Go.Proofs.YtefaaginedideaaGreatDoor.B (itoa x) = qx at *
            generalize Go.Proofs.YtefaaginedideaaGreatDoor.B ([32] ++ itoa x) = qy at *
            go_wp2_with (fail)
            exact hQ _ _ rfl (hJ.other (by decide) (by decide))
          simp only [Act.put, List.setIfInBounds_toArray, List.set_cons_zero, List.set_cons_succ]
          apply wpJ_op (v := .tuple #[.int .i64 (Go.Proofs.YtefaaginedideaaGreatDoor.B ([32] ++ itoa x)).size, .nilIface]) rfl (by rfl)
          · intro f w1 hf hJ Q1 hQ
            simp only [Act.put, List.setIfInBounds_toArray, List.set_cons_zero, List.set_cons_succ] at hQ
            have h4 := up_dep hf 4 (by kernel_rfl)
            rcases hJ.two hf.1 with ⟨_, hb1⟩ | ⟨_, h, _⟩
            · have hws := wstr_is (Go.Proofs.YtefaaginedideaaGreatDoor.B ([32] ++ itoa x)) atP (HQ.out.1.below hb1) (by rw [byteCells_length, B_size]; simp only [List.length_append, List.length_cons, List.length_nil]; omega) (Nat.le_trans hB1 hb1.size)
              rw [strCells_B, cells_app, List.append_assoc, ← hnx.out.1] at hws
              generalize Go.Proofs.YtefaaginedideaaGreatDoor.B ([32] ++ itoa x) = qy at *
              go_wp2_with (go_at_call 41; (with_reducible refine hws.mono ?_); rintro e w' ⟨rfl, h1⟩; have H1 := Lib.hid h1; clear h1)
              exact hQ _ _ rfl (JJ.fin2 (.inr ⟨h4, rfl, BldR.bel hB1 hb1 H1.out⟩) (by decide))
            · cases h
          simp only [Act.put, List.setIfInBounds_toArray, List.set_cons_zero, List.set_cons_succ]
          refine wpJ_nil ?_
          intro w1 hJ1
          rcases hJ1.over rfl rfl with ⟨h, _⟩ | ⟨_, _, h1⟩
          · cases h
          · have H1 := Lib.hid h1
            clear h1 hJ1
            go_wp2_with (fail)
            go_roundw
            case rel => exact ⟨i + 1, by omega, by go_num, Lib.hid (HQ.out.trans H1.out)⟩
            case measure => simp [intOf]; omega
    · have hie : i = n := by omega
      have d1 : decide ((i : Int) < (n : Int)) = false := by simp; omega
      have d1n : decide (i < n) = false := by simp; omega
      have hB : B ≤ wr.heap.size := Nat.le_trans hBw H.out.2.1.size
      have hT : ns.take i = ns := by rw [hie, ← HE.out.2.2.1]; simp
      have H3 := H.out
      rw [hT] at H3
      have hnl := numsT_len (ns := ns) HE.out.2.2.2
      rw [HE.out.2.2.1] at hnl
      have hws := wstr_is (Go.Proofs.YtefaaginedideaaGreatDoor.B [10]) atP H3.1 (by rw [byteCells_length, B_size]; simp only [List.length_append, List.length_cons, List.length_nil]; omega) hB
      rw [strCells_B, cells_app] at hws
      have H4 := Lib.hid H3
      clear hie hT H3 hil hnl HE H
      go_wp2_with (go_at_call 41; (with_reducible refine hws.mono ?_); rintro e w' ⟨rfl, h1⟩; have H1 := Lib.hid h1; clear h1)
      go_returns
      refine ⟨rfl, ?_⟩
      have := H4.out.trans H1.out
      unfold lineT
      rw [← List.append_assoc]
      exact this
end Go.Proofs.YtefaaginedideaaGreatDoor