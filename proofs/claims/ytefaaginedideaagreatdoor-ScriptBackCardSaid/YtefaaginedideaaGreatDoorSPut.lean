/-
  Script: what a line of numbers does, by the program.
-/
import Derived.Test.YtefaaginedideaaGreatDoorSStep
import Derived.Test.YtefaaginedideaaGreatDoorCore
namespace Go.Proofs.YtefaaginedideaaGreatDoor
set_option linter.unusedSimpArgs false
set_option linter.unusedVariables false
open Go.RowKit Own RegJ
open Go.Lib hiding intOf

/-! ### one store in a region that draws its order -/
def SJ (S : Nat) (md : Region.Mode) (ops : Array Oper) (W WS : World) (f : Nat → Bool) (w : World) : Prop := RegF.Closed md ops f ∧ w = if f S then WS else W
section
variable {S k : Nat} {md : Region.Mode} {ops : Array Oper} {W WS w : World} {f : Nat → Bool} {o : Oper}
theorem SJ.other (h : SJ S md ops W WS f w) (ho : ops[k]? = some o) (hf : Up md k o f) (h3 : k ≠ S) : SJ S md ops W WS (fset f k) w := by
  refine ⟨RegF.Closed.fset ho ⟨hf, h.1⟩, ?_⟩
  rw [fset_ne h3]; exact h.2
theorem SJ.atS (h : SJ S md ops W WS f w) (hS : f S = false) : w = W := by have := h.2; rw [hS] at this; exact this
theorem SJ.fin (h : SJ S md ops W WS f w) (hS : f S = true) : w = WS := by have := h.2; rw [hS] at this; exact this
theorem SJ.goS (h : SJ S md ops W WS f w) (ho : ops[S]? = some o) (hf : Up md S o f) : SJ S md ops W WS (fset f S) WS := by
  refine ⟨RegF.Closed.fset ho ⟨hf, h.1⟩, ?_⟩
  rw [fset_eq]; rfl
end
theorem region_S {P : Program} {id : Nat} {Q : Exit → Act → World → Prop} {a : Act} {w : World} {l : List Oper} (S : Nat) (W WS : World) (hW : w.drew = W) (hm : P.follows .mixedOrders = true) (hB : Region.lexB .any l.toArray = true)
    (h : wpJ P .any l.toArray (SJ S .any l.toArray W WS) a.tmps.size (fun s a' => ∀ w', SJ S .any l.toArray W WS (flags s) w' → Q .normal a' w') 0 l (Array.replicate l.length false) a) : (Code.region id l.toArray true).wp P Q a w :=
  region_J (SJ S .any l.toArray W WS) hm hB ⟨fun k o ho h => (by cases h), hW⟩ h
/-- a row with one more, and its cell turned -/
def PutR (T : TypeId) (sz : Nat) (w : World) (sb k n : Nat) (ocs ys : List Value) (pb : Option Nat) (w' : World) : Prop := ∃ W v' w1, Below w.heap.size w W ∧ AppR W T sz (n + 1) (ocs ++ ys) pb v' w1 ∧ w' = w1.setCell ⟨sb, k, none⟩ v'
/-- a row of numbers, as it is read -/
def PutP (T : TypeId) (sz off : Nat) (w : World) (rb k n : Nat) (ocs ys : List Value) (pb : Option Nat) (w' : World) : Prop := ∃ W w1 g c, Below w.heap.size w W ∧ AppR W T sz (n + 1) (ocs ++ ys) pb (.slice (some ⟨g, 0, none⟩) (n + 1) c) w1 ∧ w' = ((w1.setCell ⟨rb, k, none⟩ (.slice (some ⟨g, 0, none⟩) (n + 1) c)).drew).setCell ⟨rb, 7, none⟩ (.pointer (some ⟨g, n * sz + off, none⟩))
theorem IRow.some_of {w : World} {v : Value} {ns : List Int} {b : Option Nat} (h : IRow w v ns b) (h0 : 0 < ns.length) : ∃ g c, v = .slice (some ⟨g, 0, none⟩) ns.length c ∧ b = some g ∧ ns.length ≤ c ∧ ∀ k n, ns[k]? = some n → w.cell? ⟨g, k, none⟩ = some (.int .i64 n) := by
  obtain ⟨g, hg⟩ := h.has h0
  obtain ⟨cap, rest, hv, hB, hc, hn, hm⟩ := h.blk g hg
  refine ⟨g, cap, hv, hg, hn, fun k n hk => ?_⟩
  have hl : k < ns.length := (List.getElem?_eq_some_iff.1 hk).1
  rw [hB.rd, List.getElem?_toArray, List.getElem?_append_left (by simpa using hl), List.getElem?_map, hk]; rfl
theorem infoInt' : (Tryz.prog.info? 3).map (fun i => (i.zero, i.size, i.bytes)) = some (some (.int .i64 0), 1, 8) := by kernel_rfl
theorem infoMx : (Tryz.prog.info? 87).map (fun i => (i.zero, i.size, i.bytes)) = some (some (.agg #[.int .i64 0, .int .i64 0]), 2, 16) := by kernel_rfl
theorem infoEv : (Tryz.prog.info? 58).map (fun i => (i.zero, i.size, i.bytes)) = some (some (.agg #[.int .i64 0, .int .i64 0, .int .i64 0]), 3, 24) := by kernel_rfl
theorem infoEf : (Tryz.prog.info? 92).map (fun i => (i.zero, i.size, i.bytes)) = some (some (.agg #[.int .i64 0, .slice none 0 0]), 2, 32) := by kernel_rfl
theorem infoTk : (Tryz.prog.info? 89).map (fun i => (i.zero, i.size, i.bytes)) = some (some (.agg #[.int .i64 0, .int .i64 0, .int .i64 0, .int .i64 0, .int .i64 0, .int .i64 0, .slice none 0 0, .slice none 0 0]), 8, 96) := by kernel_rfl
set_option maxRecDepth 100000 in
theorem frames_ok (w : World) (rb : Nat) (cs : Array Value) (hR : Blk w rb cs 78) (h4 : 4 < cs.size) (nv : Value) (x : Int) (nb : Option Nat) (hI : IRow w nv [x] nb) :
    Calls Tryz.prog 62 #[.pointer (some ⟨rb, 0, none⟩), nv] w (fun e w' => e = .returned (.bool true) ∧ w' = w.setCell ⟨rb, 4, none⟩ (.int .i64 x)) := by
  obtain ⟨g, c, rfl, _, hc, hrd⟩ := hI.some_of (by simp)
  have r0 := hrd 0 x rfl
  have hcell := hR.rd 4
  rw [Array.getElem?_eq_getElem h4] at hcell
  have hnf := hR.nf 4
  simp only [List.length_cons, List.length_nil, Nat.zero_add] at *
  clear hrd hI hR
  go_enter Tryz.func62, Tryz.ntmps62
  go_wp2_with (fail)
  go_ret
  exact ⟨rfl, rfl⟩
set_option maxRecDepth 100000 in
theorem dog_ok (w : World) (rb : Nat) (cs : Array Value) (hR : Blk w rb cs 78) (h5 : 5 < cs.size) (nv : Value) (x : Int) (nb : Option Nat) (hI : IRow w nv [x] nb) :
    Calls Tryz.prog 63 #[.pointer (some ⟨rb, 0, none⟩), nv] w (fun e w' => e = .returned (.bool true) ∧ w' = w.setCell ⟨rb, 5, none⟩ (.int .i64 x)) := by
  obtain ⟨g, c, rfl, _, hc, hrd⟩ := hI.some_of (by simp)
  have r0 := hrd 0 x rfl
  have hcell := hR.rd 5
  rw [Array.getElem?_eq_getElem h5] at hcell
  have hnf := hR.nf 5
  simp only [List.length_cons, List.length_nil, Nat.zero_add] at *
  clear hrd hI hR
  go_enter Tryz.func63, Tryz.ntmps63
  go_wp2_with (fail)
  go_ret
  exact ⟨rfl, rfl⟩
set_option maxRecDepth 100000 in
theorem frames_no (w : World) (pv : Value) (a : Option Addr) (n c : Nat) (hn : n ≠ 1) : Calls Tryz.prog 62 #[pv, .slice a n c] w (fun e w' => e = .returned (.bool false) ∧ w' = w) := by
  have h1 : ((n : Int) == 1) = false := by simp; omega
  have h2 : decide ((n : Int) = 1) = false := by simp; omega
  clear hn
  go_enter Tryz.func62, Tryz.ntmps62
  go_wp2_with (fail)
  go_ret
  exact ⟨rfl, rfl⟩
set_option maxRecDepth 100000 in
theorem dog_no (w : World) (pv : Value) (a : Option Addr) (n c : Nat) (hn : n ≠ 1) : Calls Tryz.prog 63 #[pv, .slice a n c] w (fun e w' => e = .returned (.bool false) ∧ w' = w) := by
  have h1 : ((n : Int) == 1) = false := by simp; omega
  have h2 : decide ((n : Int) = 1) = false := by simp; omega
  clear hn
  go_enter Tryz.func63, Tryz.ntmps63
  go_wp2_with (fail)
  go_ret
  exact ⟨rfl, rfl⟩
set_option maxRecDepth 100000 in
theorem mutex_no (w : World) (pv : Value) (a : Option Addr) (n c : Nat) (hn : n ≠ 2) : Calls Tryz.prog 64 #[pv, .slice a n c] w (fun e w' => e = .returned (.bool false) ∧ w' = w) := by
  have h1 : ((n : Int) == 2) = false := by simp; omega
  have h2 : decide ((n : Int) = 2) = false := by simp; omega
  clear hn
  go_enter Tryz.func64, Tryz.ntmps64
  go_wp2_with (fail)
  go_ret
  exact ⟨rfl, rfl⟩
set_option maxRecDepth 100000 in
theorem gap_no (w : World) (pv : Value) (a : Option Addr) (n c : Nat) (hn : n ≠ 1) : Calls Tryz.prog 65 #[pv, .slice a n c] w (fun e w' => e = .returned (.bool false) ∧ w' = w) := by
  have h1 : ((n : Int) == 1) = false := by simp; omega
  have h2 : decide ((n : Int) = 1) = false := by simp; omega
  clear hn
  go_enter Tryz.func65, Tryz.ntmps65
  go_wp2_with (fail)
  go_ret
  exact ⟨rfl, rfl⟩
set_option maxRecDepth 100000 in
theorem at_no (w : World) (pv : Value) (a : Option Addr) (n c : Nat) (hn : n ≠ 3) : Calls Tryz.prog 68 #[pv, .slice a n c] w (fun e w' => e = .returned (.bool false) ∧ w' = w) := by
  have h1 : ((n : Int) == 3) = false := by simp; omega
  have h2 : decide ((n : Int) = 3) = false := by simp; omega
  clear hn
  go_enter Tryz.func68, Tryz.ntmps68
  go_wp2_with (fail)
  go_ret
  exact ⟨rfl, rfl⟩
set_option maxRecDepth 100000 in
theorem best_no (w : World) (pv : Value) (a : Option Addr) (n c : Nat) (hn : n ≠ 1) : Calls Tryz.prog 67 #[pv, .slice a n c] w (fun e w' => e = .returned (.bool false) ∧ w' = w) := by
  have h1 : ((n : Int) != 1) = true := by simp; omega
  clear hn
  go_enter Tryz.func67, Tryz.ntmps67
  go_wp2_with (fail)
  go_ret
  exact ⟨rfl, rfl⟩
set_option maxRecDepth 100000 in
theorem task_no (w : World) (pv : Value) (a : Option Addr) (n c : Nat) (hn : n < 6) : Calls Tryz.prog 66 #[pv, .slice a n c] w (fun e w' => e = .returned (.bool false) ∧ w' = w) := by
  have h1 : (n : Int) < 6 := by omega
  clear hn
  go_enter Tryz.func66, Tryz.ntmps66
  go_wp2_with (fail)
  go_ret
  exact ⟨rfl, rfl⟩
set_option maxRecDepth 100000 in
set_option maxHeartbeats 2000000 in
theorem mutex_ok (w : World) (rb : Nat) (cs : Array Value) (hR : Blk w rb cs 78) (nv : Value) (x y : Int) (nb : Option Nat) (hI : IRow w nv [x, y] nb) (n : Nat) (ocs : List Value) (pv : Value) (pb : Option Nat) (hk : cs[2]? = some pv) (hP : Rw w 87 2 pv n ocs pb) (hn : n + 1 ≤ 1000000) :
    Calls Tryz.prog 64 #[.pointer (some ⟨rb, 0, none⟩), nv] w (fun e w' => e = .returned (.bool true) ∧ PutR 87 2 w rb 2 n ocs [.int .i64 x, .int .i64 y] pb w') := by
  obtain ⟨g, c, rfl, _, hc, hrd⟩ := hI.some_of (by simp)
  obtain ⟨a0, c0, rfl⟩ := hP.slice
  have r0 := hrd 0 x rfl
  have r1 := hrd 1 y rfl
  simp only [List.length_cons, List.length_nil, Nat.zero_add, Nat.reduceAdd] at *
  have hbA := (((Below.refl w.heap.size w).alloc (Nat.le_refl _) (.cells [.int .i64 x, .int .i64 y].toArray 87))).drew
  obtain ⟨v', WC, hrun, hA⟩ := app_run (P := Tryz.prog) (w := (w.alloc (.cells [.int .i64 x, .int .i64 y].toArray 87)).drew) (S := 38) 38 _ 2 16 infoMx rfl (by decide) (by decide) Tryz.underlying38 (hP.below hbA) ⟨w.heap.size, 0, none⟩ 1 1 [.int .i64 x, .int .i64 y] rfl (new_cells (W := w) [.int .i64 x, .int .i64 y] _ rfl) (by intro u hu; simp at hu; rcases hu with rfl | rfl <;> rfl) hn
  obtain ⟨b', hI3, hu3, hb3⟩ := hA
  obtain ⟨a3, c3, rfl⟩ := hI3.slice
  have neR : pb ≠ some rb := hP.neT hR (by decide)
  have hRA := Blk.below hbA hR hR.lt
  have hRC := Blk.upd hu3 hRA neR
  have cW := hR.rd 2
  have cA := hRA.rd 2
  have cC := hRC.rd 2
  rw [hk] at cW cA cC
  have CW := Lib.hid (And.intro cW (And.intro r0 r1))
  have CA := Lib.hid (And.intro cA trivial)
  have CC := Lib.hid (And.intro cC trivial)
  have HS := Lib.hid (And.intro cC (hRC.nf 2))
  have HE := Lib.hid (And.intro hbA (And.intro hI3 (And.intro hu3 hb3)))
  clear cW cA cC hbA hI3 hu3 hb3 neR hRA hRC hR hP hI hrd hk hn r0 r1
  go_enter Tryz.func64, Tryz.ntmps64
  go_wp2_with (fail)
  refine region_K 13 14 18 w.drew ((w.alloc (.cells #[.int .i64 x, .int .i64 y] 87)).drew) WC (WC.setCell ⟨rb, 2, none⟩ (.slice a3 (n + 1) c3)) rfl (by kernel_rfl) (by kernel_rfl) ?_
  apply wpJ_op rfl (by rfl)
  · intro f w1 hf hJ Q1 hQ
    simp only [Act.put, List.setIfInBounds_toArray, List.set_cons_zero, List.set_cons_succ] at hQ
    go_wp2_with (fail)
    exact hQ _ _ rfl (hJ.other rfl hf (by decide) (by decide) (by decide))
  simp only [Act.put, List.setIfInBounds_toArray, List.set_cons_zero, List.set_cons_succ]
  apply wpJ_op rfl (by rfl)
  · intro f w1 hf hJ Q1 hQ
    simp only [Act.put, List.setIfInBounds_toArray, List.set_cons_zero, List.set_cons_succ] at hQ
    go_wp2_with (fail)
    exact hQ _ _ rfl (hJ.other rfl hf (by decide) (by decide) (by decide))
  simp only [Act.put, List.setIfInBounds_toArray, List.set_cons_zero, List.set_cons_succ]
  apply wpJ_op rfl (by rfl)
  · intro f w1 hf hJ Q1 hQ
    simp only [Act.put, List.setIfInBounds_toArray, List.set_cons_zero, List.set_cons_succ] at hQ
    go_wp2_with (fail)
    exact hQ _ _ rfl (hJ.other rfl hf (by decide) (by decide) (by decide))
  simp only [Act.put, List.setIfInBounds_toArray, List.set_cons_zero, List.set_cons_succ]
  apply wpJ_op rfl (by rfl)
  · intro f w1 hf hJ Q1 hQ
    simp only [Act.put, List.setIfInBounds_toArray, List.set_cons_zero, List.set_cons_succ] at hQ
    go_wp2_with (fail)
    exact hQ _ _ rfl (hJ.other rfl hf (by decide) (by decide) (by decide))
  simp only [Act.put, List.setIfInBounds_toArray, List.set_cons_zero, List.set_cons_succ]
  apply wpJ_op rfl (by rfl)
  · intro f w1 hf hJ Q1 hQ
    simp only [Act.put, List.setIfInBounds_toArray, List.set_cons_zero, List.set_cons_succ] at hQ
    go_wp2_with (fail)
    exact hQ _ _ rfl (hJ.other rfl hf (by decide) (by decide) (by decide))
  simp only [Act.put, List.setIfInBounds_toArray, List.set_cons_zero, List.set_cons_succ]
  apply wpJ_op rfl (by rfl)
  · intro f w1 hf hJ Q1 hQ
    have hS : f 18 = false := path_no hJ.1 [14, 5] (by kernel_rfl) (by decide) hf.1
    have hF := hJ.pre (F := (fun x : World => x.cell? ⟨rb, 2, none⟩ = some (.slice a0 n c0) ∧ True)) hS ⟨CW.out.1, trivial⟩ CA.out CC.out
    have g1 := hF.1
    clear hF
    simp only [Act.put, List.setIfInBounds_toArray, List.set_cons_zero, List.set_cons_succ] at hQ
    go_wp2_with (fail)
    exact hQ _ _ rfl (hJ.other rfl hf (by decide) (by decide) (by decide))
  simp only [Act.put, List.setIfInBounds_toArray, List.set_cons_zero, List.set_cons_succ]
  apply wpJ_op rfl (by rfl)
  · intro f w1 hf hJ Q1 hQ
    simp only [Act.put, List.setIfInBounds_toArray, List.set_cons_zero, List.set_cons_succ] at hQ
    go_wp2_with (fail)
    exact hQ _ _ rfl (hJ.other rfl hf (by decide) (by decide) (by decide))
  simp only [Act.put, List.setIfInBounds_toArray, List.set_cons_zero, List.set_cons_succ]
  apply wpJ_op rfl (by rfl)
  · intro f w1 hf hJ Q1 hQ
    simp only [Act.put, List.setIfInBounds_toArray, List.set_cons_zero, List.set_cons_succ] at hQ
    go_wp2_with (fail)
    exact hQ _ _ rfl (hJ.other rfl hf (by decide) (by decide) (by decide))
  simp only [Act.put, List.setIfInBounds_toArray, List.set_cons_zero, List.set_cons_succ]
  apply wpJ_op rfl (by rfl)
  · intro f w1 hf hJ Q1 hQ
    have hA : f 13 = false := path_no hJ.1 [12, 8] (by kernel_rfl) (by decide) hf.1
    have hC : f 14 = false := path_no hJ.1 [13] (by kernel_rfl) (by decide) hA
    have hS : f 18 = false := path_no hJ.1 [14] (by kernel_rfl) (by decide) hC
    rw [hJ.atA hA hC hS]
    have hF := CW.out
    have g1 := hF.2.1
    clear hF
    simp only [Act.put, List.setIfInBounds_toArray, List.set_cons_zero, List.set_cons_succ] at hQ
    go_wp2_with (fail)
    exact hQ _ _ rfl (by have h9 := hJ.other rfl hf (by decide) (by decide) (by decide); rwa [hJ.atA hA hC hS] at h9)
  simp only [Act.put, List.setIfInBounds_toArray, List.set_cons_zero, List.set_cons_succ]
  apply wpJ_op rfl (by rfl)
  · intro f w1 hf hJ Q1 hQ
    simp only [Act.put, List.setIfInBounds_toArray, List.set_cons_zero, List.set_cons_succ] at hQ
    go_wp2_with (fail)
    exact hQ _ _ rfl (hJ.other rfl hf (by decide) (by decide) (by decide))
  simp only [Act.put, List.setIfInBounds_toArray, List.set_cons_zero, List.set_cons_succ]
  apply wpJ_op rfl (by rfl)
  · intro f w1 hf hJ Q1 hQ
    simp only [Act.put, List.setIfInBounds_toArray, List.set_cons_zero, List.set_cons_succ] at hQ
    go_wp2_with (fail)
    exact hQ _ _ rfl (hJ.other rfl hf (by decide) (by decide) (by decide))
  simp only [Act.put, List.setIfInBounds_toArray, List.set_cons_zero, List.set_cons_succ]
  apply wpJ_op rfl (by rfl)
  · intro f w1 hf hJ Q1 hQ
    have hA : f 13 = false := path_no hJ.1 [12, 11] (by kernel_rfl) (by decide) hf.1
    have hC : f 14 = false := path_no hJ.1 [13] (by kernel_rfl) (by decide) hA
    have hS : f 18 = false := path_no hJ.1 [14] (by kernel_rfl) (by decide) hC
    rw [hJ.atA hA hC hS]
    have hF := CW.out
    have g1 := hF.2.2
    clear hF
    simp only [Act.put, List.setIfInBounds_toArray, List.set_cons_zero, List.set_cons_succ] at hQ
    go_wp2_with (fail)
    exact hQ _ _ rfl (by have h9 := hJ.other rfl hf (by decide) (by decide) (by decide); rwa [hJ.atA hA hC hS] at h9)
  simp only [Act.put, List.setIfInBounds_toArray, List.set_cons_zero, List.set_cons_succ]
  apply wpJ_op rfl (by rfl)
  · intro f w1 hf hJ Q1 hQ
    simp only [Act.put, List.setIfInBounds_toArray, List.set_cons_zero, List.set_cons_succ] at hQ
    go_wp2_with (fail)
    exact hQ _ _ rfl (hJ.other rfl hf (by decide) (by decide) (by decide))
  simp only [Act.put, List.setIfInBounds_toArray, List.set_cons_zero, List.set_cons_succ]
  apply wpJ_op rfl (by rfl)
  · intro f w1 hf hJ Q1 hQ
    have hC : f 14 = false := path_no hJ.1 [13] (by kernel_rfl) (by decide) hf.1
    have hS : f 18 = false := path_no hJ.1 [14] (by kernel_rfl) (by decide) hC
    rw [hJ.atA hf.1 hC hS]
    simp only [Act.put, List.setIfInBounds_toArray, List.set_cons_zero, List.set_cons_succ] at hQ
    go_wp2_with (fail)
    exact hQ _ _ rfl (hJ.goA rfl hf hC hS (by decide) (by decide))
  simp only [Act.put, List.setIfInBounds_toArray, List.set_cons_zero, List.set_cons_succ]
  apply wpJ_op rfl (by rfl)
  · intro f w1 hf hJ Q1 hQ
    have hS : f 18 = false := path_no hJ.1 [14] (by kernel_rfl) (by decide) hf.1
    have hA : f 13 = true := up_dep hf 13 (by kernel_rfl)
    rw [hJ.atC hA hf.1 hS]
    simp only [Act.put, List.setIfInBounds_toArray, List.set_cons_zero, List.set_cons_succ] at hQ
    go_wp2_with (at_builtin; refine wp_appX rfl _ _ 38 rfl rfl rfl hrun ?_)
    exact hQ _ _ rfl (hJ.goC rfl hf hS (by decide))
  simp only [Act.put, List.setIfInBounds_toArray, List.set_cons_zero, List.set_cons_succ]
  apply wpJ_op rfl (by rfl)
  · intro f w1 hf hJ Q1 hQ
    simp only [Act.put, List.setIfInBounds_toArray, List.set_cons_zero, List.set_cons_succ] at hQ
    go_wp2_with (fail)
    exact hQ _ _ rfl (hJ.other rfl hf (by decide) (by decide) (by decide))
  simp only [Act.put, List.setIfInBounds_toArray, List.set_cons_zero, List.set_cons_succ]
  apply wpJ_op rfl (by rfl)
  · intro f w1 hf hJ Q1 hQ
    simp only [Act.put, List.setIfInBounds_toArray, List.set_cons_zero, List.set_cons_succ] at hQ
    go_wp2_with (fail)
    exact hQ _ _ rfl (hJ.other rfl hf (by decide) (by decide) (by decide))
  simp only [Act.put, List.setIfInBounds_toArray, List.set_cons_zero, List.set_cons_succ]
  apply wpJ_op rfl (by rfl)
  · intro f w1 hf hJ Q1 hQ
    simp only [Act.put, List.setIfInBounds_toArray, List.set_cons_zero, List.set_cons_succ] at hQ
    go_wp2_with (fail)
    exact hQ _ _ rfl (hJ.other rfl hf (by decide) (by decide) (by decide))
  simp only [Act.put, List.setIfInBounds_toArray, List.set_cons_zero, List.set_cons_succ]
  apply wpJ_op (v := undef) rfl (by rfl)
  · intro f w1 hf hJ Q1 hQ
    have hC : f 14 = true := up_dep hf 14 (by kernel_rfl)
    rw [hJ.atS hC hf.1]
    obtain ⟨e1, e2⟩ := HS.out
    simp only [Act.put, List.setIfInBounds_toArray, List.set_cons_zero, List.set_cons_succ] at hQ
    go_wp2_with (fail)
    exact hQ _ _ rfl (hJ.goS rfl hf)
  simp only [Act.put, List.setIfInBounds_toArray, List.set_cons_zero, List.set_cons_succ]
  refine wpJ_nil ?_
  intro w9 hJ9
  rw [hJ9.fin rfl]
  clear hJ9
  go_wp2_with (fail)
  go_ret
  exact ⟨rfl, _, _, WC, HE.out.1, ⟨b', HE.out.2.1, HE.out.2.2.1, HE.out.2.2.2⟩, rfl⟩
set_option maxRecDepth 100000 in
set_option maxHeartbeats 2000000 in
theorem gap_ok (w : World) (rb : Nat) (cs : Array Value) (hR : Blk w rb cs 78) (nv : Value) (x : Int) (nb : Option Nat) (hI : IRow w nv [x] nb) (n : Nat) (ocs : List Value) (pv : Value) (pb : Option Nat) (hk : cs[3]? = some pv) (hP : Rw w 3 1 pv n ocs pb) (hn : n + 1 ≤ 1000000) :
    Calls Tryz.prog 65 #[.pointer (some ⟨rb, 0, none⟩), nv] w (fun e w' => e = .returned (.bool true) ∧ PutR 3 1 w rb 3 n ocs [.int .i64 x] pb w') := by
  obtain ⟨g, c, rfl, _, hc, hrd⟩ := hI.some_of (by simp)
  obtain ⟨a0, c0, rfl⟩ := hP.slice
  have r0 := hrd 0 x rfl
  simp only [List.length_cons, List.length_nil, Nat.zero_add, Nat.reduceAdd] at *
  have hbA := (((Below.refl w.heap.size w).alloc (Nat.le_refl _) (.cells [.int .i64 x].toArray 3))).drew
  obtain ⟨v', WC, hrun, hA⟩ := app_run (P := Tryz.prog) (w := (w.alloc (.cells [.int .i64 x].toArray 3)).drew) (S := 39) 39 _ 1 8 infoInt' rfl (by decide) (by decide) Tryz.underlying39 (hP.below hbA) ⟨w.heap.size, 0, none⟩ 1 1 [.int .i64 x] rfl (new_cells (W := w) [.int .i64 x] _ rfl) (by intro u hu; simp at hu; subst hu; rfl) hn
  obtain ⟨b', hI3, hu3, hb3⟩ := hA
  obtain ⟨a3, c3, rfl⟩ := hI3.slice
  have neR : pb ≠ some rb := hP.neT hR (by decide)
  have hRA := Blk.below hbA hR hR.lt
  have hRC := Blk.upd hu3 hRA neR
  have cW := hR.rd 3
  have cA := hRA.rd 3
  have cC := hRC.rd 3
  rw [hk] at cW cA cC
  have CW := Lib.hid (And.intro cW r0)
  have CA := Lib.hid (And.intro cA trivial)
  have CC := Lib.hid (And.intro cC trivial)
  have HS := Lib.hid (And.intro cC (hRC.nf 3))
  have HE := Lib.hid (And.intro hbA (And.intro hI3 (And.intro hu3 hb3)))
  clear cW cA cC hbA hI3 hu3 hb3 neR hRA hRC hR hP hI hrd hk hn r0
  go_enter Tryz.func65, Tryz.ntmps65
  go_wp2_with (fail)
  refine region_K 9 10 14 w.drew ((w.alloc (.cells #[.int .i64 x] 3)).drew) WC (WC.setCell ⟨rb, 3, none⟩ (.slice a3 (n + 1) c3)) rfl (by kernel_rfl) (by kernel_rfl) ?_
  apply wpJ_op rfl (by rfl)
  · intro f w1 hf hJ Q1 hQ
    simp only [Act.put, List.setIfInBounds_toArray, List.set_cons_zero, List.set_cons_succ] at hQ
    go_wp2_with (fail)
    exact hQ _ _ rfl (hJ.other rfl hf (by decide) (by decide) (by decide))
  simp only [Act.put, List.setIfInBounds_toArray, List.set_cons_zero, List.set_cons_succ]
  apply wpJ_op rfl (by rfl)
  · intro f w1 hf hJ Q1 hQ
    simp only [Act.put, List.setIfInBounds_toArray, List.set_cons_zero, List.set_cons_succ] at hQ
    go_wp2_with (fail)
    exact hQ _ _ rfl (hJ.other rfl hf (by decide) (by decide) (by decide))
  simp only [Act.put, List.setIfInBounds_toArray, List.set_cons_zero, List.set_cons_succ]
  apply wpJ_op rfl (by rfl)
  · intro f w1 hf hJ Q1 hQ
    simp only [Act.put, List.setIfInBounds_toArray, List.set_cons_zero, List.set_cons_succ] at hQ
    go_wp2_with (fail)
    exact hQ _ _ rfl (hJ.other rfl hf (by decide) (by decide) (by decide))
  simp only [Act.put, List.setIfInBounds_toArray, List.set_cons_zero, List.set_cons_succ]
  apply wpJ_op rfl (by rfl)
  · intro f w1 hf hJ Q1 hQ
    simp only [Act.put, List.setIfInBounds_toArray, List.set_cons_zero, List.set_cons_succ] at hQ
    go_wp2_with (fail)
    exact hQ _ _ rfl (hJ.other rfl hf (by decide) (by decide) (by decide))
  simp only [Act.put, List.setIfInBounds_toArray, List.set_cons_zero, List.set_cons_succ]
  apply wpJ_op rfl (by rfl)
  · intro f w1 hf hJ Q1 hQ
    simp only [Act.put, List.setIfInBounds_toArray, List.set_cons_zero, List.set_cons_succ] at hQ
    go_wp2_with (fail)
    exact hQ _ _ rfl (hJ.other rfl hf (by decide) (by decide) (by decide))
  simp only [Act.put, List.setIfInBounds_toArray, List.set_cons_zero, List.set_cons_succ]
  apply wpJ_op rfl (by rfl)
  · intro f w1 hf hJ Q1 hQ
    have hS : f 14 = false := path_no hJ.1 [10, 5] (by kernel_rfl) (by decide) hf.1
    have hF := hJ.pre (F := (fun x : World => x.cell? ⟨rb, 3, none⟩ = some (.slice a0 n c0) ∧ True)) hS ⟨CW.out.1, trivial⟩ CA.out CC.out
    have g1 := hF.1
    clear hF
    simp only [Act.put, List.setIfInBounds_toArray, List.set_cons_zero, List.set_cons_succ] at hQ
    go_wp2_with (fail)
    exact hQ _ _ rfl (hJ.other rfl hf (by decide) (by decide) (by decide))
  simp only [Act.put, List.setIfInBounds_toArray, List.set_cons_zero, List.set_cons_succ]
  apply wpJ_op rfl (by rfl)
  · intro f w1 hf hJ Q1 hQ
    simp only [Act.put, List.setIfInBounds_toArray, List.set_cons_zero, List.set_cons_succ] at hQ
    go_wp2_with (fail)
    exact hQ _ _ rfl (hJ.other rfl hf (by decide) (by decide) (by decide))
  simp only [Act.put, List.setIfInBounds_toArray, List.set_cons_zero, List.set_cons_succ]
  apply wpJ_op rfl (by rfl)
  · intro f w1 hf hJ Q1 hQ
    simp only [Act.put, List.setIfInBounds_toArray, List.set_cons_zero, List.set_cons_succ] at hQ
    go_wp2_with (fail)
    exact hQ _ _ rfl (hJ.other rfl hf (by decide) (by decide) (by decide))
  simp only [Act.put, List.setIfInBounds_toArray, List.set_cons_zero, List.set_cons_succ]
  apply wpJ_op rfl (by rfl)
  · intro f w1 hf hJ Q1 hQ
    have hA : f 9 = false := path_no hJ.1 [8] (by kernel_rfl) (by decide) hf.1
    have hC : f 10 = false := path_no hJ.1 [9] (by kernel_rfl) (by decide) hA
    have hS : f 14 = false := path_no hJ.1 [10] (by kernel_rfl) (by decide) hC
    rw [hJ.atA hA hC hS]
    have hF := CW.out
    have g1 := hF.2
    clear hF
    simp only [Act.put, List.setIfInBounds_toArray, List.set_cons_zero, List.set_cons_succ] at hQ
    go_wp2_with (fail)
    exact hQ _ _ rfl (by have h9 := hJ.other rfl hf (by decide) (by decide) (by decide); rwa [hJ.atA hA hC hS] at h9)
  simp only [Act.put, List.setIfInBounds_toArray, List.set_cons_zero, List.set_cons_succ]
  apply wpJ_op rfl (by rfl)
  · intro f w1 hf hJ Q1 hQ
    have hC : f 10 = false := path_no hJ.1 [9] (by kernel_rfl) (by decide) hf.1
    have hS : f 14 = false := path_no hJ.1 [10] (by kernel_rfl) (by decide) hC
    rw [hJ.atA hf.1 hC hS]
    simp only [Act.put, List.setIfInBounds_toArray, List.set_cons_zero, List.set_cons_succ] at hQ
    go_wp2_with (fail)
    exact hQ _ _ rfl (hJ.goA rfl hf hC hS (by decide) (by decide))
  simp only [Act.put, List.setIfInBounds_toArray, List.set_cons_zero, List.set_cons_succ]
  apply wpJ_op rfl (by rfl)
  · intro f w1 hf hJ Q1 hQ
    have hS : f 14 = false := path_no hJ.1 [10] (by kernel_rfl) (by decide) hf.1
    have hA : f 9 = true := up_dep hf 9 (by kernel_rfl)
    rw [hJ.atC hA hf.1 hS]
    simp only [Act.put, List.setIfInBounds_toArray, List.set_cons_zero, List.set_cons_succ] at hQ
    go_wp2_with (at_builtin; refine wp_appX rfl _ _ 39 rfl rfl rfl hrun ?_)
    exact hQ _ _ rfl (hJ.goC rfl hf hS (by decide))
  simp only [Act.put, List.setIfInBounds_toArray, List.set_cons_zero, List.set_cons_succ]
  apply wpJ_op rfl (by rfl)
  · intro f w1 hf hJ Q1 hQ
    simp only [Act.put, List.setIfInBounds_toArray, List.set_cons_zero, List.set_cons_succ] at hQ
    go_wp2_with (fail)
    exact hQ _ _ rfl (hJ.other rfl hf (by decide) (by decide) (by decide))
  simp only [Act.put, List.setIfInBounds_toArray, List.set_cons_zero, List.set_cons_succ]
  apply wpJ_op rfl (by rfl)
  · intro f w1 hf hJ Q1 hQ
    simp only [Act.put, List.setIfInBounds_toArray, List.set_cons_zero, List.set_cons_succ] at hQ
    go_wp2_with (fail)
    exact hQ _ _ rfl (hJ.other rfl hf (by decide) (by decide) (by decide))
  simp only [Act.put, List.setIfInBounds_toArray, List.set_cons_zero, List.set_cons_succ]
  apply wpJ_op rfl (by rfl)
  · intro f w1 hf hJ Q1 hQ
    simp only [Act.put, List.setIfInBounds_toArray, List.set_cons_zero, List.set_cons_succ] at hQ
    go_wp2_with (fail)
    exact hQ _ _ rfl (hJ.other rfl hf (by decide) (by decide) (by decide))
  simp only [Act.put, List.setIfInBounds_toArray, List.set_cons_zero, List.set_cons_succ]
  apply wpJ_op (v := undef) rfl (by rfl)
  · intro f w1 hf hJ Q1 hQ
    have hC : f 10 = true := up_dep hf 10 (by kernel_rfl)
    rw [hJ.atS hC hf.1]
    obtain ⟨e1, e2⟩ := HS.out
    simp only [Act.put, List.setIfInBounds_toArray, List.set_cons_zero, List.set_cons_succ] at hQ
    go_wp2_with (fail)
    exact hQ _ _ rfl (hJ.goS rfl hf)
  simp only [Act.put, List.setIfInBounds_toArray, List.set_cons_zero, List.set_cons_succ]
  refine wpJ_nil ?_
  intro w9 hJ9
  rw [hJ9.fin rfl]
  clear hJ9
  go_wp2_with (fail)
  go_ret
  exact ⟨rfl, _, _, WC, HE.out.1, ⟨b', HE.out.2.1, HE.out.2.2.1, HE.out.2.2.2⟩, rfl⟩
set_option maxRecDepth 100000 in
set_option maxHeartbeats 2000000 in
theorem at_ok (w : World) (rb : Nat) (cs : Array Value) (hR : Blk w rb cs 78) (nv : Value) (x y z : Int) (hy0 : 0 ≤ y) (hy1 : y ≤ 999999) (nb : Option Nat) (hI : IRow w nv [x, y, z] nb) (n : Nat) (ocs : List Value) (pv : Value) (pb : Option Nat) (hk : cs[6]? = some pv) (hP : Rw w 58 3 pv n ocs pb) (hn : n + 1 ≤ 1000000) :
    Calls Tryz.prog 68 #[.pointer (some ⟨rb, 0, none⟩), nv] w (fun e w' => e = .returned (.bool true) ∧ PutR 58 3 w rb 6 n ocs [.int .i64 x, .int .i64 (y - 1), .int .i64 z] pb w') := by
  obtain ⟨g, c, rfl, _, hc, hrd⟩ := hI.some_of (by simp)
  obtain ⟨a0, c0, rfl⟩ := hP.slice
  have r0 := hrd 0 x rfl
  have r1 := hrd 1 y rfl
  have r2 := hrd 2 z rfl
  simp only [List.length_cons, List.length_nil, Nat.zero_add, Nat.reduceAdd] at *
  have hbA := (((Below.refl w.heap.size w).alloc (Nat.le_refl _) (.cells [.int .i64 x, .int .i64 (y - 1), .int .i64 z].toArray 58))).drew
  obtain ⟨v', WC, hrun, hA⟩ := app_run (P := Tryz.prog) (w := (w.alloc (.cells [.int .i64 x, .int .i64 (y - 1), .int .i64 z].toArray 58)).drew) (S := 42) 42 _ 3 24 infoEv rfl (by decide) (by decide) Tryz.underlying42 (hP.below hbA) ⟨w.heap.size, 0, none⟩ 1 1 [.int .i64 x, .int .i64 (y - 1), .int .i64 z] rfl (new_cells (W := w) [.int .i64 x, .int .i64 (y - 1), .int .i64 z] _ rfl) (by intro u hu; simp at hu; rcases hu with rfl | rfl | rfl <;> rfl) hn
  obtain ⟨b', hI3, hu3, hb3⟩ := hA
  obtain ⟨a3, c3, rfl⟩ := hI3.slice
  have neR : pb ≠ some rb := hP.neT hR (by decide)
  have hRA := Blk.below hbA hR hR.lt
  have hRC := Blk.upd hu3 hRA neR
  have cW := hR.rd 6
  have cA := hRA.rd 6
  have cC := hRC.rd 6
  rw [hk] at cW cA cC
  have CW := Lib.hid (And.intro cW (And.intro r0 (And.intro r1 r2)))
  have CA := Lib.hid (And.intro cA trivial)
  have CC := Lib.hid (And.intro cC trivial)
  have HS := Lib.hid (And.intro cC (hRC.nf 6))
  have HE := Lib.hid (And.intro hbA (And.intro hI3 (And.intro hu3 hb3)))
  clear cW cA cC hbA hI3 hu3 hb3 neR hRA hRC hR hP hI hrd hk hn r0 r1 r2
  go_enter Tryz.func68, Tryz.ntmps68
  go_wp2_with (fail)
  refine region_K 16 17 20 w.drew ((w.alloc (.cells #[.int .i64 x, .int .i64 (y - 1), .int .i64 z] 58)).drew) WC (WC.setCell ⟨rb, 6, none⟩ (.slice a3 (n + 1) c3)) rfl (by kernel_rfl) (by kernel_rfl) ?_
  apply wpJ_op rfl (by rfl)
  · intro f w1 hf hJ Q1 hQ
    simp only [Act.put, List.setIfInBounds_toArray, List.set_cons_zero, List.set_cons_succ] at hQ
    go_wp2_with (fail)
    exact hQ _ _ rfl (hJ.other rfl hf (by decide) (by decide) (by decide))
  simp only [Act.put, List.setIfInBounds_toArray, List.set_cons_zero, List.set_cons_succ]
  apply wpJ_op rfl (by rfl)
  · intro f w1 hf hJ Q1 hQ
    simp only [Act.put, List.setIfInBounds_toArray, List.set_cons_zero, List.set_cons_succ] at hQ
    go_wp2_with (fail)
    exact hQ _ _ rfl (hJ.other rfl hf (by decide) (by decide) (by decide))
  simp only [Act.put, List.setIfInBounds_toArray, List.set_cons_zero, List.set_cons_succ]
  apply wpJ_op rfl (by rfl)
  · intro f w1 hf hJ Q1 hQ
    simp only [Act.put, List.setIfInBounds_toArray, List.set_cons_zero, List.set_cons_succ] at hQ
    go_wp2_with (fail)
    exact hQ _ _ rfl (hJ.other rfl hf (by decide) (by decide) (by decide))
  simp only [Act.put, List.setIfInBounds_toArray, List.set_cons_zero, List.set_cons_succ]
  apply wpJ_op rfl (by rfl)
  · intro f w1 hf hJ Q1 hQ
    simp only [Act.put, List.setIfInBounds_toArray, List.set_cons_zero, List.set_cons_succ] at hQ
    go_wp2_with (fail)
    exact hQ _ _ rfl (hJ.other rfl hf (by decide) (by decide) (by decide))
  simp only [Act.put, List.setIfInBounds_toArray, List.set_cons_zero, List.set_cons_succ]
  apply wpJ_op rfl (by rfl)
  · intro f w1 hf hJ Q1 hQ
    have hS : f 20 = false := path_no hJ.1 [17, 4] (by kernel_rfl) (by decide) hf.1
    have hF := hJ.pre (F := (fun x : World => x.cell? ⟨rb, 6, none⟩ = some (.slice a0 n c0) ∧ True)) hS ⟨CW.out.1, trivial⟩ CA.out CC.out
    have g1 := hF.1
    clear hF
    simp only [Act.put, List.setIfInBounds_toArray, List.set_cons_zero, List.set_cons_succ] at hQ
    go_wp2_with (fail)
    exact hQ _ _ rfl (hJ.other rfl hf (by decide) (by decide) (by decide))
  simp only [Act.put, List.setIfInBounds_toArray, List.set_cons_zero, List.set_cons_succ]
  apply wpJ_op rfl (by rfl)
  · intro f w1 hf hJ Q1 hQ
    simp only [Act.put, List.setIfInBounds_toArray, List.set_cons_zero, List.set_cons_succ] at hQ
    go_wp2_with (fail)
    exact hQ _ _ rfl (hJ.other rfl hf (by decide) (by decide) (by decide))
  simp only [Act.put, List.setIfInBounds_toArray, List.set_cons_zero, List.set_cons_succ]
  apply wpJ_op rfl (by rfl)
  · intro f w1 hf hJ Q1 hQ
    simp only [Act.put, List.setIfInBounds_toArray, List.set_cons_zero, List.set_cons_succ] at hQ
    go_wp2_with (fail)
    exact hQ _ _ rfl (hJ.other rfl hf (by decide) (by decide) (by decide))
  simp only [Act.put, List.setIfInBounds_toArray, List.set_cons_zero, List.set_cons_succ]
  apply wpJ_op rfl (by rfl)
  · intro f w1 hf hJ Q1 hQ
    have hA : f 16 = false := path_no hJ.1 [15, 7] (by kernel_rfl) (by decide) hf.1
    have hC : f 17 = false := path_no hJ.1 [16] (by kernel_rfl) (by decide) hA
    have hS : f 20 = false := path_no hJ.1 [17] (by kernel_rfl) (by decide) hC
    rw [hJ.atA hA hC hS]
    have hF := CW.out
    have g1 := hF.2.1
    clear hF
    simp only [Act.put, List.setIfInBounds_toArray, List.set_cons_zero, List.set_cons_succ] at hQ
    go_wp2_with (fail)
    exact hQ _ _ rfl (by have h9 := hJ.other rfl hf (by decide) (by decide) (by decide); rwa [hJ.atA hA hC hS] at h9)
  simp only [Act.put, List.setIfInBounds_toArray, List.set_cons_zero, List.set_cons_succ]
  apply wpJ_op rfl (by rfl)
  · intro f w1 hf hJ Q1 hQ
    simp only [Act.put, List.setIfInBounds_toArray, List.set_cons_zero, List.set_cons_succ] at hQ
    go_wp2_with (fail)
    exact hQ _ _ rfl (hJ.other rfl hf (by decide) (by decide) (by decide))
  simp only [Act.put, List.setIfInBounds_toArray, List.set_cons_zero, List.set_cons_succ]
  apply wpJ_op rfl (by rfl)
  · intro f w1 hf hJ Q1 hQ
    simp only [Act.put, List.setIfInBounds_toArray, List.set_cons_zero, List.set_cons_succ] at hQ
    go_wp2_with (fail)
    exact hQ _ _ rfl (hJ.other rfl hf (by decide) (by decide) (by decide))
  simp only [Act.put, List.setIfInBounds_toArray, List.set_cons_zero, List.set_cons_succ]
  apply wpJ_op rfl (by rfl)
  · intro f w1 hf hJ Q1 hQ
    have hA : f 16 = false := path_no hJ.1 [15, 11, 10] (by kernel_rfl) (by decide) hf.1
    have hC : f 17 = false := path_no hJ.1 [16] (by kernel_rfl) (by decide) hA
    have hS : f 20 = false := path_no hJ.1 [17] (by kernel_rfl) (by decide) hC
    rw [hJ.atA hA hC hS]
    have hF := CW.out
    have g1 := hF.2.2.1
    clear hF
    simp only [Act.put, List.setIfInBounds_toArray, List.set_cons_zero, List.set_cons_succ] at hQ
    go_wp2_with (fail)
    exact hQ _ _ rfl (by have h9 := hJ.other rfl hf (by decide) (by decide) (by decide); rwa [hJ.atA hA hC hS] at h9)
  simp only [Act.put, List.setIfInBounds_toArray, List.set_cons_zero, List.set_cons_succ]
  apply wpJ_op rfl (by rfl)
  · intro f w1 hf hJ Q1 hQ
    simp only [Act.put, List.setIfInBounds_toArray, List.set_cons_zero, List.set_cons_succ] at hQ
    go_wp2_with (fail)
    exact hQ _ _ rfl (hJ.other rfl hf (by decide) (by decide) (by decide))
  simp only [Act.put, List.setIfInBounds_toArray, List.set_cons_zero, List.set_cons_succ]
  apply wpJ_op rfl (by rfl)
  · intro f w1 hf hJ Q1 hQ
    simp only [Act.put, List.setIfInBounds_toArray, List.set_cons_zero, List.set_cons_succ] at hQ
    go_wp2_with (fail)
    exact hQ _ _ rfl (hJ.other rfl hf (by decide) (by decide) (by decide))
  simp only [Act.put, List.setIfInBounds_toArray, List.set_cons_zero, List.set_cons_succ]
  apply wpJ_op rfl (by rfl)
  · intro f w1 hf hJ Q1 hQ
    simp only [Act.put, List.setIfInBounds_toArray, List.set_cons_zero, List.set_cons_succ] at hQ
    go_wp2_with (fail)
    exact hQ _ _ rfl (hJ.other rfl hf (by decide) (by decide) (by decide))
  simp only [Act.put, List.setIfInBounds_toArray, List.set_cons_zero, List.set_cons_succ]
  apply wpJ_op rfl (by rfl)
  · intro f w1 hf hJ Q1 hQ
    have hA : f 16 = false := path_no hJ.1 [15, 14] (by kernel_rfl) (by decide) hf.1
    have hC : f 17 = false := path_no hJ.1 [16] (by kernel_rfl) (by decide) hA
    have hS : f 20 = false := path_no hJ.1 [17] (by kernel_rfl) (by decide) hC
    rw [hJ.atA hA hC hS]
    have hF := CW.out
    have g1 := hF.2.2.2
    clear hF
    simp only [Act.put, List.setIfInBounds_toArray, List.set_cons_zero, List.set_cons_succ] at hQ
    go_wp2_with (fail)
    exact hQ _ _ rfl (by have h9 := hJ.other rfl hf (by decide) (by decide) (by decide); rwa [hJ.atA hA hC hS] at h9)
  simp only [Act.put, List.setIfInBounds_toArray, List.set_cons_zero, List.set_cons_succ]
  apply wpJ_op rfl (by rfl)
  · intro f w1 hf hJ Q1 hQ
    simp only [Act.put, List.setIfInBounds_toArray, List.set_cons_zero, List.set_cons_succ] at hQ
    go_wp2_with (fail)
    exact hQ _ _ rfl (hJ.other rfl hf (by decide) (by decide) (by decide))
  simp only [Act.put, List.setIfInBounds_toArray, List.set_cons_zero, List.set_cons_succ]
  apply wpJ_op rfl (by rfl)
  · intro f w1 hf hJ Q1 hQ
    have hC : f 17 = false := path_no hJ.1 [16] (by kernel_rfl) (by decide) hf.1
    have hS : f 20 = false := path_no hJ.1 [17] (by kernel_rfl) (by decide) hC
    rw [hJ.atA hf.1 hC hS]
    simp only [Act.put, List.setIfInBounds_toArray, List.set_cons_zero, List.set_cons_succ] at hQ
    go_wp2_with (fail)
    exact hQ _ _ rfl (hJ.goA rfl hf hC hS (by decide) (by decide))
  simp only [Act.put, List.setIfInBounds_toArray, List.set_cons_zero, List.set_cons_succ]
  apply wpJ_op rfl (by rfl)
  · intro f w1 hf hJ Q1 hQ
    have hS : f 20 = false := path_no hJ.1 [17] (by kernel_rfl) (by decide) hf.1
    have hA : f 16 = true := up_dep hf 16 (by kernel_rfl)
    rw [hJ.atC hA hf.1 hS]
    simp only [Act.put, List.setIfInBounds_toArray, List.set_cons_zero, List.set_cons_succ] at hQ
    go_wp2_with (at_builtin; refine wp_appX rfl _ _ 42 rfl rfl rfl hrun ?_)
    exact hQ _ _ rfl (hJ.goC rfl hf hS (by decide))
  simp only [Act.put, List.setIfInBounds_toArray, List.set_cons_zero, List.set_cons_succ]
  apply wpJ_op rfl (by rfl)
  · intro f w1 hf hJ Q1 hQ
    simp only [Act.put, List.setIfInBounds_toArray, List.set_cons_zero, List.set_cons_succ] at hQ
    go_wp2_with (fail)
    exact hQ _ _ rfl (hJ.other rfl hf (by decide) (by decide) (by decide))
  simp only [Act.put, List.setIfInBounds_toArray, List.set_cons_zero, List.set_cons_succ]
  apply wpJ_op rfl (by rfl)
  · intro f w1 hf hJ Q1 hQ
    simp only [Act.put, List.setIfInBounds_toArray, List.set_cons_zero, List.set_cons_succ] at hQ
    go_wp2_with (fail)
    exact hQ _ _ rfl (hJ.other rfl hf (by decide) (by decide) (by decide))
  simp only [Act.put, List.setIfInBounds_toArray, List.set_cons_zero, List.set_cons_succ]
  apply wpJ_op (v := undef) rfl (by rfl)
  · intro f w1 hf hJ Q1 hQ
    have hC : f 17 = true := up_dep hf 17 (by kernel_rfl)
    rw [hJ.atS hC hf.1]
    obtain ⟨e1, e2⟩ := HS.out
    simp only [Act.put, List.setIfInBounds_toArray, List.set_cons_zero, List.set_cons_succ] at hQ
    go_wp2_with (fail)
    exact hQ _ _ rfl (hJ.goS rfl hf)
  simp only [Act.put, List.setIfInBounds_toArray, List.set_cons_zero, List.set_cons_succ]
  refine wpJ_nil ?_
  intro w9 hJ9
  rw [hJ9.fin rfl]
  clear hJ9
  go_wp2_with (fail)
  go_ret
  exact ⟨rfl, _, _, WC, HE.out.1, ⟨b', HE.out.2.1, HE.out.2.2.1, HE.out.2.2.2⟩, rfl⟩
set_option maxRecDepth 100000 in
set_option maxHeartbeats 2000000 in
theorem best_ok (w : World) (rb : Nat) (cs : Array Value) (hR : Blk w rb cs 78) (nv : Value) (x : Int) (nb : Option Nat) (hI : IRow w nv (x :: []) nb) (n : Nat) (ocs : List Value) (pv p7 : Value) (pb : Option Nat) (hk : cs[1]? = some pv) (h7 : cs[7]? = some p7) (hP : Rw w 92 2 pv n ocs pb) (hn : n + 1 ≤ 1000000) :
    Calls Tryz.prog 67 #[.pointer (some ⟨rb, 0, none⟩), nv] w (fun e w' => e = .returned (.bool true) ∧ PutP 92 2 1 w rb 1 n ocs [.int .i64 x, .slice none 0 0] pb w') := by
  obtain ⟨g, c, rfl, hnb, hc, hrd⟩ := hI.some_of (by simp)
  obtain ⟨a0, c0, rfl⟩ := hP.slice
  have r0 := hrd 0 x rfl
  simp only [List.length_cons, List.length_nil, Nat.zero_add, Nat.reduceAdd] at *
  have hbA := (((Below.refl w.heap.size w).alloc (Nat.le_refl _) (.cells [.int .i64 x, .slice none 0 0].toArray 92))).drew
  obtain ⟨v', WC, hrun, hA⟩ := app_run (P := Tryz.prog) (w := (w.alloc (.cells [.int .i64 x, .slice none 0 0].toArray 92)).drew) (S := 37) 37 _ 2 32 infoEf rfl (by decide) (by decide) Tryz.underlying37 (hP.below hbA) ⟨w.heap.size, 0, none⟩ 1 1 [.int .i64 x, .slice none 0 0] rfl (new_cells (W := w) [.int .i64 x, .slice none 0 0] _ rfl) (by intro u hu; simp at hu; rcases hu with rfl | rfl <;> rfl) hn
  obtain ⟨b', hI3, hu3, hb3⟩ := hA
  obtain ⟨g3, hg3⟩ := hI3.has (by omega)
  obtain ⟨c3, rest3, hv3, hB3, hc3, hn3, _⟩ := hI3.blk g3 hg3
  subst hv3
  have neR : pb ≠ some rb := hP.neT hR (by decide)
  have hRA := Blk.below hbA hR hR.lt
  have hRC := Blk.upd hu3 hRA neR
  have cW := hR.rd 1
  have cA := hRA.rd 1
  have cC := hRC.rd 1
  rw [hk] at cW cA cC
  have hRS := (hRC.set 1 (.slice (some ⟨g3, 0, none⟩) (n + 1) c3)).drew
  have cS := hRS.rd 1
  have c7 := hRS.rd 7
  rw [Array.getElem?_setIfInBounds_self_of_lt (Array.getElem?_eq_some_iff.1 hk).1] at cS
  rw [Array.getElem?_setIfInBounds_ne (by decide), h7] at c7
  have CS := Lib.hid (And.intro cS (And.intro c7 (hRS.nf 7)))
  have CW := Lib.hid (And.intro cW r0)
  have CA := Lib.hid (And.intro cA trivial)
  have CC := Lib.hid (And.intro cC trivial)
  have HS := Lib.hid (And.intro cC (hRC.nf 1))
  have HE := Lib.hid (And.intro hbA (And.intro hI3 (And.intro hu3 (And.intro hb3 hnb))))
  have hlt3 : n < n + 1 := by omega
  clear cW cA cC cS c7 hRS hbA hI3 hu3 hb3 neR hRA hRC hR hP hI hrd hk h7 hB3 hc3 hg3 r0
  go_enter Tryz.func67, Tryz.ntmps67
  go_wp2_with (fail)
  refine region_K 10 11 15 w.drew ((w.alloc (.cells #[.int .i64 x, .slice none 0 0] 92)).drew) WC (WC.setCell ⟨rb, 1, none⟩ (.slice (some ⟨g3, 0, none⟩) (n + 1) c3)) rfl (by kernel_rfl) (by kernel_rfl) ?_
  apply wpJ_op rfl (by rfl)
  · intro f w1 hf hJ Q1 hQ
    simp only [Act.put, List.setIfInBounds_toArray, List.set_cons_zero, List.set_cons_succ] at hQ
    go_wp2_with (fail)
    exact hQ _ _ rfl (hJ.other rfl hf (by decide) (by decide) (by decide))
  simp only [Act.put, List.setIfInBounds_toArray, List.set_cons_zero, List.set_cons_succ]
  apply wpJ_op rfl (by rfl)
  · intro f w1 hf hJ Q1 hQ
    simp only [Act.put, List.setIfInBounds_toArray, List.set_cons_zero, List.set_cons_succ] at hQ
    go_wp2_with (fail)
    exact hQ _ _ rfl (hJ.other rfl hf (by decide) (by decide) (by decide))
  simp only [Act.put, List.setIfInBounds_toArray, List.set_cons_zero, List.set_cons_succ]
  apply wpJ_op rfl (by rfl)
  · intro f w1 hf hJ Q1 hQ
    simp only [Act.put, List.setIfInBounds_toArray, List.set_cons_zero, List.set_cons_succ] at hQ
    go_wp2_with (fail)
    exact hQ _ _ rfl (hJ.other rfl hf (by decide) (by decide) (by decide))
  simp only [Act.put, List.setIfInBounds_toArray, List.set_cons_zero, List.set_cons_succ]
  apply wpJ_op rfl (by rfl)
  · intro f w1 hf hJ Q1 hQ
    simp only [Act.put, List.setIfInBounds_toArray, List.set_cons_zero, List.set_cons_succ] at hQ
    go_wp2_with (fail)
    exact hQ _ _ rfl (hJ.other rfl hf (by decide) (by decide) (by decide))
  simp only [Act.put, List.setIfInBounds_toArray, List.set_cons_zero, List.set_cons_succ]
  apply wpJ_op rfl (by rfl)
  · intro f w1 hf hJ Q1 hQ
    simp only [Act.put, List.setIfInBounds_toArray, List.set_cons_zero, List.set_cons_succ] at hQ
    go_wp2_with (fail)
    exact hQ _ _ rfl (hJ.other rfl hf (by decide) (by decide) (by decide))
  simp only [Act.put, List.setIfInBounds_toArray, List.set_cons_zero, List.set_cons_succ]
  apply wpJ_op rfl (by rfl)
  · intro f w1 hf hJ Q1 hQ
    have hS : f 15 = false := path_no hJ.1 [11, 5] (by kernel_rfl) (by decide) hf.1
    have hF := hJ.pre (F := (fun x : World => x.cell? ⟨rb, 1, none⟩ = some (.slice a0 n c0) ∧ True)) hS ⟨CW.out.1, trivial⟩ CA.out CC.out
    have g1 := hF.1
    clear hF
    simp only [Act.put, List.setIfInBounds_toArray, List.set_cons_zero, List.set_cons_succ] at hQ
    go_wp2_with (fail)
    exact hQ _ _ rfl (hJ.other rfl hf (by decide) (by decide) (by decide))
  simp only [Act.put, List.setIfInBounds_toArray, List.set_cons_zero, List.set_cons_succ]
  apply wpJ_op rfl (by rfl)
  · intro f w1 hf hJ Q1 hQ
    simp only [Act.put, List.setIfInBounds_toArray, List.set_cons_zero, List.set_cons_succ] at hQ
    go_wp2_with (fail)
    exact hQ _ _ rfl (hJ.other rfl hf (by decide) (by decide) (by decide))
  simp only [Act.put, List.setIfInBounds_toArray, List.set_cons_zero, List.set_cons_succ]
  apply wpJ_op rfl (by rfl)
  · intro f w1 hf hJ Q1 hQ
    simp only [Act.put, List.setIfInBounds_toArray, List.set_cons_zero, List.set_cons_succ] at hQ
    go_wp2_with (fail)
    exact hQ _ _ rfl (hJ.other rfl hf (by decide) (by decide) (by decide))
  simp only [Act.put, List.setIfInBounds_toArray, List.set_cons_zero, List.set_cons_succ]
  apply wpJ_op rfl (by rfl)
  · intro f w1 hf hJ Q1 hQ
    have hA : f 10 = false := path_no hJ.1 [9, 8] (by kernel_rfl) (by decide) hf.1
    have hC : f 11 = false := path_no hJ.1 [10] (by kernel_rfl) (by decide) hA
    have hS : f 15 = false := path_no hJ.1 [11] (by kernel_rfl) (by decide) hC
    rw [hJ.atA hA hC hS]
    have hF := CW.out
    have g1 := hF.2
    clear hF
    simp only [Act.put, List.setIfInBounds_toArray, List.set_cons_zero, List.set_cons_succ] at hQ
    go_wp2_with (fail)
    exact hQ _ _ rfl (by have h9 := hJ.other rfl hf (by decide) (by decide) (by decide); rwa [hJ.atA hA hC hS] at h9)
  simp only [Act.put, List.setIfInBounds_toArray, List.set_cons_zero, List.set_cons_succ]
  apply wpJ_op rfl (by rfl)
  · intro f w1 hf hJ Q1 hQ
    simp only [Act.put, List.setIfInBounds_toArray, List.set_cons_zero, List.set_cons_succ] at hQ
    go_wp2_with (fail)
    exact hQ _ _ rfl (hJ.other rfl hf (by decide) (by decide) (by decide))
  simp only [Act.put, List.setIfInBounds_toArray, List.set_cons_zero, List.set_cons_succ]
  apply wpJ_op rfl (by rfl)
  · intro f w1 hf hJ Q1 hQ
    have hC : f 11 = false := path_no hJ.1 [10] (by kernel_rfl) (by decide) hf.1
    have hS : f 15 = false := path_no hJ.1 [11] (by kernel_rfl) (by decide) hC
    rw [hJ.atA hf.1 hC hS]
    simp only [Act.put, List.setIfInBounds_toArray, List.set_cons_zero, List.set_cons_succ] at hQ
    go_wp2_with (fail)
    exact hQ _ _ rfl (hJ.goA rfl hf hC hS (by decide) (by decide))
  simp only [Act.put, List.setIfInBounds_toArray, List.set_cons_zero, List.set_cons_succ]
  apply wpJ_op rfl (by rfl)
  · intro f w1 hf hJ Q1 hQ
    have hS : f 15 = false := path_no hJ.1 [11] (by kernel_rfl) (by decide) hf.1
    have hA : f 10 = true := up_dep hf 10 (by kernel_rfl)
    rw [hJ.atC hA hf.1 hS]
    simp only [Act.put, List.setIfInBounds_toArray, List.set_cons_zero, List.set_cons_succ] at hQ
    go_wp2_with (at_builtin; refine wp_appX rfl _ _ 37 rfl rfl rfl hrun ?_)
    exact hQ _ _ rfl (hJ.goC rfl hf hS (by decide))
  simp only [Act.put, List.setIfInBounds_toArray, List.set_cons_zero, List.set_cons_succ]
  apply wpJ_op rfl (by rfl)
  · intro f w1 hf hJ Q1 hQ
    simp only [Act.put, List.setIfInBounds_toArray, List.set_cons_zero, List.set_cons_succ] at hQ
    go_wp2_with (fail)
    exact hQ _ _ rfl (hJ.other rfl hf (by decide) (by decide) (by decide))
  simp only [Act.put, List.setIfInBounds_toArray, List.set_cons_zero, List.set_cons_succ]
  apply wpJ_op rfl (by rfl)
  · intro f w1 hf hJ Q1 hQ
    simp only [Act.put, List.setIfInBounds_toArray, List.set_cons_zero, List.set_cons_succ] at hQ
    go_wp2_with (fail)
    exact hQ _ _ rfl (hJ.other rfl hf (by decide) (by decide) (by decide))
  simp only [Act.put, List.setIfInBounds_toArray, List.set_cons_zero, List.set_cons_succ]
  apply wpJ_op rfl (by rfl)
  · intro f w1 hf hJ Q1 hQ
    simp only [Act.put, List.setIfInBounds_toArray, List.set_cons_zero, List.set_cons_succ] at hQ
    go_wp2_with (fail)
    exact hQ _ _ rfl (hJ.other rfl hf (by decide) (by decide) (by decide))
  simp only [Act.put, List.setIfInBounds_toArray, List.set_cons_zero, List.set_cons_succ]
  apply wpJ_op (v := undef) rfl (by rfl)
  · intro f w1 hf hJ Q1 hQ
    have hC : f 11 = true := up_dep hf 11 (by kernel_rfl)
    rw [hJ.atS hC hf.1]
    obtain ⟨e1, e2⟩ := HS.out
    simp only [Act.put, List.setIfInBounds_toArray, List.set_cons_zero, List.set_cons_succ] at hQ
    go_wp2_with (fail)
    exact hQ _ _ rfl (hJ.goS rfl hf)
  simp only [Act.put, List.setIfInBounds_toArray, List.set_cons_zero, List.set_cons_succ]
  refine wpJ_nil ?_
  intro w9 hJ9
  rw [hJ9.fin rfl]
  clear hJ9
  go_wp2_with (fail)
  refine region_S 17 ((WC.setCell ⟨rb, 1, none⟩ (.slice (some ⟨g3, 0, none⟩) (n + 1) c3)).drew) (((WC.setCell ⟨rb, 1, none⟩ (.slice (some ⟨g3, 0, none⟩) (n + 1) c3)).drew).setCell ⟨rb, 7, none⟩ (.pointer (some ⟨g3, n * 2 + 1, none⟩))) rfl (by kernel_rfl) (by kernel_rfl) ?_
  apply wpJ_op rfl (by rfl)
  · intro f w1 hf hJ Q1 hQ
    simp only [Act.put, List.setIfInBounds_toArray, List.set_cons_zero, List.set_cons_succ] at hQ
    go_wp2_with (fail)
    exact hQ _ _ rfl (hJ.other rfl hf (by decide))
  simp only [Act.put, List.setIfInBounds_toArray, List.set_cons_zero, List.set_cons_succ]
  apply wpJ_op rfl (by rfl)
  · intro f w1 hf hJ Q1 hQ
    simp only [Act.put, List.setIfInBounds_toArray, List.set_cons_zero, List.set_cons_succ] at hQ
    go_wp2_with (fail)
    exact hQ _ _ rfl (hJ.other rfl hf (by decide))
  simp only [Act.put, List.setIfInBounds_toArray, List.set_cons_zero, List.set_cons_succ]
  apply wpJ_op rfl (by rfl)
  · intro f w1 hf hJ Q1 hQ
    simp only [Act.put, List.setIfInBounds_toArray, List.set_cons_zero, List.set_cons_succ] at hQ
    go_wp2_with (fail)
    exact hQ _ _ rfl (hJ.other rfl hf (by decide))
  simp only [Act.put, List.setIfInBounds_toArray, List.set_cons_zero, List.set_cons_succ]
  apply wpJ_op rfl (by rfl)
  · intro f w1 hf hJ Q1 hQ
    simp only [Act.put, List.setIfInBounds_toArray, List.set_cons_zero, List.set_cons_succ] at hQ
    go_wp2_with (fail)
    exact hQ _ _ rfl (hJ.other rfl hf (by decide))
  simp only [Act.put, List.setIfInBounds_toArray, List.set_cons_zero, List.set_cons_succ]
  apply wpJ_op rfl (by rfl)
  · intro f w1 hf hJ Q1 hQ
    simp only [Act.put, List.setIfInBounds_toArray, List.set_cons_zero, List.set_cons_succ] at hQ
    go_wp2_with (fail)
    exact hQ _ _ rfl (hJ.other rfl hf (by decide))
  simp only [Act.put, List.setIfInBounds_toArray, List.set_cons_zero, List.set_cons_succ]
  apply wpJ_op rfl (by rfl)
  · intro f w1 hf hJ Q1 hQ
    have hS : f 17 = false := path_no hJ.1 [14, 13, 5] (by kernel_rfl) (by decide) hf.1
    rw [hJ.atS hS]
    have hF := CS.out
    have g1 := hF.1
    clear hF
    simp only [Act.put, List.setIfInBounds_toArray, List.set_cons_zero, List.set_cons_succ] at hQ
    go_wp2_with (fail)
    exact hQ _ _ rfl (by have h9 := hJ.other rfl hf (by decide); rwa [hJ.atS hS] at h9)
  simp only [Act.put, List.setIfInBounds_toArray, List.set_cons_zero, List.set_cons_succ]
  apply wpJ_op rfl (by rfl)
  · intro f w1 hf hJ Q1 hQ
    simp only [Act.put, List.setIfInBounds_toArray, List.set_cons_zero, List.set_cons_succ] at hQ
    go_wp2_with (fail)
    exact hQ _ _ rfl (hJ.other rfl hf (by decide))
  simp only [Act.put, List.setIfInBounds_toArray, List.set_cons_zero, List.set_cons_succ]
  apply wpJ_op rfl (by rfl)
  · intro f w1 hf hJ Q1 hQ
    simp only [Act.put, List.setIfInBounds_toArray, List.set_cons_zero, List.set_cons_succ] at hQ
    go_wp2_with (fail)
    exact hQ _ _ rfl (hJ.other rfl hf (by decide))
  simp only [Act.put, List.setIfInBounds_toArray, List.set_cons_zero, List.set_cons_succ]
  apply wpJ_op rfl (by rfl)
  · intro f w1 hf hJ Q1 hQ
    simp only [Act.put, List.setIfInBounds_toArray, List.set_cons_zero, List.set_cons_succ] at hQ
    go_wp2_with (fail)
    exact hQ _ _ rfl (hJ.other rfl hf (by decide))
  simp only [Act.put, List.setIfInBounds_toArray, List.set_cons_zero, List.set_cons_succ]
  apply wpJ_op rfl (by rfl)
  · intro f w1 hf hJ Q1 hQ
    simp only [Act.put, List.setIfInBounds_toArray, List.set_cons_zero, List.set_cons_succ] at hQ
    go_wp2_with (fail)
    exact hQ _ _ rfl (hJ.other rfl hf (by decide))
  simp only [Act.put, List.setIfInBounds_toArray, List.set_cons_zero, List.set_cons_succ]
  apply wpJ_op rfl (by rfl)
  · intro f w1 hf hJ Q1 hQ
    have hS : f 17 = false := path_no hJ.1 [14, 13, 12, 11, 10] (by kernel_rfl) (by decide) hf.1
    rw [hJ.atS hS]
    have hF := CS.out
    have g1 := hF.1
    clear hF
    simp only [Act.put, List.setIfInBounds_toArray, List.set_cons_zero, List.set_cons_succ] at hQ
    go_wp2_with (fail)
    exact hQ _ _ rfl (by have h9 := hJ.other rfl hf (by decide); rwa [hJ.atS hS] at h9)
  simp only [Act.put, List.setIfInBounds_toArray, List.set_cons_zero, List.set_cons_succ]
  apply wpJ_op rfl (by rfl)
  · intro f w1 hf hJ Q1 hQ
    simp only [Act.put, List.setIfInBounds_toArray, List.set_cons_zero, List.set_cons_succ] at hQ
    go_wp2_with (fail)
    exact hQ _ _ rfl (hJ.other rfl hf (by decide))
  simp only [Act.put, List.setIfInBounds_toArray, List.set_cons_zero, List.set_cons_succ]
  apply wpJ_op rfl (by rfl)
  · intro f w1 hf hJ Q1 hQ
    simp only [Act.put, List.setIfInBounds_toArray, List.set_cons_zero, List.set_cons_succ] at hQ
    go_wp2_with (fail)
    exact hQ _ _ rfl (hJ.other rfl hf (by decide))
  simp only [Act.put, List.setIfInBounds_toArray, List.set_cons_zero, List.set_cons_succ]
  apply wpJ_op rfl (by rfl)
  · intro f w1 hf hJ Q1 hQ
    simp only [Act.put, List.setIfInBounds_toArray, List.set_cons_zero, List.set_cons_succ] at hQ
    go_wp2_with (fail)
    exact hQ _ _ rfl (hJ.other rfl hf (by decide))
  simp only [Act.put, List.setIfInBounds_toArray, List.set_cons_zero, List.set_cons_succ]
  apply wpJ_op rfl (by rfl)
  · intro f w1 hf hJ Q1 hQ
    simp only [Act.put, List.setIfInBounds_toArray, List.set_cons_zero, List.set_cons_succ] at hQ
    go_wp2_with (fail)
    exact hQ _ _ rfl (hJ.other rfl hf (by decide))
  simp only [Act.put, List.setIfInBounds_toArray, List.set_cons_zero, List.set_cons_succ]
  apply wpJ_op rfl (by rfl)
  · intro f w1 hf hJ Q1 hQ
    simp only [Act.put, List.setIfInBounds_toArray, List.set_cons_zero, List.set_cons_succ] at hQ
    go_wp2_with (fail)
    exact hQ _ _ rfl (hJ.other rfl hf (by decide))
  simp only [Act.put, List.setIfInBounds_toArray, List.set_cons_zero, List.set_cons_succ]
  apply wpJ_op rfl (by rfl)
  · intro f w1 hf hJ Q1 hQ
    simp only [Act.put, List.setIfInBounds_toArray, List.set_cons_zero, List.set_cons_succ] at hQ
    go_wp2_with (fail)
    exact hQ _ _ rfl (hJ.other rfl hf (by decide))
  simp only [Act.put, List.setIfInBounds_toArray, List.set_cons_zero, List.set_cons_succ]
  apply wpJ_op (v := undef) rfl (by rfl)
  · intro f w1 hf hJ Q1 hQ
    rw [hJ.atS hf.1]
    obtain ⟨e0, e1, e2⟩ := CS.out
    simp only [Act.put, List.setIfInBounds_toArray, List.set_cons_zero, List.set_cons_succ] at hQ
    go_wp2_with (fail)
    exact hQ _ _ rfl (hJ.goS rfl hf)
  simp only [Act.put, List.setIfInBounds_toArray, List.set_cons_zero, List.set_cons_succ]
  refine wpJ_nil ?_
  intro w10 hJ9
  rw [hJ9.fin rfl]
  clear hJ9
  go_wp2_with (fail)
  go_ret
  exact ⟨rfl, _, WC, g3, c3, HE.out.1, ⟨b', HE.out.2.1, HE.out.2.2.1, HE.out.2.2.2.1⟩, rfl⟩
set_option maxRecDepth 100000 in
set_option maxHeartbeats 2000000 in
theorem task_ok (w : World) (rb : Nat) (cs : Array Value) (hR : Blk w rb cs 78) (x0 x1 x2 x3 x4 x5 : Int) (us : List Int) (hx0 : 0 ≤ x5) (hx1 : x5 ≤ 999999) (hul : us.length ≤ 100000) (g m c : Nat) (hm : m = us.length + 6) (hc : m ≤ c) (hc6 : c ≠ 6) (hrd : ∀ (k : Nat) (n : Int), (x0 :: x1 :: x2 :: x3 :: x4 :: x5 :: us)[k]? = some n → w.cell? ⟨g, k, none⟩ = some (.int .i64 n)) (n : Nat) (ocs : List Value) (pv p7 : Value) (pb : Option Nat) (hk : cs[0]? = some pv) (h7 : cs[7]? = some p7) (hP : Rw w 89 8 pv n ocs pb) (hn : n + 1 ≤ 1000000) :
    Calls Tryz.prog 66 #[.pointer (some ⟨rb, 0, none⟩), .slice (some ⟨g, 0, none⟩) m c] w (fun e w' => e = .returned (.bool true) ∧ PutP 89 8 7 w rb 0 n ocs [.int .i64 x0, .int .i64 x1, .int .i64 x2, .int .i64 x3, .int .i64 x4, .int .i64 (x5 - 1), .slice (some ⟨g, 6, none⟩) (m - 6) (c - 6), .slice none 0 0] pb w') := by
  obtain ⟨a0, c0, rfl⟩ := hP.slice
  have r0 := hrd 0 x0 rfl
  have r1 := hrd 1 x1 rfl
  have r2 := hrd 2 x2 rfl
  have r3 := hrd 3 x3 rfl
  have r4 := hrd 4 x4 rfl
  have r5 := hrd 5 x5 rfl
  have m0 : (6 : Int) ≤ (m : Int) := by omega
  have m1 : 6 ≤ m := by omega
  have m3 : 0 < m := by omega
  have m4 : 1 < m := by omega
  have m5 : 2 < m := by omega
  have m6 : 3 < m := by omega
  have m7 : 4 < m := by omega
  have m8 : 5 < m := by omega
  have m9 : decide ((m : Int) < 6) = false := by simp; omega
  have m10 : m ≤ 100006 := by omega
  have m11 : ¬ c = 6 := hc6
  have m12 : ¬ c - 6 = 0 := by omega
  have m13 : ((c - 6 : Nat) == 0) = false := by simp; omega
  clear hm hul
  have hbA := (((Below.refl w.heap.size w).alloc (Nat.le_refl _) (.cells [.int .i64 x0, .int .i64 x1, .int .i64 x2, .int .i64 x3, .int .i64 x4, .int .i64 (x5 - 1), .slice (some ⟨g, 6, none⟩) (m - 6) (c - 6), .slice none 0 0].toArray 89))).drew
  obtain ⟨v', WC, hrun, hA⟩ := app_run (P := Tryz.prog) (w := (w.alloc (.cells [.int .i64 x0, .int .i64 x1, .int .i64 x2, .int .i64 x3, .int .i64 x4, .int .i64 (x5 - 1), .slice (some ⟨g, 6, none⟩) (m - 6) (c - 6), .slice none 0 0].toArray 89)).drew) (S := 36) 36 _ 8 96 infoTk rfl (by decide) (by decide) Tryz.underlying36 (hP.below hbA) ⟨w.heap.size, 0, none⟩ 1 1 [.int .i64 x0, .int .i64 x1, .int .i64 x2, .int .i64 x3, .int .i64 x4, .int .i64 (x5 - 1), .slice (some ⟨g, 6, none⟩) (m - 6) (c - 6), .slice none 0 0] rfl (new_cells (W := w) [.int .i64 x0, .int .i64 x1, .int .i64 x2, .int .i64 x3, .int .i64 x4, .int .i64 (x5 - 1), .slice (some ⟨g, 6, none⟩) (m - 6) (c - 6), .slice none 0 0] _ rfl) (by intro u hu; simp at hu; rcases hu with rfl | rfl | rfl | rfl | rfl | rfl | rfl | rfl <;> rfl) hn
  obtain ⟨b', hI3, hu3, hb3⟩ := hA
  obtain ⟨g3, hg3⟩ := hI3.has (by omega)
  obtain ⟨c3, rest3, hv3, hB3, hc3, hn3, _⟩ := hI3.blk g3 hg3
  subst hv3
  have neR : pb ≠ some rb := hP.neT hR (by decide)
  have hRA := Blk.below hbA hR hR.lt
  have hRC := Blk.upd hu3 hRA neR
  have cW := hR.rd 0
  have cA := hRA.rd 0
  have cC := hRC.rd 0
  rw [hk] at cW cA cC
  have hRS := (hRC.set 0 (.slice (some ⟨g3, 0, none⟩) (n + 1) c3)).drew
  have cS := hRS.rd 0
  have c7 := hRS.rd 7
  rw [Array.getElem?_setIfInBounds_self_of_lt (Array.getElem?_eq_some_iff.1 hk).1] at cS
  rw [Array.getElem?_setIfInBounds_ne (by decide), h7] at c7
  have CS := Lib.hid (And.intro cS (And.intro c7 (hRS.nf 7)))
  have CW := Lib.hid (And.intro cW (And.intro r0 (And.intro r1 (And.intro r2 (And.intro r3 (And.intro r4 r5))))))
  have CA := Lib.hid (And.intro cA trivial)
  have CC := Lib.hid (And.intro cC trivial)
  have HS := Lib.hid (And.intro cC (hRC.nf 0))
  have HE := Lib.hid (And.intro hbA (And.intro hI3 (And.intro hu3 hb3)))
  have hlt3 : n < n + 1 := by omega
  clear cW cA cC cS c7 hRS hbA hI3 hu3 hb3 neR hRA hRC hR hP hrd hk h7 hB3 hc3 hg3 r0 r1 r2 r3 r4 r5
  go_enter Tryz.func66, Tryz.ntmps66
  go_wp2_with (fail)
  refine region_K 28 29 33 w.drew ((w.alloc (.cells #[.int .i64 x0, .int .i64 x1, .int .i64 x2, .int .i64 x3, .int .i64 x4, .int .i64 (x5 - 1), .slice (some ⟨g, 6, none⟩) (m - 6) (c - 6), .slice none 0 0] 89)).drew) WC (WC.setCell ⟨rb, 0, none⟩ (.slice (some ⟨g3, 0, none⟩) (n + 1) c3)) rfl (by kernel_rfl) (by kernel_rfl) ?_
  apply wpJ_op rfl (by rfl)
  · intro f w1 hf hJ Q1 hQ
    simp only [Act.put, List.setIfInBounds_toArray, List.set_cons_zero, List.set_cons_succ] at hQ
    go_wp2_with (fail)
    exact hQ _ _ rfl (hJ.other rfl hf (by decide) (by decide) (by decide))
  simp only [Act.put, List.setIfInBounds_toArray, List.set_cons_zero, List.set_cons_succ]
  apply wpJ_op rfl (by rfl)
  · intro f w1 hf hJ Q1 hQ
    simp only [Act.put, List.setIfInBounds_toArray, List.set_cons_zero, List.set_cons_succ] at hQ
    go_wp2_with (fail)
    exact hQ _ _ rfl (hJ.other rfl hf (by decide) (by decide) (by decide))
  simp only [Act.put, List.setIfInBounds_toArray, List.set_cons_zero, List.set_cons_succ]
  apply wpJ_op rfl (by rfl)
  · intro f w1 hf hJ Q1 hQ
    simp only [Act.put, List.setIfInBounds_toArray, List.set_cons_zero, List.set_cons_succ] at hQ
    go_wp2_with (fail)
    exact hQ _ _ rfl (hJ.other rfl hf (by decide) (by decide) (by decide))
  simp only [Act.put, List.setIfInBounds_toArray, List.set_cons_zero, List.set_cons_succ]
  apply wpJ_op rfl (by rfl)
  · intro f w1 hf hJ Q1 hQ
    simp only [Act.put, List.setIfInBounds_toArray, List.set_cons_zero, List.set_cons_succ] at hQ
    go_wp2_with (fail)
    exact hQ _ _ rfl (hJ.other rfl hf (by decide) (by decide) (by decide))
  simp only [Act.put, List.setIfInBounds_toArray, List.set_cons_zero, List.set_cons_succ]
  apply wpJ_op rfl (by rfl)
  · intro f w1 hf hJ Q1 hQ
    simp only [Act.put, List.setIfInBounds_toArray, List.set_cons_zero, List.set_cons_succ] at hQ
    go_wp2_with (fail)
    exact hQ _ _ rfl (hJ.other rfl hf (by decide) (by decide) (by decide))
  simp only [Act.put, List.setIfInBounds_toArray, List.set_cons_zero, List.set_cons_succ]
  apply wpJ_op rfl (by rfl)
  · intro f w1 hf hJ Q1 hQ
    have hS : f 33 = false := path_no hJ.1 [29, 5] (by kernel_rfl) (by decide) hf.1
    have hF := hJ.pre (F := (fun x : World => x.cell? ⟨rb, 0, none⟩ = some (.slice a0 n c0) ∧ True)) hS ⟨CW.out.1, trivial⟩ CA.out CC.out
    have g1 := hF.1
    clear hF
    simp only [Act.put, List.setIfInBounds_toArray, List.set_cons_zero, List.set_cons_succ] at hQ
    go_wp2_with (fail)
    exact hQ _ _ rfl (hJ.other rfl hf (by decide) (by decide) (by decide))
  simp only [Act.put, List.setIfInBounds_toArray, List.set_cons_zero, List.set_cons_succ]
  apply wpJ_op rfl (by rfl)
  · intro f w1 hf hJ Q1 hQ
    simp only [Act.put, List.setIfInBounds_toArray, List.set_cons_zero, List.set_cons_succ] at hQ
    go_wp2_with (fail)
    exact hQ _ _ rfl (hJ.other rfl hf (by decide) (by decide) (by decide))
  simp only [Act.put, List.setIfInBounds_toArray, List.set_cons_zero, List.set_cons_succ]
  apply wpJ_op rfl (by rfl)
  · intro f w1 hf hJ Q1 hQ
    simp only [Act.put, List.setIfInBounds_toArray, List.set_cons_zero, List.set_cons_succ] at hQ
    go_wp2_with (fail)
    exact hQ _ _ rfl (hJ.other rfl hf (by decide) (by decide) (by decide))
  simp only [Act.put, List.setIfInBounds_toArray, List.set_cons_zero, List.set_cons_succ]
  apply wpJ_op rfl (by rfl)
  · intro f w1 hf hJ Q1 hQ
    have hA : f 28 = false := path_no hJ.1 [27, 8] (by kernel_rfl) (by decide) hf.1
    have hC : f 29 = false := path_no hJ.1 [28] (by kernel_rfl) (by decide) hA
    have hS : f 33 = false := path_no hJ.1 [29] (by kernel_rfl) (by decide) hC
    rw [hJ.atA hA hC hS]
    have hF := CW.out
    have g1 := hF.2.1
    clear hF
    simp only [Act.put, List.setIfInBounds_toArray, List.set_cons_zero, List.set_cons_succ] at hQ
    go_wp2_with (fail)
    exact hQ _ _ rfl (by have h9 := hJ.other rfl hf (by decide) (by decide) (by decide); rwa [hJ.atA hA hC hS] at h9)
  simp only [Act.put, List.setIfInBounds_toArray, List.set_cons_zero, List.set_cons_succ]
  apply wpJ_op rfl (by rfl)
  · intro f w1 hf hJ Q1 hQ
    simp only [Act.put, List.setIfInBounds_toArray, List.set_cons_zero, List.set_cons_succ] at hQ
    go_wp2_with (fail)
    exact hQ _ _ rfl (hJ.other rfl hf (by decide) (by decide) (by decide))
  simp only [Act.put, List.setIfInBounds_toArray, List.set_cons_zero, List.set_cons_succ]
  apply wpJ_op rfl (by rfl)
  · intro f w1 hf hJ Q1 hQ
    simp only [Act.put, List.setIfInBounds_toArray, List.set_cons_zero, List.set_cons_succ] at hQ
    go_wp2_with (fail)
    exact hQ _ _ rfl (hJ.other rfl hf (by decide) (by decide) (by decide))
  simp only [Act.put, List.setIfInBounds_toArray, List.set_cons_zero, List.set_cons_succ]
  apply wpJ_op rfl (by rfl)
  · intro f w1 hf hJ Q1 hQ
    have hA : f 28 = false := path_no hJ.1 [27, 11] (by kernel_rfl) (by decide) hf.1
    have hC : f 29 = false := path_no hJ.1 [28] (by kernel_rfl) (by decide) hA
    have hS : f 33 = false := path_no hJ.1 [29] (by kernel_rfl) (by decide) hC
    rw [hJ.atA hA hC hS]
    have hF := CW.out
    have g1 := hF.2.2.1
    clear hF
    simp only [Act.put, List.setIfInBounds_toArray, List.set_cons_zero, List.set_cons_succ] at hQ
    go_wp2_with (fail)
    exact hQ _ _ rfl (by have h9 := hJ.other rfl hf (by decide) (by decide) (by decide); rwa [hJ.atA hA hC hS] at h9)
  simp only [Act.put, List.setIfInBounds_toArray, List.set_cons_zero, List.set_cons_succ]
  apply wpJ_op rfl (by rfl)
  · intro f w1 hf hJ Q1 hQ
    simp only [Act.put, List.setIfInBounds_toArray, List.set_cons_zero, List.set_cons_succ] at hQ
    go_wp2_with (fail)
    exact hQ _ _ rfl (hJ.other rfl hf (by decide) (by decide) (by decide))
  simp only [Act.put, List.setIfInBounds_toArray, List.set_cons_zero, List.set_cons_succ]
  apply wpJ_op rfl (by rfl)
  · intro f w1 hf hJ Q1 hQ
    simp only [Act.put, List.setIfInBounds_toArray, List.set_cons_zero, List.set_cons_succ] at hQ
    go_wp2_with (fail)
    exact hQ _ _ rfl (hJ.other rfl hf (by decide) (by decide) (by decide))
  simp only [Act.put, List.setIfInBounds_toArray, List.set_cons_zero, List.set_cons_succ]
  apply wpJ_op rfl (by rfl)
  · intro f w1 hf hJ Q1 hQ
    have hA : f 28 = false := path_no hJ.1 [27, 14] (by kernel_rfl) (by decide) hf.1
    have hC : f 29 = false := path_no hJ.1 [28] (by kernel_rfl) (by decide) hA
    have hS : f 33 = false := path_no hJ.1 [29] (by kernel_rfl) (by decide) hC
    rw [hJ.atA hA hC hS]
    have hF := CW.out
    have g1 := hF.2.2.2.1
    clear hF
    simp only [Act.put, List.setIfInBounds_toArray, List.set_cons_zero, List.set_cons_succ] at hQ
    go_wp2_with (fail)
    exact hQ _ _ rfl (by have h9 := hJ.other rfl hf (by decide) (by decide) (by decide); rwa [hJ.atA hA hC hS] at h9)
  simp only [Act.put, List.setIfInBounds_toArray, List.set_cons_zero, List.set_cons_succ]
  apply wpJ_op rfl (by rfl)
  · intro f w1 hf hJ Q1 hQ
    simp only [Act.put, List.setIfInBounds_toArray, List.set_cons_zero, List.set_cons_succ] at hQ
    go_wp2_with (fail)
    exact hQ _ _ rfl (hJ.other rfl hf (by decide) (by decide) (by decide))
  simp only [Act.put, List.setIfInBounds_toArray, List.set_cons_zero, List.set_cons_succ]
  apply wpJ_op rfl (by rfl)
  · intro f w1 hf hJ Q1 hQ
    simp only [Act.put, List.setIfInBounds_toArray, List.set_cons_zero, List.set_cons_succ] at hQ
    go_wp2_with (fail)
    exact hQ _ _ rfl (hJ.other rfl hf (by decide) (by decide) (by decide))
  simp only [Act.put, List.setIfInBounds_toArray, List.set_cons_zero, List.set_cons_succ]
  apply wpJ_op rfl (by rfl)
  · intro f w1 hf hJ Q1 hQ
    have hA : f 28 = false := path_no hJ.1 [27, 17] (by kernel_rfl) (by decide) hf.1
    have hC : f 29 = false := path_no hJ.1 [28] (by kernel_rfl) (by decide) hA
    have hS : f 33 = false := path_no hJ.1 [29] (by kernel_rfl) (by decide) hC
    rw [hJ.atA hA hC hS]
    have hF := CW.out
    have g1 := hF.2.2.2.2.1
    clear hF
    simp only [Act.put, List.setIfInBounds_toArray, List.set_cons_zero, List.set_cons_succ] at hQ
    go_wp2_with (fail)
    exact hQ _ _ rfl (by have h9 := hJ.other rfl hf (by decide) (by decide) (by decide); rwa [hJ.atA hA hC hS] at h9)
  simp only [Act.put, List.setIfInBounds_toArray, List.set_cons_zero, List.set_cons_succ]
  apply wpJ_op rfl (by rfl)
  · intro f w1 hf hJ Q1 hQ
    simp only [Act.put, List.setIfInBounds_toArray, List.set_cons_zero, List.set_cons_succ] at hQ
    go_wp2_with (fail)
    exact hQ _ _ rfl (hJ.other rfl hf (by decide) (by decide) (by decide))
  simp only [Act.put, List.setIfInBounds_toArray, List.set_cons_zero, List.set_cons_succ]
  apply wpJ_op rfl (by rfl)
  · intro f w1 hf hJ Q1 hQ
    simp only [Act.put, List.setIfInBounds_toArray, List.set_cons_zero, List.set_cons_succ] at hQ
    go_wp2_with (fail)
    exact hQ _ _ rfl (hJ.other rfl hf (by decide) (by decide) (by decide))
  simp only [Act.put, List.setIfInBounds_toArray, List.set_cons_zero, List.set_cons_succ]
  apply wpJ_op rfl (by rfl)
  · intro f w1 hf hJ Q1 hQ
    have hA : f 28 = false := path_no hJ.1 [27, 20] (by kernel_rfl) (by decide) hf.1
    have hC : f 29 = false := path_no hJ.1 [28] (by kernel_rfl) (by decide) hA
    have hS : f 33 = false := path_no hJ.1 [29] (by kernel_rfl) (by decide) hC
    rw [hJ.atA hA hC hS]
    have hF := CW.out
    have g1 := hF.2.2.2.2.2.1
    clear hF
    simp only [Act.put, List.setIfInBounds_toArray, List.set_cons_zero, List.set_cons_succ] at hQ
    go_wp2_with (fail)
    exact hQ _ _ rfl (by have h9 := hJ.other rfl hf (by decide) (by decide) (by decide); rwa [hJ.atA hA hC hS] at h9)
  simp only [Act.put, List.setIfInBounds_toArray, List.set_cons_zero, List.set_cons_succ]
  apply wpJ_op rfl (by rfl)
  · intro f w1 hf hJ Q1 hQ
    simp only [Act.put, List.setIfInBounds_toArray, List.set_cons_zero, List.set_cons_succ] at hQ
    go_wp2_with (fail)
    exact hQ _ _ rfl (hJ.other rfl hf (by decide) (by decide) (by decide))
  simp only [Act.put, List.setIfInBounds_toArray, List.set_cons_zero, List.set_cons_succ]
  apply wpJ_op rfl (by rfl)
  · intro f w1 hf hJ Q1 hQ
    simp only [Act.put, List.setIfInBounds_toArray, List.set_cons_zero, List.set_cons_succ] at hQ
    go_wp2_with (fail)
    exact hQ _ _ rfl (hJ.other rfl hf (by decide) (by decide) (by decide))
  simp only [Act.put, List.setIfInBounds_toArray, List.set_cons_zero, List.set_cons_succ]
  apply wpJ_op rfl (by rfl)
  · intro f w1 hf hJ Q1 hQ
    have hA : f 28 = false := path_no hJ.1 [27, 24, 23] (by kernel_rfl) (by decide) hf.1
    have hC : f 29 = false := path_no hJ.1 [28] (by kernel_rfl) (by decide) hA
    have hS : f 33 = false := path_no hJ.1 [29] (by kernel_rfl) (by decide) hC
    rw [hJ.atA hA hC hS]
    have hF := CW.out
    have g1 := hF.2.2.2.2.2.2
    clear hF
    simp only [Act.put, List.setIfInBounds_toArray, List.set_cons_zero, List.set_cons_succ] at hQ
    go_wp2_with (fail)
    exact hQ _ _ rfl (by have h9 := hJ.other rfl hf (by decide) (by decide) (by decide); rwa [hJ.atA hA hC hS] at h9)
  simp only [Act.put, List.setIfInBounds_toArray, List.set_cons_zero, List.set_cons_succ]
  apply wpJ_op rfl (by rfl)
  · intro f w1 hf hJ Q1 hQ
    simp only [Act.put, List.setIfInBounds_toArray, List.set_cons_zero, List.set_cons_succ] at hQ
    go_wp2_with (fail)
    exact hQ _ _ rfl (hJ.other rfl hf (by decide) (by decide) (by decide))
  simp only [Act.put, List.setIfInBounds_toArray, List.set_cons_zero, List.set_cons_succ]
  apply wpJ_op rfl (by rfl)
  · intro f w1 hf hJ Q1 hQ
    simp only [Act.put, List.setIfInBounds_toArray, List.set_cons_zero, List.set_cons_succ] at hQ
    go_wp2_with (fail)
    exact hQ _ _ rfl (hJ.other rfl hf (by decide) (by decide) (by decide))
  simp only [Act.put, List.setIfInBounds_toArray, List.set_cons_zero, List.set_cons_succ]
  apply wpJ_op rfl (by rfl)
  · intro f w1 hf hJ Q1 hQ
    simp only [Act.put, List.setIfInBounds_toArray, List.set_cons_zero, List.set_cons_succ] at hQ
    go_wp2_with (fail)
    exact hQ _ _ rfl (hJ.other rfl hf (by decide) (by decide) (by decide))
  simp only [Act.put, List.setIfInBounds_toArray, List.set_cons_zero, List.set_cons_succ]
  apply wpJ_op rfl (by rfl)
  · intro f w1 hf hJ Q1 hQ
    simp only [Act.put, List.setIfInBounds_toArray, List.set_cons_zero, List.set_cons_succ] at hQ
    go_wp2_with (fail)
    exact hQ _ _ rfl (hJ.other rfl hf (by decide) (by decide) (by decide))
  simp only [Act.put, List.setIfInBounds_toArray, List.set_cons_zero, List.set_cons_succ]
  apply wpJ_op rfl (by rfl)
  · intro f w1 hf hJ Q1 hQ
    have hC : f 29 = false := path_no hJ.1 [28] (by kernel_rfl) (by decide) hf.1
    have hS : f 33 = false := path_no hJ.1 [29] (by kernel_rfl) (by decide) hC
    rw [hJ.atA hf.1 hC hS]
    simp only [Act.put, List.setIfInBounds_toArray, List.set_cons_zero, List.set_cons_succ] at hQ
    go_wp2_with (fail)
    exact hQ _ _ rfl (hJ.goA rfl hf hC hS (by decide) (by decide))
  simp only [Act.put, List.setIfInBounds_toArray, List.set_cons_zero, List.set_cons_succ]
  apply wpJ_op rfl (by rfl)
  · intro f w1 hf hJ Q1 hQ
    have hS : f 33 = false := path_no hJ.1 [29] (by kernel_rfl) (by decide) hf.1
    have hA : f 28 = true := up_dep hf 28 (by kernel_rfl)
    rw [hJ.atC hA hf.1 hS]
    simp only [Act.put, List.setIfInBounds_toArray, List.set_cons_zero, List.set_cons_succ] at hQ
    go_wp2_with (at_builtin; refine wp_appX rfl _ _ 36 rfl rfl rfl hrun ?_)
    exact hQ _ _ rfl (hJ.goC rfl hf hS (by decide))
  simp only [Act.put, List.setIfInBounds_toArray, List.set_cons_zero, List.set_cons_succ]
  apply wpJ_op rfl (by rfl)
  · intro f w1 hf hJ Q1 hQ
    simp only [Act.put, List.setIfInBounds_toArray, List.set_cons_zero, List.set_cons_succ] at hQ
    go_wp2_with (fail)
    exact hQ _ _ rfl (hJ.other rfl hf (by decide) (by decide) (by decide))
  simp only [Act.put, List.setIfInBounds_toArray, List.set_cons_zero, List.set_cons_succ]
  apply wpJ_op rfl (by rfl)
  · intro f w1 hf hJ Q1 hQ
    simp only [Act.put, List.setIfInBounds_toArray, List.set_cons_zero, List.set_cons_succ] at hQ
    go_wp2_with (fail)
    exact hQ _ _ rfl (hJ.other rfl hf (by decide) (by decide) (by decide))
  simp only [Act.put, List.setIfInBounds_toArray, List.set_cons_zero, List.set_cons_succ]
  apply wpJ_op rfl (by rfl)
  · intro f w1 hf hJ Q1 hQ
    simp only [Act.put, List.setIfInBounds_toArray, List.set_cons_zero, List.set_cons_succ] at hQ
    go_wp2_with (fail)
    exact hQ _ _ rfl (hJ.other rfl hf (by decide) (by decide) (by decide))
  simp only [Act.put, List.setIfInBounds_toArray, List.set_cons_zero, List.set_cons_succ]
  apply wpJ_op (v := undef) rfl (by rfl)
  · intro f w1 hf hJ Q1 hQ
    have hC : f 29 = true := up_dep hf 29 (by kernel_rfl)
    rw [hJ.atS hC hf.1]
    obtain ⟨e1, e2⟩ := HS.out
    simp only [Act.put, List.setIfInBounds_toArray, List.set_cons_zero, List.set_cons_succ] at hQ
    go_wp2_with (fail)
    exact hQ _ _ rfl (hJ.goS rfl hf)
  simp only [Act.put, List.setIfInBounds_toArray, List.set_cons_zero, List.set_cons_succ]
  refine wpJ_nil ?_
  intro w9 hJ9
  rw [hJ9.fin rfl]
  clear hJ9
  go_wp2_with (fail)
  refine region_S 17 ((WC.setCell ⟨rb, 0, none⟩ (.slice (some ⟨g3, 0, none⟩) (n + 1) c3)).drew) (((WC.setCell ⟨rb, 0, none⟩ (.slice (some ⟨g3, 0, none⟩) (n + 1) c3)).drew).setCell ⟨rb, 7, none⟩ (.pointer (some ⟨g3, n * 8 + 7, none⟩))) rfl (by kernel_rfl) (by kernel_rfl) ?_
  apply wpJ_op rfl (by rfl)
  · intro f w1 hf hJ Q1 hQ
    simp only [Act.put, List.setIfInBounds_toArray, List.set_cons_zero, List.set_cons_succ] at hQ
    go_wp2_with (fail)
    exact hQ _ _ rfl (hJ.other rfl hf (by decide))
  simp only [Act.put, List.setIfInBounds_toArray, List.set_cons_zero, List.set_cons_succ]
  apply wpJ_op rfl (by rfl)
  · intro f w1 hf hJ Q1 hQ
    simp only [Act.put, List.setIfInBounds_toArray, List.set_cons_zero, List.set_cons_succ] at hQ
    go_wp2_with (fail)
    exact hQ _ _ rfl (hJ.other rfl hf (by decide))
  simp only [Act.put, List.setIfInBounds_toArray, List.set_cons_zero, List.set_cons_succ]
  apply wpJ_op rfl (by rfl)
  · intro f w1 hf hJ Q1 hQ
    simp only [Act.put, List.setIfInBounds_toArray, List.set_cons_zero, List.set_cons_succ] at hQ
    go_wp2_with (fail)
    exact hQ _ _ rfl (hJ.other rfl hf (by decide))
  simp only [Act.put, List.setIfInBounds_toArray, List.set_cons_zero, List.set_cons_succ]
  apply wpJ_op rfl (by rfl)
  · intro f w1 hf hJ Q1 hQ
    simp only [Act.put, List.setIfInBounds_toArray, List.set_cons_zero, List.set_cons_succ] at hQ
    go_wp2_with (fail)
    exact hQ _ _ rfl (hJ.other rfl hf (by decide))
  simp only [Act.put, List.setIfInBounds_toArray, List.set_cons_zero, List.set_cons_succ]
  apply wpJ_op rfl (by rfl)
  · intro f w1 hf hJ Q1 hQ
    simp only [Act.put, List.setIfInBounds_toArray, List.set_cons_zero, List.set_cons_succ] at hQ
    go_wp2_with (fail)
    exact hQ _ _ rfl (hJ.other rfl hf (by decide))
  simp only [Act.put, List.setIfInBounds_toArray, List.set_cons_zero, List.set_cons_succ]
  apply wpJ_op rfl (by rfl)
  · intro f w1 hf hJ Q1 hQ
    have hS : f 17 = false := path_no hJ.1 [14, 13, 5] (by kernel_rfl) (by decide) hf.1
    rw [hJ.atS hS]
    have hF := CS.out
    have g1 := hF.1
    clear hF
    simp only [Act.put, List.setIfInBounds_toArray, List.set_cons_zero, List.set_cons_succ] at hQ
    go_wp2_with (fail)
    exact hQ _ _ rfl (by have h9 := hJ.other rfl hf (by decide); rwa [hJ.atS hS] at h9)
  simp only [Act.put, List.setIfInBounds_toArray, List.set_cons_zero, List.set_cons_succ]
  apply wpJ_op rfl (by rfl)
  · intro f w1 hf hJ Q1 hQ
    simp only [Act.put, List.setIfInBounds_toArray, List.set_cons_zero, List.set_cons_succ] at hQ
    go_wp2_with (fail)
    exact hQ _ _ rfl (hJ.other rfl hf (by decide))
  simp only [Act.put, List.setIfInBounds_toArray, List.set_cons_zero, List.set_cons_succ]
  apply wpJ_op rfl (by rfl)
  · intro f w1 hf hJ Q1 hQ
    simp only [Act.put, List.setIfInBounds_toArray, List.set_cons_zero, List.set_cons_succ] at hQ
    go_wp2_with (fail)
    exact hQ _ _ rfl (hJ.other rfl hf (by decide))
  simp only [Act.put, List.setIfInBounds_toArray, List.set_cons_zero, List.set_cons_succ]
  apply wpJ_op rfl (by rfl)
  · intro f w1 hf hJ Q1 hQ
    simp only [Act.put, List.setIfInBounds_toArray, List.set_cons_zero, List.set_cons_succ] at hQ
    go_wp2_with (fail)
    exact hQ _ _ rfl (hJ.other rfl hf (by decide))
  simp only [Act.put, List.setIfInBounds_toArray, List.set_cons_zero, List.set_cons_succ]
  apply wpJ_op rfl (by rfl)
  · intro f w1 hf hJ Q1 hQ
    simp only [Act.put, List.setIfInBounds_toArray, List.set_cons_zero, List.set_cons_succ] at hQ
    go_wp2_with (fail)
    exact hQ _ _ rfl (hJ.other rfl hf (by decide))
  simp only [Act.put, List.setIfInBounds_toArray, List.set_cons_zero, List.set_cons_succ]
  apply wpJ_op rfl (by rfl)
  · intro f w1 hf hJ Q1 hQ
    have hS : f 17 = false := path_no hJ.1 [14, 13, 12, 11, 10] (by kernel_rfl) (by decide) hf.1
    rw [hJ.atS hS]
    have hF := CS.out
    have g1 := hF.1
    clear hF
    simp only [Act.put, List.setIfInBounds_toArray, List.set_cons_zero, List.set_cons_succ] at hQ
    go_wp2_with (fail)
    exact hQ _ _ rfl (by have h9 := hJ.other rfl hf (by decide); rwa [hJ.atS hS] at h9)
  simp only [Act.put, List.setIfInBounds_toArray, List.set_cons_zero, List.set_cons_succ]
  apply wpJ_op rfl (by rfl)
  · intro f w1 hf hJ Q1 hQ
    simp only [Act.put, List.setIfInBounds_toArray, List.set_cons_zero, List.set_cons_succ] at hQ
    go_wp2_with (fail)
    exact hQ _ _ rfl (hJ.other rfl hf (by decide))
  simp only [Act.put, List.setIfInBounds_toArray, List.set_cons_zero, List.set_cons_succ]
  apply wpJ_op rfl (by rfl)
  · intro f w1 hf hJ Q1 hQ
    simp only [Act.put, List.setIfInBounds_toArray, List.set_cons_zero, List.set_cons_succ] at hQ
    go_wp2_with (fail)
    exact hQ _ _ rfl (hJ.other rfl hf (by decide))
  simp only [Act.put, List.setIfInBounds_toArray, List.set_cons_zero, List.set_cons_succ]
  apply wpJ_op rfl (by rfl)
  · intro f w1 hf hJ Q1 hQ
    simp only [Act.put, List.setIfInBounds_toArray, List.set_cons_zero, List.set_cons_succ] at hQ
    go_wp2_with (fail)
    exact hQ _ _ rfl (hJ.other rfl hf (by decide))
  simp only [Act.put, List.setIfInBounds_toArray, List.set_cons_zero, List.set_cons_succ]
  apply wpJ_op rfl (by rfl)
  · intro f w1 hf hJ Q1 hQ
    simp only [Act.put, List.setIfInBounds_toArray, List.set_cons_zero, List.set_cons_succ] at hQ
    go_wp2_with (fail)
    exact hQ _ _ rfl (hJ.other rfl hf (by decide))
  simp only [Act.put, List.setIfInBounds_toArray, List.set_cons_zero, List.set_cons_succ]
  apply wpJ_op rfl (by rfl)
  · intro f w1 hf hJ Q1 hQ
    simp only [Act.put, List.setIfInBounds_toArray, List.set_cons_zero, List.set_cons_succ] at hQ
    go_wp2_with (fail)
    exact hQ _ _ rfl (hJ.other rfl hf (by decide))
  simp only [Act.put, List.setIfInBounds_toArray, List.set_cons_zero, List.set_cons_succ]
  apply wpJ_op rfl (by rfl)
  · intro f w1 hf hJ Q1 hQ
    simp only [Act.put, List.setIfInBounds_toArray, List.set_cons_zero, List.set_cons_succ] at hQ
    go_wp2_with (fail)
    exact hQ _ _ rfl (hJ.other rfl hf (by decide))
  simp only [Act.put, List.setIfInBounds_toArray, List.set_cons_zero, List.set_cons_succ]
  apply wpJ_op (v := undef) rfl (by rfl)
  · intro f w1 hf hJ Q1 hQ
    rw [hJ.atS hf.1]
    obtain ⟨e0, e1, e2⟩ := CS.out
    simp only [Act.put, List.setIfInBounds_toArray, List.set_cons_zero, List.set_cons_succ] at hQ
    go_wp2_with (fail)
    exact hQ _ _ rfl (hJ.goS rfl hf)
  simp only [Act.put, List.setIfInBounds_toArray, List.set_cons_zero, List.set_cons_succ]
  refine wpJ_nil ?_
  intro w10 hJ9
  rw [hJ9.fin rfl]
  clear hJ9
  go_wp2_with (fail)
  go_ret
  exact ⟨rfl, _, WC, g3, c3, HE.out.1, ⟨b', HE.out.2.1, HE.out.2.2.1, HE.out.2.2.2⟩, rfl⟩
set_option maxRecDepth 100000 in
set_option maxHeartbeats 2000000 in
theorem task_six (w : World) (rb : Nat) (cs : Array Value) (hR : Blk w rb cs 78) (x0 x1 x2 x3 x4 x5 : Int) (hx0 : 0 ≤ x5) (hx1 : x5 ≤ 999999) (g : Nat) (hrd : ∀ (k : Nat) (n : Int), (x0 :: x1 :: x2 :: x3 :: x4 :: x5 :: [])[k]? = some n → w.cell? ⟨g, k, none⟩ = some (.int .i64 n)) (n : Nat) (ocs : List Value) (pv p7 : Value) (pb : Option Nat) (hk : cs[0]? = some pv) (h7 : cs[7]? = some p7) (hP : Rw w 89 8 pv n ocs pb) (hn : n + 1 ≤ 1000000) :
    Calls Tryz.prog 66 #[.pointer (some ⟨rb, 0, none⟩), .slice (some ⟨g, 0, none⟩) 6 6] w (fun e w' => e = .returned (.bool true) ∧ PutP 89 8 7 w rb 0 n ocs [.int .i64 x0, .int .i64 x1, .int .i64 x2, .int .i64 x3, .int .i64 x4, .int .i64 (x5 - 1), .slice (some ⟨g, 0, none⟩) 0 0, .slice none 0 0] pb w') := by
  obtain ⟨a0, c0, rfl⟩ := hP.slice
  have r0 := hrd 0 x0 rfl
  have r1 := hrd 1 x1 rfl
  have r2 := hrd 2 x2 rfl
  have r3 := hrd 3 x3 rfl
  have r4 := hrd 4 x4 rfl
  have r5 := hrd 5 x5 rfl
  have hbA := (((Below.refl w.heap.size w).alloc (Nat.le_refl _) (.cells [.int .i64 x0, .int .i64 x1, .int .i64 x2, .int .i64 x3, .int .i64 x4, .int .i64 (x5 - 1), .slice (some ⟨g, 0, none⟩) 0 0, .slice none 0 0].toArray 89))).drew
  obtain ⟨v', WC, hrun, hA⟩ := app_run (P := Tryz.prog) (w := (w.alloc (.cells [.int .i64 x0, .int .i64 x1, .int .i64 x2, .int .i64 x3, .int .i64 x4, .int .i64 (x5 - 1), .slice (some ⟨g, 0, none⟩) 0 0, .slice none 0 0].toArray 89)).drew) (S := 36) 36 _ 8 96 infoTk rfl (by decide) (by decide) Tryz.underlying36 (hP.below hbA) ⟨w.heap.size, 0, none⟩ 1 1 [.int .i64 x0, .int .i64 x1, .int .i64 x2, .int .i64 x3, .int .i64 x4, .int .i64 (x5 - 1), .slice (some ⟨g, 0, none⟩) 0 0, .slice none 0 0] rfl (new_cells (W := w) [.int .i64 x0, .int .i64 x1, .int .i64 x2, .int .i64 x3, .int .i64 x4, .int .i64 (x5 - 1), .slice (some ⟨g, 0, none⟩) 0 0, .slice none 0 0] _ rfl) (by intro u hu; simp at hu; rcases hu with rfl | rfl | rfl | rfl | rfl | rfl | rfl | rfl <;> rfl) hn
  obtain ⟨b', hI3, hu3, hb3⟩ := hA
  obtain ⟨g3, hg3⟩ := hI3.has (by omega)
  obtain ⟨c3, rest3, hv3, hB3, hc3, hn3, _⟩ := hI3.blk g3 hg3
  subst hv3
  have neR : pb ≠ some rb := hP.neT hR (by decide)
  have hRA := Blk.below hbA hR hR.lt
  have hRC := Blk.upd hu3 hRA neR
  have cW := hR.rd 0
  have cA := hRA.rd 0
  have cC := hRC.rd 0
  rw [hk] at cW cA cC
  have hRS := (hRC.set 0 (.slice (some ⟨g3, 0, none⟩) (n + 1) c3)).drew
  have cS := hRS.rd 0
  have c7 := hRS.rd 7
  rw [Array.getElem?_setIfInBounds_self_of_lt (Array.getElem?_eq_some_iff.1 hk).1] at cS
  rw [Array.getElem?_setIfInBounds_ne (by decide), h7] at c7
  have CS := Lib.hid (And.intro cS (And.intro c7 (hRS.nf 7)))
  have CW := Lib.hid (And.intro cW (And.intro r0 (And.intro r1 (And.intro r2 (And.intro r3 (And.intro r4 r5))))))
  have CA := Lib.hid (And.intro cA trivial)
  have CC := Lib.hid (And.intro cC trivial)
  have HS := Lib.hid (And.intro cC (hRC.nf 0))
  have HE := Lib.hid (And.intro hbA (And.intro hI3 (And.intro hu3 hb3)))
  have hlt3 : n < n + 1 := by omega
  clear cW cA cC cS c7 hRS hbA hI3 hu3 hb3 neR hRA hRC hR hP hrd hk h7 hB3 hc3 hg3 r0 r1 r2 r3 r4 r5
  go_enter Tryz.func66, Tryz.ntmps66
  go_wp2_with (fail)
  refine region_K 28 29 33 w.drew ((w.alloc (.cells #[.int .i64 x0, .int .i64 x1, .int .i64 x2, .int .i64 x3, .int .i64 x4, .int .i64 (x5 - 1), .slice (some ⟨g, 0, none⟩) 0 0, .slice none 0 0] 89)).drew) WC (WC.setCell ⟨rb, 0, none⟩ (.slice (some ⟨g3, 0, none⟩) (n + 1) c3)) rfl (by kernel_rfl) (by kernel_rfl) ?_
  apply wpJ_op rfl (by rfl)
  · intro f w1 hf hJ Q1 hQ
    simp only [Act.put, List.setIfInBounds_toArray, List.set_cons_zero, List.set_cons_succ] at hQ
    go_wp2_with (fail)
    exact hQ _ _ rfl (hJ.other rfl hf (by decide) (by decide) (by decide))
  simp only [Act.put, List.setIfInBounds_toArray, List.set_cons_zero, List.set_cons_succ]
  apply wpJ_op rfl (by rfl)
  · intro f w1 hf hJ Q1 hQ
    simp only [Act.put, List.setIfInBounds_toArray, List.set_cons_zero, List.set_cons_succ] at hQ
    go_wp2_with (fail)
    exact hQ _ _ rfl (hJ.other rfl hf (by decide) (by decide) (by decide))
  simp only [Act.put, List.setIfInBounds_toArray, List.set_cons_zero, List.set_cons_succ]
  apply wpJ_op rfl (by rfl)
  · intro f w1 hf hJ Q1 hQ
    simp only [Act.put, List.setIfInBounds_toArray, List.set_cons_zero, List.set_cons_succ] at hQ
    go_wp2_with (fail)
    exact hQ _ _ rfl (hJ.other rfl hf (by decide) (by decide) (by decide))
  simp only [Act.put, List.setIfInBounds_toArray, List.set_cons_zero, List.set_cons_succ]
  apply wpJ_op rfl (by rfl)
  · intro f w1 hf hJ Q1 hQ
    simp only [Act.put, List.setIfInBounds_toArray, List.set_cons_zero, List.set_cons_succ] at hQ
    go_wp2_with (fail)
    exact hQ _ _ rfl (hJ.other rfl hf (by decide) (by decide) (by decide))
  simp only [Act.put, List.setIfInBounds_toArray, List.set_cons_zero, List.set_cons_succ]
  apply wpJ_op rfl (by rfl)
  · intro f w1 hf hJ Q1 hQ
    simp only [Act.put, List.setIfInBounds_toArray, List.set_cons_zero, List.set_cons_succ] at hQ
    go_wp2_with (fail)
    exact hQ _ _ rfl (hJ.other rfl hf (by decide) (by decide) (by decide))
  simp only [Act.put, List.setIfInBounds_toArray, List.set_cons_zero, List.set_cons_succ]
  apply wpJ_op rfl (by rfl)
  · intro f w1 hf hJ Q1 hQ
    have hS : f 33 = false := path_no hJ.1 [29, 5] (by kernel_rfl) (by decide) hf.1
    have hF := hJ.pre (F := (fun x : World => x.cell? ⟨rb, 0, none⟩ = some (.slice a0 n c0) ∧ True)) hS ⟨CW.out.1, trivial⟩ CA.out CC.out
    have g1 := hF.1
    clear hF
    simp only [Act.put, List.setIfInBounds_toArray, List.set_cons_zero, List.set_cons_succ] at hQ
    go_wp2_with (fail)
    exact hQ _ _ rfl (hJ.other rfl hf (by decide) (by decide) (by decide))
  simp only [Act.put, List.setIfInBounds_toArray, List.set_cons_zero, List.set_cons_succ]
  apply wpJ_op rfl (by rfl)
  · intro f w1 hf hJ Q1 hQ
    simp only [Act.put, List.setIfInBounds_toArray, List.set_cons_zero, List.set_cons_succ] at hQ
    go_wp2_with (fail)
    exact hQ _ _ rfl (hJ.other rfl hf (by decide) (by decide) (by decide))
  simp only [Act.put, List.setIfInBounds_toArray, List.set_cons_zero, List.set_cons_succ]
  apply wpJ_op rfl (by rfl)
  · intro f w1 hf hJ Q1 hQ
    simp only [Act.put, List.setIfInBounds_toArray, List.set_cons_zero, List.set_cons_succ] at hQ
    go_wp2_with (fail)
    exact hQ _ _ rfl (hJ.other rfl hf (by decide) (by decide) (by decide))
  simp only [Act.put, List.setIfInBounds_toArray, List.set_cons_zero, List.set_cons_succ]
  apply wpJ_op rfl (by rfl)
  · intro f w1 hf hJ Q1 hQ
    have hA : f 28 = false := path_no hJ.1 [27, 8] (by kernel_rfl) (by decide) hf.1
    have hC : f 29 = false := path_no hJ.1 [28] (by kernel_rfl) (by decide) hA
    have hS : f 33 = false := path_no hJ.1 [29] (by kernel_rfl) (by decide) hC
    rw [hJ.atA hA hC hS]
    have hF := CW.out
    have g1 := hF.2.1
    clear hF
    simp only [Act.put, List.setIfInBounds_toArray, List.set_cons_zero, List.set_cons_succ] at hQ
    go_wp2_with (fail)
    exact hQ _ _ rfl (by have h9 := hJ.other rfl hf (by decide) (by decide) (by decide); rwa [hJ.atA hA hC hS] at h9)
  simp only [Act.put, List.setIfInBounds_toArray, List.set_cons_zero, List.set_cons_succ]
  apply wpJ_op rfl (by rfl)
  · intro f w1 hf hJ Q1 hQ
    simp only [Act.put, List.setIfInBounds_toArray, List.set_cons_zero, List.set_cons_succ] at hQ
    go_wp2_with (fail)
    exact hQ _ _ rfl (hJ.other rfl hf (by decide) (by decide) (by decide))
  simp only [Act.put, List.setIfInBounds_toArray, List.set_cons_zero, List.set_cons_succ]
  apply wpJ_op rfl (by rfl)
  · intro f w1 hf hJ Q1 hQ
    simp only [Act.put, List.setIfInBounds_toArray, List.set_cons_zero, List.set_cons_succ] at hQ
    go_wp2_with (fail)
    exact hQ _ _ rfl (hJ.other rfl hf (by decide) (by decide) (by decide))
  simp only [Act.put, List.setIfInBounds_toArray, List.set_cons_zero, List.set_cons_succ]
  apply wpJ_op rfl (by rfl)
  · intro f w1 hf hJ Q1 hQ
    have hA : f 28 = false := path_no hJ.1 [27, 11] (by kernel_rfl) (by decide) hf.1
    have hC : f 29 = false := path_no hJ.1 [28] (by kernel_rfl) (by decide) hA
    have hS : f 33 = false := path_no hJ.1 [29] (by kernel_rfl) (by decide) hC
    rw [hJ.atA hA hC hS]
    have hF := CW.out
    have g1 := hF.2.2.1
    clear hF
    simp only [Act.put, List.setIfInBounds_toArray, List.set_cons_zero, List.set_cons_succ] at hQ
    go_wp2_with (fail)
    exact hQ _ _ rfl (by have h9 := hJ.other rfl hf (by decide) (by decide) (by decide); rwa [hJ.atA hA hC hS] at h9)
  simp only [Act.put, List.setIfInBounds_toArray, List.set_cons_zero, List.set_cons_succ]
  apply wpJ_op rfl (by rfl)
  · intro f w1 hf hJ Q1 hQ
    simp only [Act.put, List.setIfInBounds_toArray, List.set_cons_zero, List.set_cons_succ] at hQ
    go_wp2_with (fail)
    exact hQ _ _ rfl (hJ.other rfl hf (by decide) (by decide) (by decide))
  simp only [Act.put, List.setIfInBounds_toArray, List.set_cons_zero, List.set_cons_succ]
  apply wpJ_op rfl (by rfl)
  · intro f w1 hf hJ Q1 hQ
    simp only [Act.put, List.setIfInBounds_toArray, List.set_cons_zero, List.set_cons_succ] at hQ
    go_wp2_with (fail)
    exact hQ _ _ rfl (hJ.other rfl hf (by decide) (by decide) (by decide))
  simp only [Act.put, List.setIfInBounds_toArray, List.set_cons_zero, List.set_cons_succ]
  apply wpJ_op rfl (by rfl)
  · intro f w1 hf hJ Q1 hQ
    have hA : f 28 = false := path_no hJ.1 [27, 14] (by kernel_rfl) (by decide) hf.1
    have hC : f 29 = false := path_no hJ.1 [28] (by kernel_rfl) (by decide) hA
    have hS : f 33 = false := path_no hJ.1 [29] (by kernel_rfl) (by decide) hC
    rw [hJ.atA hA hC hS]
    have hF := CW.out
    have g1 := hF.2.2.2.1
    clear hF
    simp only [Act.put, List.setIfInBounds_toArray, List.set_cons_zero, List.set_cons_succ] at hQ
    go_wp2_with (fail)
    exact hQ _ _ rfl (by have h9 := hJ.other rfl hf (by decide) (by decide) (by decide); rwa [hJ.atA hA hC hS] at h9)
  simp only [Act.put, List.setIfInBounds_toArray, List.set_cons_zero, List.set_cons_succ]
  apply wpJ_op rfl (by rfl)
  · intro f w1 hf hJ Q1 hQ
    simp only [Act.put, List.setIfInBounds_toArray, List.set_cons_zero, List.set_cons_succ] at hQ
    go_wp2_with (fail)
    exact hQ _ _ rfl (hJ.other rfl hf (by decide) (by decide) (by decide))
  simp only [Act.put, List.setIfInBounds_toArray, List.set_cons_zero, List.set_cons_succ]
  apply wpJ_op rfl (by rfl)
  · intro f w1 hf hJ Q1 hQ
    simp only [Act.put, List.setIfInBounds_toArray, List.set_cons_zero, List.set_cons_succ] at hQ
    go_wp2_with (fail)
    exact hQ _ _ rfl (hJ.other rfl hf (by decide) (by decide) (by decide))
  simp only [Act.put, List.setIfInBounds_toArray, List.set_cons_zero, List.set_cons_succ]
  apply wpJ_op rfl (by rfl)
  · intro f w1 hf hJ Q1 hQ
    have hA : f 28 = false := path_no hJ.1 [27, 17] (by kernel_rfl) (by decide) hf.1
    have hC : f 29 = false := path_no hJ.1 [28] (by kernel_rfl) (by decide) hA
    have hS : f 33 = false := path_no hJ.1 [29] (by kernel_rfl) (by decide) hC
    rw [hJ.atA hA hC hS]
    have hF := CW.out
    have g1 := hF.2.2.2.2.1
    clear hF
    simp only [Act.put, List.setIfInBounds_toArray, List.set_cons_zero, List.set_cons_succ] at hQ
    go_wp2_with (fail)
    exact hQ _ _ rfl (by have h9 := hJ.other rfl hf (by decide) (by decide) (by decide); rwa [hJ.atA hA hC hS] at h9)
  simp only [Act.put, List.setIfInBounds_toArray, List.set_cons_zero, List.set_cons_succ]
  apply wpJ_op rfl (by rfl)
  · intro f w1 hf hJ Q1 hQ
    simp only [Act.put, List.setIfInBounds_toArray, List.set_cons_zero, List.set_cons_succ] at hQ
    go_wp2_with (fail)
    exact hQ _ _ rfl (hJ.other rfl hf (by decide) (by decide) (by decide))
  simp only [Act.put, List.setIfInBounds_toArray, List.set_cons_zero, List.set_cons_succ]
  apply wpJ_op rfl (by rfl)
  · intro f w1 hf hJ Q1 hQ
    simp only [Act.put, List.setIfInBounds_toArray, List.set_cons_zero, List.set_cons_succ] at hQ
    go_wp2_with (fail)
    exact hQ _ _ rfl (hJ.other rfl hf (by decide) (by decide) (by decide))
  simp only [Act.put, List.setIfInBounds_toArray, List.set_cons_zero, List.set_cons_succ]
  apply wpJ_op rfl (by rfl)
  · intro f w1 hf hJ Q1 hQ
    have hA : f 28 = false := path_no hJ.1 [27, 20] (by kernel_rfl) (by decide) hf.1
    have hC : f 29 = false := path_no hJ.1 [28] (by kernel_rfl) (by decide) hA
    have hS : f 33 = false := path_no hJ.1 [29] (by kernel_rfl) (by decide) hC
    rw [hJ.atA hA hC hS]
    have hF := CW.out
    have g1 := hF.2.2.2.2.2.1
    clear hF
    simp only [Act.put, List.setIfInBounds_toArray, List.set_cons_zero, List.set_cons_succ] at hQ
    go_wp2_with (fail)
    exact hQ _ _ rfl (by have h9 := hJ.other rfl hf (by decide) (by decide) (by decide); rwa [hJ.atA hA hC hS] at h9)
  simp only [Act.put, List.setIfInBounds_toArray, List.set_cons_zero, List.set_cons_succ]
  apply wpJ_op rfl (by rfl)
  · intro f w1 hf hJ Q1 hQ
    simp only [Act.put, List.setIfInBounds_toArray, List.set_cons_zero, List.set_cons_succ] at hQ
    go_wp2_with (fail)
    exact hQ _ _ rfl (hJ.other rfl hf (by decide) (by decide) (by decide))
  simp only [Act.put, List.setIfInBounds_toArray, List.set_cons_zero, List.set_cons_succ]
  apply wpJ_op rfl (by rfl)
  · intro f w1 hf hJ Q1 hQ
    simp only [Act.put, List.setIfInBounds_toArray, List.set_cons_zero, List.set_cons_succ] at hQ
    go_wp2_with (fail)
    exact hQ _ _ rfl (hJ.other rfl hf (by decide) (by decide) (by decide))
  simp only [Act.put, List.setIfInBounds_toArray, List.set_cons_zero, List.set_cons_succ]
  apply wpJ_op rfl (by rfl)
  · intro f w1 hf hJ Q1 hQ
    have hA : f 28 = false := path_no hJ.1 [27, 24, 23] (by kernel_rfl) (by decide) hf.1
    have hC : f 29 = false := path_no hJ.1 [28] (by kernel_rfl) (by decide) hA
    have hS : f 33 = false := path_no hJ.1 [29] (by kernel_rfl) (by decide) hC
    rw [hJ.atA hA hC hS]
    have hF := CW.out
    have g1 := hF.2.2.2.2.2.2
    clear hF
    simp only [Act.put, List.setIfInBounds_toArray, List.set_cons_zero, List.set_cons_succ] at hQ
    go_wp2_with (fail)
    exact hQ _ _ rfl (by have h9 := hJ.other rfl hf (by decide) (by decide) (by decide); rwa [hJ.atA hA hC hS] at h9)
  simp only [Act.put, List.setIfInBounds_toArray, List.set_cons_zero, List.set_cons_succ]
  apply wpJ_op rfl (by rfl)
  · intro f w1 hf hJ Q1 hQ
    simp only [Act.put, List.setIfInBounds_toArray, List.set_cons_zero, List.set_cons_succ] at hQ
    go_wp2_with (fail)
    exact hQ _ _ rfl (hJ.other rfl hf (by decide) (by decide) (by decide))
  simp only [Act.put, List.setIfInBounds_toArray, List.set_cons_zero, List.set_cons_succ]
  apply wpJ_op rfl (by rfl)
  · intro f w1 hf hJ Q1 hQ
    simp only [Act.put, List.setIfInBounds_toArray, List.set_cons_zero, List.set_cons_succ] at hQ
    go_wp2_with (fail)
    exact hQ _ _ rfl (hJ.other rfl hf (by decide) (by decide) (by decide))
  simp only [Act.put, List.setIfInBounds_toArray, List.set_cons_zero, List.set_cons_succ]
  apply wpJ_op rfl (by rfl)
  · intro f w1 hf hJ Q1 hQ
    simp only [Act.put, List.setIfInBounds_toArray, List.set_cons_zero, List.set_cons_succ] at hQ
    go_wp2_with (fail)
    exact hQ _ _ rfl (hJ.other rfl hf (by decide) (by decide) (by decide))
  simp only [Act.put, List.setIfInBounds_toArray, List.set_cons_zero, List.set_cons_succ]
  apply wpJ_op rfl (by rfl)
  · intro f w1 hf hJ Q1 hQ
    simp only [Act.put, List.setIfInBounds_toArray, List.set_cons_zero, List.set_cons_succ] at hQ
    go_wp2_with (fail)
    exact hQ _ _ rfl (hJ.other rfl hf (by decide) (by decide) (by decide))
  simp only [Act.put, List.setIfInBounds_toArray, List.set_cons_zero, List.set_cons_succ]
  apply wpJ_op rfl (by rfl)
  · intro f w1 hf hJ Q1 hQ
    have hC : f 29 = false := path_no hJ.1 [28] (by kernel_rfl) (by decide) hf.1
    have hS : f 33 = false := path_no hJ.1 [29] (by kernel_rfl) (by decide) hC
    rw [hJ.atA hf.1 hC hS]
    simp only [Act.put, List.setIfInBounds_toArray, List.set_cons_zero, List.set_cons_succ] at hQ
    go_wp2_with (fail)
    exact hQ _ _ rfl (hJ.goA rfl hf hC hS (by decide) (by decide))
  simp only [Act.put, List.setIfInBounds_toArray, List.set_cons_zero, List.set_cons_succ]
  apply wpJ_op rfl (by rfl)
  · intro f w1 hf hJ Q1 hQ
    have hS : f 33 = false := path_no hJ.1 [29] (by kernel_rfl) (by decide) hf.1
    have hA : f 28 = true := up_dep hf 28 (by kernel_rfl)
    rw [hJ.atC hA hf.1 hS]
    simp only [Act.put, List.setIfInBounds_toArray, List.set_cons_zero, List.set_cons_succ] at hQ
    go_wp2_with (at_builtin; refine wp_appX rfl _ _ 36 rfl rfl rfl hrun ?_)
    exact hQ _ _ rfl (hJ.goC rfl hf hS (by decide))
  simp only [Act.put, List.setIfInBounds_toArray, List.set_cons_zero, List.set_cons_succ]
  apply wpJ_op rfl (by rfl)
  · intro f w1 hf hJ Q1 hQ
    simp only [Act.put, List.setIfInBounds_toArray, List.set_cons_zero, List.set_cons_succ] at hQ
    go_wp2_with (fail)
    exact hQ _ _ rfl (hJ.other rfl hf (by decide) (by decide) (by decide))
  simp only [Act.put, List.setIfInBounds_toArray, List.set_cons_zero, List.set_cons_succ]
  apply wpJ_op rfl (by rfl)
  · intro f w1 hf hJ Q1 hQ
    simp only [Act.put, List.setIfInBounds_toArray, List.set_cons_zero, List.set_cons_succ] at hQ
    go_wp2_with (fail)
    exact hQ _ _ rfl (hJ.other rfl hf (by decide) (by decide) (by decide))
  simp only [Act.put, List.setIfInBounds_toArray, List.set_cons_zero, List.set_cons_succ]
  apply wpJ_op rfl (by rfl)
  · intro f w1 hf hJ Q1 hQ
    simp only [Act.put, List.setIfInBounds_toArray, List.set_cons_zero, List.set_cons_succ] at hQ
    go_wp2_with (fail)
    exact hQ _ _ rfl (hJ.other rfl hf (by decide) (by decide) (by decide))
  simp only [Act.put, List.setIfInBounds_toArray, List.set_cons_zero, List.set_cons_succ]
  apply wpJ_op (v := undef) rfl (by rfl)
  · intro f w1 hf hJ Q1 hQ
    have hC : f 29 = true := up_dep hf 29 (by kernel_rfl)
    rw [hJ.atS hC hf.1]
    obtain ⟨e1, e2⟩ := HS.out
    simp only [Act.put, List.setIfInBounds_toArray, List.set_cons_zero, List.set_cons_succ] at hQ
    go_wp2_with (fail)
    exact hQ _ _ rfl (hJ.goS rfl hf)
  simp only [Act.put, List.setIfInBounds_toArray, List.set_cons_zero, List.set_cons_succ]
  refine wpJ_nil ?_
  intro w9 hJ9
  rw [hJ9.fin rfl]
  clear hJ9
  go_wp2_with (fail)
  refine region_S 17 ((WC.setCell ⟨rb, 0, none⟩ (.slice (some ⟨g3, 0, none⟩) (n + 1) c3)).drew) (((WC.setCell ⟨rb, 0, none⟩ (.slice (some ⟨g3, 0, none⟩) (n + 1) c3)).drew).setCell ⟨rb, 7, none⟩ (.pointer (some ⟨g3, n * 8 + 7, none⟩))) rfl (by kernel_rfl) (by kernel_rfl) ?_
  apply wpJ_op rfl (by rfl)
  · intro f w1 hf hJ Q1 hQ
    simp only [Act.put, List.setIfInBounds_toArray, List.set_cons_zero, List.set_cons_succ] at hQ
    go_wp2_with (fail)
    exact hQ _ _ rfl (hJ.other rfl hf (by decide))
  simp only [Act.put, List.setIfInBounds_toArray, List.set_cons_zero, List.set_cons_succ]
  apply wpJ_op rfl (by rfl)
  · intro f w1 hf hJ Q1 hQ
    simp only [Act.put, List.setIfInBounds_toArray, List.set_cons_zero, List.set_cons_succ] at hQ
    go_wp2_with (fail)
    exact hQ _ _ rfl (hJ.other rfl hf (by decide))
  simp only [Act.put, List.setIfInBounds_toArray, List.set_cons_zero, List.set_cons_succ]
  apply wpJ_op rfl (by rfl)
  · intro f w1 hf hJ Q1 hQ
    simp only [Act.put, List.setIfInBounds_toArray, List.set_cons_zero, List.set_cons_succ] at hQ
    go_wp2_with (fail)
    exact hQ _ _ rfl (hJ.other rfl hf (by decide))
  simp only [Act.put, List.setIfInBounds_toArray, List.set_cons_zero, List.set_cons_succ]
  apply wpJ_op rfl (by rfl)
  · intro f w1 hf hJ Q1 hQ
    simp only [Act.put, List.setIfInBounds_toArray, List.set_cons_zero, List.set_cons_succ] at hQ
    go_wp2_with (fail)
    exact hQ _ _ rfl (hJ.other rfl hf (by decide))
  simp only [Act.put, List.setIfInBounds_toArray, List.set_cons_zero, List.set_cons_succ]
  apply wpJ_op rfl (by rfl)
  · intro f w1 hf hJ Q1 hQ
    simp only [Act.put, List.setIfInBounds_toArray, List.set_cons_zero, List.set_cons_succ] at hQ
    go_wp2_with (fail)
    exact hQ _ _ rfl (hJ.other rfl hf (by decide))
  simp only [Act.put, List.setIfInBounds_toArray, List.set_cons_zero, List.set_cons_succ]
  apply wpJ_op rfl (by rfl)
  · intro f w1 hf hJ Q1 hQ
    have hS : f 17 = false := path_no hJ.1 [14, 13, 5] (by kernel_rfl) (by decide) hf.1
    rw [hJ.atS hS]
    have hF := CS.out
    have g1 := hF.1
    clear hF
    simp only [Act.put, List.setIfInBounds_toArray, List.set_cons_zero, List.set_cons_succ] at hQ
    go_wp2_with (fail)
    exact hQ _ _ rfl (by have h9 := hJ.other rfl hf (by decide); rwa [hJ.atS hS] at h9)
  simp only [Act.put, List.setIfInBounds_toArray, List.set_cons_zero, List.set_cons_succ]
  apply wpJ_op rfl (by rfl)
  · intro f w1 hf hJ Q1 hQ
    simp only [Act.put, List.setIfInBounds_toArray, List.set_cons_zero, List.set_cons_succ] at hQ
    go_wp2_with (fail)
    exact hQ _ _ rfl (hJ.other rfl hf (by decide))
  simp only [Act.put, List.setIfInBounds_toArray, List.set_cons_zero, List.set_cons_succ]
  apply wpJ_op rfl (by rfl)
  · intro f w1 hf hJ Q1 hQ
    simp only [Act.put, List.setIfInBounds_toArray, List.set_cons_zero, List.set_cons_succ] at hQ
    go_wp2_with (fail)
    exact hQ _ _ rfl (hJ.other rfl hf (by decide))
  simp only [Act.put, List.setIfInBounds_toArray, List.set_cons_zero, List.set_cons_succ]
  apply wpJ_op rfl (by rfl)
  · intro f w1 hf hJ Q1 hQ
    simp only [Act.put, List.setIfInBounds_toArray, List.set_cons_zero, List.set_cons_succ] at hQ
    go_wp2_with (fail)
    exact hQ _ _ rfl (hJ.other rfl hf (by decide))
  simp only [Act.put, List.setIfInBounds_toArray, List.set_cons_zero, List.set_cons_succ]
  apply wpJ_op rfl (by rfl)
  · intro f w1 hf hJ Q1 hQ
    simp only [Act.put, List.setIfInBounds_toArray, List.set_cons_zero, List.set_cons_succ] at hQ
    go_wp2_with (fail)
    exact hQ _ _ rfl (hJ.other rfl hf (by decide))
  simp only [Act.put, List.setIfInBounds_toArray, List.set_cons_zero, List.set_cons_succ]
  apply wpJ_op rfl (by rfl)
  · intro f w1 hf hJ Q1 hQ
    have hS : f 17 = false := path_no hJ.1 [14, 13, 12, 11, 10] (by kernel_rfl) (by decide) hf.1
    rw [hJ.atS hS]
    have hF := CS.out
    have g1 := hF.1
    clear hF
    simp only [Act.put, List.setIfInBounds_toArray, List.set_cons_zero, List.set_cons_succ] at hQ
    go_wp2_with (fail)
    exact hQ _ _ rfl (by have h9 := hJ.other rfl hf (by decide); rwa [hJ.atS hS] at h9)
  simp only [Act.put, List.setIfInBounds_toArray, List.set_cons_zero, List.set_cons_succ]
  apply wpJ_op rfl (by rfl)
  · intro f w1 hf hJ Q1 hQ
    simp only [Act.put, List.setIfInBounds_toArray, List.set_cons_zero, List.set_cons_succ] at hQ
    go_wp2_with (fail)
    exact hQ _ _ rfl (hJ.other rfl hf (by decide))
  simp only [Act.put, List.setIfInBounds_toArray, List.set_cons_zero, List.set_cons_succ]
  apply wpJ_op rfl (by rfl)
  · intro f w1 hf hJ Q1 hQ
    simp only [Act.put, List.setIfInBounds_toArray, List.set_cons_zero, List.set_cons_succ] at hQ
    go_wp2_with (fail)
    exact hQ _ _ rfl (hJ.other rfl hf (by decide))
  simp only [Act.put, List.setIfInBounds_toArray, List.set_cons_zero, List.set_cons_succ]
  apply wpJ_op rfl (by rfl)
  · intro f w1 hf hJ Q1 hQ
    simp only [Act.put, List.setIfInBounds_toArray, List.set_cons_zero, List.set_cons_succ] at hQ
    go_wp2_with (fail)
    exact hQ _ _ rfl (hJ.other rfl hf (by decide))
  simp only [Act.put, List.setIfInBounds_toArray, List.set_cons_zero, List.set_cons_succ]
  apply wpJ_op rfl (by rfl)
  · intro f w1 hf hJ Q1 hQ
    simp only [Act.put, List.setIfInBounds_toArray, List.set_cons_zero, List.set_cons_succ] at hQ
    go_wp2_with (fail)
    exact hQ _ _ rfl (hJ.other rfl hf (by decide))
  simp only [Act.put, List.setIfInBounds_toArray, List.set_cons_zero, List.set_cons_succ]
  apply wpJ_op rfl (by rfl)
  · intro f w1 hf hJ Q1 hQ
    simp only [Act.put, List.setIfInBounds_toArray, List.set_cons_zero, List.set_cons_succ] at hQ
    go_wp2_with (fail)
    exact hQ _ _ rfl (hJ.other rfl hf (by decide))
  simp only [Act.put, List.setIfInBounds_toArray, List.set_cons_zero, List.set_cons_succ]
  apply wpJ_op rfl (by rfl)
  · intro f w1 hf hJ Q1 hQ
    simp only [Act.put, List.setIfInBounds_toArray, List.set_cons_zero, List.set_cons_succ] at hQ
    go_wp2_with (fail)
    exact hQ _ _ rfl (hJ.other rfl hf (by decide))
  simp only [Act.put, List.setIfInBounds_toArray, List.set_cons_zero, List.set_cons_succ]
  apply wpJ_op (v := undef) rfl (by rfl)
  · intro f w1 hf hJ Q1 hQ
    rw [hJ.atS hf.1]
    obtain ⟨e0, e1, e2⟩ := CS.out
    simp only [Act.put, List.setIfInBounds_toArray, List.set_cons_zero, List.set_cons_succ] at hQ
    go_wp2_with (fail)
    exact hQ _ _ rfl (hJ.goS rfl hf)
  simp only [Act.put, List.setIfInBounds_toArray, List.set_cons_zero, List.set_cons_succ]
  refine wpJ_nil ?_
  intro w10 hJ9
  rw [hJ9.fin rfl]
  clear hJ9
  go_wp2_with (fail)
  go_ret
  exact ⟨rfl, _, WC, g3, c3, HE.out.1, ⟨b', HE.out.2.1, HE.out.2.2.1, HE.out.2.2.2⟩, rfl⟩
end Go.Proofs.YtefaaginedideaaGreatDoor
