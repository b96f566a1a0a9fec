/-
  Script: a step for the task or thread ahead, by the program.
-/
import Derived.Test.YtefaaginedideaaGreatDoorSOp
import Derived.Test.YtefaaginedideaaGreatDoorSN
import Derived.Test.YtefaaginedideaaGreatDoorRegK
namespace Go.Proofs.YtefaaginedideaaGreatDoor
set_option linter.unusedSimpArgs false
set_option linter.unusedVariables false
open Go.RowKit Own RegJ
open Go.Lib hiding intOf

theorem infoOp : (Tryz.prog.info? 25).map (fun i => (i.zero, i.size, i.bytes)) = some (some (.agg #[.int .i64 0, .int .i64 0, .int .i64 0, .int .i64 0, .int .i64 0, .int .i64 0, .int .i64 0, .string ⟨#[]⟩, .string ⟨#[]⟩]), 9, 88) := by kernel_rfl
/-- a row of one new element, read -/
theorem new_cells {W : World} {T : TypeId} (ys : List Value) (cs : Array Value) (hcs : ys.toArray = cs) : ∀ (j : Nat) (u : Value), ys[j]? = some u → ((W.alloc (.cells cs T)).drew).cell? ((⟨W.heap.size, 0, none⟩ : Addr).add j) = some u := fun j u hj => by
  subst hcs
  have e : (⟨W.heap.size, 0, none⟩ : Addr).add j = ⟨W.heap.size, j, none⟩ := by
    unfold Addr.add; by_cases h0 : j = 0
    · subst h0; rfl
    · rw [if_neg h0]; simp
  rw [e]
  have := (Blk.new W ys.toArray T).rd j
  rw [List.getElem?_toArray, hj] at this
  exact this
/-- what a step leaves: the row with one more, and its cell turned -/
def StepR (w : World) (sb k n : Nat) (ocs ys : List Value) (pb : Option Nat) (w' : World) : Prop := ∃ W v' w1, Below w.heap.size w W ∧ AppR W 25 9 (n + 1) (ocs ++ ys) pb v' w1 ∧ w' = w1.setCell ⟨sb, k, none⟩ v'
set_option maxRecDepth 100000 in
theorem step_none (o : OpV) (w : World) (rb : Nat) (cs : Array Value) (hR : Blk w rb cs 78) (h7 : cs[7]? = some (.pointer none)) : Calls Tryz.prog 81 #[.pointer (some ⟨rb, 0, none⟩), opV o] w (ValB (.bool false) w) := by
  have hR1 := Blk.below ((Below.refl w.heap.size w).alloc (Nat.le_refl _) (.cells (opCs o).toArray 25)) hR hR.lt
  have c7 := hR1.rd 7
  rw [h7] at c7
  simp only [opCs] at c7
  have hz := hR.lt
  have HB := Lib.hid ((Below.refl w.heap.size w).alloc (Nat.le_refl _) (.cells (opCs o).toArray 25))
  clear hR hR1 h7
  go_enter Tryz.func81, Tryz.ntmps81
  go_wp2_with (fail)
  go_ret
  exact ⟨rfl, HB.out⟩
set_option maxRecDepth 100000 in
theorem step_bad (o : OpV) (w : World) (rb : Nat) (cs : Array Value) (hR : Blk w rb cs 78) (sp : Addr) (h7 : cs[7]? = some (.pointer (some sp))) (hm : mayO o = false) : Calls Tryz.prog 81 #[.pointer (some ⟨rb, 0, none⟩), opV o] w (ValB (.bool false) w) := by
  have hmay := may_is hm
  have hR1 := Blk.below ((Below.refl w.heap.size w).alloc (Nat.le_refl _) (.cells (opCs o).toArray 25)) hR hR.lt
  have c7 := hR1.rd 7
  rw [h7] at c7
  have c1 := (Blk.new w (opCs o).toArray 25).rd
  simp only [opCs] at c7 c1
  have hz := hR.lt
  have HB := Lib.hid ((Below.refl w.heap.size w).alloc (Nat.le_refl _) (.cells (opCs o).toArray 25))
  clear hR hR1 h7 hm
  go_enter Tryz.func81, Tryz.ntmps81
  go_wp2_with (go_at_call 13; (with_reducible refine (hmay _).mono ?_); rintro e w1 ⟨rfl, hb⟩; have H1 := Lib.hid hb; clear hb)
  go_ret
  exact ⟨rfl, HB.out.trans (H1.out.mono HB.out.size)⟩
set_option maxRecDepth 100000 in
set_option maxHeartbeats 2000000 in
theorem step_ok (o : OpV) (w : World) (rb : Nat) (cs : Array Value) (hR : Blk w rb cs 78) (sb k : Nat) (h7 : cs[7]? = some (.pointer (some ⟨sb, k, none⟩))) (hm : mayO o = true)
    (scs : Array Value) (T : TypeId) (hS : Blk w sb scs T) (hT : T ≠ 25) (n : Nat) (ocs : List Value) (pv : Value) (pb : Option Nat) (hk : scs[k]? = some pv) (hI : Rw w 25 9 pv n ocs pb) (hn : n + 1 ≤ 1000000) :
    Calls Tryz.prog 81 #[.pointer (some ⟨rb, 0, none⟩), opV o] w (fun e w' => e = .returned (.bool true) ∧ StepR w sb k n ocs (opCs o) pb w') := by
  have hmay := may_is hm
  have hle := mayO_le hm
  obtain ⟨a0, c0, rfl⟩ := hI.slice
  have HB := Lib.hid ((Below.refl w.heap.size w).alloc (Nat.le_refl _) (.cells (opCs o).toArray 25))
  have hR1 := Blk.below HB.out hR hR.lt
  have c7 := hR1.rd 7
  rw [h7] at c7
  have c1 := (Blk.new w (opCs o).toArray 25).rd
  have HK := Lib.hid (And.intro hR (And.intro hS (And.intro hT (And.intro hk (And.intro hI (And.intro hn h7))))))
  simp only [opCs] at c7 c1
  clear hR hR1 hS hT hk hI hn h7 hm hle
  go_enter Tryz.func81, Tryz.ntmps81
  go_wp2_with (go_at_call 13; (with_reducible refine (hmay _).mono ?_); rintro e w1 ⟨rfl, hb⟩; have H1 := Lib.hid hb; clear hb c7 c1 hmay)
  have hbw := HB.out.trans (H1.out.mono HB.out.size)
  have hb0 := Blk.below H1.out (Blk.new w (opCs o).toArray 25) (by simp)
  obtain ⟨hR, hS, hT, hk, hI, hn, h7⟩ := HK.out
  have hRw := Blk.below hbw hR hR.lt
  have hSw := Blk.below hbw hS hS.lt
  have hIw := hI.below hbw
  have hbA := (((Below.refl w1.heap.size w1).alloc (Nat.le_refl _) (.cells (opCs o).toArray 25))).drew
  obtain ⟨v', WC, hrun, hA⟩ := app_run (P := Tryz.prog) (w := (w1.alloc (.cells (opCs o).toArray 25)).drew) (S := 27) 27 _ 9 88 infoOp rfl (by decide) (by decide) Tryz.underlying27 (hIw.below hbA) ⟨w1.heap.size, 0, none⟩ 1 1 (opCs o) rfl (new_cells (W := w1) (opCs o) _ rfl) (by intro u hu; simp [opCs] at hu; rcases hu with rfl | rfl | rfl | rfl | rfl | rfl | rfl | rfl | rfl <;> rfl) hn
  obtain ⟨b', hI3, hu3, hb3⟩ := hA
  obtain ⟨a3, c3, rfl⟩ := hI3.slice
  have cW := And.intro (hRw.rd 7) (And.intro (hSw.rd k) hb0.rd)
  have neR : pb ≠ some rb := hI.neT hR (by decide)
  have neS : pb ≠ some sb := hI.neT hS (fun e => hT e.symm)
  have neB : pb ≠ some w.heap.size := fun e => by have := hI.lt _ e; omega
  have hRA := Blk.below hbA hRw hRw.lt
  have hSA := Blk.below hbA hSw hSw.lt
  have hBA := Blk.below hbA hb0 hb0.lt
  have hRC := Blk.upd hu3 hRA neR
  have hSC := Blk.upd hu3 hSA neS
  have hBC := Blk.upd hu3 hBA neB
  rw [h7] at cW
  rw [hk] at cW
  have cA := And.intro (hRA.rd 7) (And.intro (hSA.rd k) hBA.rd)
  rw [h7, hk] at cA
  have cC := And.intro (hRC.rd 7) (And.intro (hSC.rd k) hBC.rd)
  rw [h7, hk] at cC
  have hnf := hSC.nf k
  have hcc := cC.2.1
  have HE := Lib.hid (And.intro hbw (And.intro hbA (And.intro hI3 (And.intro hu3 hb3))))
  have CW := Lib.hid cW
  have CA := Lib.hid cA
  have CC := Lib.hid cC
  have HS := Lib.hid (And.intro hcc hnf)
  clear cW cA cC hbw hb0 hR hS hT hk hI hn h7 hRw hSw hIw hbA hI3 hu3 hb3 neR neS neB hRA hSA hBA hRC hSC hBC hnf hcc HK HB
  simp only [opCs] at CW CA CC hrun HE
  refine region_K 11 12 14 w1.drew ((w1.alloc (.cells #[.int .i64 o.k, .int .i64 o.a, .int .i64 o.b, .int .i64 o.c, .int .i64 o.y, .int .i64 o.p, .int .i64 o.q, .string (B o.s), .string (B o.t)] 25)).drew) WC (WC.setCell ⟨sb, k, none⟩ (.slice a3 (n + 1) c3)) rfl (by kernel_rfl) (by kernel_rfl) ?_
  apply wpJ_op rfl (by rfl)
  · intro f w1 hf hJ Q1 hQ
    simp only [Act.put, List.setIfInBounds_toArray, List.set_cons_zero, List.set_cons_succ] at hQ
    go_wp2_with (fail)
    exact hQ _ _ rfl (hJ.other rfl hf (by decide) (by decide) (by decide))
  simp only [Act.put, List.setIfInBounds_toArray, List.set_cons_zero, List.set_cons_succ]
  apply wpJ_op rfl (by rfl)
  · intro f w1 hf hJ Q1 hQ
    simp only [Act.put, List.setIfInBounds_toArray, List.set_cons_zero, List.set_cons_succ] at hQ
    go_wp2_with (fail)
    exact hQ _ _ rfl (hJ.other rfl hf (by decide) (by decide) (by decide))
  simp only [Act.put, List.setIfInBounds_toArray, List.set_cons_zero, List.set_cons_succ]
  apply wpJ_op rfl (by rfl)
  · intro f w1 hf hJ Q1 hQ
    simp only [Act.put, List.setIfInBounds_toArray, List.set_cons_zero, List.set_cons_succ] at hQ
    go_wp2_with (fail)
    exact hQ _ _ rfl (hJ.other rfl hf (by decide) (by decide) (by decide))
  simp only [Act.put, List.setIfInBounds_toArray, List.set_cons_zero, List.set_cons_succ]
  apply wpJ_op rfl (by rfl)
  · intro f w1 hf hJ Q1 hQ
    have hS : f 14 = false := path_no hJ.1 [13, 3] (by kernel_rfl) (by decide) hf.1
    have hF := hJ.pre (F := (fun x : World => x.cell? ⟨rb, 7, none⟩ = some (.pointer (some ⟨sb, k, none⟩)) ∧ x.cell? ⟨sb, k, none⟩ = some (.slice a0 n c0) ∧ ∀ j, x.cell? ⟨w.heap.size, j, none⟩ = [Value.int .i64 o.k, .int .i64 o.a, .int .i64 o.b, .int .i64 o.c, .int .i64 o.y, .int .i64 o.p, .int .i64 o.q, .string (B o.s), .string (B o.t)].toArray[j]?)) hS CW.out CA.out CC.out
    have g1 := hF.1
    clear hF
    simp only [Act.put, List.setIfInBounds_toArray, List.set_cons_zero, List.set_cons_succ] at hQ
    go_wp2_with (fail)
    exact hQ _ _ rfl (hJ.other rfl hf (by decide) (by decide) (by decide))
  simp only [Act.put, List.setIfInBounds_toArray, List.set_cons_zero, List.set_cons_succ]
  apply wpJ_op rfl (by rfl)
  · intro f w1 hf hJ Q1 hQ
    simp only [Act.put, List.setIfInBounds_toArray, List.set_cons_zero, List.set_cons_succ] at hQ
    go_wp2_with (fail)
    exact hQ _ _ rfl (hJ.other rfl hf (by decide) (by decide) (by decide))
  simp only [Act.put, List.setIfInBounds_toArray, List.set_cons_zero, List.set_cons_succ]
  apply wpJ_op rfl (by rfl)
  · intro f w1 hf hJ Q1 hQ
    simp only [Act.put, List.setIfInBounds_toArray, List.set_cons_zero, List.set_cons_succ] at hQ
    go_wp2_with (fail)
    exact hQ _ _ rfl (hJ.other rfl hf (by decide) (by decide) (by decide))
  simp only [Act.put, List.setIfInBounds_toArray, List.set_cons_zero, List.set_cons_succ]
  apply wpJ_op rfl (by rfl)
  · intro f w1 hf hJ Q1 hQ
    simp only [Act.put, List.setIfInBounds_toArray, List.set_cons_zero, List.set_cons_succ] at hQ
    go_wp2_with (fail)
    exact hQ _ _ rfl (hJ.other rfl hf (by decide) (by decide) (by decide))
  simp only [Act.put, List.setIfInBounds_toArray, List.set_cons_zero, List.set_cons_succ]
  apply wpJ_op rfl (by rfl)
  · intro f w1 hf hJ Q1 hQ
    have hS : f 14 = false := path_no hJ.1 [12, 9, 8, 7] (by kernel_rfl) (by decide) hf.1
    have hF := hJ.pre (F := (fun x : World => x.cell? ⟨rb, 7, none⟩ = some (.pointer (some ⟨sb, k, none⟩)) ∧ x.cell? ⟨sb, k, none⟩ = some (.slice a0 n c0) ∧ ∀ j, x.cell? ⟨w.heap.size, j, none⟩ = [Value.int .i64 o.k, .int .i64 o.a, .int .i64 o.b, .int .i64 o.c, .int .i64 o.y, .int .i64 o.p, .int .i64 o.q, .string (B o.s), .string (B o.t)].toArray[j]?)) hS CW.out CA.out CC.out
    have g1 := hF.1
    clear hF
    simp only [Act.put, List.setIfInBounds_toArray, List.set_cons_zero, List.set_cons_succ] at hQ
    go_wp2_with (fail)
    exact hQ _ _ rfl (hJ.other rfl hf (by decide) (by decide) (by decide))
  simp only [Act.put, List.setIfInBounds_toArray, List.set_cons_zero, List.set_cons_succ]
  apply wpJ_op rfl (by rfl)
  · intro f w1 hf hJ Q1 hQ
    simp only [Act.put, List.setIfInBounds_toArray, List.set_cons_zero, List.set_cons_succ] at hQ
    go_wp2_with (fail)
    exact hQ _ _ rfl (hJ.other rfl hf (by decide) (by decide) (by decide))
  simp only [Act.put, List.setIfInBounds_toArray, List.set_cons_zero, List.set_cons_succ]
  apply wpJ_op rfl (by rfl)
  · intro f w1 hf hJ Q1 hQ
    have hS : f 14 = false := path_no hJ.1 [12, 9] (by kernel_rfl) (by decide) hf.1
    have hF := hJ.pre (F := (fun x : World => x.cell? ⟨rb, 7, none⟩ = some (.pointer (some ⟨sb, k, none⟩)) ∧ x.cell? ⟨sb, k, none⟩ = some (.slice a0 n c0) ∧ ∀ j, x.cell? ⟨w.heap.size, j, none⟩ = [Value.int .i64 o.k, .int .i64 o.a, .int .i64 o.b, .int .i64 o.c, .int .i64 o.y, .int .i64 o.p, .int .i64 o.q, .string (B o.s), .string (B o.t)].toArray[j]?)) hS CW.out CA.out CC.out
    have g1 := hF.2.1
    clear hF
    simp only [Act.put, List.setIfInBounds_toArray, List.set_cons_zero, List.set_cons_succ] at hQ
    go_wp2_with (fail)
    exact hQ _ _ rfl (hJ.other rfl hf (by decide) (by decide) (by decide))
  simp only [Act.put, List.setIfInBounds_toArray, List.set_cons_zero, List.set_cons_succ]
  apply wpJ_op rfl (by rfl)
  · intro f w1 hf hJ Q1 hQ
    have hA : f 11 = false := path_no hJ.1 [10] (by kernel_rfl) (by decide) hf.1
    have hC : f 12 = false := path_no hJ.1 [11] (by kernel_rfl) (by decide) hA
    have hS : f 14 = false := path_no hJ.1 [12] (by kernel_rfl) (by decide) hC
    rw [hJ.atA hA hC hS]
    have hF := CW.out
    have g1 := hF.2.2
    clear hF
    simp only [Act.put, List.setIfInBounds_toArray, List.set_cons_zero, List.set_cons_succ] at hQ
    go_wp2_with (fail)
    exact hQ _ _ rfl (by have h9 := hJ.other rfl hf (by decide) (by decide) (by decide); rwa [hJ.atA hA hC hS] at h9)
  simp only [Act.put, List.setIfInBounds_toArray, List.set_cons_zero, List.set_cons_succ]
  apply wpJ_op rfl (by rfl)
  · intro f w1 hf hJ Q1 hQ
    have hC : f 12 = false := path_no hJ.1 [11] (by kernel_rfl) (by decide) hf.1
    have hS : f 14 = false := path_no hJ.1 [12] (by kernel_rfl) (by decide) hC
    rw [hJ.atA hf.1 hC hS]
    simp only [Act.put, List.setIfInBounds_toArray, List.set_cons_zero, List.set_cons_succ] at hQ
    go_wp2_with (fail)
    exact hQ _ _ rfl (hJ.goA rfl hf hC hS (by decide) (by decide))
  simp only [Act.put, List.setIfInBounds_toArray, List.set_cons_zero, List.set_cons_succ]
  apply wpJ_op rfl (by rfl)
  · intro f w1 hf hJ Q1 hQ
    have hS : f 14 = false := path_no hJ.1 [12] (by kernel_rfl) (by decide) hf.1
    have hA : f 11 = true := up_dep hf 11 (by kernel_rfl)
    rw [hJ.atC hA hf.1 hS]
    simp only [Act.put, List.setIfInBounds_toArray, List.set_cons_zero, List.set_cons_succ] at hQ
    go_wp2_with (at_builtin; refine wp_appX rfl _ _ 27 rfl rfl rfl hrun ?_)
    exact hQ _ _ rfl (hJ.goC rfl hf hS (by decide))
  simp only [Act.put, List.setIfInBounds_toArray, List.set_cons_zero, List.set_cons_succ]
  apply wpJ_op rfl (by rfl)
  · intro f w1 hf hJ Q1 hQ
    simp only [Act.put, List.setIfInBounds_toArray, List.set_cons_zero, List.set_cons_succ] at hQ
    go_wp2_with (fail)
    exact hQ _ _ rfl (hJ.other rfl hf (by decide) (by decide) (by decide))
  simp only [Act.put, List.setIfInBounds_toArray, List.set_cons_zero, List.set_cons_succ]
  apply wpJ_op (v := undef) rfl (by rfl)
  · intro f w1 hf hJ Q1 hQ
    have hC : f 12 = true := up_dep hf 12 (by kernel_rfl)
    rw [hJ.atS hC hf.1]
    obtain ⟨e1, e2⟩ := HS.out
    simp only [Act.put, List.setIfInBounds_toArray, List.set_cons_zero, List.set_cons_succ] at hQ
    go_wp2_with (fail)
    exact hQ _ _ rfl (hJ.goS rfl hf)
  simp only [Act.put, List.setIfInBounds_toArray, List.set_cons_zero, List.set_cons_succ]
  refine wpJ_nil ?_
  intro w9 hJ9
  rw [hJ9.fin rfl]
  clear hJ9
  go_wp2_with (fail)
  go_ret
  refine ⟨rfl, _, _, WC, HE.out.1.trans (HE.out.2.1.mono HE.out.1.size), ⟨b', HE.out.2.2.1, HE.out.2.2.2.1, HE.out.2.2.2.2⟩, rfl⟩
end Go.Proofs.YtefaaginedideaaGreatDoor
