/-
  slices.SortFunc over a row of items of the call's own, out of the shelf.
-/
import Derived.Test.YtpajebedeacpgaaHeapU
import Derived.Test.YtpajebedeacpgaaShelf
namespace Go.Proofs.Ytpajebedeacpgaa
set_option linter.unusedSimpArgs false
set_option linter.unusedVariables false
open Go.RowKit Go.Lib Own
open RegJ hiding Up
open RegF hiding put_size

/-- only draws, and new blocks -/
def GrownE (w w' : World) : Prop := ∃ q os, w' = Sort.grow (w.drewN q) os
theorem GrownE.refl (w : World) : GrownE w w := ⟨0, #[], by simp; rfl⟩
theorem GrownE.alloc {w w' : World} (h : GrownE w w') (o : Obj) : GrownE w (w'.alloc o) := by
  obtain ⟨q, os, rfl⟩ := h
  exact ⟨q, os ++ #[o], by rw [Sort.alloc_eq_grow, Sort.grow_grow]⟩
theorem GrownE.drew {w w' : World} (h : GrownE w w') : GrownE w w'.drew := by
  obtain ⟨q, os, rfl⟩ := h
  exact ⟨q + 1, os, by rw [Sort.drew_grow]; rfl⟩
set_option maxRecDepth 100000 in
theorem before_grow (a b c d : Int) (w : World) : Calls Try.prog 52 #[.agg #[.int .i64 a, .int .i64 b], .agg #[.int .i64 c, .int .i64 d]] w fun e w' => e = .returned (.int .i64 (befF (a, b) (c, d))) ∧ GrownE w w' := by
  go_enter Try.func52, Try.ntmps52
  go_wp2
  refine region_J (J1 10 (fun u w' => GrownE w w' ∧ Blk w' w.heap.size #[.int .i64 a, .int .i64 b] 72 ∧ Blk w' (w.heap.size + 1) #[.int .i64 c, .int .i64 d] 72 ∧ BefS w u (cmpF b d) (cmpF a c) w')) (by kernel_rfl) (by kernel_rfl) ?_ ?_
  · exact ⟨(((GrownE.refl w).alloc _).alloc _).drew, ((Blk.new _ _ _).alloc _).drew, (Blk.new' (by simp)).drew, ⟨fun h => (by cases h), fun _ => (by simp [World.drew])⟩⟩
  · iterate 10
      apply wpJ_op rfl (by rfl)
      · intro f w' hf hJ Q1 hQ
        have hK := hJ
        obtain ⟨hb, h1, h2, h3⟩ := hJ
        have c1 := h1.rd
        have c2 := h2.rd
        simp only [Act.put, List.setIfInBounds_toArray, List.set_cons_zero, List.set_cons_succ] at hQ
        go_wp2_with (go_at_call 38; refine (compare_is _ _ _).mono ?_; rintro e w2 ⟨rfl, rfl⟩)
        exact hQ _ _ rfl (hK.other (by decide))
      simp only [Act.put, List.setIfInBounds_toArray, List.set_cons_zero, List.set_cons_succ]
    apply wpJ_op rfl (by rfl)
    · intro f w' hf hJ Q1 hQ
      have hK := hJ
      obtain ⟨hb, h1, h2, h3⟩ := hJ
      simp only [Act.put, List.setIfInBounds_toArray, List.set_cons_zero, List.set_cons_succ] at hQ
      have hz := h3.size hf.1
      go_wp2
      exact hQ _ _ rfl (J1.fin ⟨hb.alloc _, h1.alloc _, h2.alloc _, h3.mk' hf.1⟩)
    simp only [Act.put, List.setIfInBounds_toArray, List.set_cons_zero, List.set_cons_succ]
    apply wpJ_op rfl (by rfl)
    · intro f w' hf hJ Q1 hQ
      have hK := hJ
      obtain ⟨hb, h1, h2, h3⟩ := hJ
      simp only [Act.put, List.setIfInBounds_toArray, List.set_cons_zero, List.set_cons_succ] at hQ
      have hu := up_dep hf 10 (by kernel_rfl)
      go_wp2_with (go_at_call 71; refine (or_is _ _ _ _ ((h3.two hu).cell rfl) ((h3.two hu).cell rfl)).mono ?_; rintro e w2 ⟨rfl, rfl⟩)
      exact hQ _ _ rfl (hK.other (by decide))
    simp only [Act.put, List.setIfInBounds_toArray, List.set_cons_zero, List.set_cons_succ]
    apply wpJ_op rfl (by rfl)
    · intro f w' hf hJ Q1 hQ
      have hK := hJ
      simp only [Act.put, List.setIfInBounds_toArray, List.set_cons_zero, List.set_cons_succ] at hQ
      go_wp2
      exact hQ _ _ rfl (hK.other (by decide))
    simp only [Act.put, List.setIfInBounds_toArray, List.set_cons_zero, List.set_cons_succ]
    refine wpJ_nil ?_
    intro w3 hJ3
    obtain ⟨hb, -⟩ := hJ3
    go_wp2
    go_ret
    exact ⟨rfl, hb⟩

/-! ### the order -/
def encI (a : It) : List Value := [.int .i64 a.1, .int .i64 a.2]
theorem lt_irr (a : It) : ¬ lt a a := by unfold lt; omega
theorem ltOf_bef (a b : It) : Go.Proofs.ltOf befF a b = decide (lt a b) := by unfold Go.Proofs.ltOf; exact befF_lt a b
theorem swo_bef : Sort.SWO (Go.Proofs.ltOf befF) where
  irrefl x := by rw [ltOf_bef]; simp [lt_irr]
  trans x y z h1 h2 := by
    rw [ltOf_bef, decide_eq_true_iff] at *
    unfold lt at *; omega
  ntrans x y z h1 h2 := by
    rw [ltOf_bef, decide_eq_false_iff_not] at *
    unfold lt at *; omega
theorem flat_at (d : Array It) (t : Nat) (h : t < d.size * 2) : (Sort.flatK encI 2 d)[t]! = (encI d[t / 2]!)[t % 2]! := Sort.get_flatK _ _ _ _ h
theorem flat_pcells (d : Array It) : (Sort.flatK encI 2 d).toList = pcells d.toList := by
  have hp := pcells_len d.toList
  apply List.ext_getElem
  · simp [hp]
  · intro t h1 h2
    have ht : t < d.size * 2 := by simpa using h1
    have h3 := flat_at d t ht
    rw [getElem!_pos _ t (by simpa using ht)] at h3
    rw [Array.getElem_toList, h3]
    have hj : t / 2 < d.toList.length := by simp; omega
    have hpa := pcells_at d.toList (t / 2) hj
    have hd : d.toList.getD (t / 2) (0, 0) = d[t / 2]! := by
      have hj' : t / 2 < d.size := by simpa using hj
      simp [hj', getElem!_pos]
    rw [hd] at hpa
    have h2' : (pcells d.toList)[t]? = some (pcells d.toList)[t] := List.getElem?_eq_getElem h2
    rcases Nat.mod_two_eq_zero_or_one t with hm | hm
    · have e : t / 2 * 2 = t := by omega
      rw [e] at hpa
      rw [hm]
      have := hpa.1.symm.trans h2'
      simpa [encI] using Option.some.inj this
    · have e : t / 2 * 2 + 1 = t := by omega
      rw [e] at hpa
      rw [hm]
      have := hpa.2.symm.trans h2'
      simpa [encI] using Option.some.inj this
theorem holds_its {w : World} {g : Nat} {xs : List It} {rest : List Value} (hB : Blk w g (pcells xs ++ rest).toArray 72) : Sort.HoldsK encI 2 w g 0 xs.toArray := by
  intro t ht
  have ht' : t < xs.toArray.size * 2 := by simpa using ht
  refine ⟨?_, hB.nf _⟩
  rw [Nat.zero_add, hB.rd]
  have hp := pcells_len xs
  have hf := flat_pcells xs.toArray
  simp only [List.getElem?_toArray]
  rw [List.getElem?_append_left (by rw [hp]; simpa using ht')]
  have e : (pcells xs)[t]? = some ((Sort.flatK encI 2 xs.toArray)[t]!) := by
    rw [show pcells xs = (Sort.flatK encI 2 xs.toArray).toList by rw [hf]]
    rw [Array.getElem?_toList, getElem!_pos _ t ht, Array.getElem?_eq_getElem ht]
  exact e
theorem blk_putRow {w : World} {g : Nat} {xs ys : List It} {rest : List Value} (hB : Blk w g (pcells xs ++ rest).toArray 72) (hl : ys.length = xs.length) (n : Nat) (os : Array Obj) :
    Blk (Go.Proofs.sortWorldK encI 2 w g 0 n ys.toArray os) g (pcells ys ++ rest).toArray 72 := by
  have hlt := hB.lt
  have hp := pcells_len xs
  have hp2 := pcells_len ys
  have hf := flat_pcells ys.toArray
  unfold Go.Proofs.sortWorldK Sort.grow Blk
  show ((Sort.putRowK encI 2 (Sort.ahead w n) g 0 ys.toArray).heap ++ os)[g]? = _
  have hs : g < (Sort.putRowK encI 2 (Sort.ahead w n) g 0 ys.toArray).heap.size := by rw [Sort.size_putRowK]; exact hlt
  rw [Array.getElem?_append_left hs]
  show ((Sort.ahead w n).heap.modify g _)[g]? = _
  rw [Array.getElem?_modify, if_pos rfl]
  show Option.map _ (w.heap[g]?) = _
  unfold Blk at hB
  rw [hB]
  simp only [Option.map_some, Sort.onCells]
  congr 2
  apply Array.ext_getElem?
  intro t
  unfold Sort.putCells
  rw [Array.getElem?_mapIdx]
  simp only [Nat.zero_le, true_and, Nat.zero_add, Nat.sub_zero, List.getElem?_toArray, id]
  by_cases ht : t < ys.length * 2
  · rw [List.getElem?_append_left (by omega), List.getElem?_append_left (by omega)]
    have h1 : (pcells xs)[t]? = some ((pcells xs)[t]'(by omega)) := List.getElem?_eq_getElem (by omega)
    rw [h1]
    simp only [Option.map_some]
    rw [if_pos (by simpa using ht)]
    rw [show pcells ys = (Sort.flatK encI 2 ys.toArray).toList by rw [hf]]
    rw [Array.getElem?_toList, getElem!_pos _ t (by simpa using ht), Array.getElem?_eq_getElem (by simpa using ht)]
  · rw [List.getElem?_append_right (by omega), List.getElem?_append_right (by omega), hp, hp2, hl]
    have : ¬ t < (Sort.flatK encI 2 ys.toArray).size := by simpa using ht
    cases rest[t - xs.length * 2]? <;> simp [this]
    intro h; exact absurd (by simpa using h) ht
/-- in order -/
def InOrder (ys : List It) : Prop := ys.Pairwise le
theorem sorted_list {d : Array It} (h : Sort.SortedIn (Go.Proofs.ltOf befF) 0 d.size d) : InOrder d.toList := by
  unfold InOrder
  rw [List.pairwise_iff_getElem]
  intro i j hi hj hij
  have hi' : i < d.size := by simpa using hi
  have hj' : j < d.size := by simpa using hj
  have := h i j (Nat.zero_le _) hij hj'
  rw [ltOf_bef, decide_eq_false_iff_not, getElem!_pos _ i hi', getElem!_pos _ j hj'] at this
  unfold le
  simpa using this
def SortM (b : Option Nat) (xs : List It) (v : Value) (w : World) (e : Ending) (w' : World) : Prop := (∃ r, e = .returned r) ∧ ∃ ys, ys.Perm xs ∧ InOrder ys ∧ Its w' v ys b ∧ Upd (fun k => b = some k) w w'
theorem cmp_lays (g size : Nat) (w : World) : Go.Proofs.CmpLays Try.prog 52 #[] encI 2 befF g 0 size w := fun m os dk _ x y => before_grow x.1 x.2 y.1 y.2 _
theorem sort_some {w : World} {g cap : Nat} {xs : List It} {rest : List Value} (hB : Blk w g (pcells xs ++ rest).toArray 72) (hc : cap * 2 = (pcells xs ++ rest).length) (hm : cap ≤ maxLen) (hlen : xs.length ≤ 2000) :
    Calls Try.prog 51 #[.slice (some ⟨g, 0, none⟩) xs.length cap, .func (.func 52) #[] #[]] w (SortM (some g) xs (.slice (some ⟨g, 0, none⟩) xs.length cap) w) := by
  have eg : ∀ args w, (callFunc 52 args).run Try.prog w = .ok (.enter 52 args) w := enters_of Try.func52 (by kernel_rfl) rfl
  have hcon := AnyQ.slices_SortFunc Try.sortItems 2 (fun w => by kernel_rfl) (fun w => by kernel_rfl) encI (fun _ => rfl) (fun x v hv => by simp [encI] at hv; rcases hv with rfl | rfl <;> rfl) befF swo_bef 52 #[] g 0 cap xs.toArray w eg (cmp_lays g _ w) (holds_its hB) hB.lt (by simp; omega)
  change Calls Try.prog 51 _ _ _ at hcon
  rw [List.size_toArray] at hcon
  refine hcon.mono ?_
  rintro e w' ⟨rfl, d', n, os, hp, hs, rfl⟩
  have hsz : d'.size = xs.length := by have := hp.1; simpa using this
  have hperm : d'.toList.Perm xs := by
    have := hp.2.2
    have e1 : d'.extract 0 xs.length = d' := by rw [← hsz]; exact Array.extract_size
    have e2 : xs.toArray.extract 0 xs.length = xs.toArray := by
      simp
    rw [e1, e2] at this; simpa using this
  have hB2 := blk_putRow (ys := d'.toList) hB (by simpa using hsz) n os
  have e3 : d'.toList.toArray = d' := by simp
  rw [e3] at hB2
  refine ⟨⟨_, rfl⟩, d'.toList, hperm, sorted_list (by rw [hsz]; exact hs), Or.inr ⟨g, cap, rest, by rw [hperm.length_eq], rfl, hB2, ?_, hm⟩, ?_⟩
  · rw [hc, List.length_append, List.length_append, pcells_len, pcells_len, hperm.length_eq]
  · refine ⟨rfl, rfl, rfl, ?_, fun k hk hf => ?_⟩
    · exact Go.Proofs.size_sortWorldK_c encI 2 w g 0 n d' os
    · show ((Sort.putRowK encI 2 (Sort.ahead w n) g 0 d').heap ++ os)[k]? = _
      rw [Array.getElem?_append_left (by rw [Sort.size_putRowK]; exact hk)]
      show ((Sort.ahead w n).heap.modify g _)[k]? = _
      rw [Array.getElem?_modify, if_neg (fun e => hf (by rw [e]))]
      rfl
end Go.Proofs.Ytpajebedeacpgaa
