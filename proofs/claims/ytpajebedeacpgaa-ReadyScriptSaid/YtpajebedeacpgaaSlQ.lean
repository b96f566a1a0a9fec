/-
  The library's functions on rows of integers that a call owns: BinarySearch of a rising row, Insert of one, DeleteFunc. Out of the shelf's contracts.
-/
import Derived.Test.YtpajebedeacpgaaOwn
import Derived.Test.YtpajebedeacpgaaShelf
import Derived.Lib.SliceRun
namespace Go.Proofs.Ytpajebedeacpgaa.Sl
set_option linter.unusedSimpArgs false
set_option linter.unusedVariables false
open Go.RowKit Go.Lib Go.Sort Go.Proofs.Ytpajebedeacpgaa.RegJ Go.Proofs.Ytpajebedeacpgaa.Own

theorem bsearch_any {w : World} {v : Value} {xs : List Int} {b : Option Nat} (h : Ints w 3 v xs b) (x : Int) (hs : xs.length < 4611686018427387904) (hp : xs.Pairwise (· ≤ ·)) :
    Calls Try.prog 56 #[v, .int .i64 x] w fun e w' => e = .returned (.tuple #[.int .i64 (xs.countP (· < x) : Nat), .bool (xs.contains x)]) ∧ ∃ q, w' = w.drewN q := by
  rcases h with ⟨rfl, rfl, rfl⟩ | ⟨g, cap, rest, rfl, rfl, hB, hc, hm⟩
  · exact (Try.slices_BinarySearch_int_empty none 0 x w).mono fun e w' ⟨h1, h2⟩ => ⟨h1, 0, h2⟩
  · refine (Try.slices_BinarySearch_int g 0 xs.length cap xs x w (Nat.le_refl _) hs (fun j hj => Ints.cells hB j hj) (by rw [List.take_length]; exact hp)).mono fun e w' ⟨h1, h2⟩ => ⟨?_, h2⟩
    rw [h1, List.take_length]

theorem one_cells (xs : List Int) : ∀ v ∈ icells xs, v.oneCell' = true := by
  intro v hv
  obtain ⟨x, _, rfl⟩ := List.mem_map.1 hv
  rfl
theorem Ints.made {w0 : World} {E : TypeId} {arr : Array Value} {xs : List Int} {rest : List Value} {n cap : Nat} (harr : arr = (icells xs ++ rest).toArray) (hn : n = xs.length) (hcap : arr.size = cap) (hm : cap ≤ maxLen) :
    Ints (w0.alloc (.cells arr E)) E (.slice (some ⟨w0.heap.size, 0, none⟩) n cap) xs (some w0.heap.size) := by
  subst harr hn
  exact Or.inr ⟨_, cap, rest, rfl, rfl, Blk.new _ _ _, by rw [← hcap]; simp, hm⟩
theorem zeroCells_size (z : Value) (n : Nat) (h : z.cells.size = 1) : (Builtin.zeroCells z.cells n).size = n := by
  simp [Builtin.zeroCells, h]
theorem icells_insert (xs : List Int) (i : Nat) (x : Int) : icells (xs.take i ++ x :: xs.drop i) = (icells xs).take i ++ [Value.int .i64 x] ++ (icells xs).drop i := by
  simp [icells, List.map_take, List.map_drop]
theorem list_shift (A D R : List Value) (v y : Value) (i : Nat) (hA : A.length = i) : (A ++ [y] ++ D ++ R).take i ++ [v] ++ (A ++ [y] ++ D ++ R).drop (i + 1) = A ++ [v] ++ D ++ R := by
  have e : A ++ [y] ++ D ++ R = A ++ (y :: (D ++ R)) := by simp
  rw [e, List.take_left' hA, ← hA, List.drop_append]
  simp
theorem take_put (A B : List Value) (v : Value) (i : Nat) (h : A.length = i) : (A ++ [v] ++ B).take (i + 1) = A ++ [v] := by
  rw [List.take_left' (by simp [h])]
/-- Insert of one integer, which lies in a block of one cell (vb), at place i. -/
theorem insert_any {w : World} {v : Value} {xs : List Int} {b : Option Nat} (h : Ints w 3 v xs b) (i : Nat) (hi : i ≤ xs.length) (x : Int) (vb vc : Nat) (hv : Blk w vb #[.int .i64 x] 3) (hvb : ∀ g, b = some g → vb ≠ g) (hs : (xs.length + 1) * 8 ≤ 140737488355328) :
    Calls Try.prog 57 #[v, .int .i64 i, .slice (some ⟨vb, 0, none⟩) 1 vc] w fun e w' => ∃ v' b', e = .returned v' ∧ Ints w' 3 v' (xs.take i ++ x :: xs.drop i) b' ∧ Upd (fun k => b = some k) w w' ∧ (∀ g, b' = some g → b = some g ∨ w.heap.size ≤ g) := by
  have hvs : ∀ j v, [Value.int .i64 x][j]? = some v → w.cell? ⟨vb, 0 + j, none⟩ = some v := fun j v hj => by
    rw [hv.rd, Nat.zero_add]; simpa using hj
  have h1v : ∀ v ∈ [Value.int .i64 x], v.oneCell' = true := fun v hv => by
    obtain rfl : v = .int .i64 x := by simpa using hv
    rfl
  have hsm : xs.length + 1 ≤ maxLen := by unfold maxLen; omega
  have hlen : (xs.take i ++ x :: xs.drop i).length = xs.length + 1 := by simp; omega
  rcases h with ⟨rfl, rfl, rfl⟩ | ⟨g, cap, rest, rfl, rfl, hB, hc, hm⟩
  · obtain rfl : i = 0 := by simpa using hi
    refine (Any2.slices_Insert_int_end_grow Try.laysNm221 none 0 0 vb 0 1 vc [] [.int .i64 x] w (by decide) (by decide) (by decide) (by decide) rfl rfl (fun _ => rfl) (fun a ha => by cases ha) hvs h1v).mono fun e w' ⟨h1, h2⟩ => ?_
    have hg := grownCap_ge w (0 + 1) 0 3
    replace h2 : w' = w.drew.alloc (.cells (([] ++ [Value.int .i64 x]).toArray ++ Builtin.zeroCells (Value.int .i64 0).cells (grownCap w (0 + 1) 0 3 - (0 + 1))) 3) := h2
    refine ⟨_, some w.heap.size, h1, ?_, ?_, fun g hg => Or.inr (by cases hg; exact Nat.le_refl _)⟩
    · rw [h2]
      refine Ints.made (w0 := w.drew) (rest := (Builtin.zeroCells (Value.int .i64 0).cells (grownCap w (0 + 1) 0 3 - (0 + 1))).toList) ?_ rfl ?_ (grownCap_le_maxLen _ _ _ _ (by decide))
      · apply Array.toList_inj.1; simp [icells]
      · rw [Array.size_append, zeroCells_size _ _ rfl]
        simp only [List.size_toArray, List.length_append, List.length_nil, List.length_singleton]
        show 0 + 1 + (grownCap w (0 + 1) 0 3 - (0 + 1)) = grownCap w (0 + 1) 0 3
        omega
    · rw [h2]; exact ((Upd.refl _ w).drew).alloc _
  · have hcl : (icells xs).length = xs.length := by simp
    have hcs : ∀ j v, (icells xs)[j]? = some v → w.cell? ⟨g, 0 + j, none⟩ = some v := fun j v hj => by
      have hjl : j < xs.length := by have := (List.getElem?_eq_some_iff.1 hj).1; simpa using this
      rw [Ints.cells hB j hjl, ← getD_cells xs j hjl, hj]
    have hcap : cap = xs.length + rest.length := by rw [hc]; simp
    have hm2 := hm
    unfold maxLen at hm2
    have hall : ∀ j, j < cap → (w.cell? ⟨g, 0 + j, none⟩).isSome = true := fun j hj => by
      rw [hB.rd, Nat.zero_add]; simp; omega
    have hnf : ∀ j, w.frozen? ⟨g, 0 + j, none⟩ = false := fun j => hB.nf _
    by_cases hroom : xs.length + 1 ≤ cap
    · by_cases hin : i < xs.length
      · refine (Any2.slices_Insert_int_shift Try.laysNm221 g 0 xs.length cap i vb 0 1 vc (icells xs) [.int .i64 x] w hin (by decide) hroom hm2 (hvb g rfl) hcl rfl hcs (fun j hj => hall j (by omega)) (fun j _ => hnf j) hvs (one_cells xs) h1v 3 3 1 cap
          (by have := hv; unfold Blk at this; simp [World.shape?, this]) (by have := hB; unfold Blk at this; simp [World.shape?, this, hcap]) (by omega) (hv.nf _) (hv.nf _)).mono fun e w' ⟨h1, h2⟩ => ?_
        have hB0 : Blk w.drew g (icells xs ++ rest).toArray 3 := hB
        have hB1 := Blk.sets ((icells xs).drop i) _ (0 + (i + 1)) hB0 (by simp; omega)
        have hB2 := Blk.sets [.int .i64 x] _ (0 + i) hB1 (by simp; omega)
        rw [← h2] at hB2
        refine ⟨_, some g, h1, Or.inr ⟨g, cap, rest.drop 1, by rw [hlen], rfl, Blk.of hB2 ?_, by rw [hcap]; simp; omega, hm⟩, ?_, fun g' hg' => Or.inl hg'⟩
        · congr 1
          rw [icells_insert]
          have e1 : List.take (0 + (i + 1)) (icells xs ++ rest) = (icells xs).take i ++ [(icells xs ++ rest)[i]'(by simp; omega)] := by
            rw [Nat.zero_add, List.take_succ_eq_append_getElem (by simp; omega), List.take_append_of_le_length (by simp; omega)]
          have e2 : List.drop (0 + (i + 1) + ((icells xs).drop i).length) (icells xs ++ rest) = rest.drop 1 := by
            have e3 : 0 + (i + 1) + ((icells xs).drop i).length = (icells xs).length + 1 := by simp; omega
            rw [e3, List.drop_append]
            simp
          rw [e1, e2, Nat.zero_add]
          have hA : ((icells xs).take i).length = i := by simp; omega
          exact list_shift _ _ _ _ _ _ hA
        · rw [h2]
          refine Upd.sets _ _ _ _ (Upd.sets _ _ _ _ ((Upd.refl _ w).drew) (fun _ => rfl)) (fun _ => rfl)
      · obtain rfl : i = xs.length := by omega
        refine (Any2.slices_Insert_int_end_room Try.laysNm221 g 0 xs.length cap vb 0 1 vc [.int .i64 x] w (by decide) hroom hm2 rfl (fun j hj => by have := hall (xs.length + j) (by omega); rw [Nat.add_assoc]; exact this) (fun j _ => hB.nf _) hvs h1v).mono fun e w' ⟨h1, h2⟩ => ?_
        have hB1 := Blk.sets [.int .i64 x] _ (0 + xs.length) hB (by simp; omega)
        rw [← h2] at hB1
        refine ⟨_, some g, h1, Or.inr ⟨g, cap, rest.drop 1, by rw [hlen], rfl, Blk.of hB1 ?_, by rw [hcap]; simp; omega, hm⟩, ?_, fun g' hg' => Or.inl hg'⟩
        · congr 1
          rw [icells_insert, Nat.zero_add, List.take_left' hcl]
          have e3 : xs.length + [Value.int IntKind.i64 x].length = (icells xs).length + 1 := by simp
          rw [e3, List.drop_append, List.take_of_length_le (by simp), List.drop_of_length_le (by simp)]
          simp
        · rw [h2]; exact Upd.sets _ _ _ _ (Upd.refl _ w) (fun _ => rfl)
    · by_cases hin : i < xs.length
      · refine (Any2.slices_Insert_int_grow Try.laysNm221 g 0 xs.length cap i vb 0 1 vc (icells xs) [.int .i64 x] w hin (by decide) (by omega) (by omega) hs hcl rfl hcs hvs (one_cells xs) h1v).mono fun e w' ⟨h1, h2⟩ => ?_
        have hg := grownCap_ge w (xs.length + 1) cap 3
        have hgm := grownCap_le_maxLen w (xs.length + 1) cap 3 hsm
        obtain ⟨Z1, hZ1, hz1⟩ : ∃ Z1, (Builtin.zeroCells (Value.int .i64 0).cells (xs.length + 1 - i)).toList = Z1 ∧ Z1.length = xs.length + 1 - i := ⟨_, rfl, by rw [Array.length_toList, zeroCells_size _ _ rfl]⟩
        obtain ⟨Z2, hZ2, hz2⟩ : ∃ Z2, (Builtin.zeroCells (Value.int .i64 0).cells (grownCap w (xs.length + 1) cap 3 - (xs.length + 1))).toList = Z2 ∧ Z2.length = grownCap w (xs.length + 1) cap 3 - (xs.length + 1) := ⟨_, rfl, by rw [Array.length_toList, zeroCells_size _ _ rfl]⟩
        have hB0 : Blk ((w.alloc (.cells (((icells xs).take i).toArray ++ Builtin.zeroCells (Value.int .i64 0).cells (xs.length + 1 - i) ++ Builtin.zeroCells (Value.int .i64 0).cells (grownCap w (xs.length + 1) cap 3 - (xs.length + 1))) 3)).drew) w.heap.size ((icells xs).take i ++ Z1 ++ Z2).toArray 3 := by
          refine Blk.of (Blk.new _ _ _) ?_
          apply Array.toList_inj.1; simp [hZ1, hZ2]
        have hA : ((icells xs).take i).length = i := by simp; omega
        have hB1 := Blk.sets [.int .i64 x] _ i hB0 (by simp; omega)
        have hB2 := Blk.sets ((icells xs).drop i) _ (i + 1) hB1.drew (by simp; omega)
        rw [List.append_assoc ((icells xs).take i) Z1 Z2, List.take_left' hA, take_put _ _ _ _ hA] at hB2
        have hw : w' = (((w.alloc (.cells (((icells xs).take i).toArray ++ Builtin.zeroCells (Value.int .i64 0).cells (xs.length + 1 - i) ++ Builtin.zeroCells (Value.int .i64 0).cells (grownCap w (xs.length + 1) cap 3 - (xs.length + 1))) 3)).drew.setCells w.heap.size i [.int .i64 x]).drew).setCells w.heap.size (i + 1) ((icells xs).drop i) := h2
        rw [← hw] at hB2
        refine ⟨_, some w.heap.size, h1, Or.inr ⟨_, _, _, by rw [hlen]; rfl, rfl, Blk.of hB2 (by rw [icells_insert]), ?_, hgm⟩, ?_, fun g hg => Or.inr (by cases hg; exact Nat.le_refl _)⟩
        · simp [hz1, hz2]; omega
        · rw [hw]
          refine Upd.sets _ _ _ _ ((Upd.sets _ _ _ _ (((Upd.refl _ w).alloc _).drew) (fun hlt => by omega)).drew) (fun hlt => by omega)
      · obtain rfl : i = xs.length := by omega
        refine (Any2.slices_Insert_int_end_grow Try.laysNm221 (some ⟨g, 0, none⟩) xs.length cap vb 0 1 vc (icells xs) [.int .i64 x] w (by decide) (by omega) (by omega) hs hcl rfl (fun h => by cases h) (fun a ha j v hj => by cases ha; have := hcs j v hj; rw [Nat.zero_add] at this; rw [Addr.add_lit, Nat.zero_add]; exact this) hvs h1v).mono fun e w' ⟨h1, h2⟩ => ?_
        have hg := grownCap_ge w (xs.length + 1) cap 3
        replace h2 : w' = w.drew.alloc (.cells ((icells xs ++ [Value.int .i64 x]).toArray ++ Builtin.zeroCells (Value.int .i64 0).cells (grownCap w (xs.length + 1) cap 3 - (xs.length + 1))) 3) := h2
        refine ⟨_, some w.heap.size, h1, ?_, ?_, fun g hg => Or.inr (by cases hg; exact Nat.le_refl _)⟩
        · rw [h2]
          refine Ints.made (w0 := w.drew) (rest := (Builtin.zeroCells (Value.int .i64 0).cells (grownCap w (xs.length + 1) cap 3 - (xs.length + 1))).toList) ?_ hlen.symm ?_ (grownCap_le_maxLen _ _ _ _ hsm)
          · rw [icells_insert]
            apply Array.toList_inj.1; simp [icells, List.take_of_length_le, List.drop_of_length_le]
          · rw [Array.size_append, zeroCells_size _ _ rfl]
            simp only [List.size_toArray, List.length_append, hcl, List.length_singleton]
            show xs.length + 1 + (grownCap w (xs.length + 1) cap 3 - (xs.length + 1)) = grownCap w (xs.length + 1) cap 3
            omega
        · rw [h2]; exact ((Upd.refl _ w).drew).alloc _
theorem Blk.putRow {w : World} {b : Nat} {T : TypeId} {α : Type} [Inhabited α] {enc : α → Value} {l : List Value} {rest : List Value} (h : Blk w b (l ++ rest).toArray T) (d : List α) (hd : d.length = l.length) (q : Nat) :
    Blk (Sort.putRow enc (Sort.ahead w q) b 0 d.toArray) b (d.map enc ++ rest).toArray T := by
  unfold Blk at *
  show (w.heap.modify b _)[b]? = _
  rw [Array.getElem?_modify, if_pos rfl, h]
  simp only [Option.map_some, onCells]
  congr 2
  apply Array.ext_getElem?
  intro i
  unfold putCells
  rw [Array.getElem?_mapIdx]
  simp only [Nat.zero_le, true_and, Nat.zero_add, List.size_toArray, Nat.sub_zero, List.getElem?_toArray]
  by_cases hi : i < d.length
  · rw [List.getElem?_append_left (by rw [← hd]; exact hi), List.getElem?_append_left (by simpa using hi)]
    have hl : i < l.length := by rw [← hd]; exact hi
    rw [List.getElem?_eq_getElem hl]
    simp only [Option.map_some, if_pos hi, List.getElem?_map, List.getElem?_eq_getElem hi]
    rw [getElem!_pos _ i (by simpa using hi)]
    simp
  · rw [List.getElem?_append_right (by omega), List.getElem?_append_right (by simp; omega)]
    simp only [List.length_map, hd]
    have hi2 : ¬ i < l.length := by omega
    cases rest[i - l.length]? <;> simp [hi2]
theorem Upd.putRow {w : World} {b : Nat} {α : Type} [Inhabited α] {enc : α → Value} {d : Array α} {q : Nat} : Upd (fun k => some b = some k) w (Sort.putRow enc (Sort.ahead w q) b 0 d) := by
  refine ⟨rfl, rfl, rfl, ?_, fun k hk hf => ?_⟩
  · show w.heap.size ≤ (w.heap.modify b _).size
    simp
  · show (w.heap.modify b _)[k]? = _
    rw [Array.getElem?_modify, if_neg (fun e => hf (by rw [e]))]

theorem same_gives (t x : Int) (B : Nat) (W : World) (hc : W.cell? ⟨B, 0, none⟩ = some (.int .i64 t)) :
    FnGives Try.prog 45 #[.pointer (some ⟨B, 0, none⟩)] #[.int .i64 x] (.bool (x == t)) W := by
  show Calls Try.prog 45 #[.int .i64 x, .pointer (some ⟨B, 0, none⟩)] W _
  go_enter Try.func45, Try.ntmps45
  go_wp2
  all_goals (go_ret; exact ⟨by simp_all, 0, rfl⟩)
theorem same_pred (t : Int) (B : Nat) (w : World) (hB : B < w.heap.size) (hcell : w.cell? ⟨B, 0, none⟩ = some (.int .i64 t)) :
    PredAt Try.prog 45 #[.pointer (some ⟨B, 0, none⟩)] (Value.int .i64) (fun x => x == t) w :=
  fun W x hb => same_gives t x B W ((hb.cell (p := ⟨B, 0, none⟩) hB).trans hcell)
theorem same_over (t : Int) (B blk off size : Nat) (w : World) (hB : B < w.heap.size) (hne : B ≠ blk) (hcell : w.cell? ⟨B, 0, none⟩ = some (.int .i64 t)) :
    PredOver Try.prog 45 #[.pointer (some ⟨B, 0, none⟩)] (Value.int .i64) (fun x => x == t) blk off size w :=
  fun n os dk x _ => same_gives t x B _ (by
    unfold sortWorld
    rw [cell?_grow _ _ _ (by show B < (Sort.putRow _ _ _ _ _).heap.size; rw [size_putRow]; exact hB), cell?_putRow_other _ _ blk off _ _ (Or.inl hne)]
    exact hcell)
theorem enters_same : ∀ args w, (callFunc 45 args).run Try.prog w = .ok (.enter 45 args) w := enters_of Try.func45 (by kernel_rfl) rfl

/-- DeleteFunc: what equals t goes; t lies in a block of one cell (tb). -/
theorem delete_any {w : World} {v : Value} {xs : List Int} {b : Option Nat} (h : Ints w 3 v xs b) (hne : xs ≠ []) (t : Int) (tb : Nat) (ht : Blk w tb #[.int .i64 t] 3) (htb : ∀ g, b = some g → tb ≠ g) :
    Calls Try.prog 44 #[v, .func (.func 45) #[] #[.pointer (some ⟨tb, 0, none⟩)]] w fun e w' => ∃ v', e = .returned v' ∧ Ints w' 3 v' (xs.filter fun x => !(x == t)) b ∧ Upd (fun k => b = some k) w w' := by
  rcases h with ⟨rfl, rfl, rfl⟩ | ⟨g, cap, rest, rfl, rfl, hB, hc, hm⟩
  · exact absurd rfl hne
  · have hcl : (icells xs).length = xs.length := by simp
    have hcap : cap = xs.length + rest.length := by rw [hc]; simp
    have hm2 := hm
    unfold maxLen at hm2
    have hcell : w.cell? ⟨tb, 0, none⟩ = some (.int .i64 t) := by rw [ht.rd]; rfl
    have hH : Holds (Value.int .i64) w g 0 xs.toArray := fun j hj => by
      have hj' : j < xs.length := by simpa using hj
      refine ⟨?_, hB.nf _⟩
      rw [Ints.cells hB j hj']
      rw [getElem!_pos _ j hj]
      simp [hj']
    refine (Try.slices_DeleteFunc (Value.int .i64) (fun _ => rfl) (fun x => x == t) 45 #[.pointer (some ⟨tb, 0, none⟩)] enters_same 0 Try.zeroValue3 g 0 cap xs.toArray w
      (same_pred t tb w ht.lt hcell) (same_over t tb g 0 xs.toArray.size w ht.lt (htb g rfl) hcell) hH (by simp; omega) (by simp; omega)).mono fun e w' ⟨h1, q, h2⟩ => ?_
    have hfl : (xs.filter fun x => !(x == t)).length ≤ xs.length := List.length_filter_le _ _
    have hB2 := Blk.putRow (enc := Value.int .i64) hB ((xs.filter fun x => !(x == t)) ++ List.replicate (xs.length - (xs.filter fun x => !(x == t)).length) 0) (by simp; omega) q
    have hw : w' = Sort.putRow (Value.int .i64) (Sort.ahead w q) g 0 ((xs.filter fun x => !(x == t)) ++ List.replicate (xs.length - (xs.filter fun x => !(x == t)).length) 0).toArray := h2
    rw [← hw] at hB2
    refine ⟨_, h1, Or.inr ⟨g, cap, (List.replicate (xs.length - (xs.filter fun x => !(x == t)).length) (0 : Int)).map (Value.int .i64) ++ rest, rfl, rfl, Blk.of hB2 (by simp [icells]), ?_, hm⟩, ?_⟩
    · rw [hcap]; simp only [icells, List.length_append, List.length_map, List.length_replicate]; omega
    · rw [hw]; exact Upd.putRow
end Go.Proofs.Ytpajebedeacpgaa.Sl
