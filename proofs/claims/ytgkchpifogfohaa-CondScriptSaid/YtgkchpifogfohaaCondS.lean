/-
  DeleteFunc of one number, IndexFunc over the rows of the conditions: out of the shelf's contracts.
-/
import Derived.Test.YtgkchpifogfohaaSl
import Derived.Lib.SliceRun
namespace Go.Proofs.Ytgkchpifogfohaa.Sl
set_option linter.unusedSimpArgs false
set_option linter.unusedVariables false
open Go.RowKit Go.Lib Go.Sort Go.Proofs.Ytgkchpifogfohaa.RegJ Go.Proofs.Ytgkchpifogfohaa.Own

theorem Blk.putRow {w : World} {b : Nat} {T : TypeId} {α : Type} [Inhabited α] {enc : α → Value} {l : List Value} {rest : List Value} (h : Blk w b (l ++ rest).toArray T) (d : List α) (hd : d.length = l.length) (q : Nat) :
    Blk (Sort.putRow enc (Sort.ahead w q) b 0 d.toArray) b (d.map enc ++ rest).toArray T := by
  unfold Blk at *
  show (w.heap.modify b _)[b]? = _
  rw [Array.getElem?_modify, if_pos rfl, h]
  simp only [Option.map_some, onCells]
  congr 2
  apply Array.ext_getElem?
  intro i
  unfold putCells
  rw [Array.getElem?_mapIdx]
  simp only [Nat.zero_le, true_and, Nat.zero_add, List.size_toArray, Nat.sub_zero, List.getElem?_toArray]
  by_cases hi : i < d.length
  · rw [List.getElem?_append_left (by rw [← hd]; exact hi), List.getElem?_append_left (by simpa using hi)]
    have hl : i < l.length := by rw [← hd]; exact hi
    rw [List.getElem?_eq_getElem hl]
    simp only [Option.map_some, if_pos hi, List.getElem?_map, List.getElem?_eq_getElem hi]
    rw [getElem!_pos _ i (by simpa using hi)]
    simp
  · rw [List.getElem?_append_right (by omega), List.getElem?_append_right (by simp; omega)]
    simp only [List.length_map, hd]
    have hi2 : ¬ i < l.length := by omega
    cases rest[i - l.length]? <;> simp [hi2]
theorem Upd.putRow {w : World} {b : Nat} {α : Type} [Inhabited α] {enc : α → Value} {d : Array α} {q : Nat} : Upd (fun k => some b = some k) w (Sort.putRow enc (Sort.ahead w q) b 0 d) := by
  refine ⟨rfl, rfl, rfl, ?_, fun k hk hf => ?_⟩
  · show w.heap.size ≤ (w.heap.modify b _).size
    simp
  · show (w.heap.modify b _)[k]? = _
    rw [Array.getElem?_modify, if_neg (fun e => hf (by rw [e]))]

theorem same_gives (t x : Int) (B : Nat) (W : World) (hc : W.cell? ⟨B, 0, none⟩ = some (.int .i64 t)) :
    FnGives Try.prog 30 #[.pointer (some ⟨B, 0, none⟩)] #[.int .i64 x] (.bool (x == t)) W := by
  show Calls Try.prog 30 #[.int .i64 x, .pointer (some ⟨B, 0, none⟩)] W _
  go_enter Try.func30, Try.ntmps30
  go_wp2
  all_goals (go_ret; exact ⟨by simp_all, 0, rfl⟩)
theorem same_pred (t : Int) (B : Nat) (w : World) (hB : B < w.heap.size) (hcell : w.cell? ⟨B, 0, none⟩ = some (.int .i64 t)) :
    PredAt Try.prog 30 #[.pointer (some ⟨B, 0, none⟩)] (Value.int .i64) (fun x => x == t) w :=
  fun W x hb => same_gives t x B W ((hb.cell (p := ⟨B, 0, none⟩) hB).trans hcell)
theorem same_over (t : Int) (B blk off size : Nat) (w : World) (hB : B < w.heap.size) (hne : B ≠ blk) (hcell : w.cell? ⟨B, 0, none⟩ = some (.int .i64 t)) :
    PredOver Try.prog 30 #[.pointer (some ⟨B, 0, none⟩)] (Value.int .i64) (fun x => x == t) blk off size w :=
  fun n os dk x _ => same_gives t x B _ (by
    unfold sortWorld
    rw [cell?_grow _ _ _ (by show B < (Sort.putRow _ _ _ _ _).heap.size; rw [size_putRow]; exact hB), cell?_putRow_other _ _ blk off _ _ (Or.inl hne)]
    exact hcell)
theorem enters_same : ∀ args w, (callFunc 30 args).run Try.prog w = .ok (.enter 30 args) w := enters_of Try.func30 (by kernel_rfl) rfl

/-- DeleteFunc: what equals t goes; t lies in a block of one cell (tb). -/
theorem delete_any {w : World} {v : Value} {xs : List Int} {b : Option Nat} (h : Ints w 3 v xs b) (hne : xs ≠ []) (t : Int) (tb : Nat) (ht : Blk w tb #[.int .i64 t] 3) (htb : ∀ g, b = some g → tb ≠ g) :
    Calls Try.prog 29 #[v, .func (.func 30) #[] #[.pointer (some ⟨tb, 0, none⟩)]] w fun e w' => ∃ v', e = .returned v' ∧ Ints w' 3 v' (xs.filter fun x => !(x == t)) b ∧ Upd (fun k => b = some k) w w' := by
  rcases h with ⟨rfl, rfl, rfl⟩ | ⟨g, cap, rest, rfl, rfl, hB, hc, hm⟩
  · exact absurd rfl hne
  · have hcl : (icells xs).length = xs.length := by simp
    have hcap : cap = xs.length + rest.length := by rw [hc]; simp
    have hm2 := hm
    unfold maxLen at hm2
    have hcell : w.cell? ⟨tb, 0, none⟩ = some (.int .i64 t) := by rw [ht.rd]; rfl
    have hH : Holds (Value.int .i64) w g 0 xs.toArray := fun j hj => by
      have hj' : j < xs.length := by simpa using hj
      refine ⟨?_, hB.nf _⟩
      rw [Ints.cells hB j hj']
      rw [getElem!_pos _ j hj]
      simp [hj']
    refine (Try.slices_DeleteFunc (Value.int .i64) (fun _ => rfl) (fun x => x == t) 30 #[.pointer (some ⟨tb, 0, none⟩)] enters_same 0 Try.zeroValue3 g 0 cap xs.toArray w
      (same_pred t tb w ht.lt hcell) (same_over t tb g 0 xs.toArray.size w ht.lt (htb g rfl) hcell) hH (by simp; omega) (by simp; omega)).mono fun e w' ⟨h1, q, h2⟩ => ?_
    have hfl : (xs.filter fun x => !(x == t)).length ≤ xs.length := List.length_filter_le _ _
    have hB2 := Blk.putRow (enc := Value.int .i64) hB ((xs.filter fun x => !(x == t)) ++ List.replicate (xs.length - (xs.filter fun x => !(x == t)).length) 0) (by simp; omega) q
    have hw : w' = Sort.putRow (Value.int .i64) (Sort.ahead w q) g 0 ((xs.filter fun x => !(x == t)) ++ List.replicate (xs.length - (xs.filter fun x => !(x == t)).length) 0).toArray := h2
    rw [← hw] at hB2
    refine ⟨_, h1, Or.inr ⟨g, cap, (List.replicate (xs.length - (xs.filter fun x => !(x == t)).length) (0 : Int)).map (Value.int .i64) ++ rest, rfl, rfl, Blk.of hB2 (by simp [icells]), ?_, hm⟩, ?_⟩
    · rw [hcap]; simp only [icells, List.length_append, List.length_map, List.length_replicate]; omega
    · rw [hw]; exact Upd.putRow
end Go.Proofs.Ytgkchpifogfohaa.Sl
