/-
  New ones: frames, a store, a table.
-/
import Derived.Test.YtchnjfmimpikcaaDoorITab
import Derived.Test.YtchnjfmimpikcaaDoorRegF
namespace Go.Proofs.YtchnjfmimpikcaaDoor
set_option linter.unusedSimpArgs false
set_option linter.unusedVariables false
open Go.RowKit Own RegJ Two
open Go.Lib hiding intOf

/-- make([]E, n) of a closed n -/
theorem make_of (t e : TypeId) (z : Value) (size bytes n : Nat) (ht : Tryd.prog.underlying t = some (.slice e)) (hi : (Tryd.prog.info? e).map (fun i => (i.zero, i.size, i.bytes)) = some (some z, size, bytes)) (hb : bytes * n ≤ 281474976710656) (hn : n ≤ 1000) :
    ∃ cs, ∀ w, (Instr.makeSlice t (.int .i64 n) (.int .i64 n)).run Tryd.prog w = .ok (.slice (some ⟨w.heap.size, 0, none⟩) n n) (w.alloc (.cells cs e)) := by
  obtain ⟨i, hi1, h1, h2, h3⟩ := info_parts hi
  refine ⟨madeCells z.cells (n * i.size), fun w => ?_⟩
  have h := run_make (P := Tryd.prog) w t e i z ht hi1 h1 .i64 .i64 n n (by omega) (by omega) (by rw [h3, ← Int.natCast_mul]; omega) (by omega)
  simp only [Int.toNat_natCast] at h
  exact h
theorem frames_make : (∃ cs, ∀ w, (Instr.makeSlice 57 (.int .i64 8) (.int .i64 8)).run Tryd.prog w = .ok (.slice (some ⟨w.heap.size, 0, none⟩) 8 8) (w.alloc (.cells cs 109))) ∧ (∃ cs, ∀ w, (Instr.makeSlice 58 (.int .i64 8) (.int .i64 8)).run Tryd.prog w = .ok (.slice (some ⟨w.heap.size, 0, none⟩) 8 8) (w.alloc (.cells cs 3))) :=
  ⟨make_of _ _ (.agg ((List.range 64).map fun _ => Value.int .u8 0).toArray) 64 64 8 Tryd.underlying57 (by kernel_rfl) (by omega) (by omega), make_of _ _ (.int .i64 0) 1 8 8 Tryd.underlying58 (by kernel_rfl) (by omega) (by omega)⟩
def NewP (w : World) (e : Ending) (w' : World) : Prop := (∃ k, e = .returned (.tuple #[.pointer (some ⟨k, 0, none⟩), .int .i64 0])) ∧ Below w.heap.size w w'
set_option maxRecDepth 100000 in
theorem frames_new (w : World) : Calls Tryd.prog 6 #[.int .i64 8] w (NewP w) := by
  obtain ⟨⟨c1, h1⟩, c2, h2⟩ := frames_make
  go_enter Tryd.func6, Tryd.ntmps6
  go_wp2
  go_region
  all_goals go_wp2
  all_goals go_returns
  all_goals exact ⟨⟨_, rfl⟩, by repeat (first | exact Below.refl _ _ | apply Below.drew | refine Below.alloc ?_ (by simp; try omega) _)⟩
/-- a store of no files -/
theorem store_new (fb : Nat) (w : World) : Calls Tryd.prog 27 #[.pointer (some ⟨fb, 0, none⟩)] w fun e w' => e = .returned (.pointer (some ⟨w.heap.size + 1, 0, none⟩)) ∧ w' = (w.alloc (.map #[] 0)).alloc (.cells #[.pointer (some ⟨fb, 0, none⟩), .map (some w.heap.size)] 90) := by
  have hmm := @run_makeMap Tryd.prog
  go_enter Tryd.func27, Tryd.ntmps27
  go_wp2
  go_ret
  exact ⟨rfl, rfl⟩
abbrev tab0 (sb : Nat) (p : Value) : Array Value := #[.pointer (some ⟨sb, 0, none⟩), p, .pointer none, .pointer none, .pointer none, .pointer none, .pointer none, .pointer none, .pointer none, .pointer none, .pointer none, .pointer none, .pointer none, .pointer none, .pointer none, .pointer none, .pointer none]
set_option maxRecDepth 100000 in
theorem inode_new (sb : Nat) (w : World) : Calls Tryd.prog 28 #[.pointer (some ⟨sb, 0, none⟩)] w fun e w' => e = .returned (.pointer (some ⟨w.heap.size, 0, none⟩)) ∧ w' = (w.alloc (.cells (tab0 sb (.pointer (some ⟨w.heap.size + 1, 0, none⟩))) 96)).alloc (.cells #[.bool true, .int .i64 0, .int .i64 0, .slice none 0 0] 73) := by
  go_enter Tryd.func28, Tryd.ntmps28
  go_wp2
  go_ret
  exact ⟨rfl, rfl⟩
theorem TB.upd {w w' : World} {tb : Nat} {ns : Nat → Option Nd} {lo : Lo} {N : Nat} {F : Nat → Prop} (h : TB w tb ns lo N) (hu : Upd F w w') (hF : ∀ r k, lo r = some k → ¬ F k) : TB w' tb ns lo N := by
  obtain ⟨sb, mb, fp, n, s, s1, s2, s3, s4, s5⟩ := h.sto
  refine ⟨h.inj, fun r k hk => Nat.lt_of_lt_of_le (h.lt r k hk) hu.size, h.at', ⟨sb, mb, fp, n, s, s1, s2, Blk.upd hu s3 (hF _ _ s1), s4.upd hu (hF _ _ s2), s5⟩, Blk.upd hu h.tab (hF _ _ h.at'), h.none', h.far, fun i nd hi => ?_, fun i nd hi hd => ?_⟩
  · obtain ⟨k, v, k1, k2, k3, k4⟩ := h.node i nd hi
    exact ⟨k, v, k1, Blk.upd hu k2 (hF _ _ k1), k3.upd hu (fun g hg => hF _ _ hg), k4⟩
  · obtain ⟨k, k1, k2⟩ := h.file i nd hi hd
    exact ⟨k, k1, Blk.upd hu k2 (hF _ _ k1)⟩
theorem TB.below {w w' : World} {tb : Nat} {ns : Nat → Option Nd} {lo : Lo} {N : Nat} (h : TB w tb ns lo N) (hB : Below w.heap.size w w') : TB w' tb ns lo N := h.upd (Upd.of_below (F := fun _ => False) hB) (fun _ _ _ h => h)
def ns0 : Nat → Option Nd := fun i => if i = 0 then some ⟨true, 0, 0, []⟩ else none
def lo0 (s : Nat) : Lo := fun r => match r with | .tab => some (s + 2) | .sto => some (s + 1) | .mp => some s | .node i => if i = 0 then some (s + 3) else none | _ => none
theorem tb0 (w : World) (fb s : Nat) (hs : w.heap.size = s) : TB ((((w.alloc (.map #[] 0)).alloc (.cells #[.pointer (some ⟨fb, 0, none⟩), .map (some s)] 90)).alloc (.cells (tab0 (s + 1) (.pointer (some ⟨s + 3, 0, none⟩))) 96)).alloc (.cells #[.bool true, .int .i64 0, .int .i64 0, .slice none 0 0] 73)) (s + 2) ns0 (lo0 s) 0 := by
  subst hs
  have e1 : (w.alloc (.map #[] 0)).heap.size = w.heap.size + 1 := by simp
  have e2 : ((w.alloc (.map #[] 0)).alloc (.cells #[.pointer (some ⟨fb, 0, none⟩), .map (some w.heap.size)] 90)).heap.size = w.heap.size + 2 := by simp
  have e3 : (((w.alloc (.map #[] 0)).alloc (.cells #[.pointer (some ⟨fb, 0, none⟩), .map (some w.heap.size)] 90)).alloc (.cells (tab0 (w.heap.size + 1) (.pointer (some ⟨w.heap.size + 3, 0, none⟩))) 96)).heap.size = w.heap.size + 3 := by simp
  refine ⟨?_, ?_, rfl, ⟨w.heap.size + 1, w.heap.size, .pointer (some ⟨fb, 0, none⟩), 0, 0, rfl, rfl, ?_, ?_, by omega⟩, ?_, ?_, ?_, ?_, ?_⟩
  · intro r r' k h1 h2
    cases r <;> cases r' <;> simp [lo0] at h1 h2 <;> first | rfl | omega | (obtain ⟨rfl, h1⟩ := h1; obtain ⟨rfl, h2⟩ := h2; rfl)
  · intro r k h1
    cases r <;> simp [lo0] at h1 <;> simp <;> omega
  · exact ((Blk.new' e1.symm).alloc _).alloc _
  · have h1 := MapI.made w Tryd.prog 3
    have h2 : MapI ((((w.alloc (.map #[] 0)).alloc (.cells #[.pointer (some ⟨fb, 0, none⟩), .map (some w.heap.size)] 90)).alloc (.cells (tab0 (w.heap.size + 1) (.pointer (some ⟨w.heap.size + 3, 0, none⟩))) 96)).alloc (.cells #[.bool true, .int .i64 0, .int .i64 0, .slice none 0 0] 73)) Tryd.prog 3 w.heap.size 0 0 (fun _ => none) :=
      h1.upd ((((Upd.refl (fun _ => False) _).alloc _).alloc _).alloc _) (fun h => h)
    have e : fileM ns0 (lo0 w.heap.size) = fun _ => none := by
      funext j
      unfold fileM ns0
      by_cases h : 0 ≤ j ∧ j < 16
      · rw [if_pos h]
        by_cases h0 : j.toNat = 0
        · rw [if_pos h0]; rfl
        · rw [if_neg h0]
      · rw [if_neg h]
    rw [e]; exact h2
  · exact (Blk.new' e2.symm).alloc _
  · intro i hi
    unfold ns0 at hi
    split at hi
    · cases hi
    · rename_i h; simp [lo0, h]
  · intro i hi
    unfold ns0
    rw [if_neg (by omega)]
  · intro i nd hi
    unfold ns0 at hi
    split at hi
    · rename_i h
      cases hi
      refine ⟨w.heap.size + 3, _, by simp [lo0, h], Blk.new' e3.symm, Or.inl ⟨rfl, rfl, rfl⟩, by simp, List.Pairwise.nil⟩
    · cases hi
  · intro i nd hi hd
    unfold ns0 at hi
    split at hi
    · cases hi; cases hd
    · cases hi
def BothP (w : World) (e : Ending) (w' : World) : Prop := ∃ tb lo kp, e = .returned (.tuple #[.pointer (some ⟨tb, 0, none⟩), .pointer (some ⟨kp, 0, none⟩)]) ∧ TB w' tb ns0 lo 0 ∧ Below w.heap.size w w' ∧ ∀ r k, lo r = some k → w.heap.size ≤ k
end Go.Proofs.YtchnjfmimpikcaaDoor
