/-
  New ones: frames, a store, a table.
-/
import Derived.Test.YtchnjfmimpikcaaDoorITab
import Derived.Test.YtchnjfmimpikcaaDoorRegF
import Derived.Test.YtchnjfmimpikcaaDoorFrN
namespace Go.Proofs.YtchnjfmimpikcaaDoor
set_option linter.unusedSimpArgs false
set_option linter.unusedVariables false
open Go.RowKit Own RegJ Two
open Go.Lib hiding intOf

/-- a store of no files -/
theorem store_new (fb : Nat) (w : World) : Calls Tryd.prog 27 #[.pointer (some ⟨fb, 0, none⟩)] w fun e w' => e = .returned (.pointer (some ⟨w.heap.size + 1, 0, none⟩)) ∧ w' = (w.alloc (.map #[] 0)).alloc (.cells #[.pointer (some ⟨fb, 0, none⟩), .map (some w.heap.size)] 90) := by
  have hmm := @run_makeMap Tryd.prog
  go_enter Tryd.func27, Tryd.ntmps27
  go_wp2
  go_ret
  exact ⟨rfl, rfl⟩
abbrev tab0 (sb : Nat) (p : Value) : Array Value := #[.pointer (some ⟨sb, 0, none⟩), p, .pointer none, .pointer none, .pointer none, .pointer none, .pointer none, .pointer none, .pointer none, .pointer none, .pointer none, .pointer none, .pointer none, .pointer none, .pointer none, .pointer none, .pointer none]
set_option maxRecDepth 100000 in
theorem inode_new (sb : Nat) (w : World) : Calls Tryd.prog 28 #[.pointer (some ⟨sb, 0, none⟩)] w fun e w' => e = .returned (.pointer (some ⟨w.heap.size, 0, none⟩)) ∧ w' = (w.alloc (.cells (tab0 sb (.pointer (some ⟨w.heap.size + 1, 0, none⟩))) 96)).alloc (.cells #[.bool true, .int .i64 0, .int .i64 0, .slice none 0 0] 73) := by
  go_enter Tryd.func28, Tryd.ntmps28
  go_wp2
  go_ret
  exact ⟨rfl, rfl⟩
theorem TB.upd [Inhabited CapT] {w w' : World} {tb : Nat} {ns : Nat → Option Nd} {lo : Lo} {N : Nat} {F : Nat → Prop} (h : TB w tb ns lo N) (hu : Upd F w w') (hF : ∀ r k, lo r = some k → ¬ F k) : TB w' tb ns lo N := by
  refine ⟨h.inj, fun r k hk => Nat.lt_of_lt_of_le (h.lt r k hk) hu.size, h.at', h.sto.upd hu (fun r k hk => hF _ _ hk), Blk.upd hu h.tab (hF _ _ h.at'), h.none', h.far, fun i nd hi => ?_⟩
  obtain ⟨k, v, k1, k2, k3, k4⟩ := h.node i nd hi
  exact ⟨k, v, k1, Blk.upd hu k2 (hF _ _ k1), k3.upd hu (fun g hg => hF _ _ hg), k4⟩
theorem TB.below [Inhabited CapT] {w w' : World} {tb : Nat} {ns : Nat → Option Nd} {lo : Lo} {N : Nat} (h : TB w tb ns lo N) (hB : Below w.heap.size w w') : TB w' tb ns lo N := h.upd (Upd.of_below (F := fun _ => False) hB) (fun _ _ _ h => h)
def ns0 : Nat → Option Nd := fun i => if i = 0 then some ⟨true, 0, 0, [], []⟩ else none
def lo0 (s fb bb kb : Nat) : Lo := fun r => match r with | .tab => some (s + 2) | .node i => if i = 0 then some (s + 3) else none | .ents _ => none | .st r => so0 s (s + 1) fb bb kb r
theorem lo0_st {s fb bb kb : Nat} {r : SRl} {k : Nat} (h : so0 s (s + 1) fb bb kb r = some k) : k = s ∨ k = s + 1 ∨ k = fb ∨ k = bb ∨ k = kb := by
  cases r <;> simp [so0] at h <;> omega
theorem tb0 [Inhabited CapT] (w : World) (fb bb kb n s : Nat) (hF : FrB w fb bb kb none (fs0 n)) (n1 : fb ≠ bb) (n2 : fb ≠ kb) (n3 : bb ≠ kb) (h1n : 1 ≤ n) (hc : capN = n) (hs : w.heap.size = s) : TB ((((w.alloc (.map #[] 0)).alloc (.cells #[.pointer (some ⟨fb, 0, none⟩), .map (some s)] 90)).alloc (.cells (tab0 (s + 1) (.pointer (some ⟨s + 3, 0, none⟩))) 96)).alloc (.cells #[.bool true, .int .i64 0, .int .i64 0, .slice none 0 0] 73)) (s + 2) ns0 (lo0 s fb bb kb) 0 := by
  subst hs
  have hl := hF.lts
  have hS := st0 hF n1 n2 n3 h1n
  have e2 : ((w.alloc (.map #[] 0)).alloc (.cells #[.pointer (some ⟨fb, 0, none⟩), .map (some w.heap.size)] 90)).heap.size = w.heap.size + 2 := by simp
  have e3 : (((w.alloc (.map #[] 0)).alloc (.cells #[.pointer (some ⟨fb, 0, none⟩), .map (some w.heap.size)] 90)).alloc (.cells (tab0 (w.heap.size + 1) (.pointer (some ⟨w.heap.size + 3, 0, none⟩))) 96)).heap.size = w.heap.size + 3 := by simp
  have hst := st0 hF n1 n2 n3 h1n
  obtain ⟨f0, ls0, hI⟩ := hst
  refine ⟨?_, ?_, rfl, ?_, ?_, ?_, ?_, ?_⟩
  · intro r r' k h1 h2
    cases r with
    | tab => cases r' with
      | tab => rfl
      | node i => simp [lo0] at h1 h2; omega
      | ents i => simp [lo0] at h2
      | st q => simp only [lo0, Option.some.injEq] at h1 h2; have := lo0_st h2; omega
    | node i => cases r' with
      | tab => simp [lo0] at h1 h2; omega
      | node j => simp [lo0] at h1 h2; rw [h1.1, h2.1]
      | ents i => simp [lo0] at h2
      | st q =>
        have h2' := lo0_st (s := w.heap.size) (fb := fb) (bb := bb) (kb := kb) (r := q) (k := k) h2
        simp [lo0] at h1; omega
    | ents i => simp [lo0] at h1
    | st q => cases r' with
      | tab =>
        have h1' := lo0_st (s := w.heap.size) (fb := fb) (bb := bb) (kb := kb) (r := q) (k := k) h1
        simp [lo0] at h2; omega
      | node j =>
        have h1' := lo0_st (s := w.heap.size) (fb := fb) (bb := bb) (kb := kb) (r := q) (k := k) h1
        simp [lo0] at h2; omega
      | ents i => simp [lo0] at h2
      | st q' => rw [hI.inj q q' k h1 h2]
  · intro r k h1
    cases r with
    | tab => simp [lo0] at h1; simp; omega
    | node i => simp [lo0] at h1; simp; omega
    | ents i => simp [lo0] at h1
    | st q =>
      have h1' := lo0_st (s := w.heap.size) (fb := fb) (bb := bb) (kb := kb) (r := q) (k := k) h1
      simp; omega
  · have e : filesOf ns0 = fun _ => none := by
      funext i
      unfold filesOf ns0
      by_cases h : i = 0
      · rw [if_pos h]; rfl
      · rw [if_neg h]
    rw [e, hc]
    exact hS.upd (((Upd.refl (fun _ => False) _).alloc _).alloc _) (fun _ _ _ h => h)
  · exact (Blk.new' e2.symm).alloc _
  · intro i hi
    unfold ns0 at hi
    split at hi
    · cases hi
    · rename_i h; simp [lo0, h]
  · intro i hi
    unfold ns0
    rw [if_neg (by omega)]
  · intro i nd hi
    unfold ns0 at hi
    split at hi
    · rename_i h
      cases hi
      refine ⟨w.heap.size + 3, _, by simp [lo0, h], Blk.new' e3.symm, Or.inl ⟨rfl, rfl, rfl⟩, by simp, List.Pairwise.nil⟩
    · cases hi
end Go.Proofs.YtchnjfmimpikcaaDoor
