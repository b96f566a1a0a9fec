/-
  slices.Insert at entries, at the end.
-/
import Derived.Test.YtchnjfmimpikcaaDoorIMake
namespace Go.Proofs.YtchnjfmimpikcaaDoor
set_option linter.unusedSimpArgs false
set_option linter.unusedVariables false
open Go.RowKit Own RegJ Two
open Go.Lib hiding intOf

theorem infoEntry : (Tryd.prog.info? 101).map (fun i => (i.zero, i.size, i.bytes)) = some (some (.agg #[.string ByteArray.empty, .int .i64 0]), 2, 24) := by kernel_rfl
def InsP (b : Option Nat) (w : World) (xs : List V2) (n : Nat) (e : Ending) (w' : World) : Prop := ∃ a c b', e = .returned (.slice a n c) ∧ Row2 w' 101 (.slice a n c) xs b' ∧ (∀ g, b' = some g → b = some g ∨ w.heap.size ≤ g) ∧ Upd (fun k => b = some k) w w'
/-- two cells of a block, as a stretch -/
theorem news_one {w : World} {bx : Nat} {x : V2} {T : TypeId} (hB : Blk w bx #[x.1, x.2] T) : ∀ (j : Nat) (u : Value), (cells2 [x])[j]? = some u → w.cell? ((⟨bx, 0, none⟩ : Addr).add j) = some u := by
  intro j u hj
  match j, hj with
  | 0, hj => simp [cells2] at hj; subst hj; simpa [Addr.add] using (hB.cell (i := 0) rfl)
  | 1, hj => simp [cells2] at hj; subst hj; simpa [Addr.add] using (hB.cell (i := 1) rfl)
  | (j + 2), hj => simp [cells2] at hj
set_option maxRecDepth 100000 in
theorem insert_end {w : World} {a : Option Addr} {n c : Nat} {xs : List V2} {b : Option Nat} (h : Row2 w 101 (.slice a n c) xs b) (hn : n ≤ 1000) (bx : Nat) (x : V2) (hB : Blk w bx #[x.1, x.2] 101) (h1 : One2 [x]) :
    Calls Tryd.prog 63 #[.slice a n c, .int .i64 n, .slice (some ⟨bx, 0, none⟩) 1 1] w (InsP b w (xs ++ [x]) (n + 1)) := by
  obtain ⟨hc, hl, hm⟩ := h.cap
  have hm' := hm
  unfold maxLen at hm'
  have H := Lib.hid (And.intro h (And.intro hB (And.intro h1 hl)))
  clear h hB h1 hl
  have i1 : (0 : Int) ≤ n := by omega
  have i2 : (n : Int) ≤ n := by omega
  have i3 : (n : Int) ≤ c := by omega
  have i4 : n ≤ c := hc
  go_enter Tryd.func63, Tryd.ntmps63
  go_wp2_with (at_builtin; refine wp_app2 rfl _ _ 43 101 _ 24 infoEntry rfl (by decide) Tryd.underlying43 rfl _ xs b rfl H.out.1 ⟨bx, 0, none⟩ 1 1 [x] rfl (by decide) rfl (news_one H.out.2.1) H.out.2.2.1 (by rw [← H.out.2.2.2]; simp; omega) ?_; intro v' w1 b' hr hb hu; obtain ⟨a', c', hv'⟩ := hr.slice; rw [show (xs ++ [x]).length = n + 1 by rw [List.length_append, ← H.out.2.2.2]; rfl] at hv'; subst hv'; have HX := Lib.hid (And.intro hr (And.intro hb hu)); clear hr hb hu)
  all_goals go_ret
  all_goals exact ⟨a', c', b', rfl, HX.out.1, HX.out.2.1, HX.out.2.2⟩
end Go.Proofs.YtchnjfmimpikcaaDoor
