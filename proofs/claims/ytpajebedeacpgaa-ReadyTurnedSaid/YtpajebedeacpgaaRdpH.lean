/-
  The queue: Drop: what is left.
-/
import Derived.Test.YtpajebedeacpgaaRad
namespace Go.Proofs.Ytpajebedeacpgaa
set_option linter.unusedSimpArgs false
set_option linter.unusedVariables false
open Go.RowKit Own Sl
open RegJ hiding Up
open RegF hiding put_size

def DropX (w : World) (qb : Nat) (L : List One) (lo : Lo) (N : Nat) (e : Ending) (w' : World) : Prop := e = .returned (.bool true) ∧ QX w qb L lo N w'
section
variable {w w' : World} {qb : Nat} {L : List One} {lo : Lo} {N : Nat}
theorem fin_drow {R : Nat → Value} {W : Nat → Nat} (hg : Gd L) {x : One} (hx : x ∈ L) (hW : ∀ r, r < 2 → WD (W r) (hasL (FL L) r)) {r i : Nat} (hr : r < 2) (hi : i < 64) (hrow : inRow (64 * r + i) x = true) (hc : x.2.1 ≠ 1) {s : Nat} (hs : s = L.length - 1)
    (hQ : QB w qb R (putF (FL L) (64 * r + i) (remL (FL L (64 * r + i)) x.1)) (tkW W r i (remL (FL L (64 * r + i)) x.1)) (mdel (mL L) x.1) s (HL L) lo N) : QA w qb (delA L x.1) lo N := by
  subst hs
  refine ⟨hg.del _, R, tkW W r i (remL (FL L (64 * r + i)) x.1), ?_, ?_⟩
  · have h1 := HL_del hg hx
    rw [if_neg hc] at h1
    have h2 := hQ.perm h1.symm
    rw [← FL_del hg hx (by omega) hrow, ← mL_del hg] at h2
    have h3 := delA_len hg hx
    rw [show L.length - 1 = (delA L x.1).length by omega] at h2
    exact h2
  · rw [FL_del hg hx (by omega) hrow]
    exact wd_del hW hr hi (fun e => by
      have h1 : x.1 ∈ FL L (64 * r + i) := FL_mem.2 ⟨by omega, x.2, hx, hrow⟩
      rw [e] at h1; cases h1)
theorem fl_ne {x : One} (hx : x ∈ L) {j : Nat} (hj : j < 128) (hrow : inRow j x = true) : FL L j ≠ [] := fun e => by
  have h1 : x.1 ∈ FL L j := FL_mem.2 ⟨hj, x.2, hx, hrow⟩
  rw [e] at h1; cases h1
theorem fin_dheap {R : Nat → Value} {W : Nat → Nat} (hg : Gd L) {x : One} (hx : x ∈ L) (hW : ∀ r, r < 2 → WD (W r) (hasL (FL L) r)) (hc : x.2.1 = 1) {s : Nat} (hs : s = L.length - 1)
    (hQ : QB w qb R (FL L) W (mdel (mL L) x.1) s (HL (delA L x.1)) lo N) : QA w qb (delA L x.1) lo N := by
  subst hs
  have hF := FL_del_no hg hx (no_row hc)
  refine ⟨hg.del _, R, W, ?_, by rw [hF]; exact hW⟩
  rw [hF, mL_del hg]
  have h3 := delA_len hg hx
  rw [show L.length - 1 = (delA L x.1).length by omega] at hQ
  exact hQ
theorem heap_rest (hg : Gd L) {x : One} (hx : x ∈ L) (hc : x.2.1 = 1) {ys xs : List It} {k : Int} (hp : (ys ++ [(x.1, k)]).Perm xs) (h3 : xs.Perm (HL L)) : ys.Perm (HL (delA L x.1)) := by
  have h1 := HL_del hg hx
  rw [if_pos hc] at h1
  have h2 := hp.trans h3
  have hk : k = x.2.2.2 := by
    have h4 : (x.1, k) ∈ HL L := h2.mem_iff.1 (by simp)
    unfold HL at h4
    obtain ⟨y, hy, e⟩ := List.mem_map.1 h4
    have hy := (List.mem_filter.1 hy).1
    injection e with e1 e2
    have := hg.uniq hy hx e1
    rw [this] at e2
    exact e2.symm
  rw [hk] at h2
  exact (List.perm_append_right_iff _).1 (h2.trans h1.symm)
end
end Go.Proofs.Ytpajebedeacpgaa
