/-
  The queue: put, Add.
-/
import Derived.Test.YtpajebedeacpgaaRw
namespace Go.Proofs.Ytpajebedeacpgaa
set_option linter.unusedSimpArgs false
set_option linter.unusedVariables false
open Go.RowKit Own Sl
open RegJ hiding Up
open RegF hiding put_size

/-- the state of one call in a region: the block bx is kept, the cell at p holds c; ahead of the call the world is W1, behind it Q holds -/
def One1 (W1 : World) (bx : Nat) (cs : Array Value) (p : Addr) (c : Value) (Q : World → Prop) (b : Bool) (w : World) : Prop := Blk w bx cs 31 ∧ w.cell? p = some c ∧ (b = false → w = W1) ∧ (b = true → Q w)
theorem upd_cell {F : Nat → Prop} {w w' : World} (hu : Upd F w w') {b o : Nat} (hf : ¬ F b) {v : Value} (hc : w.cell? ⟨b, o, none⟩ = some v) : w'.cell? ⟨b, o, none⟩ = some v := by
  have hl : b < w.heap.size := by
    rcases Nat.lt_or_ge b w.heap.size with h1 | h1
    · exact h1
    · unfold World.cell? at hc; simp [Array.getElem?_eq_none h1] at hc
  rw [← hc]
  unfold World.cell?
  rw [hu.block b hl hf]
section
variable {w w' : World} {qb : Nat} {L : List One} {lo : Lo} {N : Nat}
theorem blk_one {W1 : World} {lo' : Lo} {bx : Nat} {cs : Array Value} {w2 : World} (h : Blk W1 bx cs 31) (hf : QFr lo lo' W1 w2) (hn : ∀ r k, lo r = some k → k ≠ bx) : Blk w2 bx cs 31 := Blk.upd hf.1 h (fun ⟨r, hr⟩ => hn r _ hr rfl)
/-- the queue behind a step, and the step -/
def QX (W1 : World) (qb : Nat) (L : List One) (lo : Lo) (N : Nat) (w : World) : Prop := ∃ lo', QA w qb L lo' N ∧ QFr lo lo' W1 w
def PutX (w : World) (qb : Nat) (L : List One) (lo : Lo) (N : Nat) (e : Ending) (w' : World) : Prop := e = .returned (.tuple #[]) ∧ QX w qb L lo N w'
theorem QB.perm {R : Nat → Value} {F : Nat → List Int} {W : Nat → Nat} {m : Int → Option Value} {s : Nat} {hs hs' : List It} (h : QB w qb R F W m s hs lo N) (hp : hs.Perm hs') : QB w qb R F W m s hs' lo N := by
  obtain ⟨hb, h1, h2, xs, h3, h4⟩ := h.heap
  exact ⟨h.inj, h.lt, h.at', h.map, ⟨hb, h1, h2, xs, h3.trans hp, h4⟩, h.blk, h.word, h.row, h.far, h.len⟩
theorem fin_row {R : Nat → Value} {W : Nat → Nat} (hg : Gd L) {x : One} (hx : x.1 ∉ L.map Prod.fst) (h0 : 0 ≤ x.1) (hm : may x.2 = true) (hW : ∀ r, r < 2 → WD (W r) (hasL (FL L) r)) {r i : Nat} (hr : r < 2) (hi : i < 64) (hrow : inRow (64 * r + i) x = true) (hc : x.2.1 ≠ 1)
    (hQ : QB w qb R (putF (FL L) (64 * r + i) (insL (FL L (64 * r + i)) x.1)) (putF W r (wset (W r) i)) (mput (mL L) x.1 (prV x.2)) (L.length + 1) (HL L) lo N) : QA w qb (insA L x) lo N := by
  refine ⟨hg.ins hx h0 hm, R, putF W r (wset (W r) i), ?_, ?_⟩
  · have h1 := HL_ins (L := L) x
    rw [if_neg hc] at h1
    have h2 := hQ.perm h1.symm
    rw [← FL_ins hg hx h0 hm (by omega) hrow, ← mL_ins hg hx h0 hm, ← insA_len L x] at h2
    exact h2
  · rw [FL_ins hg hx h0 hm (by omega) hrow]
    exact wd_ins hW hr hi (insL_ne _ _)
theorem no_row {x : One} (h : x.2.1 = 1) (j : Nat) (hj : j < 128) : inRow j x = false := by
  cases hr : inRow j x with
  | false => rfl
  | true => have := (inRow_iff.1 hr).1; rw [h] at this; split at this <;> omega
theorem fin_heap {R : Nat → Value} {W : Nat → Nat} (hg : Gd L) {x : One} (hx : x.1 ∉ L.map Prod.fst) (h0 : 0 ≤ x.1) (hm : may x.2 = true) (hW : ∀ r, r < 2 → WD (W r) (hasL (FL L) r)) (hc : x.2.1 = 1)
    (hQ : QB w qb R (FL L) W (mput (mL L) x.1 (prV x.2)) (L.length + 1) ((x.1, x.2.2.2) :: HL L) lo N) : QA w qb (insA L x) lo N := by
  have hF := FL_ins_no hg hx h0 hm (no_row hc)
  refine ⟨hg.ins hx h0 hm, R, W, ?_, by rw [hF]; exact hW⟩
  have h1 := HL_ins (L := L) x
  rw [if_pos hc] at h1
  have h2 := hQ.perm h1.symm
  rw [← mL_ins hg hx h0 hm, ← insA_len L x] at h2
  rw [hF]
  exact h2
theorem FL_len (L : List One) (j : Nat) : (FL L j).length ≤ L.length := by
  unfold FL
  split
  · rw [List.length_map]; exact List.length_filter_le _ _
  · exact Nat.zero_le _
end
end Go.Proofs.Ytpajebedeacpgaa
