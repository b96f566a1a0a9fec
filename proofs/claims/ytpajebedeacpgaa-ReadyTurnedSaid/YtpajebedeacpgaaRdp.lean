/-
  The queue: Drop.
-/
import Derived.Test.YtpajebedeacpgaaRdpA
import Derived.Test.YtpajebedeacpgaaRdpB
import Derived.Test.YtpajebedeacpgaaRdpC
namespace Go.Proofs.Ytpajebedeacpgaa
set_option linter.unusedSimpArgs false
set_option linter.unusedVariables false
open Go.RowKit Own Sl
open RegJ hiding Up
open RegF hiding put_size
section
variable {w w' : World} {qb : Nat} {L : List One} {lo : Lo} {N : Nat}
def dropL (L : List One) (id : Int) : List One := if hasO L id = true then delA L id else L
set_option maxRecDepth 100000 in
theorem qdrop_no (h : QA w qb L lo N) (id : Int) (hb : hasO L id = false) (hid : (Lit.int .i64 id).wf = true) : Calls Try.prog 12 #[.pointer (some ⟨qb, 0, none⟩), .int .i64 id] w (BoolB false w) := by
  have hhas := qhas_is h id hid
  rw [hb] at hhas
  clear h hb
  go_enter Try.func12, Try.ntmps12
  go_wp2_with (go_at_call 19; (with_reducible refine hhas.mono ?_); rintro e w1 ⟨rfl, hB⟩; have HB := Lib.hid hB; clear hB hhas)
  go_returns
  exact ⟨rfl, HB.out⟩
theorem qdrop_yes (h : QA w qb L lo N) {id : Int} (hb : hasO L id = true) (hid : (Lit.int .i64 id).wf = true) (hN : N ≤ 1000) : Calls Try.prog 12 #[.pointer (some ⟨qb, 0, none⟩), .int .i64 id] w (DropX w qb (delA L id) lo N) := by
  obtain ⟨⟨id', c, l, d⟩, hx, e⟩ := List.mem_map.1 (hasO_iff.1 hb)
  simp only at e
  subst e
  have hm := (h.gd.ok _ hx).2
  rcases may_cases hm with ⟨hcl, hl1, hl2, hd⟩ | ⟨hcl, hl0, hd1, hd2⟩ | ⟨hcl, hl1, hl2, hd⟩ <;> simp only at hcl <;> subst hcl
  · obtain ⟨i, hi⟩ : ∃ i : Nat, l = i := ⟨l.toNat, by simp only at hl1; omega⟩
    simp only at hl2
    subst hi
    exact qdrop_b h id' i (by omega) d hx hid hN
  · exact qdrop_n h id' l d hx hid hN
  · obtain ⟨i, hi⟩ : ∃ i : Nat, l = i := ⟨l.toNat, by simp only at hl1; omega⟩
    simp only at hl2
    subst hi
    exact qdrop_h h id' i (by omega) d hx hid hN
theorem qdrop_is (h : QA w qb L lo N) (id : Int) (hid : (Lit.int .i64 id).wf = true) (hN : N ≤ 1000) : Calls Try.prog 12 #[.pointer (some ⟨qb, 0, none⟩), .int .i64 id] w (fun e w' => e = .returned (.bool (hasO L id)) ∧ QX w qb (dropL L id) lo N w') := by
  unfold dropL
  cases hb : hasO L id with
  | false => exact (qdrop_no h id hb hid).mono fun e w' ⟨h1, h2⟩ => ⟨h1, lo, h.below h2, QFr.of_below h2⟩
  | true => exact qdrop_yes h hb hid hN
end
end Go.Proofs.Ytpajebedeacpgaa
