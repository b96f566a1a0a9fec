/-
  The queue: put.
-/
import Derived.Test.YtpajebedeacpgaaRxA
import Derived.Test.YtpajebedeacpgaaRxB
import Derived.Test.YtpajebedeacpgaaRxC
namespace Go.Proofs.Ytpajebedeacpgaa
set_option linter.unusedSimpArgs false
set_option linter.unusedVariables false
open Go.RowKit Own Sl
section
variable {w w' : World} {qb : Nat} {L : List One} {lo : Lo} {N : Nat}
theorem qput_is (h : QA w qb L lo N) (x : One) (hx : x.1 ∉ L.map Prod.fst) (h0 : 0 ≤ x.1) (hm : may x.2 = true) (hid : (Lit.int .i64 x.1).wf = true) (hN : N < 1000) (hLN : L.length ≤ N) :
    Calls Try.prog 28 #[.pointer (some ⟨qb, 0, none⟩), .int .i64 x.1, prV x.2] w (PutX w qb (insA L x) lo (N + 1)) := by
  obtain ⟨id, c, l, d⟩ := x
  rcases may_cases hm with ⟨hcl, hl1, hl2, hd⟩ | ⟨hcl, hl0, hd1, hd2⟩ | ⟨hcl, hl1, hl2, hd⟩ <;> simp only at hcl <;> subst hcl
  · obtain ⟨i, hi⟩ : ∃ i : Nat, l = i := ⟨l.toNat, by simp only at hl1; omega⟩
    simp only at hl2
    subst hi
    exact qput_b h id i (by omega) d hx h0 hm hid hN
  · exact qput_n h id l d hx h0 hm hid hN hLN
  · obtain ⟨i, hi⟩ : ∃ i : Nat, l = i := ⟨l.toNat, by simp only at hl1; omega⟩
    simp only at hl2
    subst hi
    exact qput_h h id i (by omega) d hx h0 hm hid hN
end
end Go.Proofs.Ytpajebedeacpgaa
