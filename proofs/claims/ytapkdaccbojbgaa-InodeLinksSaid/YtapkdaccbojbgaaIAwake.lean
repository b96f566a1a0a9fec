/-
  awake; of no table.
-/
import Derived.Laws.StructEq
import Derived.Test.YtapkdaccbojbgaaIClose
namespace Go.Proofs.Ytapkdaccbojbgaa
set_option linter.unusedSimpArgs false
set_option linter.unusedVariables false
open Go.RowKit Own RegJ Two
open Go.Lib hiding intOf

theorem TFr.below {lo lo' : Lo} {w w' : World} {B0 : Nat} (h : TFr lo lo' w w') (hb : ∀ r k, lo r = some k → B0 ≤ k) (hs : B0 ≤ w.heap.size) : Below B0 w w' ∧ ∀ r k, lo' r = some k → B0 ≤ k := by
  refine ⟨h.1.below hs (fun k ⟨r, hr⟩ => hb r k hr), fun r k hk => ?_⟩
  rcases h.2 r k hk with ⟨r', h1⟩ | h1
  · exact hb r' k h1
  · omega
theorem free1 {r : Int} (h : freeI ns0 r) : r = 1 := by
  rcases h with ⟨_, h⟩ | ⟨i, rfl, hi, hn, hall⟩
  · exact absurd (show ns0 1 = none from rfl) (h 1 (by omega))
  · have h0 : i ≠ 0 := fun e => by subst e; cases hn
    have h1 : ¬ 1 < i := fun hlt => hall 1 hlt rfl
    omega
abbrev nmA : Txt := [97]
def ndR : Nd := ⟨true, 0, 0, []⟩
def ns1 : Nat → Option Nd := nsPut ns0 1 (some ⟨false, 0, 1, []⟩)
theorem at_nil {j : Nat} (h : At [] nmA j) : j = 0 := by have := h.1; simp at this; exact this
theorem entR_0 : entR ns1 ndR.es 0 nmA 1 = 0 := by
  have e : ndAt ns1 1 = some ⟨false, 0, 1, []⟩ := rfl
  unfold entR
  rw [e]
  decide
def ns2 : Nat → Option Nd := nsEnt ns1 0 ndR (insE ndR.es 0 (nmA, 1)) 1
def ns3 : Nat → Option Nd := nsPut ns2 1 (some (addO ⟨false, 1, 1, []⟩ (-1)))
theorem at_one {j : Nat} (h : At [(nmA, 1)] nmA j) : j = 0 := by
  have h1 := h.1
  have h2 := h.2.1 0 (nmA, 1) rfl
  have h3 : nlt nmA nmA = false := nlt_irr _
  simp at h1
  by_cases hj : 0 < j
  · have := h2 hj; rw [h3] at this; cases this
  · omega
set_option maxRecDepth 100000 in
theorem awake_any (w : World) : Calls Try.prog 7 #[] w fun e w' => e = .returned (.bool true) ∧ Below w.heap.size w w' := by
  go_enter Try.func7, Try.ntmps7
  go_wp2_with (first
    | (go_at_call 8; refine (both_is w).mono ?_; rintro e w1 ⟨tb, lo, kp, rfl, hT, hB, hb⟩; have hmk := make_is hT (by omega) false; have H1 := Lib.hid (And.intro hB hb); clear hT hB hb)
    | (go_at_call 9; (with_reducible refine hmk.mono ?_); rintro e w2 ⟨r, hf, hq⟩; clear hmk; obtain rfl := free1 hf; rcases hq with ⟨hq, _⟩ | ⟨i, hi, rfl, lo2, hT, hF⟩; (· exact absurd hq (by decide)); obtain rfl : i = 1 := (by omega); clear hf hi; obtain ⟨b1, b2⟩ := hF.below H1.out.2 H1.out.1.size; have H2 := Lib.hid (And.intro (H1.out.1.trans b1) b2); have hen := enter_is (nd := ndR) (show TB w2 tb ns1 lo2 1 from hT) 0 1 nmA rfl rfl (fun m hm => by (obtain rfl : m = ⟨false, 0, 1, []⟩ := (Option.some.inj hm).symm); simp); clear hT hF b1 b2)
    | (go_at_call 10; refine hen.mono ?_; rintro e w3 ⟨j, hA, he, hq⟩; clear hen; obtain rfl := at_nil hA; rw [entR_0] at he hq; subst he; rcases hq with ⟨hq, _⟩ | ⟨_, lo3, hT, hF⟩; (· exact absurd rfl hq); obtain ⟨b1, b2⟩ := hF.below H2.out.2 H2.out.1.size; have H3 := Lib.hid (And.intro (H2.out.1.trans b1) b2); have hcl := close_stay (nd := ⟨false, 1, 1, []⟩) (show TB w3 tb ns2 lo3 1 from hT) 1 rfl (by decide) (by decide) (Or.inr (Or.inl (by decide))); clear hT hF b1 b2 hA)
    | (go_at_call 21; refine hcl.mono ?_; rintro e w4 ⟨rfl, hT, hF⟩; clear hcl; obtain ⟨b1, b2⟩ := hF.below H3.out.2 H3.out.1.size; have H4 := Lib.hid (H3.out.1.trans b1); have hfi := tfind_yes (nd := ⟨true, 0, 0, [(nmA, 1)]⟩) (show TB w4 tb ns3 lo3 1 from hT) 0 nmA rfl rfl; have HT4 := Lib.hid (show TB w4 tb ns3 lo3 1 from hT); clear hT hF b1 b2)
    | (go_at_call 12; refine hfi.mono ?_; rintro e w5 ⟨⟨j, hA, hq⟩, hB⟩; clear hfi; obtain rfl := at_one hA; rcases hq with ⟨hq, _⟩ | ⟨x, hx, _, rfl⟩; (· exact absurd hq (by decide)); obtain rfl := (Option.some.inj hx).symm; have H5 := Lib.hid (H4.out.trans (hB.mono H4.out.size)); have hln := len_is (HT4.out.below hB); rw [show lenN ns3 16 = 2 from rfl] at hln; clear hA hx hB)
    | (go_at_call 22; refine hln.mono ?_; rintro e w6 ⟨rfl, rfl⟩))
  go_ret
  exact ⟨rfl, H5.out⟩
end Go.Proofs.Ytapkdaccbojbgaa
