/-
  Descriptors' laws: what several of them lean on.
-/
import Derived.Test.YtaldahogjlokkaaGreatDoorKc
import Derived.Test.YtaldahogjlokkaaGreatDoorSameB
import Derived.Test.YtaldahogjlokkaaGreatDoorLow
namespace Go.Proofs.YtaldahogjlokkaaGreatDoor
set_option linter.unusedSimpArgs false
set_option linter.unusedVariables false
open Go.RowKit Own RegJ Two
open Go.Lib hiding intOf

/-- an operation behind a guard that holds is as one without -/
theorem wp_ung {P : Program} {ops : Array Oper} {rest : List Oper} {a : Act} {Q : Exit → Act → World → Prop} {w : World} {d : Option Nat} {op : Op} {ty : TypeId} {pos : String} {af : Array Edge} {j : Nat} {b : Bool}
    (hv : yielded ops a.tmps j = some b) (h : wpList P ops Q (⟨d, op, ty, pos, af, none⟩ :: rest) a w) : wpList P ops Q (⟨d, op, ty, pos, af, some (j, b)⟩ :: rest) a w := by
  unfold wpList at h ⊢
  rw [if_pos (by simp [Region.wanted, hv])]
  rw [if_pos (by simp [Region.wanted])] at h
  exact h
theorem o_writeE {x : Txt} (F : Nat) (hF : 8 ≤ F) (op : Int) (b : List Int) (h : b.length ≤ 512) : wrF (nsO x op []) F 1 0 b = (0, nsO x op b) := by
  by_cases h0 : b = []
  · subst h0; exact o_write0 F op [] 0
  · have := o_write (x := x) F hF op [] b 0 (by omega) (by simp) h0
    rw [show writeB [] 0 b = b from writeB_end [] b] at this
    exact this
/-- the bytes lent: not theirs, and as they were -/
theorem ArgB.src [Inhabited CapT] {w0 w : World} {O : Nat → Prop} {fdb vb tb fb sb pb mb : Nat} {ns : NSt} {c N : Nat} {S : FS} {v : Value} {b : List Int} (h : ArgB w0 v b) (hD : FX w0 O fdb vb tb fb sb pb mb ns c N S w) : SrcF O w v b := by
  obtain ⟨a, cp, rfl, h1, h2⟩ := h
  refine ⟨a, cp, rfl, h1, fun hp => ?_⟩
  obtain ⟨g, q, rfl, h3, h4⟩ := h2 hp
  exact ⟨g, q, rfl, rdv_far h3 h4 hD.bel, fun ho => by have := (hD.rng g ho).1; omega, Nat.lt_of_lt_of_le h4 hD.bel.size⟩
theorem ArgB.rdu {w0 w : World} {v : Value} {b : List Int} (h : ArgB w0 v b) (hm : b.length ≤ maxLen) (hB : Below w0.heap.size w0 w) : RdU w v b := by
  obtain ⟨a, cp, rfl, h1, h2⟩ := h
  exact RdU.arg hm (fun hp => by
    obtain ⟨g, q, rfl, h3, h4⟩ := h2 hp
    exact ⟨g, q, rfl, rdv_far h3 h4 hB⟩)
/-- a copy of a table with one name in it -/
theorem bumps_none (S : FS) (f : Nat → Option Nat) (hf : ∀ k, k ≠ 0 → f k = none) : ∀ i, S.bumps f (i + 1) = S.bumps f 1
  | 0 => rfl
  | i + 1 => by
    rw [← bumps_none S f hf i]
    show (match f (i + 1) with | some x => _ | none => _) = _
    rw [hf (i + 1) (by omega)]
theorem bumps_one (S : FS) (f : Nat → Option Nat) (hf : ∀ k, k ≠ 0 → f k = none) {x : Nat} (hx : f 0 = some x) {t : Th} (ht : S.th x = some t) (i : Nat) : S.bumps f (i + 1) = S.setth x { t with nm := t.nm + 1 } := by
  rw [bumps_none S f hf i]
  show (match f 0 with | some x => _ | none => _) = _
  rw [hx]
  show S.bump x = _
  unfold FS.bump
  rw [ht]
theorem twin_pr (S : FS) {q i : Int} {b b2 : Nat} (h : i ≠ q) : (S.twin q b b2).pr i = S.pr i := if_neg h
theorem twin_new (S : FS) (q : Int) (b b2 : Nat) : (S.twin q b b2).pr q = some b2 := if_pos rfl
theorem twin_sl (S : FS) (q : Int) {b b2 : Nat} (h : b ≠ b2) : (S.twin q b b2).sl b = S.sl b := upN_ne _ _ h
theorem twin_sl2 (S : FS) (q : Int) (b b2 : Nat) : (S.twin q b b2).sl b2 = S.sl b := upN_eq _ _ _
/-- two stretches behind each other are the whole -/
theorem two_parts (b : List Int) (n : Nat) (h : b.length ≤ 600) : (b.take n) ++ ((b.drop (b.take n).length).take 600) = b := by
  rw [List.take_of_length_le (l := b.drop _) (by simp; omega)]
  rw [List.length_take]
  by_cases hn : n ≤ b.length
  · rw [Nat.min_eq_left hn, List.take_append_drop]
  · rw [Nat.min_eq_right (by omega), List.drop_length, List.append_nil, List.take_of_length_le (by omega)]
theorem ucells_app (a b : List Int) : ucells (a ++ b) = ucells a ++ ucells b := List.map_append
theorem one_u (l : List Int) : ∀ u ∈ ucells l, u.oneCell' = true := by
  intro u hu
  unfold ucells at hu
  obtain ⟨x, _, rfl⟩ := List.mem_map.1 hu
  rfl
end Go.Proofs.YtaldahogjlokkaaGreatDoor
