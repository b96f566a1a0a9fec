/-
  Entries of a directory: their order by names; where a name stands in a sorted row.
-/
import Derived.Test.YtjpjafajploiaaaGreatDoorProg
import Derived.Test.YtjpjafajploiaaaGreatDoorJone
import Derived.Test.YtjpjafajploiaaaGreatDoorTwo
import Derived.Test.YtjpjafajploiaaaGreatDoorPName
import Derived.WalkKit
import Derived.Handy
import Derived.Lib.Hide
import Derived.Laws.Cover1
import Derived.Deep.QuietTactic
import Derived.BigQuiet
namespace Go.Proofs.YtjpjafajploiaaaGreatDoor
set_option linter.unusedSimpArgs false
set_option linter.unusedVariables false
open Go.RowKit Own RegJ Two
open Go.Lib hiding intOf

/-- which name stands ahead -/
def nlt (a b : Txt) : Bool := Op.bytesLess a b
theorem nlt_irr : ∀ a : Txt, nlt a a = false
  | [] => rfl
  | c :: r => by
    have := nlt_irr r
    unfold nlt at *
    unfold Op.bytesLess
    simp [this]
theorem nlt_tot : ∀ a b : Txt, nlt a b = false → nlt b a = false → a = b
  | [], [], _, _ => rfl
  | [], _ :: _, h, _ => by unfold nlt Op.bytesLess at h; cases h
  | _ :: _, [], _, h => by unfold nlt Op.bytesLess at h; cases h
  | a :: x, b :: y, h1, h2 => by
    unfold nlt Op.bytesLess at h1 h2
    simp only [Bool.or_eq_false_iff, decide_eq_false_iff_not, Bool.and_eq_false_iff, beq_eq_false_iff_ne] at h1 h2
    have hab : a = b := by
      apply UInt8.toNat_inj.1
      have e1 := h1.1
      have e2 := h2.1
      rw [UInt8.lt_iff_toNat_lt] at e1 e2
      omega
    subst hab
    rw [nlt_tot x y (h1.2.resolve_left (fun h => h rfl)) (h2.2.resolve_left (fun h => h rfl))]
theorem nlt_trans : ∀ a b c : Txt, nlt a b = true → nlt b c = true → nlt a c = true
  | _, [], _, h, _ => by cases ‹Txt› <;> (unfold nlt Op.bytesLess at h; cases h)
  | _, _ :: _, [], _, h => by unfold nlt Op.bytesLess at h; cases h
  | [], _ :: _, _ :: _, _, _ => by unfold nlt Op.bytesLess; rfl
  | a :: x, b :: y, c :: z, h1, h2 => by
    have ih := nlt_trans x y z
    unfold nlt at *
    unfold Op.bytesLess at h1 h2 ⊢
    simp only [Bool.or_eq_true, decide_eq_true_eq, Bool.and_eq_true, beq_iff_eq, UInt8.lt_iff_toNat_lt] at h1 h2 ⊢
    rcases h1 with h1 | ⟨rfl, h1⟩
    · rcases h2 with h2 | ⟨rfl, h2⟩
      · exact Or.inl (by omega)
      · exact Or.inl h1
    · rcases h2 with h2 | ⟨rfl, h2⟩
      · exact Or.inl h2
      · exact Or.inr ⟨rfl, ih h1 h2⟩
def cmpS (a b : Txt) : Int := if nlt a b = true then -1 else if a = b then 0 else 1
theorem nan_is (s : ByteArray) (w : World) : Calls Tryz.prog 245 #[.string s] w fun e w' => e = .returned (.bool false) ∧ w = w' := by
  go_enter Tryz.func245, Tryz.ntmps245
  go_wp2
  go_ret
  exact ⟨rfl, rfl⟩
theorem cmps_is (a b : Txt) (w : World) : Calls Tryz.prog 222 #[.string (B a), .string (B b)] w fun e w' => e = .returned (.int .i64 (cmpS a b)) ∧ w = w' := by
  have e1 : Op.bytesLess (B a).toList (B b).toList = nlt a b := by rw [B_list, B_list]; rfl
  have e2 : ((B a).toList == (B b).toList) = decide (a = b) := by rw [B_list, B_list, beq_dec]
  unfold cmpS
  generalize B a = s at *
  generalize B b = t at *
  by_cases h1 : nlt a b = true
  · rw [if_pos h1]
    rw [h1] at e1
    clear e2 h1
    go_enter Tryz.func222, Tryz.ntmps222
    go_wp2_with (go_at_call 245; refine (nan_is _ _).mono ?_; rintro e w' ⟨rfl, rfl⟩)
    go_ret
    exact ⟨rfl, rfl⟩
  · rw [if_neg h1]
    rw [Bool.eq_false_iff.2 h1] at e1
    by_cases h2 : a = b
    · rw [if_pos h2]
      rw [decide_eq_true h2] at e2
      clear h1 h2
      go_enter Tryz.func222, Tryz.ntmps222
      go_wp2_with (go_at_call 245; refine (nan_is _ _).mono ?_; rintro e w' ⟨rfl, rfl⟩)
      go_ret
      exact ⟨rfl, rfl⟩
    · rw [if_neg h2]
      rw [decide_eq_false h2] at e2
      clear h1 h2
      go_enter Tryz.func222, Tryz.ntmps222
      go_wp2_with (go_at_call 245; refine (nan_is _ _).mono ?_; rintro e w' ⟨rfl, rfl⟩)
      go_ret
      exact ⟨rfl, rfl⟩
/-- an entry: a name, a number -/
abbrev En := Txt × Int
abbrev enV (x : En) : V2 := (.string (B x.1), .int .i64 x.2)
set_option maxRecDepth 100000 in
theorem byName_is (a b : Txt) (i j : Int) (w : World) : Calls Tryz.prog 182 #[.agg #[.string (B a), .int .i64 i], .agg #[.string (B b), .int .i64 j]] w fun e w' => e = .returned (.int .i64 (cmpS a b)) ∧ Below w.heap.size w w' := by
  have hc := cmps_is a b
  go_enter Tryz.func182, Tryz.ntmps182
  go_wp2_with (go_at_call 222; refine (hc _).mono ?_; rintro e w' ⟨rfl, rfl⟩)
  go_ret
  exact ⟨rfl, ((Below.refl _ _).alloc (Nat.le_refl _) _).alloc (by simp) _⟩
end Go.Proofs.YtjpjafajploiaaaGreatDoor
