/-
  Two lists of integers: are they the same? Conditions: both can be read.
-/
import Derived.Test.YtaldahogjlokkaaGreatDoorProg
import Derived.Test.YtaldahogjlokkaaGreatDoorBy
import Derived.Deep.MidRow
import Derived.LoopTactic
import Derived.Handy
import Derived.WalkKit
import Derived.Lib.Hide
import Derived.Deep.QuietTactic
import Derived.BigQuiet
namespace Go.Proofs.YtaldahogjlokkaaGreatDoor
set_option linter.unusedSimpArgs false
set_option linter.unusedVariables false
open Go.RowKit Own RegJ

/-- a row of integers that can be read, wherever it lies -/
def RdU (w : World) (v : Value) (xs : List Int) : Prop := ∃ a c, v = .slice a xs.length c ∧ xs.length ≤ maxLen ∧ ∀ j, j < xs.length → ∃ g o, a = some ⟨g, o, none⟩ ∧ w.cell? ⟨g, o + j, none⟩ = some (.int .u8 (xs.getD j 0))
theorem RdU.of {w : World} {E : TypeId} {v : Value} {xs : List Int} {b : Option Nat} (h : RowV w E v (ucells xs) b) : RdU w v xs := by
  rcases h with ⟨rfl, h0, rfl⟩ | ⟨g, cap, rest, rfl, rfl, hB, hc, hm⟩
  · have : xs = [] := by cases xs with | nil => rfl | cons x r => cases h0
    subst this
    exact ⟨none, 0, rfl, by simp, fun j hj => by simp at hj⟩
  · have hl : (ucells xs).length = xs.length := by simp
    rw [hl]
    refine ⟨_, _, rfl, by rw [hc, List.length_append, hl] at hm; omega, fun j hj => ⟨g, 0, rfl, ?_⟩⟩
    rw [hB.rd, Nat.zero_add, List.getElem?_toArray, List.getElem?_append_left (by simpa using hj)]
    simp [ucells, hj]
theorem RdU.arg {w : World} {a : Option Addr} {c : Nat} {xs : List Int} (hm : xs.length ≤ maxLen) (h : 0 < xs.length → ∃ g q, a = some ⟨g, q, none⟩ ∧ RdV w (some ⟨g, q, none⟩) (ucells xs)) : RdU w (.slice a xs.length c) xs := by
  refine ⟨a, c, rfl, hm, fun j hj => ?_⟩
  obtain ⟨g, q, rfl, hr⟩ := h (by omega)
  obtain ⟨A, e, h2⟩ := hr j (.int .u8 (xs.getD j 0)) (by simp [ucells, hj])
  cases e
  exact ⟨g, q, rfl, by rw [Addr.add_mid] at h2; exact h2⟩
theorem RdU.keep {w w' : World} {v : Value} {xs : List Int} (h : RdU w v xs) (hk : ∀ a, (∃ x, w.cell? a = some x) → w'.cell? a = w.cell? a) : RdU w' v xs := by
  obtain ⟨a, c, rfl, hm, h⟩ := h
  refine ⟨a, c, rfl, hm, fun j hj => ?_⟩
  obtain ⟨g, o, h1, h2⟩ := h j hj
  exact ⟨g, o, h1, by rw [hk _ ⟨_, h2⟩]; exact h2⟩
theorem RdU.some {w : World} {v : Value} {xs : List Int} (h : RdU w v xs) (hn : 0 < xs.length) : ∃ g o c, v = .slice (some ⟨g, o, none⟩) xs.length c ∧ xs.length ≤ maxLen ∧ ∀ j, j < xs.length → w.cell? ⟨g, o + j, none⟩ = some (.int .u8 (xs.getD j 0)) := by
  obtain ⟨a, c, rfl, hm, h⟩ := h
  obtain ⟨g, o, rfl, -⟩ := h 0 hn
  refine ⟨g, o, c, rfl, hm, fun j hj => ?_⟩
  obtain ⟨g', o', h1, h2⟩ := h j hj
  cases h1; exact h2
theorem sameB_lists {xs ys : List Int} (h : xs.length = ys.length) (hk : ∀ j, j < xs.length → xs.getD j 0 = ys.getD j 0) : xs = ys := by
  apply List.ext_getElem h
  intro j h1 h2
  have := hk j h1
  simpa [h1, h2] using this
def SameBP (b : Bool) (w : World) (e : Ending) (w' : World) : Prop := e = .returned (.bool b) ∧ ∃ q, w' = w.drewN q
set_option maxRecDepth 100000 in
theorem sameB_some (g1 o1 c1 g2 o2 c2 n : Nat) (X Y : Nat → Int) (b : Bool) (hb : b = true ↔ ∀ j, j < n → X j = Y j) (hm : n ≤ maxLen) (w : World)
    (h1 : ∀ j, j < n → w.cell? ⟨g1, o1 + j, none⟩ = some (.int .u8 (X j))) (h2 : ∀ j, j < n → w.cell? ⟨g2, o2 + j, none⟩ = some (.int .u8 (Y j))) :
    Calls Tryz.prog 18 #[.slice (some ⟨g1, o1, none⟩) n c1, .slice (some ⟨g2, o2, none⟩) n c2] w (SameBP b w) := by
  unfold maxLen at hm
  have HB := Lib.hid hb
  clear hb
  go_enter Tryz.func18, Tryz.ntmps18
  go_wp2
  go_loopw [5] (fun ix wr => ∃ k q : Nat, k ≤ n ∧ ix = .int .i64 k ∧ wr = w.drewN q ∧ ∀ j, j < k → X j = Y j) (fun ix _ => n - (intOf ix).toNat)
  case atStart => exact ⟨0, 0, Nat.zero_le _, rfl, rfl, fun j hj => by omega⟩
  case round =>
    obtain ⟨k, q, hk, rfl, rfl, he⟩ := hrel
    by_cases hkl : k < n
    · have d1 : decide ((k : Int) < (n : Int)) = true := by simp; omega
      have d2 := h1 k hkl
      have d3 := h2 k (by omega)
      have i1 : (k : Int) < (n : Int) := by omega
      have i2 : (0 : Int) ≤ k := by omega
      by_cases hx : X k = Y k
      · rw [hx] at d2
        have HE := Lib.hid (And.intro hx he)
        clear hx he h1 h2
        go_wp2
        go_quiet (fail)
        go_wp2
        go_roundw
        case rel => exact ⟨k + 1, q + nq, by omega, by go_num, rfl, fun j hj => by
          by_cases hjk : j = k
          · subst hjk; exact HE.out.1
          · exact HE.out.2 j (by omega)⟩
        case measure => simp [intOf]; omega
      · have hbx : (X k != Y k) = true := by simpa using hx
        have hf : b = false := by
          cases b with
          | false => rfl
          | true => exact absurd (HB.out.1 rfl k hkl) hx
        subst hf
        clear he h1 h2 hx HB
        go_wp2
        go_quiet (fail)
        go_wp2
        go_ret
        exact ⟨rfl, q + nq, by first | rfl | rw [World.drewN_drewN]⟩
    · have d1 : decide ((k : Int) < (n : Int)) = false := by simp; omega
      have hf : b = true := HB.out.2 (fun j hj => he j (by omega))
      subst hf
      clear he h1 h2 HB
      go_wp2
      go_ret
      exact ⟨rfl, q, rfl⟩
set_option maxRecDepth 100000 in
theorem sameB_ne (a1 a2 : Option Addr) (n1 n2 c1 c2 : Nat) (w : World) (hn : n1 ≠ n2) :
    Calls Tryz.prog 18 #[.slice a1 n1 c1, .slice a2 n2 c2] w (SameBP false w) := by
  have d1 : ((n1 : Int) != (n2 : Int)) = true := by simp; omega
  clear hn
  go_enter Tryz.func18, Tryz.ntmps18
  go_wp2
  go_ret
  exact ⟨rfl, 0, rfl⟩
set_option maxRecDepth 100000 in
theorem sameB_zero (a1 a2 : Option Addr) (c1 c2 : Nat) (w : World) :
    Calls Tryz.prog 18 #[.slice a1 0 c1, .slice a2 0 c2] w (SameBP true w) := by
  go_enter Tryz.func18, Tryz.ntmps18
  go_wp2
  go_loopw [5] (fun ix wr => ix = .int .i64 0 ∧ wr = w) (fun ix _ => 0)
  case atStart => exact ⟨rfl, rfl⟩
  case round =>
    obtain ⟨rfl, rfl⟩ := hrel
    go_wp2
    go_ret
    exact ⟨rfl, 0, rfl⟩
/-- of any two lists that can be read -/
theorem sameB_any {w : World} {v1 v2 : Value} {xs ys : List Int} (h1 : RdU w v1 xs) (h2 : RdU w v2 ys) (b : Bool) (hb : decide (xs = ys) = b) :
    Calls Tryz.prog 18 #[v1, v2] w (SameBP b w) := by
  subst hb
  by_cases hl : xs.length = ys.length
  · by_cases h0 : xs.length = 0
    · have e1 : xs = [] := List.eq_nil_of_length_eq_zero h0
      have e2 : ys = [] := List.eq_nil_of_length_eq_zero (by omega)
      subst e1; subst e2
      obtain ⟨a1, c1, rfl, -, -⟩ := h1
      obtain ⟨a2, c2, rfl, -, -⟩ := h2
      exact sameB_zero a1 a2 c1 c2 w
    · obtain ⟨g1, o1, c1, rfl, hm, k1⟩ := h1.some (by omega)
      obtain ⟨g2, o2, c2, rfl, -, k2⟩ := h2.some (by omega)
      rw [← hl] at k2 ⊢
      refine sameB_some g1 o1 c1 g2 o2 c2 _ (fun j => xs.getD j 0) (fun j => ys.getD j 0) _ ?_ hm w k1 k2
      simp only [decide_eq_true_iff]
      exact ⟨fun h j _ => by rw [h], fun h => sameB_lists hl h⟩
  · obtain ⟨a1, c1, rfl, -, -⟩ := h1
    obtain ⟨a2, c2, rfl, -, -⟩ := h2
    have hf : decide (xs = ys) = false := by simp; intro h; exact hl (by rw [h])
    rw [hf]
    exact sameB_ne a1 a2 _ _ c1 c2 w hl
end Go.Proofs.YtaldahogjlokkaaGreatDoor
