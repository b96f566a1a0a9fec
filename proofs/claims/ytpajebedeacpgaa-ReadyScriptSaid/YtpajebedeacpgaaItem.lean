/-
  Items of a heap: which one stands ahead. Conditions: none.
-/
import Derived.Test.YtpajebedeacpgaaProg
import Derived.Test.YtpajebedeacpgaaOwn
import Derived.Test.YtpajebedeacpgaaJone
import Derived.WalkKit
import Derived.Handy
import Derived.Lib.Hide
import Derived.Deep.QuietTactic
import Derived.BigQuiet
namespace Go.Proofs.Ytpajebedeacpgaa
set_option linter.unusedSimpArgs false
set_option linter.unusedVariables false
open Go.RowKit Go.Lib Own RegJ

theorem ret_int {k : IntKind} {a b : Int} (h : a = b) : Ending.returned (.int k a) = .returned (.int k b) := by rw [h]
theorem ret_bool {a b : Bool} (h : a = b) : Ending.returned (.bool a) = .returned (.bool b) := by rw [h]
theorem below_drewN' {B : Nat} {a w : World} (h : Below B a w) (n : Nat) : Below B a (w.drewN n) := ⟨h.os, h.tape, h.output, h.size, h.block⟩

def cmpF (x y : Int) : Int := if x < y then -1 else if y < x then 1 else 0
theorem isNaN_is (x : Int) (w : World) : Calls Try.prog 55 #[.int .i64 x] w fun e w' => e = .returned (.bool false) ∧ w = w' := by
  go_enter Try.func55, Try.ntmps55
  go_wp2
  go_ret
  exact ⟨ret_bool (by simp), rfl⟩
theorem compare_is (x y : Int) (w : World) : Calls Try.prog 38 #[.int .i64 x, .int .i64 y] w fun e w' => e = .returned (.int .i64 (cmpF x y)) ∧ w = w' := by
  go_enter Try.func38, Try.ntmps38
  go_wp2_with (go_at_call 55; refine (isNaN_is _ _).mono ?_; rintro e w' ⟨rfl, rfl⟩)
  all_goals go_ret
  all_goals refine ⟨ret_int ?_, rfl⟩
  all_goals (unfold cmpF; first | (simp_all; done) | (simp_all; omega) | (rw [if_neg (by omega), if_neg (by omega)]) | (rw [if_neg (by omega), if_pos (by omega)]) | (rw [if_pos (by omega)]))
def orF (x y : Int) : Int := if x = 0 then y else x
set_option maxRecDepth 100000 in
theorem or_is (b : Nat) (x y : Int) (w : World) (h0 : w.cell? ⟨b, 0, none⟩ = some (.int .i64 x)) (h1 : w.cell? ⟨b, 1, none⟩ = some (.int .i64 y)) :
    Calls Try.prog 71 #[.slice (some ⟨b, 0, none⟩) 2 2] w fun e w' => e = .returned (.int .i64 (orF x y)) ∧ w = w' := by
  unfold orF
  by_cases hx : x = 0
  · subst hx
    rw [if_pos rfl]
    by_cases hy : y = 0
    · subst hy
      go_enter Try.func71, Try.ntmps71
      go_wp2
      go_loop [5, 8] (fun _ kx => ∃ k : Nat, k ≤ 2 ∧ kx = .int .i64 k) (fun _ kx => 2 - (intOf kx).toNat)
      case atStart => exact ⟨0, by omega, rfl⟩
      case round =>
        obtain ⟨k, hk, rfl⟩ := hrel
        have hc : k = 0 ∨ k = 1 ∨ k = 2 := by omega
        rcases hc with rfl | rfl | rfl
        · go_wp2
          go_round
          case rel => exact ⟨1, by omega, rfl⟩
          case measure => simp [intOf]
        · go_wp2
          go_round
          case rel => exact ⟨2, by omega, rfl⟩
          case measure => simp [intOf]
        · go_wp2
          go_ret
          exact ⟨rfl, rfl⟩
    · have hb : (y != 0) = true := by simpa using hy
      clear hy
      go_enter Try.func71, Try.ntmps71
      go_wp2
      go_loop [5, 8] (fun _ kx => ∃ k : Nat, k ≤ 1 ∧ kx = .int .i64 k) (fun _ kx => 2 - (intOf kx).toNat)
      case atStart => exact ⟨0, by omega, rfl⟩
      case round =>
        obtain ⟨k, hk, rfl⟩ := hrel
        have hc : k = 0 ∨ k = 1 := by omega
        rcases hc with rfl | rfl
        · go_wp2
          go_round
          case rel => exact ⟨1, by omega, rfl⟩
          case measure => simp [intOf]
        · go_wp2
          go_ret
          exact ⟨rfl, rfl⟩
  · rw [if_neg hx]
    have hb : (x != 0) = true := by simpa using hx
    clear hx
    go_enter Try.func71, Try.ntmps71
    go_wp2
    go_loop [5, 8] (fun _ kx => kx = .int .i64 0) (fun _ kx => 2 - (intOf kx).toNat)
    case atStart => exact rfl
    case round =>
      obtain rfl := hrel
      go_wp2
      go_ret
      exact ⟨rfl, rfl⟩

/-- an item: its number, its key -/
abbrev It := Int × Int
def itV (a : It) : Value := .agg #[.int .i64 a.1, .int .i64 a.2]
/-- a stands ahead of b -/
def lt (a b : It) : Prop := a.2 < b.2 ∨ (a.2 = b.2 ∧ a.1 < b.1)
instance (a b : It) : Decidable (lt a b) := by unfold lt; infer_instance
def befF (a b : It) : Int := orF (cmpF a.2 b.2) (cmpF a.1 b.1)
theorem befF_lt (a b : It) : decide (befF a b < 0) = decide (lt a b) := by
  unfold befF orF cmpF lt
  by_cases h1 : a.2 < b.2
  · simp [h1]
  · by_cases h2 : b.2 < a.2
    · simp [h1, h2]; omega
    · have h3 : a.2 = b.2 := by omega
      by_cases h4 : a.1 < b.1
      · simp [h3, h4]
      · by_cases h5 : b.1 < a.1 <;> simp [h3, h4, h5]
/-- the pair of signs: not yet there, or there -/
structure BefS (w : World) (u : Bool) (x y : Int) (w' : World) : Prop where
  two : u = true → Blk w' (w.heap.size + 2) #[.int .i64 x, .int .i64 y] 3
  size : u = false → w'.heap.size = w.heap.size + 2
theorem BefS.mk' {w w' : World} {u : Bool} {x y : Int} (h : BefS w u x y w') (hu : u = false) : BefS w true x y (w'.alloc (.cells #[.int .i64 x, .int .i64 y] 3)) := ⟨fun _ => Blk.new' (h.size hu).symm, fun h => by cases h⟩
set_option maxRecDepth 100000 in
theorem before_is (a b c d : Int) (w : World) : Calls Try.prog 52 #[.agg #[.int .i64 a, .int .i64 b], .agg #[.int .i64 c, .int .i64 d]] w fun e w' => e = .returned (.int .i64 (befF (a, b) (c, d))) ∧ Below w.heap.size w w' := by
  go_enter Try.func52, Try.ntmps52
  go_wp2
  refine region_J (J1 10 (fun u w' => Below w.heap.size w w' ∧ Blk w' w.heap.size #[.int .i64 a, .int .i64 b] 72 ∧ Blk w' (w.heap.size + 1) #[.int .i64 c, .int .i64 d] 72 ∧ BefS w u (cmpF b d) (cmpF a c) w')) (by kernel_rfl) (by kernel_rfl) ?_ ?_
  · exact ⟨(((Below.refl _ _).alloc (Nat.le_refl _) _).alloc (by simp) _).drew, ((Blk.new _ _ _).alloc _).drew, (Blk.new' (by simp)).drew, ⟨fun h => (by cases h), fun _ => (by simp [World.drew])⟩⟩
  · iterate 10
      apply wpJ_op rfl (by rfl)
      · intro f w' hf hJ Q1 hQ
        have hK := hJ
        obtain ⟨hb, h1, h2, h3⟩ := hJ
        have c1 := h1.rd
        have c2 := h2.rd
        simp only [Act.put, List.setIfInBounds_toArray, List.set_cons_zero, List.set_cons_succ] at hQ
        go_wp2_with (go_at_call 38; refine (compare_is _ _ _).mono ?_; rintro e w2 ⟨rfl, rfl⟩)
        exact hQ _ _ rfl (hK.other (by decide))
      simp only [Act.put, List.setIfInBounds_toArray, List.set_cons_zero, List.set_cons_succ]
    apply wpJ_op rfl (by rfl)
    · intro f w' hf hJ Q1 hQ
      have hK := hJ
      obtain ⟨hb, h1, h2, h3⟩ := hJ
      have c1 := h1.rd
      have c2 := h2.rd
      simp only [Act.put, List.setIfInBounds_toArray, List.set_cons_zero, List.set_cons_succ] at hQ
      have hz := h3.size hf.1
      go_wp2
      exact hQ _ _ rfl (J1.fin ⟨hb.alloc hb.size _, h1.alloc _, h2.alloc _, h3.mk' hf.1⟩)
    simp only [Act.put, List.setIfInBounds_toArray, List.set_cons_zero, List.set_cons_succ]
    apply wpJ_op rfl (by rfl)
    · intro f w' hf hJ Q1 hQ
      have hK := hJ
      obtain ⟨hb, h1, h2, h3⟩ := hJ
      have c1 := h1.rd
      have c2 := h2.rd
      simp only [Act.put, List.setIfInBounds_toArray, List.set_cons_zero, List.set_cons_succ] at hQ
      have hu := up_dep hf 10 (by kernel_rfl)
      go_wp2_with (go_at_call 71; refine (or_is _ _ _ _ ((h3.two hu).cell rfl) ((h3.two hu).cell rfl)).mono ?_; rintro e w2 ⟨rfl, rfl⟩)
      exact hQ _ _ rfl (hK.other (by decide))
    simp only [Act.put, List.setIfInBounds_toArray, List.set_cons_zero, List.set_cons_succ]
    apply wpJ_op rfl (by rfl)
    · intro f w' hf hJ Q1 hQ
      have hK := hJ
      obtain ⟨hb, h1, h2, h3⟩ := hJ
      have c1 := h1.rd
      have c2 := h2.rd
      simp only [Act.put, List.setIfInBounds_toArray, List.set_cons_zero, List.set_cons_succ] at hQ
      go_wp2
      exact hQ _ _ rfl (hK.other (by decide))
    simp only [Act.put, List.setIfInBounds_toArray, List.set_cons_zero, List.set_cons_succ]
    refine wpJ_nil ?_
    intro w3 hJ3
    obtain ⟨hb, -⟩ := hJ3
    go_wp2
    go_ret
    exact ⟨rfl, hb⟩
end Go.Proofs.Ytpajebedeacpgaa
