/-
  Low: a number brought below n.
-/
import Derived.Test.YtaldahogjlokkaaGreatDoorRegJ
import Derived.Test.YtaldahogjlokkaaGreatDoorProg
import Derived.WalkSpells
namespace Go.Proofs.YtaldahogjlokkaaGreatDoor
set_option linter.unusedSimpArgs false
set_option linter.unusedVariables false
open Go.RowKit

def lowF (x n : Int) : Int := (x % 18446744073709551616) % n
theorem low_any (x n : Int) (hn : 0 < n) (hm : n ≤ 4294967296) (w : World) :
    Calls Tryz.prog 15 #[.int .i64 x, .int .i64 n] w fun e w' => e = .returned (.int .i64 (lowF x n)) ∧ w = w' := by
  go_enter Tryz.func15, Tryz.ntmps15
  go_wp2
  go_ret
  refine ⟨?_, rfl⟩
  have h0 : 0 ≤ x % 18446744073709551616 := Int.emod_nonneg _ (by decide)
  have h1 : 0 ≤ (x % 18446744073709551616) % n := Int.emod_nonneg _ (by omega)
  have h2 : (x % 18446744073709551616) % n < n := Int.emod_lt_of_pos _ hn
  have e : (IntKind.u64.wrap x).tmod n = (x % 18446744073709551616) % n := by
    rw [show IntKind.u64.wrap x = x % 18446744073709551616 from by simp [IntKind.wrap, IntKind.signed, IntKind.bits]]
    exact Int.tmod_eq_emod_of_nonneg h0
  show Ending.returned (.int .i64 (wrap64 ((IntKind.u64.wrap x).tmod n))) = _
  rw [e, IntWalk.wrap64_in _ (by omega)]
  rfl
theorem low_bd (x n : Int) (hn : 0 < n) : 0 ≤ lowF x n ∧ lowF x n < n :=
  ⟨Int.emod_nonneg _ (by omega), Int.emod_lt_of_pos _ hn⟩
end Go.Proofs.YtaldahogjlokkaaGreatDoor
