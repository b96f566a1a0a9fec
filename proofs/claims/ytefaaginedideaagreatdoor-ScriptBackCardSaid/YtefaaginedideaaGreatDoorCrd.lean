/-
  Script's law: what Parse lays can be read.
-/
import Derived.Test.YtefaaginedideaaGreatDoorSCf
import Derived.Test.YtefaaginedideaaGreatDoorSAwk
import Derived.Test.YtefaaginedideaaGreatDoorPrI
namespace Go.Proofs.YtefaaginedideaaGreatDoor
set_option linter.unusedSimpArgs false
set_option linter.unusedVariables false
open Go.RowKit Own RegJ
open Go.Lib hiding intOf

theorem Rw.max {w : World} {T : TypeId} {sz n : Nat} {v : Value} {cs : List Value} {b : Option Nat} (h : Rw w T sz v n cs b) : n ≤ maxLen := by
  rcases h.2 with ⟨_, rfl, _⟩ | ⟨g, cap, rst, _, _, _, _, hnc, hmx⟩
  · simp
  · omega
/-- what Parse lays can be read -/
theorem Core.rd {w : World} {B : Nat} {c : CfgV} {tv bv mv gv : Value} {tq : List TQ} {eq : List EQ} {tb bb mb gb : Option Nat} (h : Core w B c tv bv mv gv tq eq tb bb mb gb) (hu : ∀ t ∈ c.tasks, t.uses.length ≤ 100000) : RdCfg w c tv bv mv gv tq eq := by
  refine ⟨h.lt, h.le, h.rt.rdc, h.re.rdc, h.rm.rdc, h.rg.rdc, fun i t q ht hq => ?_, fun i t q ht hq => ?_, fun i t q ht hq => ?_, ⟨h.rt.max, h.re.max, h.rm.max, h.rg.max⟩⟩
  · obtain ⟨a, cc, e, hr⟩ := (h.us i t q ht hq).rdc
    refine ⟨a, cc, e, hr, ?_⟩
    have := hu t (List.mem_of_getElem? ht)
    unfold maxLen; omega
  · obtain ⟨a, cc, e, hr⟩ := (h.pt i t q ht hq).rdc
    exact ⟨a, cc, e, hr, (h.pt i t q ht hq).max⟩
  · obtain ⟨a, cc, e, hr⟩ := (h.pe i t q ht hq).rdc
    exact ⟨a, cc, e, hr, (h.pe i t q ht hq).max⟩
/-- a record stored into a block of its own -/
theorem cfg_lay {w : World} (cs : Array Value) : Blk ((w.alloc (.cells zCfg 41)).setRow w.heap.size cs) w.heap.size cs 41 := Blk.row (Blk.new w zCfg 41) cs
end Go.Proofs.YtefaaginedideaaGreatDoor
