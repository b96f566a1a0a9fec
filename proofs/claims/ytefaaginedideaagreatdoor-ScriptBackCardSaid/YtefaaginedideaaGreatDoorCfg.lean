/-
  A configuration that can be read, wherever it lies.
-/
import Derived.Test.YtefaaginedideaaGreatDoorSLaw
namespace Go.Proofs.YtefaaginedideaaGreatDoor
set_option linter.unusedSimpArgs false
set_option linter.unusedVariables false
open Go.RowKit Own RegJ
open Go.Lib hiding intOf

structure RdCfg (w : World) (c : CfgV) (tv bv mv gv : Value) (tq : List TQ) (eq : List EQ) : Prop where
  lt : tq.length = c.tasks.length
  le : eq.length = c.best.length
  rt : ∃ a cc, tv = .slice a c.tasks.length cc ∧ RdC w a (tCells c.tasks tq)
  re : ∃ a cc, bv = .slice a c.best.length cc ∧ RdC w a (eCells c.best eq)
  rm : ∃ a cc, mv = .slice a c.mtx.length cc ∧ RdC w a (mCells c.mtx)
  rg : ∃ a cc, gv = .slice a c.gaps.length cc ∧ RdC w a (icells c.gaps)
  us : ∀ (i : Nat) (t : TaskV) (q : TQ), c.tasks[i]? = some t → tq[i]? = some q → ∃ a cc, q.uv = .slice a t.uses.length cc ∧ RdC w a (icells t.uses) ∧ t.uses.length ≤ maxLen
  pt : ∀ (i : Nat) (t : TaskV) (q : TQ), c.tasks[i]? = some t → tq[i]? = some q → ∃ a cc, q.pv = .slice a t.prog.length cc ∧ RdC w a (oCells t.prog) ∧ t.prog.length ≤ maxLen
  pe : ∀ (i : Nat) (t : EffV) (q : EQ), c.best[i]? = some t → eq[i]? = some q → ∃ a cc, q.pv = .slice a t.prog.length cc ∧ RdC w a (oCells t.prog) ∧ t.prog.length ≤ maxLen
  mx : c.tasks.length ≤ maxLen ∧ c.best.length ≤ maxLen ∧ c.mtx.length ≤ maxLen ∧ c.gaps.length ≤ maxLen
theorem RdCfg.below {w w' : World} {c : CfgV} {tv bv mv gv : Value} {tq : List TQ} {eq : List EQ} (h : RdCfg w c tv bv mv gv tq eq) (hb : Below w.heap.size w w') : RdCfg w' c tv bv mv gv tq eq := by
  refine ⟨h.lt, h.le, ?_, ?_, ?_, ?_, fun i t q ht hq => ?_, fun i t q ht hq => ?_, fun i t q ht hq => ?_, h.mx⟩
  · obtain ⟨a, cc, e, hr⟩ := h.rt; exact ⟨a, cc, e, hr.below hb⟩
  · obtain ⟨a, cc, e, hr⟩ := h.re; exact ⟨a, cc, e, hr.below hb⟩
  · obtain ⟨a, cc, e, hr⟩ := h.rm; exact ⟨a, cc, e, hr.below hb⟩
  · obtain ⟨a, cc, e, hr⟩ := h.rg; exact ⟨a, cc, e, hr.below hb⟩
  · obtain ⟨a, cc, e, hr, hl⟩ := h.us i t q ht hq; exact ⟨a, cc, e, hr.below hb, hl⟩
  · obtain ⟨a, cc, e, hr, hl⟩ := h.pt i t q ht hq; exact ⟨a, cc, e, hr.below hb, hl⟩
  · obtain ⟨a, cc, e, hr, hl⟩ := h.pe i t q ht hq; exact ⟨a, cc, e, hr.below hb, hl⟩
end Go.Proofs.YtefaaginedideaaGreatDoor
