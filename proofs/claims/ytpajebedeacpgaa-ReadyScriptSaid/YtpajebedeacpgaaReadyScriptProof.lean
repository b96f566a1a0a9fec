/-
  ReadyScript: its statement, from its walk: for every input the call returns true, and each argument reads behind it as it read before.
-/
import Derived.Test.YtpajebedeacpgaaRows
import Derived.Test.YtpajebedeacpgaaRScr
import Derived.ProofKit
import Derived.OpenShut
import Derived.Lib.SmallJoins
import Derived.Deep.Slices
import Derived.Deep.Fields
namespace Go.Proofs.Ytpajebedeacpgaa.readyScript
open Go.ChangeShapes Go.WideShapes Go.ChangeAt Go.RowKit
open Go.Joins Go.Deep
set_option linter.unusedVariables false

theorem own : ownKnob Try.prog.godebug = none := by kernel_rfl
theorem laidOut : laidOutB Try.prog = true := by kernel_rfl
section
variable {H : Type} {enc : TypeId × Value → H} {P : Program} {w : World} {base : Nat} {spare : Nat → Bool} {held : Bool}
/-- acts: two integers and a record of three each, opened -/
theorem open_racts {r : Reach} {b0 : Nat} {t e : TypeId} {f0 f1 f2 g0 g1 g2 : Field} {v : Value} {d : DataW H} {p : List MemPlace} (ht : P.underlying t = some (.slice e)) (hs : P.underlying e = some (.struct #[f0, f1, f2])) (hp : P.underlying f2.type = some (.struct #[g0, g1, g2]))
    (o0 : f0.offset = 0) (k0 : P.cellsOf f0.type = 1) (o1 : f1.offset = 1) (k1 : P.cellsOf f1.type = 1) (o2 : f2.offset = 2) (k2 : P.cellsOf f2.type = 3) (hone : oneCellFields P #[g0, g1, g2] = true) (hC : P.cellsOf e = 5)
    (i0 : P.underlying f0.type = some (.int .i64)) (i1 : P.underlying f1.type = some (.int .i64)) (i2 : P.underlying g0.type = some (.int .i64)) (i3 : P.underlying g1.type = some (.int .i64)) (i4 : P.underlying g2.type = some (.int .i64))
    (hv : Value.okWide P w r b0 t v) (h : DataW.Trod enc P w base spare held t v d p) : ∃ av len cap, v = .slice av len cap ∧ len ≤ maxLen ∧ RActs w av len := by
  obtain ⟨av, len, cap, rfl⟩ := okWide_slice ht hv
  obtain ⟨fuel, hf⟩ := h
  rcases open_slice ht hf with ⟨hcs, _⟩ | ⟨a, len', cap', m, n, D, Pl, hcs, hb, hl, hm, hmm, hx, hi⟩
  · simp [Value.cells] at hcs
    obtain ⟨rfl, rfl, rfl⟩ := hcs
    exact ⟨none, 0, 0, rfl, by simp, fun i hi => by omega⟩
  · simp [Value.cells] at hcs
    obtain ⟨rfl, rfl, rfl⟩ := hcs
    have key : ∀ i, i < len → ∃ z0 z1 z2 z3 z4 : Int, w.cell? (a.add (i * 5)) = some (.int .i64 z0) ∧ w.cell? (a.add (i * 5 + 1)) = some (.int .i64 z1) ∧ w.cell? (a.add (i * 5 + 2)) = some (.int .i64 z2) ∧ w.cell? (a.add (i * 5 + 3)) = some (.int .i64 z3) ∧ w.cell? (a.add (i * 5 + 4)) = some (.int .i64 z4) ∧ (Lit.int .i64 z1).wf = true := fun i hil => by
      have him : i < m := by rw [hmm]; split <;> omega
      obtain ⟨cs', hc, ht'⟩ := hi i him
      rw [hC] at hc
      obtain ⟨_, hcl, hat⟩ := World.cells?_some hc
      match cs', hcl with
      | [c0, c1, c2, c3, c4], _ =>
        obtain ⟨xs, n2, _, hx2, _, hlen, hg⟩ := DataW.trod_struct hs ht'
        match xs, hlen with
        | [y0, y1, y2], _ =>
          have t0 : DataW.trod enc P w base spare held n2 f0.type [c0] = some y0 := by simpa [o0, k0] using hg 0 f0 rfl
          have t1 : DataW.trod enc P w base spare held n2 f1.type [c1] = some y1 := by simpa [o1, k1] using hg 1 f1 rfl
          have t2 : DataW.trod enc P w base spare held n2 f2.type [c2, c3, c4] = some y2 := by simpa [o2, k2] using hg 2 f2 rfl
          obtain ⟨zs, n3, _, _, _, hl2, hg2⟩ := DataW.trod_struct hp t2
          match zs, hl2 with
          | [u0, u1, u2], _ =>
            obtain ⟨p0, q0⟩ := hone_of hone 0 g0 rfl
            obtain ⟨p1, q1⟩ := hone_of hone 1 g1 rfl
            obtain ⟨p2, q2⟩ := hone_of hone 2 g2 rfl
            have s0 : DataW.trod enc P w base spare held n3 g0.type [c2] = some u0 := by simpa [p0, q0] using hg2 0 g0 rfl
            have s1 : DataW.trod enc P w base spare held n3 g1.type [c3] = some u1 := by simpa [p1, q1] using hg2 1 g1 rfl
            have s2 : DataW.trod enc P w base spare held n3 g2.type [c4] = some u2 := by simpa [p2, q2] using hg2 2 g2 rfl
            obtain ⟨a0, e0, -, w0⟩ := DataW.trod_int i0 t0
            obtain ⟨a1, e1, -, w1⟩ := DataW.trod_int i1 t1
            obtain ⟨a2, e2, -, w2⟩ := DataW.trod_int i2 s0
            obtain ⟨a3, e3, -, w3⟩ := DataW.trod_int i3 s1
            obtain ⟨a4, e4, -, w4⟩ := DataW.trod_int i4 s2
            simp only [List.cons.injEq, and_true] at e0 e1 e2 e3 e4
            subst e0 e1 e2 e3 e4
            have h0 := hat (i := 0) (by omega)
            have h1 := hat (i := 1) (by omega)
            have h2 := hat (i := 2) (by omega)
            have h3 := hat (i := 3) (by omega)
            have h4 := hat (i := 4) (by omega)
            rw [Go.Deep.add_add] at h0 h1 h2 h3 h4
            exact ⟨a0, a1, a2, a3, a4, h0, h1, h2, h3, h4, w1⟩
    refine ⟨some a, len, cap, rfl, by omega, fun i hil => ?_⟩
    obtain ⟨z0, z1, z2, z3, z4, c0, c1, c2, c3, c4, hw⟩ := key i hil
    obtain ⟨g, o, spot⟩ := a
    have hspot : spot = none := by
      obtain ⟨_, _, _, _, _, c', _⟩ := key 0 (by omega)
      simpa [Addr.add] using World.cell?_spot c'
    subst hspot
    refine ⟨g, o, z0, z1, z2, z3, z4, rfl, ?_, ?_, ?_, ?_, ?_, hw⟩
    · rw [← c0]; congr 1; unfold Addr.add
      by_cases h0 : i = 0
      · subst h0; rfl
      · rw [if_neg (by omega)]
    · rw [← c1]; congr 1
    · rw [← c2]; congr 1
    · rw [← c3]; congr 1
    · rw [← c4]; congr 1
end

set_option maxRecDepth 100000 in
theorem lifted (os : Os) (started : os.Started) (H : Type) (enc : TypeId × Value → H) :
    ReturnsInHanded {} Try.checked os 3 .any (Rows.readyScriptSpec.pre6 enc Try.prog Try.f3 Rows.readyScriptRow.domain false) (Rows.readyScriptSpec.post enc Try.prog Try.f3 false true false false) := by
  refine returnsInHanded_of_change (C := Try.checked) own started (by kernel_rfl) Try.func3
    (ChangeSpec.witness6 (enc := enc) (C := Try.checked) false ⟨#[], #[.slice none 0 0], []⟩ 8 (by kernel_rfl) (by kernel_rfl) (by kernel_rfl) (by kernel_rfl)) ?_
  intro W base args ds gs before hval0 hW hcnd _
  have hval : ∀ (j : Nat) t v, Try.f3.params[j]? = some t → args[j]? = some v → Value.okWide Try.prog W .any base t v := hval0
  have hW' := hW
  obtain ⟨p, q, hA0, hV, rfl, hfz, hnd⟩ := hW
  have hA : DataW.TrodAll enc Try.prog W 0 (fun _ => true) true Try.f3.params.toList args.toList ds p := hA0
  rw [Try.params3] at hA hval
  obtain ⟨v0, vs0, d0, ds0, p0, q0, hargs, rfl, rfl, h0, r0⟩ := trodAll_cons hA
  obtain ⟨rfl, rfl, rfl⟩ := trodAll_nil r0
  obtain rfl : args = #[v0] := by cases args; simp_all
  obtain ⟨rfl, rfl⟩ := trodVars_none hV
  have k0 := h0
  have lt0 : ∀ x ∈ p0, x.block < W.heap.size := by obtain ⟨m, hm⟩ := k0; exact DataW.trod_lt m _ _ _ hm
  obtain ⟨av0, ln0, cp0, rfl, hm0, hac0⟩ := open_racts Try.underlying22 Try.underlying33 Try.underlying31 rfl (by kernel_rfl) rfl (by kernel_rfl) rfl (by kernel_rfl) (by kernel_rfl) (by kernel_rfl) Try.underlying3 Try.underlying3 Try.underlying3 Try.underlying3 Try.underlying3 (hval 0 22 v0 rfl rfl) h0
  clear hA0 hval0
  refine (script_walk av0 ln0 cp0 W hm0 hac0 ).mono fun e W' ⟨he, bel⟩ => ?_
  subst he
  exact ⟨_, rfl, _, _, _, [], _, [], hW', trodAll_mk1 (shut_bool Try.underlying4 _), (trodAll_cons_mk (Below.trod laidOut (by kernel_rfl) (of_decide_eq_true (by kernel_rfl)) k0 bel lt0) trodAll_mk0), rfl, bel.frame _, fun h => by cases h⟩

theorem over : Rows.readyScriptRow.holds Try.pinned (OpenSpec.ofChange Rows.readyScriptSpec) :=
  OpenClaim.holds_of_wide 3 Try.f3 rfl rfl rfl rfl rfl rfl rfl ⟨rfl, rfl, rfl, rfl, rfl⟩ rfl rfl rfl rfl rfl (by kernel_rfl) Try.func3 (by kernel_rfl)
    (of_decide_eq_true (by kernel_rfl)) (by unfold Func.isWrapper; first | (rw [if_pos (by decide +kernel)]; kernel_rfl) | (rw [if_neg (by decide +kernel)]; exact ⟨rfl, rfl⟩))
    (fun os started H enc _ => lifted os started H enc)

theorem proved : Rows.ReadyScriptSaid := over
end Go.Proofs.Ytpajebedeacpgaa.readyScript
