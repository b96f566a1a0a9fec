/-
  Steps, events and configurations that come in, opened: what their cells hold.
-/
import Derived.Test.YtefaaginedideaaGreatDoorCfg
import Derived.Test.YtefaaginedideaaGreatDoorPrP
import Derived.ProofKit
import Derived.OpenShut
import Derived.ChangeSlices
import Derived.Lib.SmallJoins
import Derived.Deep.Slices
import Derived.Deep.Fields
namespace Go.Proofs.YtefaaginedideaaGreatDoor
open Go.ChangeShapes Go.WideShapes Go.ChangeAt Go.RowKit Go.Joins Go.Deep Own RegJ
set_option linter.unusedVariables false
set_option linter.unusedSimpArgs false

theorem rows_len {α : Type} {k : Nat} (f : α → List Value) (hf : ∀ x, (f x).length = k) : ∀ l : List α, (l.map f).flatten.length = l.length * k
  | [] => by simp
  | x :: r => by rw [List.map_cons, List.flatten_cons, List.length_append, rows_len f hf r, hf, List.length_cons, Nat.succ_mul, Nat.add_comm]
theorem flat_one : ∀ l : List Int, (l.map fun x : Int => [Value.int .i64 x]).flatten = icells l
  | [] => rfl
  | x :: r => by rw [List.map_cons, List.flatten_cons, flat_one r]; rfl
theorem inR_wf {x : Int} (h : (Lit.int .i64 x).wf = true) : InR x := by
  simp only [Lit.wf, Bool.and_eq_true, decide_eq_true_eq] at h
  exact h
/-- out of each place something, a list -/
theorem choose_list {α : Type} {P : Nat → α → Prop} : ∀ (n : Nat), (∀ i, i < n → ∃ x, P i x) → ∃ l : List α, l.length = n ∧ ∀ i x, l[i]? = some x → P i x
  | 0, _ => ⟨[], rfl, fun i x h => by cases h⟩
  | n + 1, h => by
    obtain ⟨l, hl, hp⟩ := choose_list n (fun i hi => h i (by omega))
    obtain ⟨x, hx⟩ := h n (by omega)
    refine ⟨l ++ [x], by simp [hl], fun i y hy => ?_⟩
    rcases Nat.lt_trichotomy i n with h1 | h1 | h1
    · rw [List.getElem?_append_left (by omega)] at hy
      exact hp i y hy
    · subst h1
      rw [List.getElem?_append_right (by omega), hl, Nat.sub_self] at hy
      cases hy
      exact hx
    · rw [List.getElem?_eq_none (by simp; omega)] at hy
      cases hy
section
variable {H : Type} {enc : TypeId × Value → H} {P : Program} {w : World} {base : Nat} {spare : Nat → Bool} {held : Bool}
theorem trod_op {t : TypeId} {f0 f1 f2 f3 f4 : Field} {n : Nat} {cs : List Value} {y : DataW H × List MemPlace} (hs : P.underlying t = some (.struct #[f0, f1, f2, f3, f4])) (hC : P.cellsOf t = 9) (o0 : f0.offset = 0) (k0 : P.cellsOf f0.type = 1) (i0 : P.underlying f0.type = some (.int .i64)) (o1 : f1.offset = 1) (k1 : P.cellsOf f1.type = 1) (i1 : P.underlying f1.type = some (.int .i64)) (o2 : f2.offset = 2) (k2 : P.cellsOf f2.type = 1) (i2 : P.underlying f2.type = some (.int .i64)) (o3 : f3.offset = 3) (k3 : P.cellsOf f3.type = 1) (i3 : P.underlying f3.type = some (.int .i64)) (o4 : f4.offset = 4) (k4 : P.cellsOf f4.type = 5) {g0 g1 g2 g3 g4 : Field} (hr : P.underlying f4.type = some (.struct #[g0, g1, g2, g3, g4])) (hone : oneCellFields P #[g0, g1, g2, g3, g4] = true) (r0 : P.underlying g0.type = some (.int .i64)) (r1 : P.underlying g1.type = some (.int .i64)) (r2 : P.underlying g2.type = some (.int .i64)) (r3 : P.underlying g3.type = some (.string)) (r4 : P.underlying g4.type = some (.string))
    (h : DataW.trod enc P w base spare held n t cs = some y) : ∃ o : OpV, cs = opCs o := by
  obtain ⟨xs, m, _, hx, hl, hlen, hg⟩ := DataW.trod_struct hs h
  have hl9 := hl.trans hC
  match cs, hl9, hg with
  | [c0, c1, c2, c3, c4, c5, c6, c7, c8], _, hg =>
    match xs, hlen, hg with
    | [y0, y1, y2, y3, y4], _, hg =>
      have t0 : DataW.trod enc P w base spare held m f0.type [c0] = some y0 := by simpa [o0, k0] using hg 0 f0 rfl
      obtain ⟨a0, e0, -, w0⟩ := DataW.trod_int i0 t0
      have t1 : DataW.trod enc P w base spare held m f1.type [c1] = some y1 := by simpa [o1, k1] using hg 1 f1 rfl
      obtain ⟨a1, e1, -, w1⟩ := DataW.trod_int i1 t1
      have t2 : DataW.trod enc P w base spare held m f2.type [c2] = some y2 := by simpa [o2, k2] using hg 2 f2 rfl
      obtain ⟨a2, e2, -, w2⟩ := DataW.trod_int i2 t2
      have t3 : DataW.trod enc P w base spare held m f3.type [c3] = some y3 := by simpa [o3, k3] using hg 3 f3 rfl
      obtain ⟨a3, e3, -, w3⟩ := DataW.trod_int i3 t3
      have t4 : DataW.trod enc P w base spare held m f4.type [c4, c5, c6, c7, c8] = some y4 := by simpa [o4, k4] using hg 4 f4 rfl
      obtain ⟨zs, m2, _, _, _, hl2, hg2⟩ := DataW.trod_struct hr t4
      match zs, hl2, hg2 with
      | [u0, u1, u2, u3, u4], _, hg2 =>
      obtain ⟨p0, q0⟩ := hone_of hone 0 g0 rfl
      have s0 : DataW.trod enc P w base spare held m2 g0.type [c4] = some u0 := by simpa [p0, q0] using hg2 0 g0 rfl
      obtain ⟨b0, e4, -, -⟩ := DataW.trod_int r0 s0
      obtain ⟨p1, q1⟩ := hone_of hone 1 g1 rfl
      have s1 : DataW.trod enc P w base spare held m2 g1.type [c5] = some u1 := by simpa [p1, q1] using hg2 1 g1 rfl
      obtain ⟨b1, e5, -, -⟩ := DataW.trod_int r1 s1
      obtain ⟨p2, q2⟩ := hone_of hone 2 g2 rfl
      have s2 : DataW.trod enc P w base spare held m2 g2.type [c6] = some u2 := by simpa [p2, q2] using hg2 2 g2 rfl
      obtain ⟨b2, e6, -, -⟩ := DataW.trod_int r2 s2
      obtain ⟨p3, q3⟩ := hone_of hone 3 g3 rfl
      have s3 : DataW.trod enc P w base spare held m2 g3.type [c7] = some u3 := by simpa [p3, q3] using hg2 3 g3 rfl
      obtain ⟨b3, e7, -, -⟩ := DataW.trod_string r3 s3
      obtain ⟨p4, q4⟩ := hone_of hone 4 g4 rfl
      have s4 : DataW.trod enc P w base spare held m2 g4.type [c8] = some u4 := by simpa [p4, q4] using hg2 4 g4 rfl
      obtain ⟨b4, e8, -, -⟩ := DataW.trod_string r4 s4
      simp only [List.cons.injEq, and_true] at e0 e1 e2 e3 e4 e5 e6 e7 e8
      subst e0 e1 e2 e3 e4 e5 e6 e7 e8
      exact ⟨⟨a0, a1, a2, a3, b0, b1, b2, b3.data.toList, b4.data.toList⟩, by unfold opCs; rw [B_data, B_data]⟩
theorem trod_ev {t : TypeId} {f0 f1 f2 : Field} {n : Nat} {cs : List Value} {y : DataW H × List MemPlace} (hs : P.underlying t = some (.struct #[f0, f1, f2])) (hC : P.cellsOf t = 3) (o0 : f0.offset = 0) (k0 : P.cellsOf f0.type = 1) (i0 : P.underlying f0.type = some (.int .i64)) (o1 : f1.offset = 1) (k1 : P.cellsOf f1.type = 1) (i1 : P.underlying f1.type = some (.int .i64)) (o2 : f2.offset = 2) (k2 : P.cellsOf f2.type = 1) (i2 : P.underlying f2.type = some (.int .i64))
    (h : DataW.trod enc P w base spare held n t cs = some y) : ∃ e : EvV, cs = [.int .i64 e.tick, .int .i64 e.line, .int .i64 e.task] ∧ InR e.tick ∧ InR e.line ∧ InR e.task := by
  obtain ⟨xs, m, _, hx, hl, hlen, hg⟩ := DataW.trod_struct hs h
  have hl9 := hl.trans hC
  match cs, hl9, hg with
  | [c0, c1, c2], _, hg =>
    match xs, hlen, hg with
    | [y0, y1, y2], _, hg =>
      have t0 : DataW.trod enc P w base spare held m f0.type [c0] = some y0 := by simpa [o0, k0] using hg 0 f0 rfl
      obtain ⟨a0, e0, -, w0⟩ := DataW.trod_int i0 t0
      have t1 : DataW.trod enc P w base spare held m f1.type [c1] = some y1 := by simpa [o1, k1] using hg 1 f1 rfl
      obtain ⟨a1, e1, -, w1⟩ := DataW.trod_int i1 t1
      have t2 : DataW.trod enc P w base spare held m f2.type [c2] = some y2 := by simpa [o2, k2] using hg 2 f2 rfl
      obtain ⟨a2, e2, -, w2⟩ := DataW.trod_int i2 t2
      simp only [List.cons.injEq, and_true] at e0 e1 e2
      subst e0 e1 e2
      exact ⟨⟨a0, a1, a2⟩, rfl, inR_wf w0, inR_wf w1, inR_wf w2⟩
theorem trod_mx {t : TypeId} {f0 f1 : Field} {n : Nat} {cs : List Value} {y : DataW H × List MemPlace} (hs : P.underlying t = some (.struct #[f0, f1])) (hC : P.cellsOf t = 2) (o0 : f0.offset = 0) (k0 : P.cellsOf f0.type = 1) (i0 : P.underlying f0.type = some (.int .i64)) (o1 : f1.offset = 1) (k1 : P.cellsOf f1.type = 1) (i1 : P.underlying f1.type = some (.int .i64))
    (h : DataW.trod enc P w base spare held n t cs = some y) : ∃ e : Int × Int, cs = [.int .i64 e.1, .int .i64 e.2] ∧ InR e.1 ∧ InR e.2 := by
  obtain ⟨xs, m, _, hx, hl, hlen, hg⟩ := DataW.trod_struct hs h
  have hl9 := hl.trans hC
  match cs, hl9, hg with
  | [c0, c1], _, hg =>
    match xs, hlen, hg with
    | [y0, y1], _, hg =>
      have t0 : DataW.trod enc P w base spare held m f0.type [c0] = some y0 := by simpa [o0, k0] using hg 0 f0 rfl
      obtain ⟨a0, e0, -, w0⟩ := DataW.trod_int i0 t0
      have t1 : DataW.trod enc P w base spare held m f1.type [c1] = some y1 := by simpa [o1, k1] using hg 1 f1 rfl
      obtain ⟨a1, e1, -, w1⟩ := DataW.trod_int i1 t1
      simp only [List.cons.injEq, and_true] at e0 e1
      subst e0 e1
      exact ⟨(a0, a1), rfl, inR_wf w0, inR_wf w1⟩
theorem trod_ef {t : TypeId} {f0 f1 : Field} {n : Nat} {cs : List Value} {y : DataW H × List MemPlace} (hs : P.underlying t = some (.struct #[f0, f1])) (hC : P.cellsOf t = 2) (o0 : f0.offset = 0) (k0 : P.cellsOf f0.type = 1) (i0 : P.underlying f0.type = some (.int .i64)) (o1 : f1.offset = 1) (k1 : P.cellsOf f1.type = 1)
    (h : DataW.trod enc P w base spare held n t cs = some y) : ∃ (x : Int) (v : Value), cs = [.int .i64 x, v] ∧ InR x ∧ ∃ m z, DataW.trod enc P w base spare held m f1.type [v] = some z := by
  obtain ⟨xs, m, _, hx, hl, hlen, hg⟩ := DataW.trod_struct hs h
  have hl9 := hl.trans hC
  match cs, hl9, hg with
  | [c0, c1], _, hg =>
    match xs, hlen, hg with
    | [y0, y1], _, hg =>
      have t0 : DataW.trod enc P w base spare held m f0.type [c0] = some y0 := by simpa [o0, k0] using hg 0 f0 rfl
      obtain ⟨a0, e0, -, w0⟩ := DataW.trod_int i0 t0
      have t1 : DataW.trod enc P w base spare held m f1.type [c1] = some y1 := by simpa [o1, k1] using hg 1 f1 rfl
      simp only [List.cons.injEq, and_true] at e0
      subst e0
      exact ⟨a0, c1, rfl, inR_wf w0, m, y1, t1⟩
theorem trod_tk {t : TypeId} {f0 f1 f2 f3 f4 f5 f6 f7 : Field} {n : Nat} {cs : List Value} {y : DataW H × List MemPlace} (hs : P.underlying t = some (.struct #[f0, f1, f2, f3, f4, f5, f6, f7])) (hC : P.cellsOf t = 8) (o0 : f0.offset = 0) (k0 : P.cellsOf f0.type = 1) (i0 : P.underlying f0.type = some (.int .i64)) (o1 : f1.offset = 1) (k1 : P.cellsOf f1.type = 1) (i1 : P.underlying f1.type = some (.int .i64)) (o2 : f2.offset = 2) (k2 : P.cellsOf f2.type = 1) (i2 : P.underlying f2.type = some (.int .i64)) (o3 : f3.offset = 3) (k3 : P.cellsOf f3.type = 1) (i3 : P.underlying f3.type = some (.int .i64)) (o4 : f4.offset = 4) (k4 : P.cellsOf f4.type = 1) (i4 : P.underlying f4.type = some (.int .i64)) (o5 : f5.offset = 5) (k5 : P.cellsOf f5.type = 1) (i5 : P.underlying f5.type = some (.int .i64)) (o6 : f6.offset = 6) (k6 : P.cellsOf f6.type = 1) (o7 : f7.offset = 7) (k7 : P.cellsOf f7.type = 1)
    (h : DataW.trod enc P w base spare held n t cs = some y) : ∃ (x0 x1 x2 x3 x4 x5 : Int) (u v : Value), cs = [.int .i64 x0, .int .i64 x1, .int .i64 x2, .int .i64 x3, .int .i64 x4, .int .i64 x5, u, v] ∧ (InR x0 ∧ InR x1 ∧ InR x2 ∧ InR x3 ∧ InR x4 ∧ InR x5) ∧ (∃ m z, DataW.trod enc P w base spare held m f6.type [u] = some z) ∧ ∃ m z, DataW.trod enc P w base spare held m f7.type [v] = some z := by
  obtain ⟨xs, m, _, hx, hl, hlen, hg⟩ := DataW.trod_struct hs h
  have hl9 := hl.trans hC
  match cs, hl9, hg with
  | [c0, c1, c2, c3, c4, c5, c6, c7], _, hg =>
    match xs, hlen, hg with
    | [y0, y1, y2, y3, y4, y5, y6, y7], _, hg =>
      have t0 : DataW.trod enc P w base spare held m f0.type [c0] = some y0 := by simpa [o0, k0] using hg 0 f0 rfl
      obtain ⟨a0, e0, -, w0⟩ := DataW.trod_int i0 t0
      have t1 : DataW.trod enc P w base spare held m f1.type [c1] = some y1 := by simpa [o1, k1] using hg 1 f1 rfl
      obtain ⟨a1, e1, -, w1⟩ := DataW.trod_int i1 t1
      have t2 : DataW.trod enc P w base spare held m f2.type [c2] = some y2 := by simpa [o2, k2] using hg 2 f2 rfl
      obtain ⟨a2, e2, -, w2⟩ := DataW.trod_int i2 t2
      have t3 : DataW.trod enc P w base spare held m f3.type [c3] = some y3 := by simpa [o3, k3] using hg 3 f3 rfl
      obtain ⟨a3, e3, -, w3⟩ := DataW.trod_int i3 t3
      have t4 : DataW.trod enc P w base spare held m f4.type [c4] = some y4 := by simpa [o4, k4] using hg 4 f4 rfl
      obtain ⟨a4, e4, -, w4⟩ := DataW.trod_int i4 t4
      have t5 : DataW.trod enc P w base spare held m f5.type [c5] = some y5 := by simpa [o5, k5] using hg 5 f5 rfl
      obtain ⟨a5, e5, -, w5⟩ := DataW.trod_int i5 t5
      have t6 : DataW.trod enc P w base spare held m f6.type [c6] = some y6 := by simpa [o6, k6] using hg 6 f6 rfl
      have t7 : DataW.trod enc P w base spare held m f7.type [c7] = some y7 := by simpa [o7, k7] using hg 7 f7 rfl
      simp only [List.cons.injEq, and_true] at e0 e1 e2 e3 e4 e5
      subst e0 e1 e2 e3 e4 e5
      exact ⟨a0, a1, a2, a3, a4, a5, c6, c7, rfl, ⟨inR_wf w0, inR_wf w1, inR_wf w2, inR_wf w3, inR_wf w4, inR_wf w5⟩, ⟨m, y6, t6⟩, m, y7, t7⟩
theorem trod_cf {t : TypeId} {f0 f1 f2 f3 f4 f5 : Field} {n : Nat} {cs : List Value} {y : DataW H × List MemPlace} (hs : P.underlying t = some (.struct #[f0, f1, f2, f3, f4, f5])) (hC : P.cellsOf t = 6) (o0 : f0.offset = 0) (k0 : P.cellsOf f0.type = 1) (o1 : f1.offset = 1) (k1 : P.cellsOf f1.type = 1) (o2 : f2.offset = 2) (k2 : P.cellsOf f2.type = 1) (o3 : f3.offset = 3) (k3 : P.cellsOf f3.type = 1) (o4 : f4.offset = 4) (k4 : P.cellsOf f4.type = 1) (i4 : P.underlying f4.type = some (.int .i64)) (o5 : f5.offset = 5) (k5 : P.cellsOf f5.type = 1) (i5 : P.underlying f5.type = some (.int .i64))
    (h : DataW.trod enc P w base spare held n t cs = some y) : ∃ (v0 v1 v2 v3 : Value) (x4 x5 : Int), cs = [v0, v1, v2, v3, .int .i64 x4, .int .i64 x5] ∧ (InR x4 ∧ InR x5) ∧ (∃ m z, DataW.trod enc P w base spare held m f0.type [v0] = some z) ∧ (∃ m z, DataW.trod enc P w base spare held m f1.type [v1] = some z) ∧ (∃ m z, DataW.trod enc P w base spare held m f2.type [v2] = some z) ∧ ∃ m z, DataW.trod enc P w base spare held m f3.type [v3] = some z := by
  obtain ⟨xs, m, _, hx, hl, hlen, hg⟩ := DataW.trod_struct hs h
  have hl9 := hl.trans hC
  match cs, hl9, hg with
  | [c0, c1, c2, c3, c4, c5], _, hg =>
    match xs, hlen, hg with
    | [y0, y1, y2, y3, y4, y5], _, hg =>
      have t0 : DataW.trod enc P w base spare held m f0.type [c0] = some y0 := by simpa [o0, k0] using hg 0 f0 rfl
      have t1 : DataW.trod enc P w base spare held m f1.type [c1] = some y1 := by simpa [o1, k1] using hg 1 f1 rfl
      have t2 : DataW.trod enc P w base spare held m f2.type [c2] = some y2 := by simpa [o2, k2] using hg 2 f2 rfl
      have t3 : DataW.trod enc P w base spare held m f3.type [c3] = some y3 := by simpa [o3, k3] using hg 3 f3 rfl
      have t4 : DataW.trod enc P w base spare held m f4.type [c4] = some y4 := by simpa [o4, k4] using hg 4 f4 rfl
      obtain ⟨a4, e4, -, w4⟩ := DataW.trod_int i4 t4
      have t5 : DataW.trod enc P w base spare held m f5.type [c5] = some y5 := by simpa [o5, k5] using hg 5 f5 rfl
      obtain ⟨a5, e5, -, w5⟩ := DataW.trod_int i5 t5
      simp only [List.cons.injEq, and_true] at e4 e5
      subst e4 e5
      exact ⟨c0, c1, c2, c3, a4, a5, rfl, ⟨inR_wf w4, inR_wf w5⟩, ⟨m, y0, t0⟩, ⟨m, y1, t1⟩, ⟨m, y2, t2⟩, m, y3, t3⟩
/-- a row of records, each opened: its cells, one behind another -/
theorem open_row {α : Type} {t e : TypeId} {k n : Nat} {v : Value} {y : DataW H × List MemPlace} (ht : P.underlying t = some (.slice e)) (hC : P.cellsOf e = k) (hk : 0 < k) (f : α → List Value) (Q : α → Prop) (hf : ∀ x, (f x).length = k)
    (hone : ∀ m cs z, DataW.trod enc P w base spare held m e cs = some z → ∃ x, cs = f x ∧ Q x)
    (h : DataW.trod enc P w base spare held n t [v] = some y) : ∃ (l : List α) (a : Option Addr) (c : Nat), v = .slice a l.length c ∧ l.length ≤ c ∧ l.length ≤ maxLen ∧ RdC w a (l.map f).flatten ∧ ∀ x ∈ l, Q x := by
  rcases open_slice ht h with ⟨hcs, _⟩ | ⟨a, len, cap, m, n', D, Pl, hcs, hb, hl, hm, hmm, hx, hi⟩
  · simp only [List.cons.injEq, and_true] at hcs
    subst hcs
    exact ⟨[], none, 0, rfl, Nat.le_refl _, by simp, (fun j u hu => by cases hu), fun x hx => by cases hx⟩
  · simp only [List.cons.injEq, and_true] at hcs
    subst hcs
    rw [hC] at hi
    have key : ∀ i, i < len → ∃ x : α, w.cells? base (a.add (i * k)) k = some (f x) ∧ Q x := fun i hil => by
      obtain ⟨cs', hc, ht'⟩ := hi i (by rw [hmm]; split <;> omega)
      obtain ⟨x, rfl, hq⟩ := hone _ _ _ ht'
      exact ⟨x, hc, hq⟩
    obtain ⟨l, hll, hp⟩ := choose_list len key
    refine ⟨l, some a, cap, by rw [hll], by omega, by omega, ?_, fun x hx => ?_⟩
    · intro j u hj
      have hlen := rows_len f hf l
      have hjl := (List.getElem?_eq_some_iff.1 hj).1
      rw [hlen] at hjl
      have hd : j / k < l.length := Nat.div_lt_of_lt_mul (by rw [Nat.mul_comm]; exact hjl)
      have hx := List.getElem?_eq_getElem hd
      have hcc := (hp _ _ hx).1
      obtain ⟨_, hcl, hat⟩ := World.cells?_some hcc
      have hmod := Nat.mod_lt j hk
      have hdm := Nat.div_add_mod j k
      have h2 := hat (j % k) (by omega)
      have h3 : (l.map f).flatten[j / k * k + j % k]? = (f l[j / k])[j % k]? := flat_at _ (j / k) (j % k) _ (fun y hy => by
        rw [List.mem_map] at hy
        obtain ⟨z, _, rfl⟩ := hy
        exact hf z) (by rw [List.getElem?_map, hx]; rfl) hmod
      have hj2 : j / k * k + j % k = j := by rw [Nat.mul_comm]; exact hdm
      rw [hj2] at h3
      rw [hj] at h3
      obtain ⟨g, off, spot⟩ := a
      have h4 : w.cell? ((⟨g, off, spot⟩ : Addr).add (j / k * k + j % k)) = some u := by
        rw [← Go.Deep.add_add, h2, ← h3]
      have hspot : spot = none := by
        have hl0 : 0 < l.length := Nat.lt_of_le_of_lt (Nat.zero_le _) hd
        obtain ⟨_, hcl0, hat0⟩ := World.cells?_some (hp 0 _ (List.getElem?_eq_getElem hl0)).1
        have h6 := hat0 0 hk
        rw [List.getElem?_eq_getElem (by omega)] at h6
        simpa [Addr.add] using World.cell?_spot h6
      subst hspot
      refine ⟨g, off, rfl, ?_⟩
      rw [hj2] at h4
      rw [← h4]
      congr 1
      unfold Addr.add
      by_cases h0 : j = 0
      · subst h0; rfl
      · rw [if_neg h0]
    · obtain ⟨i, hil, hi2⟩ := List.getElem_of_mem hx
      exact (hp i x (by rw [List.getElem?_eq_getElem hil, hi2])).2
/-- a row of numbers -/
theorem open_nums {t e : TypeId} {n : Nat} {v : Value} {y : DataW H × List MemPlace} (ht : P.underlying t = some (.slice e)) (he : P.underlying e = some (.int .i64)) (hC : P.cellsOf e = 1)
    (h : DataW.trod enc P w base spare held n t [v] = some y) : ∃ (l : List Int) (a : Option Addr) (c : Nat), v = .slice a l.length c ∧ l.length ≤ c ∧ l.length ≤ maxLen ∧ RdC w a (icells l) ∧ ∀ x ∈ l, InR x := by
  rcases open_row ht hC (by omega) (fun x : Int => [Value.int .i64 x]) (fun x => InR x) (fun _ => rfl) (fun m cs z hz => by
    cases m with
    | zero => simp [DataW.trod] at hz
    | succ m =>
      match cs with
      | [] => exact absurd hz (by simp [DataW.trod, he])
      | [c] =>
        obtain ⟨x, e1, -, w1⟩ := DataW.trod_int he hz
        simp only [List.cons.injEq, and_true] at e1
        exact ⟨x, by rw [e1], inR_wf w1⟩
      | _ :: _ :: _ => exact absurd hz (by simp [DataW.trod, he])) h with ⟨l, a, c, hv, h1, h2, h3, h4⟩
  refine ⟨l, a, c, hv, h1, h2, ?_, h4⟩
  rw [flat_one] at h3
  exact h3
end
section
variable {H : Type} {enc : TypeId × Value → H} {w : World} {base : Nat} {spare : Nat → Bool} {held : Bool}
set_option maxRecDepth 100000 in
theorem a_op {m : Nat} {cs : List Value} {z : DataW H × List MemPlace} (h : DataW.trod enc Tryz.prog w base spare held m 25 cs = some z) : ∃ o : OpV, cs = opCs o :=
  trod_op (P := Tryz.prog) (t := 25) Tryz.underlying25 (by kernel_rfl) rfl (by kernel_rfl) Tryz.underlying3 rfl (by kernel_rfl) Tryz.underlying3 rfl (by kernel_rfl) Tryz.underlying3 rfl (by kernel_rfl) Tryz.underlying3 rfl (by kernel_rfl) Tryz.underlying23 (by kernel_rfl) Tryz.underlying3 Tryz.underlying3 Tryz.underlying3 Tryz.underlying9 Tryz.underlying9 h
set_option maxRecDepth 100000 in
theorem a_ev {m : Nat} {cs : List Value} {z : DataW H × List MemPlace} (h : DataW.trod enc Tryz.prog w base spare held m 58 cs = some z) : ∃ e : EvV, cs = [.int .i64 e.tick, .int .i64 e.line, .int .i64 e.task] ∧ InR e.tick ∧ InR e.line ∧ InR e.task :=
  trod_ev (P := Tryz.prog) (t := 58) Tryz.underlying58 (by kernel_rfl) rfl (by kernel_rfl) Tryz.underlying3 rfl (by kernel_rfl) Tryz.underlying3 rfl (by kernel_rfl) Tryz.underlying3 h
set_option maxRecDepth 100000 in
theorem a_mx {m : Nat} {cs : List Value} {z : DataW H × List MemPlace} (h : DataW.trod enc Tryz.prog w base spare held m 87 cs = some z) : ∃ e : Int × Int, cs = [.int .i64 e.1, .int .i64 e.2] ∧ InR e.1 ∧ InR e.2 :=
  trod_mx (P := Tryz.prog) (t := 87) Tryz.underlying87 (by kernel_rfl) rfl (by kernel_rfl) Tryz.underlying3 rfl (by kernel_rfl) Tryz.underlying3 h
set_option maxRecDepth 100000 in
/-- a row of steps -/
theorem open_ops {n : Nat} {v : Value} {y : DataW H × List MemPlace} (h : DataW.trod enc Tryz.prog w base spare held n 27 [v] = some y) : ∃ (l : List OpV) (a : Option Addr) (c : Nat), v = .slice a l.length c ∧ l.length ≤ c ∧ l.length ≤ maxLen ∧ RdC w a (oCells l) := by
  obtain ⟨l, a, c, h1, h2, h3, h4, _⟩ := open_row (P := Tryz.prog) Tryz.underlying27 (k := 9) (by kernel_rfl) (by omega) opCs (fun _ => True) (fun _ => rfl) (fun m cs z hz => by
    obtain ⟨o, ho⟩ := a_op hz
    exact ⟨o, ho, trivial⟩) h
  exact ⟨l, a, c, h1, h2, h3, h4⟩
set_option maxRecDepth 100000 in
theorem open_op {b0 : Nat} {r : Reach} {v : Value} {d : DataW H} {p : List MemPlace} (hv : Value.okWide Tryz.prog w r b0 25 v) (h : DataW.Trod enc Tryz.prog w base spare held 25 v d p) : ∃ o : OpV, v = opV o := by
  obtain ⟨cs, rfl, hsz⟩ := okWide_struct Tryz.underlying25 hv
  obtain ⟨fuel, hf⟩ := h
  obtain ⟨o, ho⟩ := a_op hf
  obtain ⟨l⟩ := cs
  simp only [Value.cells] at ho
  exact ⟨o, by rw [show l = opCs o from ho]⟩
set_option maxRecDepth 100000 in
theorem open_evs {b0 : Nat} {r : Reach} {v : Value} {d : DataW H} {p : List MemPlace} (hv : Value.okWide Tryz.prog w r b0 42 v) (h : DataW.Trod enc Tryz.prog w base spare held 42 v d p) : ∃ (es : List EvV) (a : Option Addr) (c : Nat), v = .slice a es.length c ∧ RdC w a (vCells es) ∧ es.length ≤ maxLen ∧ EvsR es := by
  obtain ⟨av, len, cap, rfl⟩ := okWide_slice Tryz.underlying42 hv
  obtain ⟨fuel, hf⟩ := h
  obtain ⟨l, a, c, h1, h2, h3, h4, h5⟩ := open_row (P := Tryz.prog) Tryz.underlying42 (k := 3) (by kernel_rfl) (by omega) (fun e : EvV => [Value.int .i64 e.tick, .int .i64 e.line, .int .i64 e.task]) (fun e => InR e.tick ∧ InR e.line ∧ InR e.task) (fun _ => rfl) (fun m cs z hz => by
    obtain ⟨o, ho, hr⟩ := a_ev hz
    exact ⟨o, ho, hr⟩) hf
  exact ⟨l, a, c, h1, h4, h3, h5⟩
set_option maxRecDepth 100000 in
theorem a_tk {m : Nat} {cs : List Value} {z : DataW H × List MemPlace} (h : DataW.trod enc Tryz.prog w base spare held m 89 cs = some z) : ∃ x : TaskV × TQ, cs = taskCs x.1 x.2 ∧ ((InR x.1.cl ∧ InR x.1.lv ∧ InR x.1.pe ∧ InR x.1.de ∧ InR x.1.bu ∧ InR x.1.li ∧ ∀ u ∈ x.1.uses, InR u) ∧ (∃ a c, x.2.uv = .slice a x.1.uses.length c ∧ x.1.uses.length ≤ c ∧ x.1.uses.length ≤ maxLen ∧ RdC w a (icells x.1.uses)) ∧ ∃ a c, x.2.pv = .slice a x.1.prog.length c ∧ x.1.prog.length ≤ c ∧ x.1.prog.length ≤ maxLen ∧ RdC w a (oCells x.1.prog)) := by
  obtain ⟨x0, x1, x2, x3, x4, x5, u, v, hcs, ⟨w0, w1, w2, w3, w4, w5⟩, ⟨m1, z1, h1⟩, m2, z2, h2⟩ := trod_tk (P := Tryz.prog) (t := 89) Tryz.underlying89 (by kernel_rfl) rfl (by kernel_rfl) Tryz.underlying3 rfl (by kernel_rfl) Tryz.underlying3 rfl (by kernel_rfl) Tryz.underlying3 rfl (by kernel_rfl) Tryz.underlying3 rfl (by kernel_rfl) Tryz.underlying3 rfl (by kernel_rfl) Tryz.underlying3 rfl (by kernel_rfl) rfl (by kernel_rfl) h
  obtain ⟨us, a, c, rfl, k1, k2, k3, k4⟩ := open_nums (P := Tryz.prog) (t := 39) Tryz.underlying39 Tryz.underlying3 (by kernel_rfl) h1
  obtain ⟨os, a', c', rfl, q1, q2, q3⟩ := open_ops h2
  exact ⟨(⟨x0, x1, x2, x3, x4, x5, us, os⟩, ⟨.slice a us.length c, .slice a' os.length c', none⟩), hcs, ⟨w0, w1, w2, w3, w4, w5, k4⟩, ⟨a, c, rfl, k1, k2, k3⟩, a', c', rfl, q1, q2, q3⟩
set_option maxRecDepth 100000 in
theorem a_ef {m : Nat} {cs : List Value} {z : DataW H × List MemPlace} (h : DataW.trod enc Tryz.prog w base spare held m 92 cs = some z) : ∃ x : EffV × EQ, cs = effCs x.1 x.2 ∧ InR x.1.lv ∧ ∃ a c, x.2.pv = .slice a x.1.prog.length c ∧ x.1.prog.length ≤ c ∧ x.1.prog.length ≤ maxLen ∧ RdC w a (oCells x.1.prog) := by
  obtain ⟨x0, v, hcs, w0, m2, z2, h2⟩ := trod_ef (P := Tryz.prog) (t := 92) Tryz.underlying92 (by kernel_rfl) rfl (by kernel_rfl) Tryz.underlying3 rfl (by kernel_rfl) h
  obtain ⟨os, a', c', rfl, q1, q2, q3⟩ := open_ops h2
  exact ⟨(⟨x0, os⟩, ⟨.slice a' os.length c', none⟩), hcs, w0, a', c', rfl, q1, q2, q3⟩
theorem map_zip2 {α β γ : Type} (f : α → β → γ) (l : List (α × β)) : (l.map fun x => f x.1 x.2) = List.zipWith f (l.map (·.1)) (l.map (·.2)) := by
  induction l with
  | nil => rfl
  | cons x r ih => simp
set_option maxRecDepth 100000 in
theorem open_cfg {b0 : Nat} {r : Reach} {v : Value} {d : DataW H} {p : List MemPlace} (hv : Value.okWide Tryz.prog w r b0 41 v) (h : DataW.Trod enc Tryz.prog w base spare held 41 v d p) :
    ∃ (c : CfgV) (tv bv mv gv : Value) (tq : List TQ) (eq : List EQ), v = .agg #[tv, bv, mv, gv, .int .i64 c.frames, .int .i64 c.dog] ∧ RdCfg w c tv bv mv gv tq eq ∧ CfgR c := by
  obtain ⟨cs, rfl, hsz⟩ := okWide_struct Tryz.underlying41 hv
  obtain ⟨fuel, hf⟩ := h
  obtain ⟨v0, v1, v2, v3, x4, x5, hcs, ⟨w4, w5⟩, ⟨m0, z0, h0⟩, ⟨m1, z1, h1⟩, ⟨m2, z2, h2⟩, m3, z3, h3⟩ := trod_cf (P := Tryz.prog) (t := 41) Tryz.underlying41 (by kernel_rfl) rfl (by kernel_rfl) rfl (by kernel_rfl) rfl (by kernel_rfl) rfl (by kernel_rfl) rfl (by kernel_rfl) Tryz.underlying3 rfl (by kernel_rfl) Tryz.underlying3 hf
  obtain ⟨l⟩ := cs
  simp only [Value.cells] at hcs
  obtain rfl : l = [v0, v1, v2, v3, .int .i64 x4, .int .i64 x5] := hcs
  obtain ⟨tl, ta, tc, rfl, t1, t2, t3, t4⟩ := open_row (P := Tryz.prog) (t := 36) Tryz.underlying36 (k := 8) (by kernel_rfl) (by omega) (fun x : TaskV × TQ => taskCs x.1 x.2) _ (fun _ => rfl) (fun m cs z hz => a_tk hz) h0
  obtain ⟨el, ea, ec, rfl, e1, e2, e3, e4⟩ := open_row (P := Tryz.prog) (t := 37) Tryz.underlying37 (k := 2) (by kernel_rfl) (by omega) (fun x : EffV × EQ => effCs x.1 x.2) _ (fun _ => rfl) (fun m cs z hz => a_ef hz) h1
  obtain ⟨ml, ma, mc, rfl, k1, k2, k3, k4⟩ := open_row (P := Tryz.prog) (t := 38) Tryz.underlying38 (k := 2) (by kernel_rfl) (by omega) (fun e : Int × Int => [Value.int .i64 e.1, .int .i64 e.2]) (fun e => InR e.1 ∧ InR e.2) (fun _ => rfl) (fun m cs z hz => by
    obtain ⟨o, ho, hr⟩ := a_mx hz
    exact ⟨o, ho, hr⟩) h2
  obtain ⟨gl, ga, gc, rfl, g1, g2, g3, g4⟩ := open_nums (P := Tryz.prog) (t := 39) Tryz.underlying39 Tryz.underlying3 (by kernel_rfl) h3
  refine ⟨⟨tl.map (·.1), el.map (·.1), ml, gl, x4, x5⟩, _, _, _, _, tl.map (·.2), el.map (·.2), rfl, ?_, ⟨w4, w5, k4, g4, ?_, ?_⟩⟩
  rotate_left
  · intro t ht
    simp only [List.mem_map] at ht
    obtain ⟨x, hx, rfl⟩ := ht
    exact (t4 x hx).1
  · intro t ht
    simp only [List.mem_map] at ht
    obtain ⟨x, hx, rfl⟩ := ht
    exact (e4 x hx).1
  rw [map_zip2] at t3 e3
  refine ⟨by simp, by simp, ⟨ta, tc, by simp, t3⟩, ⟨ea, ec, by simp, e3⟩, ⟨ma, mc, rfl, k3⟩, ⟨ga, gc, rfl, g3⟩, ?_, ?_, ?_, ⟨by simpa using t2, by simpa using e2, k2, g2⟩⟩
  · intro i t q ht hq
    simp only [List.getElem?_map, Option.map_eq_some_iff] at ht hq
    obtain ⟨x, hx, rfl⟩ := ht
    obtain ⟨y, hy, rfl⟩ := hq
    obtain rfl := Option.some.inj (hx.symm.trans hy)
    obtain ⟨_, ⟨a, c, u1, u2, u3, u4⟩, _⟩ := t4 x (List.mem_of_getElem? hx)
    exact ⟨a, c, u1, u4, u3⟩
  · intro i t q ht hq
    simp only [List.getElem?_map, Option.map_eq_some_iff] at ht hq
    obtain ⟨x, hx, rfl⟩ := ht
    obtain ⟨y, hy, rfl⟩ := hq
    obtain rfl := Option.some.inj (hx.symm.trans hy)
    obtain ⟨_, _, a, c, u1, u2, u3, u4⟩ := t4 x (List.mem_of_getElem? hx)
    exact ⟨a, c, u1, u4, u3⟩
  · intro i t q ht hq
    simp only [List.getElem?_map, Option.map_eq_some_iff] at ht hq
    obtain ⟨x, hx, rfl⟩ := ht
    obtain ⟨y, hy, rfl⟩ := hq
    obtain rfl := Option.some.inj (hx.symm.trans hy)
    obtain ⟨_, a, c, u1, u2, u3, u4⟩ := e4 x (List.mem_of_getElem? hx)
    exact ⟨a, c, u1, u4, u3⟩
end
end Go.Proofs.YtefaaginedideaaGreatDoor
