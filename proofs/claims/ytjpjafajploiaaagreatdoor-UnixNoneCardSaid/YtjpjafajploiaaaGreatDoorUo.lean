/-
  Unix' acts that come in, opened: what their cells hold.
-/
import Derived.Test.YtjpjafajploiaaaGreatDoorProg
import Derived.Test.YtjpjafajploiaaaGreatDoorRegJ
import Derived.ProofKit
import Derived.OpenShut
import Derived.ChangeSlices
import Derived.Lib.SmallJoins
import Derived.Deep.Slices
import Derived.Deep.Fields
namespace Go.Proofs.YtjpjafajploiaaaGreatDoor
open Go.ChangeShapes Go.WideShapes Go.ChangeAt Go.RowKit Go.Joins Go.Deep RegJ
set_option linter.unusedVariables false
set_option linter.unusedSimpArgs false

section
variable {H : Type} {enc : TypeId × Value → H} {P : Program} {w : World} {base : Nat} {spare : Nat → Bool} {held : Bool}
abbrev uaC (d p n sys a b : Int) (s t : ByteArray) : List Value := [.int .i64 d, .int .i64 p, .int .i64 n, .int .i64 sys, .int .i64 a, .int .i64 b, .string s, .string t]
theorem trod_uact {t : TypeId} {f0 f1 f2 f3 : Field} {n : Nat} {cs : List Value} {y : DataW H × List MemPlace} (hs : P.underlying t = some (.struct #[f0, f1, f2, f3])) (hC : P.cellsOf t = 8) (o0 : f0.offset = 0) (k0 : P.cellsOf f0.type = 1) (i0 : P.underlying f0.type = some (.int .i64)) (o1 : f1.offset = 1) (k1 : P.cellsOf f1.type = 1) (i1 : P.underlying f1.type = some (.int .i64)) (o2 : f2.offset = 2) (k2 : P.cellsOf f2.type = 1) (i2 : P.underlying f2.type = some (.int .i64)) (o3 : f3.offset = 3) (k3 : P.cellsOf f3.type = 5) {g0 g1 g2 g3 g4 : Field} (hr : P.underlying f3.type = some (.struct #[g0, g1, g2, g3, g4])) (hone : oneCellFields P #[g0, g1, g2, g3, g4] = true) (r0 : P.underlying g0.type = some (.int .i64)) (r1 : P.underlying g1.type = some (.int .i64)) (r2 : P.underlying g2.type = some (.int .i64)) (r3 : P.underlying g3.type = some (.string)) (r4 : P.underlying g4.type = some (.string))
    (h : DataW.trod enc P w base spare held n t cs = some y) : ∃ (d p n sys a b : Int) (s t : ByteArray), cs = uaC d p n sys a b s t := by
  obtain ⟨xs, m, _, hx, hl, hlen, hg⟩ := DataW.trod_struct hs h
  have hl9 := hl.trans hC
  match cs, hl9, hg with
  | [c0, c1, c2, c3, c4, c5, c6, c7], _, hg =>
    match xs, hlen, hg with
    | [y0, y1, y2, y3], _, hg =>
      have t0 : DataW.trod enc P w base spare held m f0.type [c0] = some y0 := by simpa [o0, k0] using hg 0 f0 rfl
      obtain ⟨a0, e0, -, w0⟩ := DataW.trod_int i0 t0
      have t1 : DataW.trod enc P w base spare held m f1.type [c1] = some y1 := by simpa [o1, k1] using hg 1 f1 rfl
      obtain ⟨a1, e1, -, w1⟩ := DataW.trod_int i1 t1
      have t2 : DataW.trod enc P w base spare held m f2.type [c2] = some y2 := by simpa [o2, k2] using hg 2 f2 rfl
      obtain ⟨a2, e2, -, w2⟩ := DataW.trod_int i2 t2
      have t3 : DataW.trod enc P w base spare held m f3.type [c3, c4, c5, c6, c7] = some y3 := by simpa [o3, k3] using hg 3 f3 rfl
      obtain ⟨zs, m2, _, _, _, hl2, hg2⟩ := DataW.trod_struct hr t3
      match zs, hl2, hg2 with
      | [u0, u1, u2, u3, u4], _, hg2 =>
      obtain ⟨p0, q0⟩ := hone_of hone 0 g0 rfl
      have s0 : DataW.trod enc P w base spare held m2 g0.type [c3] = some u0 := by simpa [p0, q0] using hg2 0 g0 rfl
      obtain ⟨b0, e3, -, -⟩ := DataW.trod_int r0 s0
      obtain ⟨p1, q1⟩ := hone_of hone 1 g1 rfl
      have s1 : DataW.trod enc P w base spare held m2 g1.type [c4] = some u1 := by simpa [p1, q1] using hg2 1 g1 rfl
      obtain ⟨b1, e4, -, -⟩ := DataW.trod_int r1 s1
      obtain ⟨p2, q2⟩ := hone_of hone 2 g2 rfl
      have s2 : DataW.trod enc P w base spare held m2 g2.type [c5] = some u2 := by simpa [p2, q2] using hg2 2 g2 rfl
      obtain ⟨b2, e5, -, -⟩ := DataW.trod_int r2 s2
      obtain ⟨p3, q3⟩ := hone_of hone 3 g3 rfl
      have s3 : DataW.trod enc P w base spare held m2 g3.type [c6] = some u3 := by simpa [p3, q3] using hg2 3 g3 rfl
      obtain ⟨b3, e6, -, -⟩ := DataW.trod_string r3 s3
      obtain ⟨p4, q4⟩ := hone_of hone 4 g4 rfl
      have s4 : DataW.trod enc P w base spare held m2 g4.type [c7] = some u4 := by simpa [p4, q4] using hg2 4 g4 rfl
      obtain ⟨b4, e7, -, -⟩ := DataW.trod_string r4 s4
      simp only [List.cons.injEq, and_true] at e0 e1 e2 e3 e4 e5 e6 e7
      subst e0 e1 e2 e3 e4 e5 e6 e7
      exact ⟨a0, a1, a2, b0, b1, b2, b3, b4, rfl⟩
end
section
variable {H : Type} {enc : TypeId × Value → H} {w : World} {base : Nat} {spare : Nat → Bool} {held : Bool}
set_option maxRecDepth 100000 in
theorem a_uact {m : Nat} {cs : List Value} {z : DataW H × List MemPlace} (h : DataW.trod enc Tryz.prog w base spare held m 37 cs = some z) : ∃ (d p n sys a b : Int) (s t : ByteArray), cs = uaC d p n sys a b s t :=
  trod_uact (P := Tryz.prog) (t := 37) Tryz.underlying37 (by kernel_rfl) rfl (by kernel_rfl) Tryz.underlying3 rfl (by kernel_rfl) Tryz.underlying3 rfl (by kernel_rfl) Tryz.underlying3 rfl (by kernel_rfl) Tryz.underlying35 (by kernel_rfl) Tryz.underlying3 Tryz.underlying3 Tryz.underlying3 Tryz.underlying9 Tryz.underlying9 h
set_option maxRecDepth 100000 in
theorem open_uact {b0 : Nat} {r : Reach} {v : Value} {d : DataW H} {p : List MemPlace} (hv : Value.okWide Tryz.prog w r b0 37 v) (h : DataW.Trod enc Tryz.prog w base spare held 37 v d p) : ∃ (x y n sys a b : Int) (s t : ByteArray), v = .agg (uaC x y n sys a b s t).toArray := by
  obtain ⟨cs, rfl, hsz⟩ := okWide_struct Tryz.underlying37 hv
  obtain ⟨fuel, hf⟩ := h
  obtain ⟨x, y, n, sys, a, b, s, t, ho⟩ := a_uact hf
  obtain ⟨l⟩ := cs
  simp only [Value.cells] at ho
  exact ⟨x, y, n, sys, a, b, s, t, by rw [show l = uaC x y n sys a b s t from ho]⟩
end
end Go.Proofs.YtjpjafajploiaaaGreatDoor
