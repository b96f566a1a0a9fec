/-
  VfsErrors: played, and the walk.
-/
import Derived.Test.YtchnjfmimpikcaaGreatDoorVSc
namespace Go.Proofs.YtchnjfmimpikcaaGreatDoor
set_option linter.unusedSimpArgs false
set_option linter.unusedVariables false
open Go.RowKit Own RegC Three Two
open RegJ hiding Up
open RegF hiding put_size
open Go.Lib hiding intOf

section
variable {w w' : World}
theorem ArgB.below {v : Value} {b : List Int} (h : ArgB w v b) (hB : Below w.heap.size w w') : ArgB w' v b := by
  obtain ⟨a, c, rfl, h1, h2⟩ := h
  refine ⟨a, c, rfl, h1, fun hp => ?_⟩
  obtain ⟨g, q, rfl, h3, h4⟩ := h2 hp
  exact ⟨g, q, rfl, rdv_far h3 h4 hB, Nat.lt_of_lt_of_le h4 hB.size⟩
theorem cellB {a : Addr} {u : Value} (h : w.cell? a = some u) (hB : Below w.heap.size w w') : w'.cell? a = some u := (hB.cell (cell_lt2 h)).trans h
theorem ActsV.below {av : Option Addr} {len : Nat} (h : ActsV w av len) (hB : Below w.heap.size w w') : ActsV w' av len := fun i hi => by
  obtain ⟨g, o, d, n, s, t, v, bs, h⟩ := h i hi
  exact ⟨g, o, d, n, s, t, v, bs, h.a, cellB h.k0 hB, cellB h.k1 hB, cellB h.k2 hB, cellB h.k3 hB, cellB h.k4 hB, h.arg.below hB, h.wf⟩
end
/-- behind acts -/
def PlP [Inhabited CapT] (w : World) (len : Nat) (e : Ending) (w' : World) : Prop := ∃ vb tb fb sb rv rt rs ns, e = .returned (.pointer (some ⟨vb, 0, none⟩)) ∧ Rd ns ∧ PV w (fun _ => False) vb tb fb sb rv rt rs ns ns (4 * len) (4 * len) w'
set_option maxRecDepth 100000 in
set_option maxHeartbeats 4000000 in
theorem played_v [Inhabited CapT] (hcap : capN = 8) (av : Option Addr) (len cap : Nat) (w : World) (hl : len ≤ 40) (hA : ActsS w av len) (hm : MC w) :
    Calls Tryz.prog 9 #[.slice av len cap] w (PlP w len) := by
  have HC := Lib.hid hcap
  have hbo := both_v w hm hcap
  have HL := Lib.hid (And.intro hl hA)
  clear hcap hl hA hm
  go_enter Tryz.func9, Tryz.ntmps9
  go_wp2_with (go_at_call 17; (with_reducible refine hbo.mono ?_); rintro e w1 ⟨vb, tb, fb, sb, rv, rt, rs, rfl, hT⟩; have H1 := Lib.hid hT; clear hT hbo)
  go_loopw [5] (fun v5 wr => ∃ (i : Nat) (ns : NSt), i ≤ len ∧ v5 = .int .i64 i ∧ Hid (Rd ns ∧ PV w (fun _ => False) vb tb fb sb rv rt rs ns ns (4 * i) (4 * i) wr)) (fun v5 _ => len - (intOf v5).toNat)
  case atStart => exact ⟨0, ns0, Nat.zero_le _, rfl, Lib.hid ⟨rd0, H1.out⟩⟩
  case round =>
    obtain ⟨i, ns, hi, rfl, HS⟩ := hrel
    by_cases hil : i < len
    · obtain ⟨g, o, d, n, s, t, v, bs, hact, ls, lt, lb⟩ := HL.out.2 i hil
      have d5 : decide ((i : Int) < (len : Int)) = true := by simp; omega
      have i5 : (i : Int) < (len : Int) := by omega
      have i6 : (0 : Int) ≤ i := by omega
      have i7 : (len : Int) ≤ 40 := by have := HL.out.1; omega
      have hdo := done_v (by have := HL.out.1; omega) HC.out HS.out.1 HS.out.2 d n hact.wf s t (by omega) (by omega) v bs hact.arg (by omega)
      have j0 := HS.out.2.cell hact.k0
      have j1 := HS.out.2.cell hact.k1
      have j2 := HS.out.2.cell hact.k2
      have j3 := HS.out.2.cell hact.k3
      have j4 := HS.out.2.cell hact.k4
      obtain ⟨rfl, -, -, -, -, -, ⟨a, cc, rfl, -, -⟩, -⟩ := hact
      clear ls lt lb
      generalize B s = S at *
      generalize B t = T at *
      generalize bs.length = bl at hdo j4
      go_wp2_with (go_at_call 21; (with_reducible refine hdo.mono ?_); rintro e w2 ⟨rfl, ns2, hR2, hT2⟩; have H2 := Lib.hid (And.intro hR2 hT2); clear hdo hT2 hR2 j0 j1 j2 j3 j4)
      go_roundw
      case rel => exact ⟨i + 1, ns2, by omega, by go_num, Lib.hid ⟨H2.out.1, (show PV w (fun _ => False) vb tb fb sb rv rt rs ns2 ns2 (4 * (i + 1)) (4 * (i + 1)) w2 from H2.out.2)⟩⟩
      case measure => simp [intOf]; omega
    · have d5 : decide ((i : Int) < (len : Int)) = false := by simp; omega
      have d5n : decide (i < len) = false := by simp; omega
      obtain rfl : i = len := by omega
      clear hil hi
      go_wp2_with (fail)
      go_ret
      exact ⟨vb, tb, fb, sb, rv, rt, rs, ns, rfl, HS.out.1, HS.out.2⟩
section
variable [Inhabited CapT] {W w w' : World} {E : Nat → Prop} {vb tb fb sb rv rt rs c1 c2 : Nat} {ns1 ns2 : NSt}
/-- what has come in the meantime is kept -/
theorem PV.keepB (h : PV W E vb tb fb sb rv rt rs ns1 ns2 c1 c2 w) (hB : Below w.heap.size w w') : PV W (fun k => E k ∨ (w.heap.size ≤ k ∧ k < w'.heap.size)) vb tb fb sb rv rt rs ns1 ns2 c1 c2 w' := by
  have h' := h.below hB
  obtain ⟨lo, O, h1, h2, h2s, h3, h4, h5, h6⟩ := h.ex
  have hl := h1.lts
  have hz := hB.size
  have hb := h.bel.size
  refine ⟨⟨lo, O, h1.below hB, h2, h2s, h3.below hB, fun r k hk => ⟨(h4 r k hk).1, (h4 r k hk).2.1, fun he => ?_⟩, ⟨h5.1, h5.2.1, fun he => ?_⟩, fun k hk => ⟨Nat.lt_of_lt_of_le (h6 k hk).1 hz, (h6 k hk).2.1, fun he => ?_⟩⟩, fun k hk => ?_, h'.bel, h.ml⟩
  · rcases he with he | he
    · exact (h4 r k hk).2.2 he
    · have := hl.2.1 r k hk; omega
  · rcases he with he | he
    · exact h5.2.2 he
    · have := hl.1; omega
  · rcases he with he | he
    · exact (h6 k hk).2.2 he
    · have := (h6 k hk).1; omega
  · rcases hk with hk | hk
    · have := h.e k hk; omega
    · omega
/-- what the call of VfsErrors is to be: an answer, and another state -/
def ErP (W : World) (E : Nat → Prop) (vb tb fb sb rv rt rs : Nat) (ns2 : NSt) (c2 : Nat) (w : World) (r : Int) (w' : World) : Prop := ∃ ns', (r ≠ 0 → ns' = ns2) ∧ PV W E vb tb fb sb rv rt rs ns' ns2 (c2 + 4) c2 w' ∧ Upd (fun k => ¬ E k) w w'
end
end Go.Proofs.YtchnjfmimpikcaaGreatDoor
