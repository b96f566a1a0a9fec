/-
  All numbers of the rows, and of the queue, in order.
-/
import Derived.Test.YtpajebedeacpgaaRput
import Derived.Test.YtpajebedeacpgaaFix
namespace Go.Proofs.Ytpajebedeacpgaa
set_option linter.unusedSimpArgs false
set_option linter.unusedVariables false
open Go.RowKit Own Sl
open RegJ hiding Up
open RegF hiding put_size

/-- which levels have somebody -/
def hasL (F : Nat → List Int) (r : Nat) : Nat → Bool := fun i => !(F (64 * r + i)).isEmpty
def catL (F : Nat → List Int) (r : Nat) (l : List Nat) : List Int := l.flatMap fun i => F (64 * r + i)
def catF (F : Nat → List Int) (r : Nat) : List Int := catL F r (levF (hasL F r) 64)
theorem catL_app (F : Nat → List Int) (r : Nat) (a b : List Nat) : catL F r (a ++ b) = catL F r a ++ catL F r b := by unfold catL; simp
theorem catL_take (F : Nat → List Int) (r : Nat) (l : List Nat) (k : Nat) : (catL F r (l.take k)).length ≤ (catL F r l).length := by
  have h := catL_app F r (l.take k) (l.drop k)
  rw [List.take_append_drop] at h
  rw [h, List.length_append]; omega
def RAllP (w : World) (l : List Int) (e : Ending) (w' : World) : Prop := ∃ v, e = .returned v ∧ IQ w w' v l
section
variable {w : World} {qb : Nat} {R : Nat → Value} {F : Nat → List Int} {W : Nat → Nat} {m : Int → Option Value} {s : Nat} {hs : List It} {lo : Lo} {N : Nat}
set_option maxRecDepth 100000 in
set_option maxHeartbeats 2000000 in
theorem rall_is (h : QB w qb R F W m s hs lo N) {r : Nat} (hr : r < 2) (hw : WD (W r) (hasL F r)) (hsum : (catF F r).length ≤ 1000) :
    Calls Try.prog 34 #[.pointer (some ⟨qb, ro r, none⟩)] w (RAllP w (catF F r)) := by
  have hrl : ro r < 132 := by unfold ro; omega
  have c0 := h.cell (ro r) hrl
  rw [h.word r hr] at c0
  have hwa := wall_is (W r) (hasL F r) hw
  have H := Lib.hid (And.intro h (And.intro hr hsum))
  have hlv := levF_lt (f := hasL F r) 64
  have hll := levF_len (f := hasL F r) 64
  unfold catF at hsum
  obtain ⟨O, hO⟩ : ∃ O, ro r = O := ⟨_, rfl⟩
  have HO := Lib.hid hO
  rw [hO] at c0 ⊢
  obtain ⟨L, hL⟩ : ∃ L, levF (hasL F r) 64 = L := ⟨_, rfl⟩
  rw [hL] at hlv hll hsum
  have HL := Lib.hid (And.intro hL (And.intro hlv hsum))
  have HG : Hid (catF F r = catL F r L) := Lib.hid (by unfold catF; rw [hL])
  generalize W r = wr0 at *
  clear h hw hsum hO hlv
  go_enter Try.func34, Try.ntmps34
  go_upto_region 3 with (go_at_call 49; (with_reducible refine (hwa _).mono ?_); rintro e w1 ⟨v, rfl, hq⟩; rw [hL] at hq; obtain ⟨b1, hI, hb1, hB1⟩ := hq; obtain ⟨a1, l1, q1, hv⟩ := Ints.slice hI; subst hv; have H1 := Lib.hid (And.intro hI (And.intro hb1 hB1)); clear hI hb1 hB1 hwa)
  clear hL
  have hn : l1 = L.length := by
    rcases H1.out.1 with ⟨h5, h6, _⟩ | ⟨g, cap, rest, h5, _⟩
    · simp only [Value.slice.injEq] at h5
      have : (lvI L).length = 0 := by rw [h6]; rfl
      unfold lvI at this
      rw [List.length_map] at this; omega
    · simp only [Value.slice.injEq] at h5
      rw [h5.2.1]; unfold lvI; rw [List.length_map]
  have HN := Lib.hid hn
  have hl64 : l1 ≤ 64 := by omega
  clear hn hll c0
  go_loopw [3, 12] (fun v3 v12 wr => ∃ k : Nat, k ≤ l1 ∧ v12 = .int .i64 k ∧ Hid (IQ w1 wr v3 (catL F r (L.take k)))) (fun _ v12 _ => l1 - (intOf v12).toNat)
  case atStart => exact ⟨0, Nat.zero_le _, rfl, Lib.hid (IQ.nil w1)⟩
  case round =>
    obtain ⟨k, hk, rfl, HJ⟩ := hrel
    obtain ⟨a2, q2, rfl⟩ := HJ.out.slice
    obtain ⟨NL, hNL⟩ : ∃ NL, (catL F r (L.take k)).length = NL := ⟨_, rfl⟩
    rw [hNL]
    have HNL := Lib.hid hNL
    clear hNL
    by_cases hkl : k < l1
    · have d1 : decide ((k : Int) < (l1 : Int)) = true := by simp; omega
      have d1n : decide (k < l1) = true := by simp; omega
      have i1 : (k : Int) < (l1 : Int) := by omega
      have i2 : (0 : Int) ≤ k := by omega
      obtain ⟨x, hx⟩ : ∃ x, L[k]? = some x := ⟨_, List.getElem?_eq_getElem (by rw [← HN.out]; exact hkl)⟩
      have hxl := (HL.out.2.1 x (List.mem_of_getElem? hx)).1
      have hxI : (lvI L)[k]? = some (x : Int) := by unfold lvI; rw [List.getElem?_map, hx]; rfl
      have hB : Below w1.heap.size w1 wr := by obtain ⟨_, _, _, h⟩ := HJ.out; exact h
      have hI2 : Ints wr 3 (.slice a1 l1 q1) (lvI L) b1 := H1.out.1.upd (Upd.of_below (F := fun _ => False) hB) (fun _ _ h => h)
      have hQ2 : QB wr qb R F W m s hs lo N := (H.out.1.below H1.out.2.2).below hB
      obtain ⟨g, rfl, c1⟩ : ∃ g, a1 = some ⟨g, 0, none⟩ ∧ wr.cell? ⟨g, k, none⟩ = some (.int .i64 x) := by
        rcases hI2 with ⟨h5, h6, _⟩ | ⟨g, cap, rest, h5, _, hBg, _⟩
        · rw [h6] at hxI; cases hxI
        · simp only [Value.slice.injEq] at h5
          refine ⟨g, h5.1, ?_⟩
          have := Ints.cells hBg k (List.getElem?_eq_some_iff.1 hxI).1
          rw [Nat.zero_add] at this
          rw [this, List.getD_eq_getElem?_getD, hxI]; rfl
      have c2 := hQ2.cell (ro r + 1 + x) (by have := ro_lt H.out.2.1 hxl; omega)
      rw [HO.out] at c2
      have hy := hQ2.row r x H.out.2.1 hxl
      rw [HO.out] at hy
      have htk : catL F r (L.take k) ++ F (64 * r + x) = catL F r (L.take (k + 1)) := by
        rw [List.take_add_one, hx, catL_app]; congr 1; unfold catL; simp
      have hlen : (catL F r (L.take k)).length + (F (64 * r + x)).length ≤ 3000 := by
        have h1 := catL_take F r L (k + 1)
        rw [← htk, List.length_append] at h1
        have := HL.out.2.2
        omega
      have HY := Lib.hid (And.intro hy (And.intro hlen htk))
      have i3 : (x : Int) < 64 := by omega
      have i4 : (0 : Int) ≤ x := by omega
      clear hI2 hQ2 hx hxI hB hy hlen htk
      generalize R (O + 1 + x) = V at *
      go_wp2_with (at_builtin; refine wp_row rfl _ _ rfl _ _ HJ.out V _ _ HY.out.1 HY.out.2.1 (by rw [HNL.out]; rfl) rfl ?_; intro v2 w2 hq2; have HQ2 := Lib.hid hq2; clear hq2)
      go_roundw
      case rel => exact ⟨k + 1, by omega, by go_num, Lib.hid (by rw [← HY.out.2.2]; exact HQ2.out)⟩
      case measure => simp [intOf]; omega
    · have d1 : decide ((k : Int) < (l1 : Int)) = false := by simp; omega
      have d1n : decide (k < l1) = false := by simp; omega
      have HF : Hid (IQ w wr (.slice a2 NL q2) (catF F r)) := Lib.hid (by
        have h1 := HJ.out
        rw [HNL.out, List.take_of_length_le (by rw [← HN.out]; omega)] at h1
        rw [HG.out]
        obtain ⟨b, p1, p2, p3⟩ := h1
        have z := H1.out.2.2.size
        exact ⟨b, p1, fun g hg => by have := p2 g hg; omega, H1.out.2.2.trans (p3.mono z)⟩)
      clear hkl hk
      go_wp2_with (fail)
      go_ret
      exact ⟨_, rfl, HF.out⟩
end
end Go.Proofs.Ytpajebedeacpgaa
