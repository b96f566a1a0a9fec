/-
  The document's conditions: Cancel, Signal.
-/
import Derived.Test.YtgkchpifogfohaaRefW
import Derived.Deep.QuietTactic
import Derived.BigQuiet
namespace Go.Proofs.Ytgkchpifogfohaa
set_option linter.unusedSimpArgs false
set_option linter.unusedVariables false
open Go.RowKit Go.Lib Own Sl
open RegJ hiding Up
open RegF hiding put_size

section
variable {w : World} {n bc bl : Nat} {vs : Nat → Value} {bs : Nat → Option Nat} {ls : Nat → List Int}
set_option maxRecDepth 100000 in
theorem rcancel_no (h : RR w n bc bl vs bs ls) (hn : n ≤ 64) (t : Int) (hv : ofF n ls t = -1) :
    Calls Try.prog 19 #[.pointer (some ⟨bc, 0, none⟩), .int .i64 t] w fun e w' => e = .returned (.bool false) ∧ w = w' := by
  have ho := rof_is h hn t _ hv
  clear h hv
  go_enter Try.func19, Try.ntmps19
  go_wp2_with (go_at_call 22; (with_reducible refine ho.mono ?_); rintro e w' ⟨rfl, rfl⟩)
  go_ret
  exact ⟨rfl, rfl⟩
end
/-- what Cancel has gathered behind k rounds -/
def colC (xs : List Int) (t : Int) (k : Nat) : List Int := (xs.take k).filter fun x => !(x == t)
theorem colC_keep {xs : List Int} {t : Int} {k L : Nat} {X : Nat → Int} (hx : xs = (List.range L).map X) (hk : k < L) (h : X k ≠ t) : colC xs t (k + 1) = colC xs t k ++ [X k] := by
  unfold colC; rw [take_one hx hk, List.filter_append]; simp [h]
theorem colC_drop {xs : List Int} {t : Int} {k L : Nat} {X : Nat → Int} (hx : xs = (List.range L).map X) (hk : k < L) (h : X k = t) : colC xs t (k + 1) = colC xs t k := by
  unfold colC; rw [take_one hx hk, List.filter_append]; simp [h]
theorem colC_len (xs : List Int) (t : Int) (k : Nat) : (colC xs t k).length ≤ k := by
  unfold colC; refine Nat.le_trans (List.length_filter_le _ _) ?_; simp; omega
set_option maxRecDepth 100000 in
set_option maxHeartbeats 1000000 in
theorem rcancel_yes {i : Nat} {w : World} {n bc bl : Nat} {vs : Nat → Value} {bs : Nat → Option Nat} {ls : Nat → List Int} (h : RR w n bc bl vs bs ls) (hn : n ≤ 64) (hlen : (ls i).length ≤ 1000) (t : Int) (hi : i < n) (hv : ofF n ls t = (i : Nat)) :
    Calls Try.prog 19 #[.pointer (some ⟨bc, 0, none⟩), .int .i64 t] w fun e w' => e = .returned (.bool true) ∧ TurnedR w w' n bc bl bs (delF ls i t) := by
  have ho := rof_is h hn t _ hv
  have i1 : (i : Int) < (n : Int) := by omega
  obtain ⟨a, c, L, X, hV⟩ := h.view i hi
  rw [hV.len] at hlen
  have HL := Lib.hid hV.len
  unfold delF
  have H := Lib.hid h
  have hbl := h.hl.lt
  have HV := Lib.hid hV
  clear h hv hV
  go_enter Try.func19, Try.ntmps19
  go_wp2_with (go_at_call 22; (with_reducible refine ho.mono ?_); rintro e w' ⟨rfl, rfl⟩)
  clear ho
  go_loopw [6, 7] (fun v kx wr => ∃ k : Nat, k ≤ L ∧ kx = .int .i64 k ∧ wr.ownsRow w.heap.size 3 1 v (colC (ls i) t k).length (icells (colC (ls i) t k)) ∧ Below w.heap.size w wr) (fun _ kx _ => L - (intOf kx).toNat)
  case atStart => exact ⟨0, Nat.zero_le _, rfl, by unfold colC; exact World.ownsRow_nil _ _ _ _, Below.refl _ _⟩
  case round =>
    rename_i wr _
    obtain ⟨k, hk, rfl, hown, hbw⟩ := hrel
    have hV' := HV.out.below hbw
    have c1 := (H.out.below hbw).hc.rd
    have c2 := hV'.cell
    have hat := hV'.at'
    have hsz := hbw.size
    have HB := Lib.hid hbw
    clear hV' hbw
    by_cases hkl : k < L
    · obtain ⟨g, o, rfl, c3⟩ := hat k hkl
      have d2 : decide ((k : Int) < (L : Int)) = true := by simp; omega
      have i2 : (k : Int) < (L : Int) := by omega
      clear hat
      have hcl := colC_len (ls i) t k
      have HX := Lib.hid HV.out.is
      have HO := Lib.hid hown
      clear hown
      by_cases hx : X k = t
      · have d3 : (X k != t) = false := by simpa using hx
        have Hx := Lib.hid hx
        clear hx
        go_wp2
        go_roundw
        case rel => exact ⟨k + 1, by omega, by go_num, by rw [colC_drop HX.out hkl Hx.out]; exact HO.out, HB.out⟩
        case measure => simp [intOf]; omega
      · have d3 : (X k != t) = true := by simpa using hx
        have Hx := Lib.hid hx
        clear hx
        go_wp2_with (at_builtin; refine wp_app1 rfl _ _ rfl w.heap.size _ _ rfl (HO.out.alloc _) wr.heap.size (X k) rfl (Blk.cell (Blk.new _ _ _) rfl) (by omega) (by simp; omega) ?_; intro v' w1 hown1 hb1; have HO1 := Lib.hid hown1; clear hown1)
        go_roundw
        case rel => exact ⟨k + 1, by omega, by go_num, by rw [colC_keep HX.out hkl Hx.out]; exact HO1.out, (HB.out.alloc hsz _).trans hb1⟩
        case measure => simp [intOf]; omega
    · have hkL : k = L := by omega
      subst hkL
      have d2 : decide ((k : Int) < (k : Int)) = false := by simp
      clear hat hkl
      obtain ⟨va, vl, vc, rfl⟩ := own_slice hown
      have ht0 := rr_turn H.out hi HB.out hown
      rw [show colC (ls i) t k = (ls i).filter (fun x => !(x == t)) by unfold colC; rw [← HL.out, List.take_length]] at ht0
      have HT := Lib.hid ht0
      have nf := ((H.out.below HB.out).hl).nf
      clear hown ht0
      go_wp2
      go_ret
      exact ⟨rfl, HT.out⟩

/-! ### Signal -/
def KeyAt (w : World) (kb : Nat) (Q : Nat → Int) : Prop := ∀ j, j < 16 → w.cell? ⟨kb, j, none⟩ = some (.int .i64 (Q j))
theorem rr_drewN {w : World} {n bc bl : Nat} {vs : Nat → Value} {bs : Nat → Option Nat} {ls : Nat → List Int} (h : RR w n bc bl vs bs ls) (q : Nat) : RR (w.drewN q) n bc bl vs bs ls :=
  h.upd ((Upd.refl (fun _ => False) w).drewN q) (fun _ _ hf => hf)
theorem TurnedR.drewN {W w' : World} {n bc bl q : Nat} {bs : Nat → Option Nat} {ls' : Nat → List Int} (h : TurnedR (W.drewN q) w' n bc bl bs ls') : TurnedR W w' n bc bl bs ls' := by
  obtain ⟨vs', bs', h1, h2, h3⟩ := h
  exact ⟨vs', bs', h1, ((Upd.refl _ W).drewN q).trans h2 (fun k _ hk => hk), h3⟩
set_option maxRecDepth 100000 in
theorem rsig_none {w : World} {n bc bl : Nat} {vs : Nat → Value} {bs : Nat → Option Nat} {ls : Nat → List Int} (h : RR w n bc bl vs bs ls) (hn : n ≤ 64) (i : Int) (hi : i < 0 ∨ n ≤ i ∨ ls i.toNat = []) (key : Value) :
    Calls Try.prog 17 #[.pointer (some ⟨bc, 0, none⟩), .int .i64 i, key] w fun e w' => e = .returned (.tuple #[.int .i64 (-1), .bool false]) ∧ w = w' := by
  have hl : Calls Try.prog 24 #[.pointer (some ⟨bc, 0, none⟩), .int .i64 i] w fun e w' => (∃ a c, e = .returned (.slice a 0 c)) ∧ w = w' := by
    by_cases h0 : i < 0 ∨ n ≤ i
    · refine (rlist_no h hn i h0).mono ?_
      rintro e w' ⟨rfl, rfl⟩
      exact ⟨⟨_, _, rfl⟩, rfl⟩
    · obtain ⟨m, rfl⟩ : ∃ m : Nat, i = m := ⟨i.toNat, by omega⟩
      have he : ls m = [] := by
        rcases hi with h1 | h1 | h1
        · omega
        · omega
        · simpa using h1
      have hr := h.row m
      rw [he] at hr
      obtain ⟨a, c, hv⟩ := ints_nil_len hr
      refine (rlist_yes h hn m (by omega)).mono ?_
      rintro e w' ⟨rfl, rfl⟩
      exact ⟨⟨a, c, by rw [hv]⟩, rfl⟩
  clear h hi
  go_enter Try.func17, Try.ntmps17
  go_wp2_with (go_at_call 24; (with_reducible refine hl.mono ?_); rintro e w' ⟨⟨a, c, rfl⟩, rfl⟩)
  go_ret2
  exact ⟨rfl, rfl⟩
set_option maxRecDepth 100000 in
set_option maxHeartbeats 1000000 in
theorem rsig_ok {w : World} {n bc bl : Nat} {vs : Nat → Value} {bs : Nat → Option Nat} {ls : Nat → List Int} (h : RR w n bc bl vs bs ls) (hn : n ≤ 64) (hg : Good ls) (i : Nat) (hi : i < n) (x : Int) (r : List Int) (he : ls i = x :: r) (kb : Nat) (Q : Nat → Int) (hk : KeyAt w kb Q) (hr : ∀ t ∈ ls i, 0 ≤ t ∧ t < 16) :
    Calls Try.prog 17 #[.pointer (some ⟨bc, 0, none⟩), .int .i64 i, .slice (some ⟨kb, 0, none⟩) 16 16] w fun e w' => e = .returned (.tuple #[.int .i64 (bestF Q x r), .bool true]) ∧ TurnedR w w' n bc bl bs (delF ls i (bestF Q x r)) := by
  have hlist := rlist_yes h hn i hi
  have hcan : ∀ q, ∀ y, y ∈ ls i → Calls Try.prog 19 #[.pointer (some ⟨bc, 0, none⟩), .int .i64 y] (w.drewN q) fun e w' => e = .returned (.bool true) ∧ TurnedR w w' n bc bl bs (delF ls i y) := fun q y hy => by
    refine (rcancel_yes (rr_drewN h q) hn (hg.len i) y hi (hg.ofF hi hy)).mono ?_
    rintro e w' ⟨rfl, hT⟩
    exact ⟨rfl, hT.drewN⟩
  obtain ⟨a, c, hv, hm, hat⟩ := (h.row i).rdI
  have hL : (ls i).length = r.length + 1 := by rw [he]; simp
  have hlen := hg.len i
  rw [hL] at hm hat hv hlen
  rw [hv] at hlist
  obtain ⟨g, o, rfl, c0⟩ := hat 0 (by omega)
  have hat' : ∀ j, j < r.length → w.cell? ⟨g, o + (j + 1), none⟩ = some (.int .i64 (r.getD j 0)) := fun j hj => by
    obtain ⟨g', o', e1, e2⟩ := hat (j + 1) (by omega)
    cases e1
    rw [e2, he]; simp
  have hc0 : w.cell? ⟨g, o, none⟩ = some (.int .i64 x) := by
    rw [he] at c0; simpa using c0
  rw [he] at hr hcan
  have HR := Lib.hid hr
  have HC := Lib.hid hcan
  clear h hg hat hv c0 he hr hcan
  generalize hR : r.length = R at *
  have H3 := Lib.hid (And.intro hat' hk)
  clear hat' hk
  have HRl := Lib.hid hR
  clear hR
  go_enter Try.func17, Try.ntmps17
  have l1 : (0 : Int) < (((R + 1 : Nat)) : Int) := by omega
  have l2 : (((R + 1 : Nat) : Int) == 0) = false := by simp; omega
  go_wp2_with (go_at_call 24; (with_reducible refine hlist.mono ?_); rintro e w' ⟨rfl, rfl⟩)
  clear hlist
  go_loopw [9, 10] (fun b kx wr => ∃ k q : Nat, 1 ≤ k ∧ k ≤ R + 1 ∧ kx = .int .i64 k ∧ b = .int .i64 (bestF Q x (r.take (k - 1))) ∧ wr = w.drewN q) (fun _ kx _ => R + 1 - (intOf kx).toNat)
  case atStart => exact ⟨1, 0, Nat.le_refl _, by omega, rfl, rfl, rfl⟩
  case round =>
    obtain ⟨k, q, hk1, hk, rfl, rfl, rfl⟩ := hrel
    have hBm : bestF Q x (r.take (k - 1)) ∈ x :: r := by
      have := bestF_mem Q x (r.take (k - 1))
      rw [List.mem_cons] at this ⊢
      rcases this with h | h
      · exact Or.inl h
      · exact Or.inr (List.mem_of_mem_take h)
    have hBr := HR.out _ hBm
    by_cases hkl : k < R + 1
    · have hkR : k - 1 < r.length := by rw [HRl.out]; omega
      have hBt := bestF_take Q x r (k - 1) hkR
      rw [show k - 1 + 1 = k by omega] at hBt
      have hYm : r.getD (k - 1) 0 ∈ x :: r := by
        rw [show r.getD (k - 1) 0 = r[k - 1] by simp [hkR]]; exact List.mem_cons_of_mem _ (List.getElem_mem hkR)
      have hYr := HR.out _ hYm
      have c1 := H3.out.1 (k - 1) (by omega)
      rw [show k - 1 + 1 = k by omega] at c1
      generalize r.getD (k - 1) 0 = Y at hBt hYr c1
      generalize bestF Q x (r.take (k - 1)) = B at hBt hBr ⊢
      obtain ⟨p, rfl⟩ : ∃ p : Nat, Y = p := ⟨Y.toNat, by omega⟩
      obtain ⟨u, rfl⟩ : ∃ u : Nat, B = u := ⟨B.toNat, by omega⟩
      simp only [Int.toNat_natCast] at hBt
      have k1 := H3.out.2 p (by omega)
      have k2 := H3.out.2 u (by omega)
      have i1 : (p : Int) < 16 := by omega
      have i2 : (u : Int) < 16 := by omega
      have i3 : (k : Int) < ((R : Int) + 1) := by omega
      have i4 : (k : Int) < ((R + 1 : Nat) : Int) := by omega
      have i5 : (0 : Int) ≤ k := by omega
      have d1 : decide ((k : Int) < ((R + 1 : Nat) : Int)) = true := by simp; omega
      have d2 : decide ((k : Int) < ((R : Int) + 1)) = true := by simp; omega
      clear hBm hYm hBr hYr hkR
      by_cases hq : Q u < Q p
      · rw [if_pos hq] at hBt
        have HBt := Lib.hid hBt
        have d3 : decide (Q p > Q u) = true := by simp; omega
        clear hBt hq
        go_wp2
        go_quiet (fail)
        go_wp2
        go_roundw
        case rel => exact ⟨k + 1, q + nq, by omega, by omega, by go_num, by rw [show k + 1 - 1 = k by omega, HBt.out], by first | rfl | rw [World.drewN_drewN]⟩
        case measure => simp [intOf]; omega
      · rw [if_neg hq] at hBt
        have HBt := Lib.hid hBt
        have d3 : decide (Q p > Q u) = false := by simp; omega
        clear hBt hq
        go_wp2
        go_quiet (fail)
        go_wp2
        go_roundw
        case rel => exact ⟨k + 1, q + nq, by omega, by omega, by go_num, by rw [show k + 1 - 1 = k by omega, HBt.out], by first | rfl | rw [World.drewN_drewN]⟩
        case measure => simp [intOf]; omega
    · have hkR : k = R + 1 := by omega
      subst hkR
      have d1 : decide (((R + 1 : Nat) : Int) < ((R + 1 : Nat) : Int)) = false := by simp
      have d2 : decide ((R : Int) + 1 < ((R : Int) + 1)) = false := by simp
      rw [show R + 1 - 1 = r.length by rw [HRl.out]; omega, List.take_length] at hBm ⊢
      have hc := HC.out q _ hBm
      clear hBm hBr hkl
      go_wp2_with (go_at_call 19; (with_reducible refine hc.mono ?_); rintro e w' ⟨rfl, hT⟩)
      go_ret2
      exact ⟨rfl, hT⟩
end Go.Proofs.Ytgkchpifogfohaa
