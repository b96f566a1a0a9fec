/-
  The document's table: Make, Open, Close.
-/
import Derived.Test.YtchnjfmimpikcaaGreatDoorQGo
import Derived.Test.YtchnjfmimpikcaaGreatDoorV6
namespace Go.Proofs.YtchnjfmimpikcaaGreatDoor
set_option linter.unusedSimpArgs false
set_option linter.unusedVariables false
open Go.RowKit Own RegC Three Two
open RegJ hiding Up
open RegF hiding put_size
open Go.Lib hiding intOf

section
variable {w w' : World} {O : Nat → Prop} {rb sb n N c : Nat} {ns ns' : NSt} {vs : Nat → Value} {fs : Sfs}
def MkR (w : World) (O : Nat → Prop) (rb sb n N : Nat) (ns : NSt) (dir : Bool) (r : Int) (e : Ending) (w' : World) : Prop :=
  (r = -1 ∧ e = .returned (.tuple #[.int .i64 0, .int .i64 15]) ∧ w = w') ∨
  ∃ i : Nat, r = i ∧ e = .returned (.tuple #[.int .i64 i, .int .i64 0]) ∧ QP w O rb sb n (N + 1) (nsPut ns i (some ⟨dir, 0, 1, [], []⟩)) w'
def MkR' (w : World) (O : Nat → Prop) (rb sb n N : Nat) (ns : NSt) (dir : Bool) (e : Ending) (w' : World) : Prop := ∃ r, freeI ns r ∧ MkR w O rb sb n N ns dir r e w'
set_option maxRecDepth 100000 in
set_option maxHeartbeats 2000000 in
theorem rmake_is (h : QO w O rb sb n N ns) (hN : N ≤ 900) (dir : Bool) (h0 : ns 0 ≠ none) :
    Calls Tryz.prog 91 #[.pointer (some ⟨rb, 0, none⟩), .bool dir] w (MkR' w O rb sb n N ns dir) := by
  obtain ⟨vs, hT⟩ := h
  have H := Lib.hid hT
  have HM := Lib.hid (And.intro hN h0)
  clear hT hN h0
  go_enter Tryz.func91, Tryz.ntmps91
  go_wp2
  go_loopw [6] (fun v6 wr => ∃ i : Nat, 1 ≤ i ∧ i ≤ 16 ∧ v6 = .int .i64 i ∧ Hid (∀ j, j < i → ns j ≠ none) ∧ wr = w) (fun v6 _ => 16 - (intOf v6).toNat)
  case atStart => exact ⟨1, by omega, by omega, rfl, Lib.hid (fun j hj => by obtain rfl : j = 0 := (by omega); exact HM.out.2), rfl⟩
  case round =>
    obtain ⟨i, hi1, hi, rfl, HA, rfl⟩ := hrel
    by_cases hil : i < 16
    · have d1 : decide ((i : Int) < 16) = true := by simp; omega
      have d1n : decide (i < 16) = true := by simp; omega
      have i1 : (i : Int) < 16 := by omega
      have i2 : (0 : Int) ≤ i := by omega
      cases hn : ns i with
      | some nd =>
        have c1 := (H.out.cells hn).2.1
        have HE := Lib.hid hn
        clear hn
        go_wp2_with (fail)
        go_roundw
        case rel => exact ⟨i + 1, by omega, by omega, by go_num, Lib.hid (fun j hj => by
          by_cases hji : j < i
          · exact HA.out j hji
          · have : j = i := by omega
            subst this; rw [HE.out]; simp), by trivial⟩
        case measure => simp [intOf]; omega
      | none =>
        have c1 := H.out.cells_no hil hn
        have c2 : wr.cell? ⟨rb, 1 + i * 5 + 1, none⟩ = some (.bool false) := by have := H.out.cell i 1 hil (by omega); rw [hn] at this; exact this
        have c3 : wr.cell? ⟨rb, 1 + i * 5 + 2, none⟩ = some (.int .i64 0) := by have := H.out.cell i 2 hil (by omega); rw [hn] at this; exact this
        have c4 : wr.cell? ⟨rb, 1 + i * 5 + 3, none⟩ = some (.int .i64 0) := by have := H.out.cell i 3 hil (by omega); rw [hn] at this; exact this
        have c5 : wr.cell? ⟨rb, 1 + i * 5 + 4, none⟩ = some (vs i) := by have := H.out.cell i 4 hil (by omega); rw [hn] at this; exact this
        have hTa := H.out.add hil hn dir
        have nf := H.out.tab.nf
        have cs : wr.cell? ⟨rb, 0, none⟩ = some (.pointer (some ⟨sb, 0, none⟩)) := by rw [H.out.tab.rd]; exact refC_0 sb ns vs
        have hua : Upd (fun k => k = rb) wr (((((wr.setCell ⟨rb, 1 + i * 5, none⟩ (.bool true)).setCell ⟨rb, 1 + i * 5 + 1, none⟩ (.bool dir)).setCell ⟨rb, 1 + i * 5 + 2, none⟩ (.int .i64 0)).setCell ⟨rb, 1 + i * 5 + 3, none⟩ (.int .i64 1)).setCell ⟨rb, 1 + i * 5 + 4, none⟩ (.slice none 0 0)) :=
          ((((((Upd.refl (fun k => k = rb) wr).setCell (p := ⟨rb, _, none⟩) (fun _ => rfl) _).setCell (p := ⟨rb, _, none⟩) (fun _ => rfl) _).setCell (p := ⟨rb, _, none⟩) (fun _ => rfl) _).setCell (p := ⟨rb, _, none⟩) (fun _ => rfl) _).setCell (p := ⟨rb, _, none⟩) (fun _ => rfl) _)
        have hza : (((((wr.setCell ⟨rb, 1 + i * 5, none⟩ (.bool true)).setCell ⟨rb, 1 + i * 5 + 1, none⟩ (.bool dir)).setCell ⟨rb, 1 + i * 5 + 2, none⟩ (.int .i64 0)).setCell ⟨rb, 1 + i * 5 + 3, none⟩ (.int .i64 1)).setCell ⟨rb, 1 + i * 5 + 4, none⟩ (.slice none 0 0)).heap.size = wr.heap.size := by simp [World.setCell]
        have HT := Lib.hid (And.intro hTa (And.intro hua hza))
        have HF : Hid (freeI ns i ∧ ns i = none ∧ i < 16) := Lib.hid ⟨Or.inr ⟨i, rfl, hil, hn, HA.out⟩, hn, hil⟩
        clear hTa hua hza hn
        go_upto_if 27 with (fail)
        clear c1 c2 c3 c4 c5 nf cs
        generalize (((((wr.setCell ⟨rb, 1 + i * 5, none⟩ (.bool true)).setCell ⟨rb, 1 + i * 5 + 1, none⟩ (.bool dir)).setCell ⟨rb, 1 + i * 5 + 2, none⟩ (.int .i64 0)).setCell ⟨rb, 1 + i * 5 + 3, none⟩ (.int .i64 1)).setCell ⟨rb, 1 + i * 5 + 4, none⟩ (.slice none 0 0)) = wk at *
        have HU : Hid (Upd O wr wk) := Lib.hid (HT.out.2.1.mono (fun k _ e => e ▸ H.out.orb))
        cases dir with
        | true =>
          go_wp2_with (fail)
          go_returns
          have hq := (HT.out.1.mono (O' := nx wr wk O) (fun k hk hl => ⟨Or.inl hk, hl⟩)).le (Nat.le_succ N)
          rw [← files_dir HF.out.2.1] at hq
          exact ⟨i, HF.out.1, Or.inr ⟨i, rfl, rfl, ⟨_, hq⟩, HU.out⟩⟩
        | false =>
          have hfn : filesOf ns i = none := by unfold filesOf; rw [HF.out.2.1]
          have hmk := qmake_is HT.out.1.sto.only HM.out.1 i HF.out.2.2 hfn
          rw [← files_new] at hmk
          have cs' : wk.cell? ⟨rb, 0, none⟩ = some (.pointer (some ⟨sb, 0, none⟩)) := by rw [HT.out.1.tab.rd]; exact refC_0 sb _ vs
          clear hfn
          go_wp2_with (go_at_call 117; (with_reducible refine hmk.mono ?_); rintro e w3 ⟨rfl, hS, hu⟩; have HS := Lib.hid (And.intro hS hu); clear hmk hS hu)
          go_returns
          have hq := HT.out.1.store HS.out.1 HS.out.2
          refine ⟨i, HF.out.1, Or.inr ⟨i, rfl, rfl, QP.trans (w1 := wk) HU.out ⟨?_, HS.out.2.mono (fun k _ h => nx_old h.1 (by obtain ⟨cs, T, q, _⟩ := h.2; exact q.lt))⟩⟩⟩
          exact ⟨_, hq.mono (fun k hk _ => ⟨by
            rcases Nat.lt_or_ge k wk.heap.size with h5 | h5
            · exact hk.1.elim (fun h => Or.inl ⟨Or.inl h, h5⟩) (fun h => by omega)
            · exact Or.inr h5, hk.2⟩)⟩
    · have hie : i = 16 := by omega
      subst hie
      go_wp2_with (fail)
      go_returns
      exact ⟨-1, Or.inl ⟨rfl, HA.out⟩, Or.inl ⟨rfl, rfl, rfl⟩⟩
theorem freeI_one {ns : NSt} {r r' : Int} (h : freeI ns r) (h' : freeI ns r') : r = r' := by
  rcases h with ⟨rfl, h⟩ | ⟨i, rfl, hi, hn, hl⟩ <;> rcases h' with ⟨rfl, h'⟩ | ⟨j, rfl, hj, hm, hk⟩
  · rfl
  · exact absurd hm (h j hj)
  · exact absurd hn (h' i hi)
  · rcases Nat.lt_trichotomy i j with e | e | e
    · exact absurd hn (hk i e)
    · rw [e]
    · exact absurd hm (hl j e)
/-- a node made, or none -/
theorem qmk_full (h : QO w O rb sb n N ns) (hN : N ≤ 900) (dir : Bool) (h0 : ns 0 ≠ none) (hf : freeF ns = none) : Calls Tryz.prog 91 #[.pointer (some ⟨rb, 0, none⟩), .bool dir] w fun e w' => e = .returned (.tuple #[.int .i64 0, .int .i64 15]) ∧ w = w' := by
  refine (rmake_is h hN dir h0).mono ?_
  rintro e w' ⟨r, hr, hq⟩
  rcases hq with ⟨_, rfl, rfl⟩ | ⟨i, rfl, _⟩
  · exact ⟨rfl, rfl⟩
  · rcases hr with ⟨hr, _⟩ | ⟨k, hk, h16, hn, _⟩
    · omega
    · obtain rfl : i = k := by omega
      exact absurd hn (freeF_none hf i h16)
theorem qmk_some (h : QO w O rb sb n N ns) (hN : N ≤ 900) (dir : Bool) (h0 : ns 0 ≠ none) (i : Nat) (hf : freeF ns = some i) : Calls Tryz.prog 91 #[.pointer (some ⟨rb, 0, none⟩), .bool dir] w fun e w' => e = .returned (.tuple #[.int .i64 i, .int .i64 0]) ∧ QP w O rb sb n (N + 1) (nsPut ns i (some ⟨dir, 0, 1, [], []⟩)) w' := by
  obtain ⟨f1, f2⟩ := freeF_some hf
  refine (rmake_is h hN dir h0).mono ?_
  rintro e w' ⟨r, hr, hq⟩
  rcases hr with ⟨rfl, hall⟩ | ⟨k, rfl, h16, hn, hall⟩
  · exact absurd f2 (hall i f1)
  · have := freeF_first h16 hn hall
    rw [hf] at this
    cases this
    rcases hq with ⟨h0, _⟩ | ⟨i', hi', rfl, hq⟩
    · omega
    · obtain rfl : i = i' := by omega
      exact ⟨rfl, hq⟩
theorem ndAt_nat {ns : NSt} {i : Nat} {nd : Nd} (hi : ns i = some nd) : ndAt ns (i : Int) = some nd := by
  unfold ndAt; rw [if_pos (by omega)]; exact hi
/-- one number of one node, told from outside -/
theorem QO.num (h : QO w O rb sb n N ns) {i f : Nat} {nd nd' : Nd} (hi : ns i = some nd) (hf : f < 5) (v : Value) (he : ∀ x, nodeC (some nd') x = (nodeC (some nd) x).set f v) (hes : nd'.es = nd.es) (hd : nd'.dir = nd.dir) (hb : nd'.bs = nd.bs) :
    QO (w.setCell ⟨rb, 1 + i * 5 + f, none⟩ v).drew O rb sb n N (nsPut ns i (some nd')) ∧ Upd O w (w.setCell ⟨rb, 1 + i * 5 + f, none⟩ v).drew := by
  obtain ⟨vs, hT⟩ := h
  have h1 := hT.num hi hf v (he _) hes
  rw [← files_same hi hd hb] at h1
  exact ⟨⟨_, h1.upd ((Upd.refl (fun _ => False) _).drew) (fun _ _ h => h)⟩, ((Upd.refl O w).setCell (p := ⟨rb, _, none⟩) (fun _ => hT.orb) _).drew⟩
theorem QO.cells (h : QO w O rb sb n N ns) {i : Nat} {nd : Nd} (hi : ns i = some nd) : i < 16 ∧ w.cell? ⟨rb, 1 + i * 5, none⟩ = some (.bool true) ∧ w.cell? ⟨rb, 1 + i * 5 + 1, none⟩ = some (.bool nd.dir) ∧ w.cell? ⟨rb, 1 + i * 5 + 2, none⟩ = some (.int .i64 nd.links) ∧ w.cell? ⟨rb, 1 + i * 5 + 3, none⟩ = some (.int .i64 nd.opens) ∧ ∀ o, w.frozen? ⟨rb, o, none⟩ = false := by
  obtain ⟨vs, hT⟩ := h
  obtain ⟨h16, c0, c1, c2, c3, c4⟩ := hT.cells hi
  exact ⟨h16, c0, c1, c2, c3, hT.tab.nf⟩
theorem QO.is (h : QO w O rb sb n N ns) (id : Int) : Calls Tryz.prog 96 #[.pointer (some ⟨rb, 0, none⟩), .int .i64 id] w fun e w' => e = .returned (.bool (ndAt ns id).isSome) ∧ w = w' := by
  obtain ⟨vs, hT⟩ := h
  exact rIs_is hT id
theorem QO.isY (h : QO w O rb sb n N ns) {i : Nat} {nd : Nd} (hi : ns i = some nd) : Calls Tryz.prog 96 #[.pointer (some ⟨rb, 0, none⟩), .int .i64 i] w fun e w' => e = .returned (.bool true) ∧ w = w' := by
  have := h.is i
  rw [ndAt_nat hi] at this
  exact this
theorem QP.same (h : QO w O rb sb n N ns') (hz : w'.heap.size = w.heap.size) (hu : Upd O w' w) : QP w' O rb sb n N ns' w := ⟨h.mono (fun k hk hl => ⟨Or.inl hk, hl⟩), hu⟩
set_option maxRecDepth 100000 in
theorem ropen_yes (h : QO w O rb sb n N ns) (i : Nat) (nd : Nd) (hi : ns i = some nd) (ho : 0 ≤ nd.opens) (ho2 : nd.opens ≤ 100000) : Calls Tryz.prog 89 #[.pointer (some ⟨rb, 0, none⟩), .int .i64 i] w fun e w' => e = .returned (.int .i64 0) ∧ QP w O rb sb n N (nsPut ns i (some (addO nd 1))) w' := by
  have hs := h.isY hi
  obtain ⟨h16, c0, c1, c2, c3, nf⟩ := h.cells hi
  have hn := h.num (f := 3) (nd' := addO nd 1) hi (by omega) (.int .i64 (nd.opens + 1)) (fun _ => rfl) rfl rfl rfl
  have i1 : (i : Int) < 16 := by omega
  have i2 : (0 : Int) ≤ i := by omega
  have HN := Lib.hid hn
  have mixed : Tryz.prog.follows .mixedOrders = true := by kernel_rfl
  clear h hi hn h16
  generalize nd.opens = OO at *
  go_enter Tryz.func89, Tryz.ntmps89
  go_upto_region 3 with (go_at_call 96; refine hs.mono ?_; rintro e w' ⟨rfl, rfl⟩)
  go_region
  go_wp2
  go_ret
  exact ⟨rfl, QP.same HN.out.1 (by simp [World.setCell]) HN.out.2⟩
set_option maxRecDepth 100000 in
theorem rclose_no (h : QO w O rb sb n N ns) (id : Int) (hd : ∀ nd, ndAt ns id = some nd → nd.opens = 0) : Calls Tryz.prog 61 #[.pointer (some ⟨rb, 0, none⟩), .int .i64 id] w fun e w' => e = .returned (.int .i64 4) ∧ w = w' := by
  cases hx : ndAt ns id with
  | none =>
    have hs := h.is id
    rw [hx] at hs
    clear h hx hd
    go_enter Tryz.func61, Tryz.ntmps61
    go_wp2_with (go_at_call 96; refine hs.mono ?_; rintro e w' ⟨rfl, rfl⟩)
    go_ret
    exact ⟨rfl, rfl⟩
  | some nd =>
    have ho := hd nd hx
    obtain ⟨i, rfl, hi⟩ := ndAt_some hx
    have hs := h.isY hi
    obtain ⟨h16, c0, c1, c2, c3, nf⟩ := h.cells hi
    rw [ho] at c3
    have i1 : (i : Int) < 16 := by omega
    have i2 : (0 : Int) ≤ i := by omega
    clear h hx hd hi ho
    go_enter Tryz.func61, Tryz.ntmps61
    go_wp2_with (go_at_call 96; refine hs.mono ?_; rintro e w' ⟨rfl, rfl⟩)
    go_ret
    exact ⟨rfl, rfl⟩
set_option maxRecDepth 100000 in
theorem rclose_yes (h : QO w O rb sb n N ns) (hN : N ≤ 900) (i : Nat) (nd : Nd) (hi : ns i = some nd) (ho : 0 < nd.opens) (ho2 : nd.opens ≤ 100000) (hV' : Inv (nsPut ns i (some (addO nd (-1)))) []) :
    Calls Tryz.prog 61 #[.pointer (some ⟨rb, 0, none⟩), .int .i64 i] w fun e w' => e = .returned (.int .i64 0) ∧ QP w O rb sb n N (gone 17 (nsPut ns i (some (addO nd (-1)))) i) w' := by
  have hs := h.isY hi
  obtain ⟨h16, c0, c1, c2, c3, nf⟩ := h.cells hi
  have hn := h.num (f := 3) (nd' := addO nd (-1)) hi (by omega) (.int .i64 (nd.opens - 1)) (fun _ => rfl) rfl rfl rfl
  have hst := qgone_is rb sb n N hN 17 _ _ _ i (addO nd (-1)) [] (hn.1.mono (O' := nx w _ O) (fun k hk hl => ⟨Or.inl hk, hl⟩)) (put_eq _ _ _) hV' (by have := lenN_le (nsPut ns i (some (addO nd (-1)))) 16; omega)
  have d1 : (nd.opens == 0) = false := by simp; omega
  have i1 : (i : Int) < 16 := by omega
  have i2 : (0 : Int) ≤ i := by omega
  have HN := Lib.hid hn
  have mixed : Tryz.prog.follows .mixedOrders = true := by kernel_rfl
  clear h hi hn h16 hV'
  generalize nd.opens = OO at *
  go_enter Tryz.func61, Tryz.ntmps61
  go_upto_region 3 with (go_at_call 96; refine hs.mono ?_; rintro e w' ⟨rfl, rfl⟩)
  go_region
  generalize (w.setCell ⟨rb, 1 + i * 5 + 3, none⟩ (.int .i64 (OO - 1))).drew = w5 at *
  go_wp2_with (go_at_call 97; (with_reducible refine hst.mono ?_); rintro e w6 ⟨⟨v6, rfl⟩, hP6, -⟩; have H6 := Lib.hid hP6; clear hst hP6)
  go_ret
  exact ⟨rfl, QP.trans HN.out.2 H6.out⟩
/-- closed -/
theorem qclose_f (h : QO w O rb sb n N ns) (hN : N ≤ 900) (hV : IV ns c) (hc : c ≤ 100000) (id : Int) (r : Int) (ns' : NSt) (hr : closeF ns id = (r, ns')) :
    Calls Tryz.prog 61 #[.pointer (some ⟨rb, 0, none⟩), .int .i64 id] w fun e w' => e = .returned (.int .i64 r) ∧ QP w O rb sb n N ns' w' := by
  unfold closeF at hr
  cases hn : ndAt ns id with
  | none =>
    rw [hn] at hr; cases hr
    refine (rclose_no h id (fun nd hd => by rw [hn] at hd; cases hd)).mono ?_
    rintro e w' ⟨rfl, rfl⟩
    exact ⟨rfl, h.refl⟩
  | some nd =>
    rw [hn] at hr
    simp only at hr
    obtain ⟨i, rfl, hi⟩ := ndAt_some hn
    by_cases ho : 0 < nd.opens
    · rw [if_pos ho] at hr
      simp only [Int.toNat_natCast] at hr
      cases hr
      exact rclose_yes h hN i nd hi ho (by have := hV.opn i nd hi; omega) (hV.closed1 hi ho)
    · rw [if_neg ho] at hr
      cases hr
      refine (rclose_no h i (fun nd' hd => by rw [hn] at hd; cases hd; have := hV.inv.opn i nd hi; omega)).mono ?_
      rintro e w' ⟨rfl, rfl⟩
      exact ⟨rfl, h.refl⟩
end
end Go.Proofs.YtchnjfmimpikcaaGreatDoor
