/-
  The document's table: Make, Open, Close.
-/
import Derived.Test.YtapkdaccbojbgaaRGone
namespace Go.Proofs.Ytapkdaccbojbgaa
set_option linter.unusedSimpArgs false
set_option linter.unusedVariables false
open Go.RowKit Own RegJ Two
open Go.Lib hiding intOf

section
variable {w : World} {rb sb : Nat} {ns : NSt} {vs : Nat → Value} {rw' : Nat → Option Nat} {fl : List Int} {fb : Option Nat}
/-- a new node -/
theorem RT.add (h : RT w rb sb ns vs rw' fl fb) {i : Nat} (h16 : i < 16) (hi : ns i = none) (dir : Bool) : RT (((((w.setCell ⟨rb, 1 + i * 5, none⟩ (.bool true)).setCell ⟨rb, 1 + i * 5 + 1, none⟩ (.bool dir)).setCell ⟨rb, 1 + i * 5 + 2, none⟩ (.int .i64 0)).setCell ⟨rb, 1 + i * 5 + 3, none⟩ (.int .i64 1)).setCell ⟨rb, 1 + i * 5 + 4, none⟩ (.slice none 0 0)) rb sb (nsPut ns i (some ⟨dir, 0, 1, []⟩)) vs (fun j => if j = i then none else rw' j) fl fb := by
  have hv := h.nil' i hi
  refine h.turn (((((((Upd.refl (fun k => k = rb) w).setCell (p := ⟨rb, _, none⟩) (fun _ => rfl) _).setCell (p := ⟨rb, _, none⟩) (fun _ => rfl) _).setCell (p := ⟨rb, _, none⟩) (fun _ => rfl) _).setCell (p := ⟨rb, _, none⟩) (fun _ => rfl) _).setCell (p := ⟨rb, _, none⟩) (fun _ => rfl) _)) (Blk.of (((((h.tab.set _ _).set _ _).set _ _).set _ _).set _ _) (refC_node sb ns _ vs _ i h16 _ _ _ _ _ (fun k hk => ⟨put_ne _ _ _ hk, rfl⟩) (by rw [put_eq, hv]; rfl))) (fun j nd2 hj => ?_) (fun j hj => ?_) (fun j hj => ?_) (fun j g hg => ?_) (fun j g hg => ?_)
  · by_cases e : j = i
    · subst e; rw [put_eq] at hj; cases hj; rw [if_pos rfl, hv]; exact ⟨Or.inl ⟨rfl, rfl, rfl⟩, Nat.zero_le _⟩
    · rw [put_ne _ _ _ e] at hj; rw [if_neg e]; exact h.row j nd2 hj
  · by_cases e : j = i
    · rw [e]; exact hv
    · rw [put_ne _ _ _ e] at hj; exact h.nil' j hj
  · rw [put_ne _ _ _ (by omega)]; exact h.far j hj
  · by_cases e : j = i
    · simp only [if_pos e] at hg; cases hg
    · simp only [if_neg e] at hg; exact h.n3 j g hg
  · by_cases e : j = i
    · simp only [if_pos e] at hg; cases hg
    · simp only [if_neg e] at hg; exact h.n4 j g hg
end
def MkR (w : World) (rb : Nat) (W A : Nat → Prop) (ns : NSt) (m : Nat) (dir : Bool) (r : Int) (e : Ending) (w' : World) : Prop :=
  (r = -1 ∧ e = .returned (.tuple #[.int .i64 0, .int .i64 15]) ∧ w = w') ∨
  ∃ i : Nat, r = i ∧ e = .returned (.tuple #[.int .i64 i, .int .i64 0]) ∧ RP w rb W A (nsPut ns i (some ⟨dir, 0, 1, []⟩)) (m + 1) w'
def MkR' (w : World) (rb : Nat) (W A : Nat → Prop) (ns : NSt) (m : Nat) (dir : Bool) (e : Ending) (w' : World) : Prop := ∃ r, freeI ns r ∧ MkR w rb W A ns m dir r e w'
set_option maxRecDepth 100000 in
set_option maxHeartbeats 2000000 in
theorem rmake_is {w : World} {rb : Nat} {ns : NSt} {m : Nat} {W A : Nat → Prop} (h : RO w rb ns m W A) (hm : m < 500) (dir : Bool) (h0 : ns 0 ≠ none) :
    Calls Try.prog 38 #[.pointer (some ⟨rb, 0, none⟩), .bool dir] w (MkR' w rb W A ns m dir) := by
  obtain ⟨sb, vs, rw', fl, fb, hT, hml, hW, hA⟩ := h
  have H := Lib.hid (And.intro hT (And.intro hml (And.intro hW hA)))
  have HM := Lib.hid (And.intro hm h0)
  clear hT hml hW hA hm h0
  go_enter Try.func38, Try.ntmps38
  go_wp2
  go_loopw [6] (fun v6 wr => ∃ i : Nat, 1 ≤ i ∧ i ≤ 16 ∧ v6 = .int .i64 i ∧ Hid (∀ j, j < i → ns j ≠ none) ∧ wr = w) (fun v6 _ => 16 - (intOf v6).toNat)
  case atStart => exact ⟨1, by omega, by omega, rfl, Lib.hid (fun j hj => by obtain rfl : j = 0 := (by omega); exact HM.out.2), rfl⟩
  case round =>
    obtain ⟨i, hi1, hi, rfl, HA, rfl⟩ := hrel
    by_cases hil : i < 16
    · have d1 : decide ((i : Int) < 16) = true := by simp; omega
      have d1n : decide (i < 16) = true := by simp; omega
      have i1 : (i : Int) < 16 := by omega
      have i2 : (0 : Int) ≤ i := by omega
      cases hn : ns i with
      | some nd =>
        have c1 := (H.out.1.cells hn).2.1
        have HE := Lib.hid hn
        clear hn
        go_wp2_with (fail)
        go_roundw
        case rel => exact ⟨i + 1, by omega, by omega, by go_num, Lib.hid (fun j hj => by
          by_cases hji : j < i
          · exact HA.out j hji
          · have : j = i := by omega
            subst this; rw [HE.out]; simp), by trivial⟩
        case measure => simp [intOf]; omega
      | none =>
        have c1 := H.out.1.cells_no hil hn
        have c2 : wr.cell? ⟨rb, 1 + i * 5 + 1, none⟩ = some (.bool false) := by have := H.out.1.cell i 1 hil (by omega); rw [hn] at this; exact this
        have c3 : wr.cell? ⟨rb, 1 + i * 5 + 2, none⟩ = some (.int .i64 0) := by have := H.out.1.cell i 2 hil (by omega); rw [hn] at this; exact this
        have c4 : wr.cell? ⟨rb, 1 + i * 5 + 3, none⟩ = some (.int .i64 0) := by have := H.out.1.cell i 3 hil (by omega); rw [hn] at this; exact this
        have c5 : wr.cell? ⟨rb, 1 + i * 5 + 4, none⟩ = some (vs i) := by have := H.out.1.cell i 4 hil (by omega); rw [hn] at this; exact this
        have hTa := H.out.1.add hil hn dir
        have nf := H.out.1.tab.nf
        have cs : wr.cell? ⟨rb, 0, none⟩ = some (.pointer (some ⟨sb, 0, none⟩)) := by rw [H.out.1.tab.rd]; exact refC_0 sb ns vs
        have hua : Upd (fun k => k = rb) wr (((((wr.setCell ⟨rb, 1 + i * 5, none⟩ (.bool true)).setCell ⟨rb, 1 + i * 5 + 1, none⟩ (.bool dir)).setCell ⟨rb, 1 + i * 5 + 2, none⟩ (.int .i64 0)).setCell ⟨rb, 1 + i * 5 + 3, none⟩ (.int .i64 1)).setCell ⟨rb, 1 + i * 5 + 4, none⟩ (.slice none 0 0)) :=
          ((((((Upd.refl (fun k => k = rb) wr).setCell (p := ⟨rb, _, none⟩) (fun _ => rfl) _).setCell (p := ⟨rb, _, none⟩) (fun _ => rfl) _).setCell (p := ⟨rb, _, none⟩) (fun _ => rfl) _).setCell (p := ⟨rb, _, none⟩) (fun _ => rfl) _).setCell (p := ⟨rb, _, none⟩) (fun _ => rfl) _)
        have HT := Lib.hid (And.intro hTa hua)
        have HF : Hid (freeI ns i) := Lib.hid (Or.inr ⟨i, rfl, hil, hn, HA.out⟩)
        clear hTa hua hn
        go_upto_if 27 with (fail)
        clear c1 c2 c3 c4 c5 nf cs
        generalize (((((wr.setCell ⟨rb, 1 + i * 5, none⟩ (.bool true)).setCell ⟨rb, 1 + i * 5 + 1, none⟩ (.bool dir)).setCell ⟨rb, 1 + i * 5 + 2, none⟩ (.int .i64 0)).setCell ⟨rb, 1 + i * 5 + 3, none⟩ (.int .i64 1)).setCell ⟨rb, 1 + i * 5 + 4, none⟩ (.slice none 0 0)) = wk at *
        have HO : Hid (RO wk rb (nsPut ns i (some ⟨dir, 0, 1, []⟩)) m W (fun k => A k) ) := Lib.hid ⟨sb, _, _, fl, fb, HT.out.1, H.out.2.1, H.out.2.2.1, fun j k hk => by
          by_cases e : j = i
          · simp only [if_pos e] at hk; cases hk
          · simp only [if_neg e] at hk; exact H.out.2.2.2 j k hk⟩
        cases dir with
        | true =>
          go_wp2_with (fail)
          go_returns
          obtain ⟨sb', vs', rw2, fl', fb', q1, q2, q3, q4⟩ := HO.out
          exact ⟨i, HF.out, Or.inr ⟨i, rfl, rfl, W, A, ⟨sb', vs', rw2, fl', fb', q1, by omega, q3, q4⟩, fun k h => Or.inl h, fun k h => Or.inl h, HT.out.2.mono (fun k _ e => H.out.2.2.1 k (Or.inl e))⟩⟩
        | false =>
          have hmk := smake2_is HT.out.1.sto (by have := HT.out.1.len; omega) i
          have cs' : wk.cell? ⟨rb, 0, none⟩ = some (.pointer (some ⟨sb, 0, none⟩)) := by rw [HT.out.1.tab.rd]; exact refC_0 sb _ vs
          go_wp2_with (go_at_call 58; refine hmk.mono ?_; rintro e w3 ⟨⟨r3, rfl⟩, hS⟩; have HS := Lib.hid hS; clear hmk hS)
          go_returns
          have hfl := H.out.2.1
          have h5 := HM.out.1
          obtain ⟨fl', fb', q1, q2, q3, q4⟩ := HT.out.1.store HS.out (by omega)
          refine ⟨i, HF.out, Or.inr ⟨i, rfl, rfl, wrS rb sb fb', A, ⟨sb, vs, _, fl', fb', q1, by omega, fun k h => h, fun j k hk => by
            by_cases e : j = i
            · simp only [if_pos e] at hk; cases hk
            · simp only [if_neg e] at hk; exact H.out.2.2.2 j k hk⟩, fun k hk => ?_, fun k h => Or.inl h, (HT.out.2.mono (fun k _ e => H.out.2.2.1 k (Or.inl e))).trans (q4.mono (fun k _ e => H.out.2.2.1 k (Or.inr e))) (fun k _ h => h)⟩⟩
          have hz := HT.out.2.size
          rcases hk with h | h | h
          · exact Or.inl (H.out.2.2.1 k (Or.inl h))
          · exact Or.inl (H.out.2.2.1 k (Or.inr (Or.inl h)))
          · rcases q3 k h with h' | h'
            · exact Or.inl (H.out.2.2.1 k (Or.inr (Or.inr h')))
            · exact Or.inr (by omega)
    · have hie : i = 16 := by omega
      subst hie
      go_wp2_with (fail)
      go_returns
      exact ⟨-1, Or.inl ⟨rfl, HA.out⟩, Or.inl ⟨rfl, rfl, rfl⟩⟩
theorem freeI_one {ns : NSt} {r r' : Int} (h : freeI ns r) (h' : freeI ns r') : r = r' := by
  rcases h with ⟨rfl, h⟩ | ⟨i, rfl, hi, hn, hl⟩ <;> rcases h' with ⟨rfl, h'⟩ | ⟨j, rfl, hj, hm, hk⟩
  · rfl
  · exact absurd hm (h j hj)
  · exact absurd hn (h' i hi)
  · rcases Nat.lt_trichotomy i j with e | e | e
    · exact absurd hn (hk i e)
    · rw [e]
    · exact absurd hm (hl j e)
section
variable {w : World} {rb m : Nat} {ns : NSt} {W A : Nat → Prop}
set_option maxRecDepth 100000 in
theorem ropen_no (h : RO w rb ns m W A) (id : Int) (hx : ndAt ns id = none) : Calls Try.prog 40 #[.pointer (some ⟨rb, 0, none⟩), .int .i64 id] w fun e w' => e = .returned (.int .i64 4) ∧ w = w' := by
  obtain ⟨sb, vs, rw', fl, fb, hT, hml, hW, hA⟩ := h
  have hs := rIs_is hT id
  rw [hx] at hs
  clear hT hml hW hA hx
  go_enter Try.func40, Try.ntmps40
  go_wp2_with (go_at_call 46; refine hs.mono ?_; rintro e w' ⟨rfl, rfl⟩)
  go_ret
  exact ⟨rfl, rfl⟩
theorem ndAt_nat {ns : NSt} {i : Nat} {nd : Nd} (hi : ns i = some nd) : ndAt ns (i : Int) = some nd := by
  unfold ndAt; rw [if_pos (by omega)]; exact hi
/-- one number of one node, told from outside -/
theorem RO.num (h : RO w rb ns m W A) {i f : Nat} {nd nd' : Nd} (hi : ns i = some nd) (hf : f < 5) (v : Value) (he : ∀ x, nodeC (some nd') x = (nodeC (some nd) x).set f v) (hes : nd'.es = nd.es) :
    RO (w.setCell ⟨rb, 1 + i * 5 + f, none⟩ v).drew rb (nsPut ns i (some nd')) m W A ∧ Upd W w (w.setCell ⟨rb, 1 + i * 5 + f, none⟩ v).drew := by
  obtain ⟨sb, vs, rw', fl, fb, hT, hml, hW, hA⟩ := h
  have h1 := hT.num hi hf v (he _) hes
  exact ⟨⟨sb, vs, rw', fl, fb, h1.upd ((Upd.refl (fun _ => False) _).drew) (fun _ _ h => h), hml, hW, hA⟩, ((Upd.refl W w).setCell (p := ⟨rb, _, none⟩) (fun _ => hW _ (Or.inl rfl)) _).drew⟩
theorem RO.cells (h : RO w rb ns m W A) {i : Nat} {nd : Nd} (hi : ns i = some nd) : i < 16 ∧ w.cell? ⟨rb, 1 + i * 5, none⟩ = some (.bool true) ∧ w.cell? ⟨rb, 1 + i * 5 + 1, none⟩ = some (.bool nd.dir) ∧ w.cell? ⟨rb, 1 + i * 5 + 2, none⟩ = some (.int .i64 nd.links) ∧ w.cell? ⟨rb, 1 + i * 5 + 3, none⟩ = some (.int .i64 nd.opens) ∧ ∀ o, w.frozen? ⟨rb, o, none⟩ = false := by
  obtain ⟨sb, vs, rw', fl, fb, hT, hml, hW, hA⟩ := h
  obtain ⟨h16, c0, c1, c2, c3, c4⟩ := hT.cells hi
  exact ⟨h16, c0, c1, c2, c3, hT.tab.nf⟩
theorem RO.is (h : RO w rb ns m W A) (id : Int) : Calls Try.prog 46 #[.pointer (some ⟨rb, 0, none⟩), .int .i64 id] w fun e w' => e = .returned (.bool (ndAt ns id).isSome) ∧ w = w' := by
  obtain ⟨sb, vs, rw', fl, fb, hT, hml, hW, hA⟩ := h
  exact rIs_is hT id
theorem RO.isY (h : RO w rb ns m W A) {i : Nat} {nd : Nd} (hi : ns i = some nd) : Calls Try.prog 46 #[.pointer (some ⟨rb, 0, none⟩), .int .i64 i] w fun e w' => e = .returned (.bool true) ∧ w = w' := by
  have := h.is i
  rw [ndAt_nat hi] at this
  exact this
set_option maxRecDepth 100000 in
theorem ropen_yes (h : RO w rb ns m W A) (i : Nat) (nd : Nd) (hi : ns i = some nd) (ho : 0 ≤ nd.opens) (ho2 : nd.opens ≤ 100000) : Calls Try.prog 40 #[.pointer (some ⟨rb, 0, none⟩), .int .i64 i] w fun e w' => e = .returned (.int .i64 0) ∧ RP w rb W A (nsPut ns i (some (addO nd 1))) m w' := by
  have hs := h.isY hi
  obtain ⟨h16, c0, c1, c2, c3, nf⟩ := h.cells hi
  have hn := h.num (f := 3) (nd' := addO nd 1) hi (by omega) (.int .i64 (nd.opens + 1)) (fun _ => rfl) rfl
  have i1 : (i : Int) < 16 := by omega
  have i2 : (0 : Int) ≤ i := by omega
  have HN := Lib.hid hn
  have mixed : Try.prog.follows .mixedOrders = true := by kernel_rfl
  clear h hi hn h16
  generalize nd.opens = O at *
  go_enter Try.func40, Try.ntmps40
  go_upto_region 3 with (go_at_call 46; refine hs.mono ?_; rintro e w' ⟨rfl, rfl⟩)
  go_region
  go_wp2
  go_ret
  exact ⟨rfl, W, A, HN.out.1, fun k h => Or.inl h, fun k h => Or.inl h, HN.out.2⟩
set_option maxRecDepth 100000 in
theorem rclose_no (h : RO w rb ns m W A) (id : Int) (hd : ∀ nd, ndAt ns id = some nd → nd.opens = 0) : Calls Try.prog 41 #[.pointer (some ⟨rb, 0, none⟩), .int .i64 id] w fun e w' => e = .returned (.int .i64 4) ∧ w = w' := by
  cases hx : ndAt ns id with
  | none =>
    have hs := h.is id
    rw [hx] at hs
    clear h hx hd
    go_enter Try.func41, Try.ntmps41
    go_wp2_with (go_at_call 46; refine hs.mono ?_; rintro e w' ⟨rfl, rfl⟩)
    go_ret
    exact ⟨rfl, rfl⟩
  | some nd =>
    have ho := hd nd hx
    obtain ⟨i, rfl, hi⟩ := ndAt_some hx
    have hs := h.isY hi
    obtain ⟨h16, c0, c1, c2, c3, nf⟩ := h.cells hi
    rw [ho] at c3
    have i1 : (i : Int) < 16 := by omega
    have i2 : (0 : Int) ≤ i := by omega
    clear h hx hd hi ho
    go_enter Try.func41, Try.ntmps41
    go_wp2_with (go_at_call 46; refine hs.mono ?_; rintro e w' ⟨rfl, rfl⟩)
    go_ret
    exact ⟨rfl, rfl⟩
set_option maxRecDepth 100000 in
theorem rclose_yes (h : RO w rb ns m W A) (hm5 : m ≤ 500) (i : Nat) (nd : Nd) (hi : ns i = some nd) (ho : 0 < nd.opens) (ho2 : nd.opens ≤ 100000) (hV' : Inv (nsPut ns i (some (addO nd (-1)))) []) :
    Calls Try.prog 41 #[.pointer (some ⟨rb, 0, none⟩), .int .i64 i] w fun e w' => e = .returned (.int .i64 0) ∧ RP w rb W A (gone 17 (nsPut ns i (some (addO nd (-1)))) i) m w' := by
  have hs := h.isY hi
  obtain ⟨h16, c0, c1, c2, c3, nf⟩ := h.cells hi
  have hn := h.num (f := 3) (nd' := addO nd (-1)) hi (by omega) (.int .i64 (nd.opens - 1)) (fun _ => rfl) rfl
  have hst := rgone_is rb m hm5 17 _ _ W A i (addO nd (-1)) [] hn.1 (put_eq _ _ _) hV' (by have := lenN_le (nsPut ns i (some (addO nd (-1)))) 16; omega)
  have d1 : (nd.opens == 0) = false := by simp; omega
  have i1 : (i : Int) < 16 := by omega
  have i2 : (0 : Int) ≤ i := by omega
  have HN := Lib.hid hn
  have mixed : Try.prog.follows .mixedOrders = true := by kernel_rfl
  clear h hi hn h16 hV'
  generalize nd.opens = O at *
  go_enter Try.func41, Try.ntmps41
  go_upto_region 3 with (go_at_call 46; refine hs.mono ?_; rintro e w' ⟨rfl, rfl⟩)
  go_region
  generalize (w.setCell ⟨rb, 1 + i * 5 + 3, none⟩ (.int .i64 (O - 1))).drew = w5 at *
  go_wp2_with (go_at_call 59; (with_reducible refine hst.mono ?_); rintro e w6 ⟨⟨v6, rfl⟩, hP6⟩; have H6 := Lib.hid hP6; clear hst hP6)
  go_ret
  exact ⟨rfl, RP.trans (w1 := w5) (fun k h => Or.inl h) (fun k h => Or.inl h) HN.out.2 H6.out⟩
end
end Go.Proofs.Ytapkdaccbojbgaa
