/-
  A node that stays; Close of one that stays.
-/
import Derived.Test.YtchnjfmimpikcaaDoorIEnt2
namespace Go.Proofs.YtchnjfmimpikcaaDoor
set_option linter.unusedSimpArgs false
set_option linter.unusedVariables false
open Go.RowKit Own RegJ Two
open Go.Lib hiding intOf

def addO (nd : Nd) (d : Int) : Nd := { nd with opens := nd.opens + d }
section
variable {w : World} {tb : Nat} {ns : Nat → Option Nd} {lo : Lo} {N : Nat}
set_option maxRecDepth 100000 in
theorem settle_stay [Inhabited CapT] (h : TB w tb ns lo N) (i : Nat) (nd : Nd) (hi : ns i = some nd) (hs : i = 0 ∨ 0 < nd.links ∨ 0 < nd.opens) : Calls Tryd.prog 37 #[.pointer (some ⟨tb, 0, none⟩), .int .i64 i] w fun e w' => (∃ v, e = .returned v) ∧ w = w' := by
  obtain ⟨h16, _⟩ := h.is hi
  have ct := h.cell i h16
  obtain ⟨k, v, k1, k2, _⟩ := h.node _ _ hi
  rw [k1] at ct
  unfold ptr at ct
  have c1 := k2.rd
  have i1 : (i : Int) < 16 := by omega
  have i2 : (0 : Int) ≤ i := by omega
  by_cases h0 : i = 0
  · subst h0
    clear h hi k2 k1 hs
    go_enter Tryd.func37, Tryd.ntmps37
    go_wp2_with (fail)
    go_returns
    exact ⟨⟨_, rfl⟩, rfl⟩
  · have d0 : ((i : Int) == 0) = false := by simp; omega
    by_cases hl : 0 < nd.links
    · have d1 : decide (nd.links > 0) = true := by simpa using hl
      clear h hi k2 k1 hs h0 hl
      generalize nd.links = L at *
      go_enter Tryd.func37, Tryd.ntmps37
      go_wp2_with (fail)
      go_returns
      exact ⟨⟨_, rfl⟩, rfl⟩
    · have ho : 0 < nd.opens := by omega
      have d1 : decide (nd.links > 0) = false := by simpa using hl
      have d2 : decide (nd.opens > 0) = true := by simpa using ho
      clear h hi k2 k1 hs h0 hl ho
      generalize nd.links = L at *
      generalize nd.opens = O at *
      go_enter Tryd.func37, Tryd.ntmps37
      go_wp2_with (fail)
      go_returns
      exact ⟨⟨_, rfl⟩, rfl⟩
set_option maxRecDepth 100000 in
theorem close_no [Inhabited CapT] (h : TB w tb ns lo N) (id : Int) (hd : ∀ nd, ndAt ns id = some nd → nd.opens = 0) : Calls Tryd.prog 12 #[.pointer (some ⟨tb, 0, none⟩), .int .i64 id] w fun e w' => e = .returned (.int .i64 4) ∧ w = w' := by
  cases hx : ndAt ns id with
  | none =>
    have hg := get_no h id hx
    clear h hd hx
    go_enter Tryd.func12, Tryd.ntmps12
    go_wp2_with (go_at_call 36; refine hg.mono ?_; rintro e w' ⟨rfl, rfl⟩)
    go_ret
    exact ⟨rfl, rfl⟩
  | some nd =>
    obtain ⟨i, rfl, hi⟩ := ndAt_some hx
    obtain ⟨k, v, k1, k2, _⟩ := h.node _ _ hi
    have hg := get_nd h i nd hi k k1
    have c1 := k2.rd
    rw [hd nd hx] at c1
    clear h hd hx k2 k1 hi
    go_enter Tryd.func12, Tryd.ntmps12
    go_wp2_with (go_at_call 36; refine hg.mono ?_; rintro e w' ⟨rfl, rfl⟩)
    go_ret
    exact ⟨rfl, rfl⟩
set_option maxRecDepth 100000 in
theorem close_stay [Inhabited CapT] (h : TB w tb ns lo N) (i : Nat) (nd : Nd) (hi : ns i = some nd) (ho : 0 < nd.opens) (ho2 : nd.opens ≤ 100000) (hs : i = 0 ∨ 0 < nd.links ∨ 1 < nd.opens) :
    Calls Tryd.prog 12 #[.pointer (some ⟨tb, 0, none⟩), .int .i64 i] w fun e w' => e = .returned (.int .i64 0) ∧ TB w' tb (nsPut ns i (some (addO nd (-1)))) lo N ∧ TFr lo lo w w' := by
  obtain ⟨k, v, k1, k2, _⟩ := h.node _ _ hi
  have hg := get_nd h i nd hi k k1
  have c1 := k2.rd
  have nf := k2.nf
  have d1 : (nd.opens == 0) = false := by simp; omega
  have hu : Upd (fun j => j = k) w (w.setCell ⟨k, 2, none⟩ (.int .i64 (nd.opens - 1))) := (Upd.refl (fun j => j = k) w).setCell (p := ⟨k, 2, none⟩) (fun _ => rfl) _
  have hT := h.num (nd' := addO nd (-1)) hi k1 rfl rfl rfl hu (fun v hv => Blk.of (hv.set 2 (.int .i64 (nd.opens - 1))) rfl)
  have hst := settle_stay hT i (addO nd (-1)) (by unfold nsPut; rw [if_pos rfl]) (by unfold addO; simp only; omega)
  have HT := Lib.hid (And.intro hT (And.intro hu k1))
  clear h hi k2 k1 hs hT hu
  generalize nd.opens = O at *
  go_enter Tryd.func12, Tryd.ntmps12
  go_wp2_with (first
    | (go_at_call 36; refine hg.mono ?_; rintro e w' ⟨rfl, rfl⟩)
    | (go_at_call 37; (with_reducible refine hst.mono ?_); rintro e w2 ⟨⟨v2, rfl⟩, rfl⟩))
  go_ret
  exact ⟨rfl, HT.out.1, HT.out.2.1.mono (fun j _ e => ⟨_, e ▸ HT.out.2.2⟩), fun r k hk => Or.inl ⟨r, hk⟩, rfl, rfl⟩
end
end Go.Proofs.YtchnjfmimpikcaaDoor
