/-
  The heap's Move.
-/
import Derived.Test.YtamgaklbkefejaaFix
namespace Go.Proofs.Ytamgaklbkefejaa
set_option linter.unusedSimpArgs false
set_option linter.unusedVariables false
open Go.RowKit Go.Lib Own
open RegJ hiding Up
open RegF hiding put_size

theorem pcells_set2 (xs : List It) (j : Nat) (h : j < xs.length) (k : Int) : (pcells xs).set (j * 2 + 1) (.int .i64 k) = pcells (xs.set j ((X xs j).1, k)) := by
  unfold pcells X
  induction xs generalizing j with
  | nil => simp at h
  | cons b r ih =>
    cases j with
    | zero => simp
    | succ j =>
      have := ih j (by simpa using h)
      simp only [List.flatMap_cons, List.set_cons_succ, List.getD_cons_succ]
      rw [show (j + 1) * 2 + 1 = (j * 2 + 1 + 1) + 1 by omega]
      simpa using this
theorem set_split (xs : List It) (m : Nat) (h : m < xs.length) (a : It) : ∃ zs, (zs ++ [X xs m]).Perm xs ∧ (zs ++ [a]).Perm (xs.set m a) := by
  induction xs generalizing m with
  | nil => simp at h
  | cons b r ih =>
    cases m with
    | zero => exact ⟨r, by simp [X], by simp⟩
    | succ m =>
      obtain ⟨zs, h1, h2⟩ := ih m (by simpa using h)
      refine ⟨b :: zs, ?_, ?_⟩
      · have e : X (b :: r) (m + 1) = X r m := by unfold X; simp
        rw [e]; exact h1.cons b
      · rw [List.set_cons_succ]; exact h2.cons b
def MoveP (bh : Nat) (b : Option Nat) (w : World) (xs : List It) (id k : Int) (e : Ending) (w' : World) : Prop := e = .returned (.bool true) ∧ ∃ zs k0 ys, (zs ++ [(id, k0)]).Perm xs ∧ ys.Perm (zs ++ [(id, k)]) ∧ Hp w' bh ys b ∧ HFr bh b b w w'
set_option maxRecDepth 100000 in
theorem move_yes {w : World} {bh : Nat} {xs : List It} {b : Option Nat} (h : Hp w bh xs b) (id k : Int) (hy : hasB xs id = true) :
    Calls Try.prog 17 #[.pointer (some ⟨bh, 0, none⟩), .int .i64 id, .int .i64 k] w (MoveP bh b w xs id k) := by
  have ha := at_yes h.1 id hy
  have H := Lib.hid h
  have hmx := h.1
  obtain ⟨_, _, _, _, hmax⟩ := hmx
  clear h hy
  go_enter Try.func17, Try.ntmps17
  go_wp2_with (first
    | (go_at_call 30; refine ha.mono ?_; rintro e w1 ⟨⟨m, rfl, hm, hx⟩, hB⟩; clear ha; obtain ⟨g, cap, rest, rfl, hs, hc, hcm⟩ := hh_hs (H.out.1.below hB) (by intro e; rw [e] at hm; simp at hm); have c1 := hs.hb.rd; have nf := hs.hg.nf; have c2 := (blk_its hs.hg m hm).2; have d1 : decide ((m : Int) ≥ 0) = true := (by simp); have i1 : (m : Int) < (xs.length : Int) := (by omega); have hB2 : Blk (w1.setCell ⟨g, m * 2 + 1, none⟩ (.int .i64 k)) g (pcells (xs.set m ((X xs m).1, k)) ++ rest).toArray 30 := (Blk.of (hs.hg.set (m * 2 + 1) (.int .i64 k)) (by simp only [List.setIfInBounds_toArray]; congr 1; rw [List.set_append_left _ _ (by have := pcells_len xs; omega), pcells_set2 xs m hm])); have hs2 : HS (w1.setCell ⟨g, m * 2 + 1, none⟩ (.int .i64 k)) bh g cap xs.length (xs.set m ((X xs m).1, k)) rest := ⟨hs.hb.set_ne (a := ⟨g, m * 2 + 1, none⟩) (fun e => hs.ne e.symm) _, hB2, hs.ne, (by simp), hs.max⟩; have hfx := hfix hs2 hc hcm hmax m hm (ok_dn_set H.out.2 hm _); have HX := Lib.hid (And.intro hx (And.intro hB hm)); clear hx hB hs hs2 hB2)
    | (go_at_call 32; refine hfx.mono ?_; rintro e w2 ⟨⟨v, rfl⟩, ys, hp, hh, hf⟩; clear hfx; have HR := Lib.hid (And.intro hp (And.intro hh hf)); clear hp hh hf))
  go_ret
  obtain ⟨zs, hz1, hz2⟩ := set_split xs m HX.out.2.2 ((X xs m).1, k)
  have e : X xs m = (id, (X xs m).2) := by rw [← HX.out.1]
  have e2 : ((X xs m).1, k) = (id, k) := by rw [HX.out.1]
  rw [e] at hz1
  refine ⟨by simp, zs, (X xs m).2, ys, hz1, HR.out.1.trans (by rw [← e2]; exact hz2.symm), HR.out.2.1, ?_⟩
  refine (HFr.of_below HX.out.2.1).trans (HFr.trans ⟨(Upd.refl (fun k => k = bh ∨ some g = some k) w1).setCell (p := ⟨g, m * 2 + 1, none⟩) (fun _ => Or.inr rfl) _, fun g hg => Or.inl hg⟩ HR.out.2.2)
end Go.Proofs.Ytamgaklbkefejaa
