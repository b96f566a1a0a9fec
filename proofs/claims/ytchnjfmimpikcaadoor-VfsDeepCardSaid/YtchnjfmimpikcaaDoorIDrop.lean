/-
  A file of the store's goes; how large one is.
-/
import Derived.Test.YtchnjfmimpikcaaDoorIGone
namespace Go.Proofs.YtchnjfmimpikcaaDoor
set_option linter.unusedSimpArgs false
set_option linter.unusedVariables false
open Go.RowKit Own RegJ Two
open Go.Lib hiding intOf

section
variable {w : World} {sb mb n s : Nat} {m : Int → Option Value}
set_option maxRecDepth 100000 in
theorem ssize_yes (h : SB w sb mb n s m) (i : Nat) (hi : i < 16) (kf : Nat) (hm : m i = some (.pointer (some ⟨kf, 0, none⟩))) (hf : Blk w kf fileC 87) : Calls Tryd.prog 25 #[.pointer (some ⟨sb, 0, none⟩), .int .i64 i] w fun e w' => e = .returned (.tuple #[.int .i64 0, .int .i64 0]) ∧ w = w' := by
  have hg := sget_yes h i hi kf hm
  have c1 := hf.rd
  clear h hm hf hi
  go_enter Tryd.func25, Tryd.ntmps25
  go_wp2_with (go_at_call 46; refine hg.mono ?_; rintro e w' ⟨rfl, rfl⟩)
  go_returns
  exact ⟨rfl, rfl⟩
set_option maxRecDepth 100000 in
theorem scut_is (h : SB w sb mb n s m) (i : Nat) (hi : i < 16) (kf : Nat) (hm : m i = some (.pointer (some ⟨kf, 0, none⟩))) (hf : Blk w kf fileC 87) : Calls Tryd.prog 34 #[.pointer (some ⟨sb, 0, none⟩), .int .i64 i] w fun e w' => e = .returned (.int .i64 0) ∧ Upd (fun k => k = kf) w w' := by
  have hg := sget_yes h i hi kf hm
  obtain ⟨⟨fp, hb⟩, hM⟩ := h
  have c1 := hf.rd
  have f1 := hf.nf
  have c2 := hb.rd
  clear hM hb hm hf hi
  go_enter Tryd.func34, Tryd.ntmps34
  go_wp2_with (go_at_call 46; refine hg.mono ?_; rintro e w' ⟨rfl, rfl⟩)
  go_loopw [29] (fun v29 wr => v29 = .int .i64 0 ∧ wr = w) (fun _ _ => 0)
  case atStart => exact ⟨rfl, rfl⟩
  case round =>
    obtain ⟨rfl, rfl⟩ := hrel
    go_wp2_with (fail)
    go_ret
    refine ⟨rfl, ?_⟩
    exact (((Upd.refl (fun k => k = kf) wr).setCell (p := ⟨kf, 0, none⟩) (fun _ => rfl) _).setCell (p := ⟨kf, 1, none⟩) (fun _ => rfl) _)
def SdropP (sb mb n : Nat) (m : Int → Option Value) (i kf : Nat) (w : World) (e : Ending) (w' : World) : Prop := e = .returned (.int .i64 0) ∧ (∃ s', SB w' sb mb n s' (mdel m i)) ∧ Upd (fun k => k = mb ∨ k = kf) w w'
set_option maxRecDepth 100000 in
theorem sdrop_is (h : SB w sb mb n s m) (hne : sb ≠ mb) (i : Nat) (hi : i < 16) (kf : Nat) (hm : m i = some (.pointer (some ⟨kf, 0, none⟩))) (hf : Blk w kf fileC 87) (k1 : kf ≠ sb) (k2 : kf ≠ mb) : Calls Tryd.prog 56 #[.pointer (some ⟨sb, 0, none⟩), .int .i64 i] w (SdropP sb mb n m i kf w) := by
  have hc := scut_is h i hi kf hm hf
  obtain ⟨⟨fp, hb⟩, hM⟩ := h
  have H := Lib.hid (And.intro hb (And.intro hM (And.intro hi (And.intro k1 (And.intro k2 hne)))))
  clear hb hM hm hf hi k1 k2 hne
  go_enter Tryd.func56, Tryd.ntmps56
  go_wp2_with (first
    | (go_at_call 34; refine hc.mono ?_; rintro e w1 ⟨rfl, hu⟩; clear hc; have c1 := (Blk.upd hu H.out.1 (fun e => H.out.2.2.2.1 e.symm)).rd; have H1 := Lib.hid hu; clear hu)
    | (at_delete; refine wp_mapdel _ rfl _ _ 88 3 rfl 83 Tryd.underlying3 Tryd.underlying88 mb n s m rfl (H.out.2.1.upd H1.out (fun e => H.out.2.2.2.2.1 e.symm)) i (wf_i i H.out.2.2.1) rfl ?_; intro w2 hM2 hu2; have H2 := Lib.hid (And.intro hM2 hu2); clear hM2 hu2))
  go_ret
  obtain ⟨hb, hM, hi, k1, k2, hne⟩ := H.out
  have hu : Upd (fun k => k = mb ∨ k = kf) w w2 := (H1.out.mono (fun _ _ e => Or.inr e)).trans H2.out.2 (fun _ _ h => Or.inl h)
  exact ⟨rfl, ⟨_, ⟨fp, Blk.upd hu hb (fun e => by rcases e with e | e; exact hne e; exact k1 e.symm)⟩, H2.out.1⟩, hu⟩
end
end Go.Proofs.YtchnjfmimpikcaaDoor
