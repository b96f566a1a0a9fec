/-
  What every program answers that is one; of no queue.
-/
import Derived.Test.YtpajebedeacpgaaRchg
import Derived.Test.YtpajebedeacpgaaRnew
import Derived.Test.YtpajebedeacpgaaSame
import Derived.Laws.StructEq
namespace Go.Proofs.Ytpajebedeacpgaa
set_option linter.unusedSimpArgs false
set_option linter.unusedVariables false
open Go.RowKit Own Sl
open RegJ hiding Up
open RegF hiding put_size

theorem qfr_below {w w' : World} {lo lo' : Lo} {n : Nat} (h : QFr lo lo' w w') (hn : n ≤ w.heap.size) (hl : ∀ r k, lo r = some k → n ≤ k) : Below n w w' ∧ ∀ r k, lo' r = some k → n ≤ k :=
  ⟨h.1.below hn (fun k hk => by obtain ⟨r, hr⟩ := hk; exact hl r k hr), fun r k hk => by
    rcases h.2 r k hk with ⟨r', h1⟩ | h1
    · exact hl r' k h1
    · omega⟩
abbrev Lw1 : List One := [(4, 0, 3, 0)]
abbrev Lw2 : List One := [(5, 1, 0, 90), (4, 0, 3, 0)]
abbrev Lw3 : List One := [(6, 2, 0, 0), (5, 1, 0, 90), (4, 0, 3, 0)]
theorem aw1 : addN [] (4, 0, 3, 0) = 0 ∧ addL [] (4, 0, 3, 0) = Lw1 := by decide +kernel
theorem aw2 : addN Lw1 (5, 1, 0, 90) = 0 ∧ addL Lw1 (5, 1, 0, 90) = Lw2 := by decide +kernel
theorem aw3 : addN Lw2 (6, 2, 0, 0) = 0 ∧ addL Lw2 (6, 2, 0, 0) = Lw3 := by decide +kernel
set_option maxRecDepth 100000 in
set_option maxHeartbeats 1000000 in
theorem awake_any (w : World) : Calls Try.prog 7 #[] w (BoolB true w) := by
  have hn := qnew_is w
  go_enter Try.func7, Try.ntmps7
  go_wp2_with (first
    | (go_at_call 8; (with_reducible refine hn.mono ?_); rintro e w1 ⟨qb, lo, rfl, hq, hB, hl⟩; have ha1 := qadd_is hq (4, 0, 3, 0) (by decide) (by omega) (by simp); rw [aw1.1, aw1.2] at ha1; have H1 := Lib.hid (And.intro hB hl); clear hn hq hB hl)
    | (go_at_call 10; refine ha1.mono ?_; rintro e w2 ⟨rfl, lo2, hq, hf⟩; have ha2 := qadd_is hq (5, 1, 0, 90) (by decide) (by omega) (by simp); rw [aw2.1, aw2.2] at ha2; obtain ⟨b1, b2⟩ := qfr_below hf H1.out.1.size H1.out.2; have H2 := Lib.hid (And.intro (H1.out.1.trans b1) b2); clear ha1 hq hf b1 b2)
    | (go_at_call 10; refine ha2.mono ?_; rintro e w3 ⟨rfl, lo3, hq, hf⟩; have ha3 := qadd_is hq (6, 2, 0, 0) (by decide) (by omega) (by simp); rw [aw3.1, aw3.2] at ha3; obtain ⟨b1, b2⟩ := qfr_below hf H2.out.1.size H2.out.2; have H3 := Lib.hid (And.intro (H2.out.1.trans b1) b2); clear ha2 hq hf b1 b2)
    | (go_at_call 10; refine ha3.mono ?_; rintro e w4 ⟨rfl, lo4, hq, hf⟩; have hfi := qfirst_is hq; obtain ⟨b1, b2⟩ := qfr_below hf H3.out.1.size H3.out.2; have H4 := Lib.hid (And.intro (H3.out.1.trans b1) hq); clear ha3 hq hf b1 b2)
    | (go_at_call 18; refine hfi.mono ?_; rintro e w5 ⟨rfl, hB⟩; have hal := qall_is (H4.out.2.below hB) (by simp); have H5 := Lib.hid (H4.out.1.trans (hB.mono H4.out.1.size)); clear hB hfi)
    | (go_at_call 16; (with_reducible refine hal.mono ?_); rintro e w6 ⟨v, rfl, b, hi, hb, hB⟩; have hi2 := (hi.upd ((Upd.refl (fun _ => False) w6).alloc (.cells #[.int .i64 6, .int .i64 5, .int .i64 4] 3)) (fun _ _ h => h)).rdI; have hlt : RdI (w6.alloc (.cells #[.int .i64 6, .int .i64 5, .int .i64 4] 3)) (.slice (some ⟨w6.heap.size, 0, none⟩) 3 3) [6, 5, 4] := ⟨_, _, rfl, by decide, fun j hj => ⟨_, 0, rfl, by rw [(Blk.new w6 #[.int .i64 6, .int .i64 5, .int .i64 4] 3).rd]; match j, hj with | 0, _ => rfl | 1, _ => rfl | 2, _ => rfl⟩⟩; have hsm := same_any hi2 hlt true (by decide); have H6 := Lib.hid ((H5.out.trans (hB.mono H5.out.size)).alloc (by have := H5.out.size; have := hB.size; omega) (.cells #[.int .i64 6, .int .i64 5, .int .i64 4] 3)); clear hal hi hb hB hi2 hlt)
    | (go_at_call 22; refine hsm.mono ?_; rintro e w7 ⟨rfl, q, rfl⟩; clear hsm))
  go_ret
  exact ⟨rfl, H6.out.trans (((Upd.refl (fun _ => False) _).drewN q).below H6.out.size (fun _ h => h.elim))⟩
set_option maxRecDepth 100000 in
set_option maxHeartbeats 1000000 in
theorem none_walk (a id c l d : Int) (w : World) : Calls Try.prog 5 #[.agg #[.int .i64 a, .int .i64 id, .int .i64 c, .int .i64 l, .int .i64 d]] w fun e w' => e = .returned (.bool true) ∧ Below w.heap.size w w' := by
  have hx := Blk.new w #[.int .i64 a, .int .i64 id, .int .i64 c, .int .i64 l, .int .i64 d] 33
  have c1 := hx.rd
  have hb0 : Below w.heap.size w (w.alloc (.cells #[.int .i64 a, .int .i64 id, .int .i64 c, .int .i64 l, .int .i64 d] 33)) := (Below.refl _ _).alloc (Nat.le_refl _) _
  have H0 := Lib.hid (And.intro hb0 hx)
  clear hb0 hx
  go_enter Try.func5, Try.ntmps5
  go_wp2_with (first
    | (go_at_call 18; refine (z_first _).mono ?_; rintro e w1 ⟨rfl, rfl⟩)
    | (go_at_call 10; refine (z_add _ id c l d).mono ?_; rintro e w2 ⟨rfl, hB⟩; have b1 := Blk.below hB H0.out.2 H0.out.2.lt; have H1 := Lib.hid (And.intro (H0.out.1.trans (hB.mono H0.out.1.size)) b1); clear c1; have c1 := b1.rd; clear b1 hB)
    | (go_at_call 14; refine (z_chg _ id c l d).mono ?_; rintro e w3 ⟨rfl, hB⟩; have b1 := Blk.below hB H1.out.2 H1.out.2.lt; have H2 := Lib.hid (And.intro (H1.out.1.trans (hB.mono H1.out.1.size)) b1); clear c1; have c1 := b1.rd; clear b1 hB)
    | (go_at_call 12; refine (z_drop _ _).mono ?_; rintro e w4 ⟨rfl, rfl⟩)
    | (go_at_call 19; refine (z_has _ _).mono ?_; rintro e w4 ⟨rfl, rfl⟩)
    | (go_at_call 21; refine (z_len _).mono ?_; rintro e w4 ⟨rfl, rfl⟩)
    | (go_at_call 16; refine (z_all _).mono ?_; rintro e w4 ⟨rfl, rfl⟩)
    | (go_at_call 7; refine (awake_any _).mono ?_; rintro e w8 ⟨rfl, hB⟩; have HX := Lib.hid (H2.out.1.trans (hB.mono H2.out.1.size)); clear hB))
  go_ret
  exact ⟨rfl, HX.out⟩
end Go.Proofs.Ytpajebedeacpgaa
