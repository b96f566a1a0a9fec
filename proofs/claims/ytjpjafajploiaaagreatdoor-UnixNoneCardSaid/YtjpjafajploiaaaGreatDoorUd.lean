/-
  What every system answers that is one; of no system each call says so.
-/
import Derived.Test.YtjpjafajploiaaaGreatDoorUc
import Derived.Test.YtjpjafajploiaaaGreatDoorUo
namespace Go.Proofs.YtjpjafajploiaaaGreatDoor
set_option linter.unusedSimpArgs false
set_option linter.unusedVariables false
open Go.RowKit Own RegJ Two
open Go.Lib hiding intOf

theorem eqr_n (w : World) : (binOp .neq 32 (.agg #[.int .i64 0, .int .i64 0, .string ⟨#[]⟩]) (.agg #[.int .i64 0, .int .i64 0, .string ⟨#[]⟩])).run Tryz.prog w = .ok (.bool false) w := by kernel_rfl
theorem eqr_s (w : World) : (binOp .eql 32 (.agg #[.int .i64 0, .int .i64 1001, .string ⟨#[]⟩]) (.agg #[.int .i64 0, .int .i64 1001, .string ⟨#[]⟩])).run Tryz.prog w = .ok (.bool true) w := by kernel_rfl
theorem eqr_1 (w : World) : (binOp .eql 32 (.agg #[.int .i64 1, .int .i64 0, .string ⟨#[]⟩]) (.agg #[.int .i64 1, .int .i64 0, .string ⟨#[]⟩])).run Tryz.prog w = .ok (.bool true) w := by kernel_rfl
theorem fld_4 (w : World) : (Instr.field 32 (.agg #[.int .i64 4, .int .i64 0, .string ⟨#[]⟩]) 0).run Tryz.prog w = .ok (.int .i64 4) w := by kernel_rfl
def nsD : NSt := (atPar ns0 [47, 100] (mkdirF ns0)).2
theorem mkD : atPar ns0 [47, 100] (mkdirF ns0) = (0, nsD) := Prod.ext (by kernel_rfl) rfl
theorem stD : statF nsD [47] = (#[.int .i64 0, .int .i64 0, .bool true, .int .i64 1], 0) := Prod.ext (by kernel_rfl) (by kernel_rfl)
set_option maxRecDepth 100000 in
set_option maxHeartbeats 4000000 in
theorem u_awake [Inhabited CapT] (w : World) (hm : MC w) (hc : capI = capV 16) : Calls Tryz.prog 9 #[] w fun e w' => e = .returned (.bool true) ∧ Below w.heap.size w w' := by
  have hn := unew_is 16 (by omega) (by omega) w hm hc
  have q1 := eqr_n
  have q2 := eqr_s
  have q3 := fld_4
  clear hm hc
  go_enter Tryz.func9, Tryz.ntmps9
  go_wp2_with (first
    | (go_at_call 10; refine hn.mono ?_; rintro e w1 ⟨syb, fdb, vb, tb, fb, sb, pb, mb, qb, qm, O, rfl, hX⟩; have a1 := ustart_is hX (by omega) (by omega) 1 (by decide) (by omega) rfl rfl; clear hn hX)
    | (go_at_call 11; go_loud (refine a1.mono ?_; rintro e w2 ⟨b, -, rfl, -, O2, hX2, -⟩; have a2 := udo_mk hX2 (by omega) 1 (by decide) rfl [47, 100] (by decide) 0 0 0 mkD rfl ⟨#[47, 100]⟩ rfl 0 0 ⟨#[]⟩ (by kernel_rfl); clear a1 hX2))
    | (go_at_call 12; (with_reducible refine a2.mono ?_); rintro e w3 ⟨rfl, -, O3, hX3, -⟩; have a3 := udo_stat hX3 1 (by decide) rfl [47] (by decide) stD ⟨#[47]⟩ rfl 0 0 ⟨#[]⟩ (by kernel_rfl); have H3 := Lib.hid hX3; clear a2 hX3)
    | (go_at_call 12; (with_reducible refine a3.mono ?_); rintro e w4 ⟨rfl, hB4⟩; have a4 := udo_dead (H3.out.below hB4) 2 (by decide) rfl #[.int .i64 17, .int .i64 0, .int .i64 0, .string ⟨#[]⟩, .string ⟨#[]⟩]; have H4 := Lib.hid hB4; clear a3 hB4)
    | (go_at_call 12; (with_reducible refine a4.mono ?_); rintro e w5 ⟨rfl, hB5⟩; have H5 := Lib.hid ((H3.out.below H4.out).below hB5).fx.bel; clear a4 hB5))
  go_ret
  exact ⟨rfl, H5.out⟩
set_option maxRecDepth 100000 in
set_option maxHeartbeats 4000000 in
theorem unone_v (x y n c a b : Int) (s t : ByteArray) (w : World) (m : Int) (hm : w.cell? ⟨0, 0, none⟩ = some (.int .i64 m)) :
    Calls Tryz.prog 7 #[.agg #[.int .i64 x, .int .i64 y, .int .i64 n, .int .i64 c, .int .i64 a, .int .i64 b, .string s, .string t]] w fun e w' => e = .returned (.bool true) ∧ Below w.heap.size w w' := by
  letI : Inhabited CapT := capOf 16
  have hB0 := Blk.new w #[.int .i64 x, .int .i64 y, .int .i64 n, .int .i64 c, .int .i64 a, .int .i64 b, .string s, .string t] 37
  have hW0 : Below w.heap.size w (w.alloc (.cells #[.int .i64 x, .int .i64 y, .int .i64 n, .int .i64 c, .int .i64 a, .int .i64 b, .string s, .string t] 37)) := (Below.refl _ _).alloc (Nat.le_refl _) _
  have r0 := hB0.rd
  have haw := fun w1 (h1 : Below w.heap.size w w1) => u_awake w1 (MC.below ⟨m, hm⟩ h1) rfl
  have q1 := eqr_1
  have HW := Lib.hid (And.intro hW0 haw)
  clear hB0 hW0 hm haw
  have key : ∀ v1 v2 : Bool, (v1 = true ∨ v2 = true) → decide ((s.size : Int) > 600) = v1 → decide ((t.size : Int) > 600) = v2 → Calls Tryz.prog 7 #[.agg #[.int .i64 x, .int .i64 y, .int .i64 n, .int .i64 c, .int .i64 a, .int .i64 b, .string s, .string t]] w fun e w' => e = .returned (.bool true) ∧ Below w.heap.size w w' := by
    intro v1 v2 hv d1 d2
    cases v1
    · obtain rfl : v2 = true := hv.resolve_left (by decide)
      go_enter Tryz.func7, Tryz.ntmps7
      go_wp2_with (go_at_call 9; refine (HW.out.2 _ HW.out.1).mono ?_; rintro e w2 ⟨rfl, hb2⟩; have H2 := Lib.hid hb2; clear hb2)
      go_ret
      exact ⟨rfl, HW.out.1.trans (H2.out.mono HW.out.1.size)⟩
    · go_enter Tryz.func7, Tryz.ntmps7
      go_wp2_with (go_at_call 9; refine (HW.out.2 _ HW.out.1).mono ?_; rintro e w2 ⟨rfl, hb2⟩; have H2 := Lib.hid hb2; clear hb2)
      go_ret
      exact ⟨rfl, HW.out.1.trans (H2.out.mono HW.out.1.size)⟩
  by_cases h1 : (s.size : Int) > 600
  · exact key true _ (.inl rfl) (decide_eq_true h1) rfl
  · by_cases h2 : (t.size : Int) > 600
    · exact key false true (.inr rfl) (decide_eq_false h1) (decide_eq_true h2)
    · have d1 : decide ((s.size : Int) > 600) = false := decide_eq_false h1
      have d2 : decide ((t.size : Int) > 600) = false := decide_eq_false h2
      clear h1 h2 key
      go_enter Tryz.func7, Tryz.ntmps7
      go_wp2_with (first
        | (go_at_call 12; refine (n_do _ _ _).mono ?_; rintro e w1 ⟨rfl, hb1⟩; have H1 := Lib.hid (HW.out.1.trans (hb1.mono HW.out.1.size)); clear hb1)
        | (go_at_call 11; refine (n_start _ _).mono ?_; rintro e w2 ⟨rfl, rfl⟩)
        | (go_at_call 13; refine (n_fork _ _ _).mono ?_; rintro e w2 ⟨rfl, rfl⟩)
        | (go_at_call 14; refine (n_exit _ _ _).mono ?_; rintro e w2 ⟨rfl, rfl⟩)
        | (go_at_call 25; refine (n_fds _).mono ?_; rintro e w2 ⟨rfl, rfl⟩)
        | (go_at_call 21; refine (n_procs _).mono ?_; rintro e w2 ⟨rfl, rfl⟩)
        | (go_at_call 28; refine (n_vfs _).mono ?_; rintro e w2 ⟨rfl, rfl⟩)
        | (go_at_call 16; refine (n_free _).mono ?_; rintro e w2 ⟨rfl, rfl⟩)
        | (go_at_call 9; refine (HW.out.2 _ H1.out).mono ?_; rintro e w2 ⟨rfl, hb2⟩; have H2 := Lib.hid hb2; clear hb2))
      go_ret
      exact ⟨rfl, H1.out.trans (H2.out.mono H1.out.size)⟩
end Go.Proofs.YtjpjafajploiaaaGreatDoor
