/-
  CondCancel: the walk.
-/
import Derived.Test.YtgkchpifogfohaaCondOrd
import Derived.Test.YtgkchpifogfohaaCanP
namespace Go.Proofs.Ytgkchpifogfohaa
set_option linter.unusedSimpArgs false
set_option linter.unusedVariables false
open Go.RowKit Go.Lib Own Sl
open RegJ hiding Up
open RegF hiding put_size

theorem cn0 {one gone : Int} {w w1 : World} {bc : Nat} {Q : Nat → Int} {o : Obj} (hC : Cd w1 (fun k => k < (w.alloc o).heap.size) 2 bc (fun _ => [])) (hB : Below (w.alloc o).heap.size (w.alloc o) w1) :
    Cn w (w1.alloc (.cells #[.int .i64 (Q 0), .int .i64 (Q 1), .int .i64 (Q 2), .int .i64 (Q 3), .int .i64 (Q 4), .int .i64 (Q 5), .int .i64 (Q 6), .int .i64 (Q 7), .int .i64 (Q 8), .int .i64 (Q 9), .int .i64 (Q 10), .int .i64 (Q 11), .int .i64 (Q 12), .int .i64 (Q 13), .int .i64 (Q 14), .int .i64 (Q 15)] 30)) bc w1.heap.size Q (fun ls => Nums one gone ls 0 0) := by
  have hb : Below w1.heap.size w1 (w1.alloc (.cells #[.int .i64 (Q 0), .int .i64 (Q 1), .int .i64 (Q 2), .int .i64 (Q 3), .int .i64 (Q 4), .int .i64 (Q 5), .int .i64 (Q 6), .int .i64 (Q 7), .int .i64 (Q 8), .int .i64 (Q 9), .int .i64 (Q 10), .int .i64 (Q 11), .int .i64 (Q 12), .int .i64 (Q 13), .int .i64 (Q 14), .int .i64 (Q 15)] 30)) := (Below.refl _ _).alloc (Nat.le_refl _) _
  have hs : (w.alloc o).heap.size = w.heap.size + 1 := by simp
  refine ⟨_, (hC.more hb).antiK (fun j hj => ?_), ?_, ?_, ⟨rfl, fun y hy => by simp at hy, fun y hy => by simp at hy⟩⟩
  · rcases hj with hj | hj
    · exact Or.inl (by omega)
    · exact Or.inr ⟨by omega, by subst hj; simp⟩
  · unfold KR; rw [keys16]; exact Blk.new _ _ _
  · have h1 : Below w.heap.size w w1 := ((Below.refl _ _).alloc (Nat.le_refl _) _).trans (hB.mono (by omega))
    exact (Keep.of_below h1).trans ((Keep.of_below hb).mono (fun _ h => h))
set_option maxRecDepth 100000 in
set_option maxHeartbeats 2000000 in
theorem cancel_walk (one two gone : Int) (cs : Array Value) (Q : Nat → Int) (h1 : 0 ≤ one ∧ one < 65536) (h2 : 0 ≤ two ∧ two < 65536) (h3 : 0 ≤ gone ∧ gone < 65536) (hcs : cs = ((List.range 16).map fun j => Value.int .i64 (Q j)).toArray) (w : World) :
    Calls Try.prog 7 #[.int .u16 one, .int .u16 two, .int .u16 gone, .agg cs] w fun e w' => e = .returned (.bool true) ∧ Below w.heap.size w w' := by
  have hnew := fun w => new_cd 2 (by omega) (by omega) w
  have hT := Lib.hid (And.intro (andNot_rng two one h2 h1) (fun i hi => bit_andNot two one h2 h1 i hi))
  have H := Lib.hid (And.intro h1 (And.intro h2 h3))
  obtain ⟨h10, h11⟩ := h1
  obtain ⟨h20, h21⟩ := h2
  obtain ⟨h30, h31⟩ := h3
  rw [keys16] at hcs
  subst hcs
  go_enter Try.func7, Try.ntmps7
  go_wp2_with (first
    | (go_at_call 8; refine (hnew _).mono ?_; rintro e w1 ⟨bc, rfl, hC1, hB1⟩; have hkb := Blk.below hB1 (Blk.new _ _ _) (by simp); have c1 := hkb.rd))
  generalize bits BinOp.andNot IntKind.u16 two one = T at hT ⊢
  clear hnew hkb c1
  go_loopw [12, 13] (fun m ix wr => ∃ i k : Nat, k ≤ i ∧ i ≤ 16 ∧ m = .int .i64 k ∧ ix = .int .i64 i ∧ Cn w wr bc w1.heap.size Q (fun ls => Nums one gone ls i k)) (fun _ ix _ => 16 - (intOf ix).toNat)
  case atStart => exact ⟨0, 0, Nat.le_refl _, by omega, rfl, rfl, cn0 hC1 hB1⟩
  case round =>
    obtain ⟨i, k, hki, hi, rfl, rfl, hN⟩ := hrel
    clear hC1 hB1
    by_cases hi16 : i < 16
    · have hd : decide ((i : Int) < 16) = true := by simp; omega
      have hTr := hT.out.1
      have hTb := hT.out.2 i hi16
      have i1 : (i : Int) < 16 := by omega
      have e1 := fun b (h : bitF one i = b) => bit_eq1 h
      have e2 := fun b (h : bitF T i = b) => bit_eq1 h
      have e3 := fun b (h : bitF gone i = b) => bit_eq1 h
      have e4 := fun b (h : bitF (bits BinOp.or IntKind.u16 one T) i = b) => bit_eq1 h
      have e5 := fun b (h : bitF (bits BinOp.andNot IntKind.u16 one gone) i = b) => bit_eq1 h
      rw [bit_or one T H.out.1 hTr] at e4
      rw [bit_andNot one gone H.out.1 H.out.2.2 i hi16] at e5
      obtain ⟨hT0, hT1⟩ := hTr
      have HN := Lib.hid hN
      clear hN
      by_cases hg : bitF gone i = true
      · by_cases hp : bitF one i = true
        · have hq : bitF T i = false := by rw [hTb, hp]; simp
          replace e1 := e1 true hp
          replace e2 := e2 false hq
          replace e3 := e3 true hg
          replace e4 := e4 true (by rw [hp, hq]; rfl)
          replace e5 := e5 false (by rw [hp, hg]; rfl)
          have Hb := Lib.hid (And.intro hp (And.intro hq hg))
          clear hTb hp hq hg
          have hw1 := cn_wait HN.out i 0 0 rfl (by omega) hi16 (fun ls ho hn => hn.no ho)
          clear HN
          go_wp2_with (go_at_call 9; (with_reducible refine hw1.mono ?_); rintro e w2 ⟨rfl, hF2⟩; clear hw1; have HN2 := Lib.hid hF2; clear hF2)
          refine region_J (J1 8 (fun w' => Cn w w' bc w1.heap.size Q (In (fun ls => Nums one gone ls i k) 0 i)) (fun w' => Cn w w' bc w1.heap.size Q (Off (In (fun ls => Nums one gone ls i k) 0 i) 0 i))) (by kernel_rfl) (by kernel_rfl) ?_ ?_
          · exact J1.start (HN2.out.drew 1)
          · iterate 18
              apply wpJ_op rfl (by rfl)
              · intro f w' hf hJ Q1 hQ
                simp only [Act.put, List.setIfInBounds_toArray, List.set_cons_zero, List.set_cons_succ] at hQ
                go_wp2_with (go_at_call 18; refine (cn_cancel (hJ.here hf.1) i 0 (by omega) (fun ls ⟨ls0, _, hg, _, he⟩ => by rw [he]; exact (mem_insF hg 0 i 0 i).2 (Or.inr ⟨rfl, rfl⟩))).mono ?_; rintro e w3 ⟨rfl, hCn⟩)
                first | exact hQ _ _ rfl (hJ.other (by decide)) | exact hQ _ _ rfl (J1.fin hCn)
              simp only [Act.put, List.setIfInBounds_toArray, List.set_cons_zero, List.set_cons_succ]
            refine wpJ_nil ?_
            intro w3 hJ3
            have HN3 := Lib.hid (hJ3.over rfl)
            clear hJ3 HN2
            go_wp2
            go_roundw
            case rel => exact ⟨i + 1, k, by omega, by omega, by go_num, by go_num, HN3.out.imp (fun ls' _ _ ⟨ls1, ⟨ls0, hn, hg, ho, he⟩, he2⟩ => by rw [he2, he]; exact Nums.off0 hg hn (hn.no ho) (by omega))⟩
            case measure => simp [intOf]; omega
        · replace hp : bitF one i = false := by simpa using hp
          by_cases hq : bitF T i = true
          · replace e1 := e1 false hp
            replace e2 := e2 true hq
            replace e3 := e3 true hg
            replace e4 := e4 true (by rw [hp, hq]; rfl)
            replace e5 := e5 false (by rw [hp, hg]; rfl)
            have Hb := Lib.hid (And.intro hp (And.intro hq hg))
            clear hTb hp hq hg
            have hw1 := cn_wait HN.out i 1 1 rfl (by omega) hi16 (fun ls ho hn => hn.no ho)
            clear HN
            go_wp2_with (go_at_call 9; (with_reducible refine hw1.mono ?_); rintro e w2 ⟨rfl, hF2⟩; clear hw1; have HN2 := Lib.hid hF2; clear hF2)
            refine region_J (J1 8 (fun w' => Cn w w' bc w1.heap.size Q (In (fun ls => Nums one gone ls i k) 1 i)) (fun w' => Cn w w' bc w1.heap.size Q (Off (In (fun ls => Nums one gone ls i k) 1 i) 1 i))) (by kernel_rfl) (by kernel_rfl) ?_ ?_
            · exact J1.start (HN2.out.drew 1)
            · iterate 18
                apply wpJ_op rfl (by rfl)
                · intro f w' hf hJ Q1 hQ
                  simp only [Act.put, List.setIfInBounds_toArray, List.set_cons_zero, List.set_cons_succ] at hQ
                  go_wp2_with (go_at_call 18; refine (cn_cancel (hJ.here hf.1) i 1 (by omega) (fun ls ⟨ls0, _, hg, _, he⟩ => by rw [he]; exact (mem_insF hg 1 i 1 i).2 (Or.inr ⟨rfl, rfl⟩))).mono ?_; rintro e w3 ⟨rfl, hCn⟩)
                  first | exact hQ _ _ rfl (hJ.other (by decide)) | exact hQ _ _ rfl (J1.fin hCn)
                simp only [Act.put, List.setIfInBounds_toArray, List.set_cons_zero, List.set_cons_succ]
              refine wpJ_nil ?_
              intro w3 hJ3
              have HN3 := Lib.hid (hJ3.over rfl)
              clear hJ3 HN2
              go_wp2
              go_roundw
              case rel => exact ⟨i + 1, k, by omega, by omega, by go_num, by go_num, HN3.out.imp (fun ls' _ _ ⟨ls1, ⟨ls0, hn, hg, ho, he⟩, he2⟩ => by rw [he2, he]; exact Nums.off1 hg hn)⟩
              case measure => simp [intOf]; omega
          · replace hq : bitF T i = false := by simpa using hq
            replace e1 := e1 false hp
            replace e2 := e2 false hq
            replace e3 := e3 true hg
            replace e4 := e4 false (by rw [hp, hq]; rfl)
            replace e5 := e5 false (by rw [hp, hg]; rfl)
            have Hb := Lib.hid (And.intro hp (And.intro hq hg))
            clear hTb hp hq hg
            have HN2 := HN
            clear HN
            go_wp2
            refine region_J (J1 8 (fun w' => Cn w w' bc w1.heap.size Q (fun ls => Nums one gone ls i k)) (fun w' => Cn w w' bc w1.heap.size Q (fun ls => Nums one gone ls i k))) (by kernel_rfl) (by kernel_rfl) ?_ ?_
            · exact J1.start (HN2.out.drew 1)
            · iterate 18
                apply wpJ_op rfl (by rfl)
                · intro f w' hf hJ Q1 hQ
                  simp only [Act.put, List.setIfInBounds_toArray, List.set_cons_zero, List.set_cons_succ] at hQ
                  go_wp2_with (go_at_call 18; refine (cn_nobody (hJ.here hf.1) i (fun ls ho hn => hn.no ho)).mono ?_; rintro e w3 ⟨rfl, hCn⟩)
                  first | exact hQ _ _ rfl (hJ.other (by decide)) | exact hQ _ _ rfl (J1.fin hCn)
                simp only [Act.put, List.setIfInBounds_toArray, List.set_cons_zero, List.set_cons_succ]
              refine wpJ_nil ?_
              intro w3 hJ3
              have HN3 := Lib.hid (hJ3.over rfl)
              clear hJ3 HN2
              go_wp2
              go_roundw
              case rel => exact ⟨i + 1, k, by omega, by omega, by go_num, by go_num, HN3.out.imp (fun ls _ _ hn => hn.up)⟩
              case measure => simp [intOf]; omega
      · replace hg : bitF gone i = false := by simpa using hg
        by_cases hp : bitF one i = true
        · have hq : bitF T i = false := by rw [hTb, hp]; simp
          replace e1 := e1 true hp
          replace e2 := e2 false hq
          replace e3 := e3 false hg
          replace e4 := e4 true (by rw [hp, hq]; rfl)
          replace e5 := e5 true (by rw [hp, hg]; rfl)
          have Hb := Lib.hid (And.intro hp (And.intro hq hg))
          clear hTb hp hq hg
          have hw1 := cn_wait HN.out i 0 0 rfl (by omega) hi16 (fun ls ho hn => hn.no ho)
          clear HN
          go_wp2_with (go_at_call 9; (with_reducible refine hw1.mono ?_); rintro e w2 ⟨rfl, hF2⟩; clear hw1; have HN2 := Lib.hid hF2; clear hF2)
          go_quiet (fail)
          go_wp2
          go_roundw
          case rel => exact ⟨i + 1, k + 1, by omega, by omega, by go_num, by go_num, (HN2.out.drew _).imp (fun ls' _ _ ⟨ls0, hn, hg, ho, he⟩ => by rw [he]; exact Nums.in0 hg hn Hb.out.1 Hb.out.2.2)⟩
          case measure => simp [intOf]; omega
        · replace hp : bitF one i = false := by simpa using hp
          by_cases hq : bitF T i = true
          · replace e1 := e1 false hp
            replace e2 := e2 true hq
            replace e3 := e3 false hg
            replace e4 := e4 true (by rw [hp, hq]; rfl)
            replace e5 := e5 false (by rw [hp, hg]; rfl)
            have Hb := Lib.hid (And.intro hp (And.intro hq hg))
            clear hTb hp hq hg
            have hw1 := cn_wait HN.out i 1 1 rfl (by omega) hi16 (fun ls ho hn => hn.no ho)
            clear HN
            go_wp2_with (go_at_call 9; (with_reducible refine hw1.mono ?_); rintro e w2 ⟨rfl, hF2⟩; clear hw1; have HN2 := Lib.hid hF2; clear hF2)
            go_quiet (fail)
            go_wp2
            go_roundw
            case rel => exact ⟨i + 1, k, by omega, by omega, by go_num, by go_num, (HN2.out.drew _).imp (fun ls' _ _ ⟨ls0, hn, hg, ho, he⟩ => by rw [he]; exact Nums.in1 hg hn)⟩
            case measure => simp [intOf]; omega
          · replace hq : bitF T i = false := by simpa using hq
            replace e1 := e1 false hp
            replace e2 := e2 false hq
            replace e3 := e3 false hg
            replace e4 := e4 false (by rw [hp, hq]; rfl)
            replace e5 := e5 false (by rw [hp, hg]; rfl)
            have Hb := Lib.hid (And.intro hp (And.intro hq hg))
            clear hTb hp hq hg
            have HN2 := HN
            clear HN
            go_wp2
            go_quiet (fail)
            go_wp2
            go_roundw
            case rel => exact ⟨i + 1, k, by omega, by omega, by go_num, by go_num, (HN2.out.drew _).imp (fun ls _ _ hn => hn.up)⟩
            case measure => simp [intOf]; omega
    · have hd : decide ((i : Int) < 16) = false := by simp; omega
      have hi' : i = 16 := by omega
      subst hi'
      have hl := cn_list hN
      clear hN hi16 hi
      go_wp2_with (go_at_call 20; (with_reducible refine hl.mono ?_); rintro e w2 ⟨a, n, c, xs, rfl, hD⟩; clear hl)
      go_loopw [15] (fun j wr => ∃ i : Nat, i ≤ k ∧ j = .int .i64 i ∧ Hd w wr bc w1.heap.size Q (.slice a n c) xs one gone (k - i)) (fun j _ => k - (intOf j).toNat)
      case atStart => exact ⟨0, Nat.zero_le _, rfl, hD⟩
      case round =>
        obtain ⟨i, hik, rfl, hE⟩ := hrel
        clear hD
        by_cases hin : i < k
        · have hm : k - i = (k - i - 1) + 1 := by omega
          rw [hm] at hE
          have hs := hd_sig hE
          have hd2 : decide ((i : Int) < (k : Int)) = true := by simp; omega
          clear hE hm
          go_wp2_with (go_at_call 10; (with_reducible refine hs.mono ?_); rintro e w2 ⟨z, rfl, hz, hz1, hz2, hE2⟩; clear hs; have b1 := bit_eq0 H.out.1 hz1; have b2 := bit_eq1 hz2; have HE := Lib.hid hE2; clear hE2; have z1 : (0 : Int) ≤ z := (by omega); have z2 : (z : Int) < 16 := (by omega); have d1 : decide ((z : Int) < 0) = false := (by simp); have d2 : decide ((z : Int) > 15) = false := (by simp; omega); simp only [Bool.not_true] at b1)
          go_roundw
          case rel => exact ⟨i + 1, by omega, by go_num, by rw [show k - (i + 1) = k - i - 1 by omega]; exact HE.out⟩
          case measure => simp [intOf]; omega
        · have hm : k - i = 0 := by omega
          have hn : i = k := by omega
          subst hn
          rw [hm] at hE
          have hs := hd_nil hE
          have hd2 : decide ((i : Int) < (i : Int)) = false := by simp
          clear hE hm hin
          go_wp2_with (first
            | (go_at_call 10; (with_reducible refine (hs _).mono ?_); rintro e w3 ⟨rfl, hE3⟩; clear hs; have hl := hd_list hE3; clear hE3)
            | (go_at_call 20; (with_reducible refine hl.mono ?_); rintro e w4 ⟨a2, n2, c2, ys, rfl, hr1, hr2, hK4⟩; clear hl; have hsm := same_any hr1 hr2 true (by simp); clear hr1 hr2)
            | (go_at_call 23; (with_reducible refine hsm.mono ?_); rintro e w5 ⟨rfl, q5, rfl⟩; clear hsm; have haw := awake_any (w4.drewN q5))
            | (go_at_call 12; (with_reducible refine haw.mono ?_); rintro e w6 ⟨rfl, hB6⟩; clear haw))
          go_ret
          exact ⟨rfl, ((Keep.below hK4 (Nat.le_refl _)).trans ((Upd.drewN (Upd.refl (fun _ => False) w4) q5).below hK4.size (fun _ h => h.elim))).trans (hB6.mono hK4.size)⟩
end Go.Proofs.Ytgkchpifogfohaa
