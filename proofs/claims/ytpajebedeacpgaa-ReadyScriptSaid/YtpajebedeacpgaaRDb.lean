/-
  The document's queue: Add, the walk.
-/
import Derived.Test.YtpajebedeacpgaaRDa
namespace Go.Proofs.Ytpajebedeacpgaa
set_option linter.unusedSimpArgs false
set_option linter.unusedVariables false
open Go.RowKit Own Sl Four
open RegJ hiding Up
open RegF hiding put_size

/-- one call of ahead in a region -/
def CmpO (W1 : World) (rb xb : Nat) (v : Value) (x : One) (a : Option Addr) (L : List One) (b : Bool) (w : World) : Prop := Blk w rb #[v] 29 ∧ Blk w xb #[.int .i64 x.1, .int .i64 x.2.1, .int .i64 x.2.2.1, .int .i64 x.2.2.2] 66 ∧ RdO w a L ∧ (b = false → w = W1) ∧ (b = true → Below W1.heap.size W1 w)
def DAddP (w : World) (rb : Nat) (b : Option Nat) (L : List One) (r : Int) (e : Ending) (w' : World) : Prop := e = .returned (.int .i64 r) ∧ RP w rb b L w'
theorem RP.of_below {w w' : World} {rb : Nat} {b : Option Nat} {L : List One} (h : RQ w rb L b) (hB : Below w.heap.size w w') : RP w rb b L w' := ⟨b, h.below hB, fun g hg => Or.inl hg, Upd.of_below hB⟩
theorem row_step {w3 wr w7 w8 : World} {bi b8 : Option Nat} (hbi : ∀ g, bi = some g → w3.heap.size ≤ g) (hB : Below w3.heap.size w3 wr) (b7 : Below wr.heap.size wr w7) (hg : ∀ g, b8 = some g → bi = some g ∨ w7.heap.size ≤ g) (hu : Upd (fun k => bi = some k) w7 w8) : (∀ g, b8 = some g → w3.heap.size ≤ g) ∧ Below w3.heap.size w3 w8 := by
  have z1 := hB.size
  have z2 := b7.size
  refine ⟨fun g h => ?_, (hB.trans (b7.mono z1)).trans (hu.below (by omega) (fun k hk => hbi k hk))⟩
  rcases hg g h with h | h
  · exact hbi g h
  · omega
set_option maxRecDepth 100000 in
theorem dadd_neg {w : World} {rb : Nat} (id c l d : Int) (hid : id < 0) : Calls Try.prog 11 #[.pointer (some ⟨rb, 0, none⟩), .int .i64 id, .agg #[.int .i64 c, .int .i64 l, .int .i64 d]] w (ValB (.int .i64 2) w) := by
  have hB0 := Lib.hid (blk3 w c l d)
  have d1 : decide (id < 0) = true := by simpa using hid
  clear hid
  go_enter Try.func11, Try.ntmps11
  go_wp2_with (fail)
  go_returns
  exact ⟨rfl, hB0.out⟩
set_option maxRecDepth 100000 in
theorem dadd_arg {w : World} {rb : Nat} (id c l d : Int) (hid : 0 ≤ id) (hm : may (c, l, d) = false) : Calls Try.prog 11 #[.pointer (some ⟨rb, 0, none⟩), .int .i64 id, .agg #[.int .i64 c, .int .i64 l, .int .i64 d]] w (ValB (.int .i64 2) w) := by
  have hB0 := Lib.hid (blk3 w c l d)
  have hmy := rmay_is (c, l, d)
  rw [hm] at hmy
  unfold prV at hmy
  simp only at hmy
  have d1 : decide (id < 0) = false := by simpa using hid
  clear hid hm
  go_enter Try.func11, Try.ntmps11
  go_wp2_with (go_at_call 29; (with_reducible refine (hmy _).mono ?_); rintro e w1 ⟨rfl, hB1⟩; have HB1 := Lib.hid hB1; clear hB1 hmy)
  go_returns
  exact ⟨rfl, hB0.out.trans (HB1.out.mono hB0.out.size)⟩
set_option maxRecDepth 100000 in
theorem dadd_busy {w : World} {rb : Nat} {L : List One} {b : Option Nat} (h : RQ w rb L b) (hl : L.length ≤ 1000) (id c l d : Int) (hid : 0 ≤ id) (hm : may (c, l, d) = true) (hb : hasO L id = true) : Calls Try.prog 11 #[.pointer (some ⟨rb, 0, none⟩), .int .i64 id, .agg #[.int .i64 c, .int .i64 l, .int .i64 d]] w (ValB (.int .i64 5) w) := by
  have hB0 := Lib.hid (blk3 w c l d)
  have hmy := rmay_is (c, l, d)
  rw [hm] at hmy
  unfold prV at hmy
  simp only at hmy
  have d1 : decide (id < 0) = false := by simpa using hid
  have H := Lib.hid (And.intro h hb)
  clear hid hm h hb
  go_enter Try.func11, Try.ntmps11
  go_upto_if 21 with (first
    | (go_at_call 29; (with_reducible refine (hmy _).mono ?_); rintro e w1 ⟨rfl, hB1⟩; have ha := rat_is ((H.out.1.below hB0.out).below hB1) hl id; have HB1 := Lib.hid (hB0.out.trans (hB1.mono hB0.out.size)); clear hB1 hmy)
    | (go_at_call 30; (with_reducible refine ha.mono ?_); rintro e w2 ⟨⟨r, rfl, hr⟩, rfl⟩; have HR := Lib.hid hr; clear ha hr))
  rcases HR.out with ⟨rfl, hno⟩ | ⟨m, x, rfl, hx, he⟩
  · rw [H.out.2] at hno; cases hno
  · have dm : decide ((m : Int) ≥ 0) = true := by simp
    clear HR hx he
    go_wp2_with (fail)
    go_returns
    exact ⟨rfl, HB1.out⟩
set_option maxRecDepth 100000 in
set_option maxHeartbeats 4000000 in
theorem dadd_ok {w : World} {rb : Nat} {L : List One} {b : Option Nat} (h : RQ w rb L b) (hl : L.length ≤ 1000) (id c l d : Int) (hid : 0 ≤ id) (hm : may (c, l, d) = true) (hb : hasO L id = false) :
    Calls Try.prog 11 #[.pointer (some ⟨rb, 0, none⟩), .int .i64 id, .agg #[.int .i64 c, .int .i64 l, .int .i64 d]] w (DAddP w rb b (insA L (id, c, l, d)) 0) := by
  have hB0 := Lib.hid (blk3 w c l d)
  have hpx := Blk.new w #[.int .i64 c, .int .i64 l, .int .i64 d] 31
  have hmy := rmay_is (c, l, d)
  rw [hm] at hmy
  unfold prV at hmy
  simp only at hmy
  have d1 : decide (id < 0) = false := by simpa using hid
  have H := Lib.hid (And.intro h (And.intro hb hpx))
  clear hid hm h hb hpx
  go_enter Try.func11, Try.ntmps11
  go_upto_if 21 with (first
    | (go_at_call 29; (with_reducible refine (hmy _).mono ?_); rintro e w1 ⟨rfl, hB1⟩; have ha := rat_is ((H.out.1.below hB0.out).below hB1) hl id; have hp1 := Blk.below hB1 H.out.2.2 H.out.2.2.lt; have c1 := hp1.rd; have HB1 := Lib.hid (hB0.out.trans (hB1.mono hB0.out.size)); clear hB1 hmy hp1)
    | (go_at_call 30; (with_reducible refine ha.mono ?_); rintro e w2 ⟨⟨r, rfl, hr⟩, rfl⟩; have HR := Lib.hid hr; clear ha hr))
  rcases HR.out with ⟨rfl, hno⟩ | ⟨m, x, rfl, hx, he⟩
  · clear HR hno
    have hx1 : Blk (w2.alloc (.cells #[.int .i64 id, .int .i64 c, .int .i64 l, .int .i64 d] 66)) w2.heap.size #[.int .i64 id, .int .i64 c, .int .i64 l, .int .i64 d] 66 := Blk.new _ _ _
    have hB3 : Below w.heap.size w (w2.alloc (.cells #[.int .i64 id, .int .i64 c, .int .i64 l, .int .i64 d] 66)) := HB1.out.alloc HB1.out.size _
    have hq3 := H.out.1.below hB3
    go_wp2_with (fail)
    generalize hW3 : w2.alloc (.cells #[.int .i64 id, .int .i64 c, .int .i64 l, .int .i64 d] 66) = w3 at *
    generalize w2.heap.size = xb at *
    obtain ⟨a, cc, hbq, hrd⟩ := hq3.view
    have hple := plA_le L (id, c, l, d)
    have hend := accO_end (L := L) (x := (id, c, l, d))
    have hal := accO_len L (id, c, l, d)
    generalize hnn : L.length = n at *
    have HN := Lib.hid (And.intro hnn (And.intro hend (And.intro hB3 (And.intro hq3 hW3))))
    have H3 := Lib.hid (And.intro hbq (And.intro hx1 hrd))
    clear hnn hend hB3 hq3 hW3 hbq hrd hx1 c1
    go_loopw [8, 9, 10] (fun v8 v9 v10 wr => ∃ (i : Nat) (bi : Option Nat), i ≤ n ∧ v10 = .int .i64 i ∧ v9 = .bool (decide (plA L (id, c, l, d) < i)) ∧ Row4 wr 66 v8 (accO L (id, c, l, d) i) bi ∧ (∀ g, bi = some g → w3.heap.size ≤ g) ∧ Below w3.heap.size w3 wr) (fun _ _ v10 _ => n - (intOf v10).toNat)
    case atStart => exact ⟨0, none, Nat.zero_le _, rfl, by simp, Or.inl ⟨rfl, rfl, rfl⟩, (fun g hg => by cases hg), Below.refl _ _⟩
    case round =>
      obtain ⟨i, bi, hi, rfl, rfl, hrow, hbi, hB⟩ := hrel
      have c0 := (Blk.below hB H3.out.1 H3.out.1.lt).rd
      by_cases hil : i < n
      · have d2 : decide ((i : Int) < (n : Int)) = true := by simp; omega
        have i1 : (i : Int) < (n : Int) := by omega
        have i2 : (0 : Int) ≤ i := by omega
        obtain ⟨y, hy⟩ : ∃ y, L[i]? = some y := ⟨_, List.getElem?_eq_getElem (by rw [HN.out.1]; exact hil)⟩
        have s1 : Below wr.heap.size wr wr.drew := ((Upd.refl (fun _ => False) wr).drew).below (Nat.le_refl _) (fun _ h => h.elim)
        have s2 := hB.trans (s1.mono hB.size)
        have kr := H3.out.2.2.keep s2 (Nat.le_refl _)
        obtain ⟨g, rfl, _⟩ := kr i y hy
        have HR := Lib.hid (And.intro hrow (And.intro hbi (And.intro hB (And.intro s1 (And.intro (Blk.below s2 H3.out.1 H3.out.1.lt) (And.intro (Blk.below s2 H3.out.2.1 H3.out.2.1.lt) kr))))))
        have HX := Lib.hid hy
        have hlen := hal i
        clear hrow hbi hB s1 s2 kr
        have hah := ahead_is (id, c, l, d) y
        unfold oneV at hah
        rcases Nat.lt_trichotomy i (plA L (id, c, l, d)) with hip | hip | hip
        · have hA := plA_lt hip hy
          have hf : decide (plA L (id, c, l, d) < i) = false := by simp; omega
          have hf' : decide (plA L (id, c, l, d) < i + 1) = false := by simp; omega
          have hac := accO_lt hip hy
          rw [decide_eq_false hA] at hah
          have HA := Lib.hid hah
          have HC := Lib.hid (And.intro hf' hac)
          rw [hf]
          clear hah hA hf hf' hac hy hip
          go_upto_region 11 with (fail)
          refine region_J (J1 11 (CmpO wr.drew rb xb (.slice (some ⟨g, 0, none⟩) n cc) (id, c, l, d) (some ⟨g, 0, none⟩) L)) (by kernel_rfl) (by kernel_rfl) ?_ ?_
          · exact ⟨HR.out.2.2.2.2.1, HR.out.2.2.2.2.2.1, HR.out.2.2.2.2.2.2, fun _ => rfl, fun h => by cases h⟩
          · iterate 3
              apply wpJ_op rfl (by rfl)
              · intro f w5 hf hJ Q1 hQ
                have hJ' : CmpO wr.drew rb xb (.slice (some ⟨g, 0, none⟩) n cc) (id, c, l, d) (some ⟨g, 0, none⟩) L (f 11) w5 := hJ
                have c1 := hJ'.1.rd
                have c2 := hJ'.2.1.rd
                obtain ⟨g', hg', r1, r2, r3, r4⟩ := hJ'.2.2.1 i y HX.out
                simp only [Option.some.injEq, Addr.mk.injEq, and_true] at hg'
                subst hg'
                have HJ := Lib.hid hJ'
                clear hJ'
                simp only [Act.put, List.setIfInBounds_toArray, List.set_cons_zero, List.set_cons_succ] at hQ
                go_wp2_with (fail)
                exact hQ _ _ rfl (J1.other hJ (by decide))
              simp only [Act.put, List.setIfInBounds_toArray, List.set_cons_zero, List.set_cons_succ]
            iterate 8
              apply wpJ_op rfl (by rfl)
              · intro f w5 hf hJ Q1 hQ
                have hJ' : CmpO wr.drew rb xb (.slice (some ⟨g, 0, none⟩) n cc) (id, c, l, d) (some ⟨g, 0, none⟩) L (f 11) w5 := hJ
                have c1 := hJ'.1.rd
                have c2 := hJ'.2.1.rd
                obtain ⟨g', hg', r1, r2, r3, r4⟩ := hJ'.2.2.1 i y HX.out
                simp only [Option.some.injEq, Addr.mk.injEq, and_true] at hg'
                subst hg'
                have HJ := Lib.hid hJ'
                clear hJ'
                simp only [Act.put, List.setIfInBounds_toArray, List.set_cons_zero, List.set_cons_succ] at hQ
                go_wp2_with (fail)
                exact hQ _ _ rfl (J1.other hJ (by decide))
              simp only [Act.put, List.setIfInBounds_toArray, List.set_cons_zero, List.set_cons_succ]
            apply wpJ_op rfl (by rfl)
            · intro f w5 hf hJ Q1 hQ
              have hJ' : CmpO wr.drew rb xb (.slice (some ⟨g, 0, none⟩) n cc) (id, c, l, d) (some ⟨g, 0, none⟩) L (f 11) w5 := hJ
              have HJ := Lib.hid hJ'
              clear hJ'
              simp only [Act.put, List.setIfInBounds_toArray, List.set_cons_zero, List.set_cons_succ] at hQ
              have e1 : w5 = wr.drew := HJ.out.2.2.2.1 hf.1
              subst e1
              have hah := HA.out wr.drew
              go_wp2_with (go_at_call 31; (with_reducible refine hah.mono ?_); rintro e w6 ⟨rfl, hB6⟩; have H6 := Lib.hid hB6; clear hB6 hah)
              exact hQ _ _ rfl (J1.fin ⟨Blk.below H6.out HJ.out.1 HJ.out.1.lt, Blk.below H6.out HJ.out.2.1 HJ.out.2.1.lt, HJ.out.2.2.1.keep H6.out (Nat.le_refl _), (fun h => by cases h), fun _ => H6.out⟩)
            simp only [Act.put, List.setIfInBounds_toArray, List.set_cons_zero, List.set_cons_succ]
            apply wpJ_op rfl (by rfl)
            · intro f w5 hf hJ Q1 hQ
              simp only [Act.put, List.setIfInBounds_toArray, List.set_cons_zero, List.set_cons_succ] at hQ
              go_wp2_with (fail)
              exact hQ _ _ rfl (J1.other hJ (by decide))
            simp only [Act.put, List.setIfInBounds_toArray, List.set_cons_zero, List.set_cons_succ]
            refine wpJ_nil ?_
            intro w7 hJ7
            obtain ⟨k1, k2, k3, _, hb7⟩ := (J1.over hJ7 rfl)
            have b7 := HR.out.2.2.2.1.trans ((hb7 rfl).mono HR.out.2.2.2.1.size)
            have c1 := k1.rd
            have c2 := k2.rd
            obtain ⟨g', hg', r1, r2, r3, r4⟩ := k3 i y HX.out
            simp only [Option.some.injEq, Addr.mk.injEq, and_true] at hg'
            subst hg'
            have hrow := HR.out.1.below b7
            have H7 := Lib.hid (And.intro hrow (And.intro b7 (And.intro k1 (And.intro k2 k3))))
            clear hJ7 hb7 b7 k1 k2 k3 hrow
            go_wp2_with (at_builtin; refine wp_oneO rfl _ _ rfl _ _ _ y H7.out.1 (by omega) rfl rfl ?_; intro v2 w8 b8 hr hg hu; have H8 := Lib.hid (And.intro hr (row_step HR.out.2.1 HR.out.2.2.1 H7.out.2.1 hg hu)); clear hr hg hu)
            go_roundw
            case rel => exact ⟨_, _, _, ⟨i + 1, by omega, by go_num, by rw [HC.out.1], b8, by rw [HC.out.2]; exact H8.out.1, H8.out.2.1, H8.out.2.2⟩, rfl, rfl, rfl⟩
            case measure => simp [intOf]; omega
        · have hA := plA_at (x := (id, c, l, d)) (by rw [← hip]; exact hy)
          have hf : decide (plA L (id, c, l, d) < i) = false := by simp; omega
          have hf' : decide (plA L (id, c, l, d) < i + 1) = true := by simp; omega
          have hac := accO_at hip hy
          rw [decide_eq_true hA] at hah
          have HA := Lib.hid hah
          have HC := Lib.hid (And.intro hf' hac)
          rw [hf]
          clear hah hA hf hf' hac hy hip
          go_upto_region 11 with (fail)
          refine region_J (J1 11 (CmpO wr.drew rb xb (.slice (some ⟨g, 0, none⟩) n cc) (id, c, l, d) (some ⟨g, 0, none⟩) L)) (by kernel_rfl) (by kernel_rfl) ?_ ?_
          · exact ⟨HR.out.2.2.2.2.1, HR.out.2.2.2.2.2.1, HR.out.2.2.2.2.2.2, fun _ => rfl, fun h => by cases h⟩
          · iterate 3
              apply wpJ_op rfl (by rfl)
              · intro f w5 hf hJ Q1 hQ
                have hJ' : CmpO wr.drew rb xb (.slice (some ⟨g, 0, none⟩) n cc) (id, c, l, d) (some ⟨g, 0, none⟩) L (f 11) w5 := hJ
                have c1 := hJ'.1.rd
                have c2 := hJ'.2.1.rd
                obtain ⟨g', hg', r1, r2, r3, r4⟩ := hJ'.2.2.1 i y HX.out
                simp only [Option.some.injEq, Addr.mk.injEq, and_true] at hg'
                subst hg'
                have HJ := Lib.hid hJ'
                clear hJ'
                simp only [Act.put, List.setIfInBounds_toArray, List.set_cons_zero, List.set_cons_succ] at hQ
                go_wp2_with (fail)
                exact hQ _ _ rfl (J1.other hJ (by decide))
              simp only [Act.put, List.setIfInBounds_toArray, List.set_cons_zero, List.set_cons_succ]
            iterate 8
              apply wpJ_op rfl (by rfl)
              · intro f w5 hf hJ Q1 hQ
                have hJ' : CmpO wr.drew rb xb (.slice (some ⟨g, 0, none⟩) n cc) (id, c, l, d) (some ⟨g, 0, none⟩) L (f 11) w5 := hJ
                have c1 := hJ'.1.rd
                have c2 := hJ'.2.1.rd
                obtain ⟨g', hg', r1, r2, r3, r4⟩ := hJ'.2.2.1 i y HX.out
                simp only [Option.some.injEq, Addr.mk.injEq, and_true] at hg'
                subst hg'
                have HJ := Lib.hid hJ'
                clear hJ'
                simp only [Act.put, List.setIfInBounds_toArray, List.set_cons_zero, List.set_cons_succ] at hQ
                go_wp2_with (fail)
                exact hQ _ _ rfl (J1.other hJ (by decide))
              simp only [Act.put, List.setIfInBounds_toArray, List.set_cons_zero, List.set_cons_succ]
            apply wpJ_op rfl (by rfl)
            · intro f w5 hf hJ Q1 hQ
              have hJ' : CmpO wr.drew rb xb (.slice (some ⟨g, 0, none⟩) n cc) (id, c, l, d) (some ⟨g, 0, none⟩) L (f 11) w5 := hJ
              have HJ := Lib.hid hJ'
              clear hJ'
              simp only [Act.put, List.setIfInBounds_toArray, List.set_cons_zero, List.set_cons_succ] at hQ
              have e1 : w5 = wr.drew := HJ.out.2.2.2.1 hf.1
              subst e1
              have hah := HA.out wr.drew
              go_wp2_with (go_at_call 31; (with_reducible refine hah.mono ?_); rintro e w6 ⟨rfl, hB6⟩; have H6 := Lib.hid hB6; clear hB6 hah)
              exact hQ _ _ rfl (J1.fin ⟨Blk.below H6.out HJ.out.1 HJ.out.1.lt, Blk.below H6.out HJ.out.2.1 HJ.out.2.1.lt, HJ.out.2.2.1.keep H6.out (Nat.le_refl _), (fun h => by cases h), fun _ => H6.out⟩)
            simp only [Act.put, List.setIfInBounds_toArray, List.set_cons_zero, List.set_cons_succ]
            apply wpJ_op rfl (by rfl)
            · intro f w5 hf hJ Q1 hQ
              simp only [Act.put, List.setIfInBounds_toArray, List.set_cons_zero, List.set_cons_succ] at hQ
              go_wp2_with (fail)
              exact hQ _ _ rfl (J1.other hJ (by decide))
            simp only [Act.put, List.setIfInBounds_toArray, List.set_cons_zero, List.set_cons_succ]
            refine wpJ_nil ?_
            intro w7 hJ7
            obtain ⟨k1, k2, k3, _, hb7⟩ := (J1.over hJ7 rfl)
            have b7 := HR.out.2.2.2.1.trans ((hb7 rfl).mono HR.out.2.2.2.1.size)
            have c1 := k1.rd
            have c2 := k2.rd
            obtain ⟨g', hg', r1, r2, r3, r4⟩ := k3 i y HX.out
            simp only [Option.some.injEq, Addr.mk.injEq, and_true] at hg'
            subst hg'
            have hrow := HR.out.1.below b7
            have H7 := Lib.hid (And.intro hrow (And.intro b7 (And.intro k1 (And.intro k2 k3))))
            clear hJ7 hb7 b7 k1 k2 k3 hrow
            go_wp2_with (first
              | (at_builtin; refine wp_oneO rfl _ _ rfl _ _ _ (id, c, l, d) H7.out.1 (by omega) rfl rfl ?_; intro v1 w8 b8 hr hg hu; have hst := row_step HR.out.2.1 HR.out.2.2.1 H7.out.2.1 hg hu; have q1 := (Blk.below hst.2 H3.out.1 H3.out.1.lt).rd; obtain ⟨g2, hg2, t1, t2, t3, t4⟩ := H3.out.2.2.keep hst.2 (Nat.le_refl _) i y HX.out; simp only [Option.some.injEq, Addr.mk.injEq, and_true] at hg2; subst hg2; have H8 := Lib.hid (And.intro hr hst); clear hr hg hu hst)
              | (at_builtin; refine wp_oneO rfl _ _ rfl _ _ _ y H8.out.1 (by rw [List.length_append, List.length_cons, List.length_nil]; omega) rfl rfl ?_; intro v2 w9 b9 hr hg hu; have H9 := Lib.hid (And.intro hr (row_step H8.out.2.1 H8.out.2.2 (Below.refl _ _) hg hu)); clear hr hg hu))
            go_roundw
            case rel => exact ⟨_, _, _, ⟨i + 1, by omega, by go_num, by rw [HC.out.1], b9, by rw [HC.out.2]; exact H9.out.1, H9.out.2.1, H9.out.2.2⟩, rfl, rfl, rfl⟩
            case measure => simp [intOf]; omega
        · have hf : decide (plA L (id, c, l, d) < i) = true := by simp; omega
          have hf' : decide (plA L (id, c, l, d) < i + 1) = true := by simp; omega
          have hac := accO_gt hip hy
          have HC := Lib.hid (And.intro hf' hac)
          rw [hf]
          clear hah hf hf' hac hy hip
          go_upto_region 11 with (fail)
          go_quiet (fail)
          have s3 : Below wr.heap.size wr (wr.drewN nq) := ((Upd.refl (fun _ => False) wr).drewN nq).below (Nat.le_refl _) (fun _ h => h.elim)
          have s4 := HR.out.2.2.1.trans (s3.mono HR.out.2.2.1.size)
          have q1 := (Blk.below s4 H3.out.1 H3.out.1.lt).rd
          obtain ⟨g2, hg2, t1, t2, t3, t4⟩ := H3.out.2.2.keep s4 (Nat.le_refl _) i y HX.out
          simp only [Option.some.injEq, Addr.mk.injEq, and_true] at hg2
          subst hg2
          have H7 := Lib.hid (And.intro (HR.out.1.below s3) (And.intro s3 True.intro))
          clear s3 s4
          generalize wr.drewN nq = w7 at *
          go_wp2_with (at_builtin; refine wp_oneO rfl _ _ rfl _ _ _ y H7.out.1 (by omega) rfl rfl ?_; intro v2 w8 b8 hr hg hu; have H8 := Lib.hid (And.intro hr (row_step HR.out.2.1 HR.out.2.2.1 H7.out.2.1 hg hu)); clear hr hg hu)
          go_roundw
          case rel =>
            repeat apply Exists.intro
            refine And.intro ?rel2 ?eqs
            case eqs => repeat (first | exact rfl | refine And.intro rfl ?_)
            case rel2 => exact ⟨i + 1, b8, by omega, by go_num, by rw [HC.out.1], by rw [HC.out.2]; exact H8.out.1, H8.out.2.1, H8.out.2.2⟩
          case measure => simp [intOf]; omega
      · obtain rfl : i = n := by omega
        have d2 : decide ((i : Int) < (i : Int)) = false := by simp
        have hend := HN.out.2.1
        have f0 := (Blk.below hB H3.out.1 H3.out.1.lt).nf
        have c2 := (Blk.below hB H3.out.2.1 H3.out.2.1.lt).rd
        have hl8 : (accO L (id, c, l, d) i).length ≤ 2000 := by have := hal i; omega
        by_cases hp : plA L (id, c, l, d) < i
        · have hf : decide (plA L (id, c, l, d) < i) = true := by simpa using hp
          rw [if_pos hp] at hend
          rw [hend] at hrow
          rw [hf]
          obtain ⟨a8, c8, rfl⟩ := hrow.slice
          have HE := Lib.hid (And.intro hrow hbi)
          clear hf hp hend hrow hbi hl8
          go_wp2_with (fail)
          first
            | go_returns
            | go_ret
          exact ⟨rfl, DropJ.fin H3.out.1.lt H3.out.1 HN.out.2.2.1 ⟨bi, HE.out.1, HE.out.2, hB⟩⟩
        · have hf : decide (plA L (id, c, l, d) < i) = false := by simpa using hp
          rw [if_neg hp] at hend
          rw [hf]
          have HE := Lib.hid (And.intro hrow (And.intro hbi (And.intro hend hl8)))
          clear hf hp hend hrow hbi hl8
          go_wp2_with (at_builtin; refine wp_oneO rfl _ _ rfl _ _ _ (id, c, l, d) HE.out.1 HE.out.2.2.2 rfl rfl ?_; intro v1 w8 b8 hr hg hu; have hst := row_step HE.out.2.1 hB (Below.refl _ _) hg hu; have q1 := (Blk.below hst.2 H3.out.1 H3.out.1.lt).rd; have q2 := (Blk.below hst.2 H3.out.1 H3.out.1.lt).nf; rw [HE.out.2.2.1] at hr; obtain ⟨a9, c9, rfl⟩ := hr.slice; have H8 := Lib.hid (And.intro hr hst); clear hr hg hu hst)
          first
            | go_returns
            | go_ret
          exact ⟨rfl, DropJ.fin H3.out.1.lt H3.out.1 HN.out.2.2.1 ⟨b8, H8.out.1, H8.out.2.1, H8.out.2.2⟩⟩
  · rw [← he, hasO_at hx] at H
    exact absurd H.out.2.1 (by simp)
end Go.Proofs.Ytpajebedeacpgaa
