/-
  Script's law: a text is refused at its first line that is wrong, whatever stands behind it; lines that are well stay so ahead of others.
-/
import Derived.Test.YtefaaginedideaaGreatDoorCrd
import Derived.Test.YtefaaginedideaaGreatDoorSUnq
namespace Go.Proofs.YtefaaginedideaaGreatDoor
set_option linter.unusedSimpArgs false
set_option linter.unusedVariables false
open Go.RowKit Own RegJ
open Go.Lib hiding intOf

abbrev cfgRow (c : CfgV) (a1 a2 a3 a4 : Option Addr) (c1 c2 c3 c4 : Nat) : Array Value := #[.slice a1 c.tasks.length c1, .slice a2 c.best.length c2, .slice a3 c.mtx.length c3, .slice a4 c.gaps.length c4, .int .i64 c.frames, .int .i64 c.dog]
theorem cat_B (s t : ByteArray) : B (s.data.toList ++ 10 :: t.data.toList) = s ++ ⟨#[10]⟩ ++ t := by
  rw [show s.data.toList ++ 10 :: t.data.toList = s.data.toList ++ [10] ++ t.data.toList by simp, ← B_app, ← B_app, B_data, B_data]
theorem bel_row {w w3 : World} (h : Below w.heap.size w w3) (cs : Array Value) : Below w.heap.size w ((w3.alloc (.cells zCfg 41)).setRow w3.heap.size cs) := h.trans ((new_row_bel w3 zCfg cs 41).mono h.size)
set_option maxRecDepth 100000 in
set_option maxHeartbeats 4000000 in
theorem parts_big1 (s t : ByteArray) (w : World) (hs : s.size ≤ maxLen) (ht : t.size ≤ maxLen) (hE : Env w) (h1 : (s.size : Int) > 10000) : Calls Tryz.prog 5 #[.string s, .string t] w (AwP w) := by
  unfold maxLen at hs ht
  have HE := Lib.hid hE

  clear hE 
  go_enter Tryz.func5, Tryz.ntmps5
  go_wp2_with (go_at_call 9; refine (awake_is _ HE.out).mono ?_; rintro e w9 ⟨rfl, hb9⟩; have H9 := Lib.hid hb9; clear hb9)
  go_ret
  exact ⟨rfl, H9.out⟩
set_option maxRecDepth 100000 in
set_option maxHeartbeats 4000000 in
theorem parts_big2 (s t : ByteArray) (w : World) (hs : s.size ≤ maxLen) (ht : t.size ≤ maxLen) (hE : Env w) (h1 : ¬ (s.size : Int) > 10000) (h2 : (t.size : Int) > 10000) : Calls Tryz.prog 5 #[.string s, .string t] w (AwP w) := by
  unfold maxLen at hs ht
  have HE := Lib.hid hE
  have d1 : decide ((s.size : Int) > 10000) = false := decide_eq_false h1
  clear hE h1
  go_enter Tryz.func5, Tryz.ntmps5
  go_wp2_with (go_at_call 9; refine (awake_is _ HE.out).mono ?_; rintro e w9 ⟨rfl, hb9⟩; have H9 := Lib.hid hb9; clear hb9)
  go_ret
  exact ⟨rfl, H9.out⟩
set_option maxRecDepth 100000 in
set_option maxHeartbeats 4000000 in
theorem parts_ok (s t : ByteArray) (w : World) (h1 : ¬ (s.size : Int) > 10000) (h2 : ¬ (t.size : Int) > 10000) (hE : Env w) {c c' : CfgV} {es es' : List EvV} {at' at'' er er' : Int} (hp : parseF s.data.toList = (c, es, at', er)) (hp' : parseF (s.data.toList ++ 10 :: t.data.toList) = (c', es', at'', er')) (he : er = 0) (he' : er' = 0) : Calls Tryz.prog 5 #[.string s, .string t] w (AwP w) := by
  have hp1 := fun w0 (h0 : Env w0) => parse_is s.data.toList w0 h0
  have hp2 := fun w0 (h0 : Env w0) => parse_is (s.data.toList ++ 10 :: t.data.toList) w0 h0
  rw [B_data] at hp1
  rw [cat_B] at hp2
  have HE := Lib.hid (And.intro hE (And.intro hp hp'))
  have d1 : decide ((s.size : Int) > 10000) = false := decide_eq_false h1
  have d2 : decide ((t.size : Int) > 10000) = false := decide_eq_false h2
  have z1 : ¬ 9223372036854775807 < s.size + 1 := by omega
  have z2 : ¬ 9223372036854775807 < s.size + 1 + t.size := by omega
  have z3 : (s ++ ⟨#[10]⟩ : ByteArray).size = s.size + 1 := by rw [ByteArray.size_append]; rfl
  subst he he'
  clear hE hp hp' h1 h2 
  go_enter Tryz.func5, Tryz.ntmps5
  go_wp2_with (first
    | (go_at_call 14; (with_reducible refine (hp1 _ ?_).mono ?_); exact HE.out.1; intro e w2 hP; obtain ⟨a1, c1, a2, c2, a3, c3, a4, c4, a5, c5, rfl, hC, hR, hb2⟩ := hP.op HE.out.2.1; have H2 := Lib.hid hb2; clear hP hC hR hb2 hp1)
    | (refine wpList_store_row rfl 41 (.tmp 5) (.tmp 25) rfl w2.heap.size (cfgRow c a1 a2 a3 a4 c1 c2 c3 c4) rfl rfl 41 zCfg (Blk.new w2 _ _) infoCfg rfl (by simp [Value.oneCell']) ?_)
    | (go_at_call 14; (with_reducible refine (hp2 _ ?_).mono ?_); exact HE.out.1.bel (bel_row H2.out _); intro e w3 hP; obtain ⟨a6, c6, a7, c7, a8, c8, a9, c9, a10, c10, rfl, hC, hR, hb3⟩ := hP.op HE.out.2.2; have H3 := Lib.hid (And.intro (bel_row ((bel_row H2.out (cfgRow c a1 a2 a3 a4 c1 c2 c3 c4)).trans (hb3.mono (bel_row H2.out (cfgRow c a1 a2 a3 a4 c1 c2 c3 c4)).size)) (cfgRow c' a6 a7 a8 a9 c6 c7 c8 c9)) hC); have r3 := (cfg_lay (w := w3) (cfgRow c' a6 a7 a8 a9 c6 c7 c8 c9)).rd; clear hP hC hR hb3 hp2)
    | (refine wpList_store_row rfl 41 (.tmp 9) (.tmp 35) rfl w3.heap.size (cfgRow c' a6 a7 a8 a9 c6 c7 c8 c9) rfl rfl 41 zCfg (Blk.new w3 _ _) infoCfg rfl (by simp [Value.oneCell']) ?_)
    | fail
    | (go_at_call 9; refine (awake_is _ (HE.out.1.bel H3.out.1)).mono ?_; rintro e w9 ⟨rfl, hb9⟩; have H9 := Lib.hid hb9; clear hb9))
  go_ret
  exact ⟨rfl, (H3.out.1).trans (H9.out.mono (H3.out.1).size)⟩
set_option maxRecDepth 100000 in
set_option maxHeartbeats 4000000 in
theorem parts_two (s t : ByteArray) (w : World) (h1 : ¬ (s.size : Int) > 10000) (h2 : ¬ (t.size : Int) > 10000) (hE : Env w) {c c' : CfgV} {es es' : List EvV} {at' at'' er er' : Int} (hp : parseF s.data.toList = (c, es, at', er)) (hp' : parseF (s.data.toList ++ 10 :: t.data.toList) = (c', es', at'', er')) (he : er = 0) (he' : er' ≠ 0) (hc : c' = cfg0) (hat : 0 < at'') : Calls Tryz.prog 5 #[.string s, .string t] w (AwP w) := by
  have hp1 := fun w0 (h0 : Env w0) => parse_is s.data.toList w0 h0
  have hp2 := fun w0 (h0 : Env w0) => parse_is (s.data.toList ++ 10 :: t.data.toList) w0 h0
  rw [B_data] at hp1
  rw [cat_B] at hp2
  have HE := Lib.hid (And.intro hE (And.intro hp hp'))
  have d1 : decide ((s.size : Int) > 10000) = false := decide_eq_false h1
  have d2 : decide ((t.size : Int) > 10000) = false := decide_eq_false h2
  have z1 : ¬ 9223372036854775807 < s.size + 1 := by omega
  have z2 : ¬ 9223372036854775807 < s.size + 1 + t.size := by omega
  have z3 : (s ++ ⟨#[10]⟩ : ByteArray).size = s.size + 1 := by rw [ByteArray.size_append]; rfl
  subst he hc
  have f1 : (er' == 0) = false := by simpa using he'
  have f2 : decide (er' = 0) = false := by simpa using he'
  have f3 : at'' > 0 := hat
  clear hE hp hp' h1 h2 he' hat
  go_enter Tryz.func5, Tryz.ntmps5
  go_wp2_with (first
    | (go_at_call 14; (with_reducible refine (hp1 _ ?_).mono ?_); exact HE.out.1; intro e w2 hP; obtain ⟨a1, c1, a2, c2, a3, c3, a4, c4, a5, c5, rfl, hC, hR, hb2⟩ := hP.op HE.out.2.1; have H2 := Lib.hid hb2; clear hP hC hR hb2 hp1)
    | (refine wpList_store_row rfl 41 (.tmp 5) (.tmp 25) rfl w2.heap.size (cfgRow c a1 a2 a3 a4 c1 c2 c3 c4) rfl rfl 41 zCfg (Blk.new w2 _ _) infoCfg rfl (by simp [Value.oneCell']) ?_)
    | (go_at_call 14; (with_reducible refine (hp2 _ ?_).mono ?_); exact HE.out.1.bel (bel_row H2.out _); intro e w3 hP; obtain ⟨a6, c6, a7, c7, a8, c8, a9, c9, a10, c10, rfl, hC, hR, hb3⟩ := hP.op HE.out.2.2; have H3 := Lib.hid (And.intro (bel_row ((bel_row H2.out (cfgRow c a1 a2 a3 a4 c1 c2 c3 c4)).trans (hb3.mono (bel_row H2.out (cfgRow c a1 a2 a3 a4 c1 c2 c3 c4)).size)) (cfgRow cfg0 a6 a7 a8 a9 c6 c7 c8 c9)) hC); have r3 := (cfg_lay (w := w3) (cfgRow cfg0 a6 a7 a8 a9 c6 c7 c8 c9)).rd; clear hP hC hR hb3 hp2)
    | (refine wpList_store_row rfl 41 (.tmp 9) (.tmp 35) rfl w3.heap.size (cfgRow cfg0 a6 a7 a8 a9 c6 c7 c8 c9) rfl rfl 41 zCfg (Blk.new w3 _ _) infoCfg rfl (by simp [Value.oneCell']) ?_)
    | (go_at_call 16; obtain ⟨tq, eq, tb, bb, mb, gb, hC⟩ := H3.out.2; refine (sameC_is (c := cfg0) ((hC.rd (fun t ht => by cases ht)).below (new_row_bel w3 _ _ _)) ((Core.nil _ 0).rd (fun t ht => by cases ht))).mono ?_; rintro e w5 ⟨rfl, hb5⟩; have H5 := Lib.hid (H3.out.1.trans (hb5.mono H3.out.1.size)); clear hb5)
    | (go_at_call 9; refine (awake_is _ (HE.out.1.bel H5.out)).mono ?_; rintro e w9 ⟨rfl, hb9⟩; have H9 := Lib.hid hb9; clear hb9))
  go_ret
  exact ⟨rfl, (H5.out).trans (H9.out.mono (H5.out).size)⟩
set_option maxRecDepth 100000 in
set_option maxHeartbeats 4000000 in
theorem parts_yes (s t : ByteArray) (w : World) (h1 : ¬ (s.size : Int) > 10000) (h2 : ¬ (t.size : Int) > 10000) (hE : Env w) {c c' : CfgV} {es es' : List EvV} {at' at'' er er' : Int} (hp : parseF s.data.toList = (c, es, at', er)) (hp' : parseF (s.data.toList ++ 10 :: t.data.toList) = (c, es, at', er)) (he : er ≠ 0) (hl : s.data.toList ≠ [] ∧ s.data.toList.getLast? ≠ some 10) (hb : es = []) : Calls Tryz.prog 5 #[.string s, .string t] w (AwP w) := by
  have hp1 := fun w0 (h0 : Env w0) => parse_is s.data.toList w0 h0
  have hp2 := fun w0 (h0 : Env w0) => parse_is (s.data.toList ++ 10 :: t.data.toList) w0 h0
  rw [B_data] at hp1
  rw [cat_B] at hp2
  have HE := Lib.hid (And.intro hE (And.intro hp hp'))
  have d1 : decide ((s.size : Int) > 10000) = false := decide_eq_false h1
  have d2 : decide ((t.size : Int) > 10000) = false := decide_eq_false h2
  have z1 : ¬ 9223372036854775807 < s.size + 1 := by omega
  have z2 : ¬ 9223372036854775807 < s.size + 1 + t.size := by omega
  have z3 : (s ++ ⟨#[10]⟩ : ByteArray).size = s.size + 1 := by rw [ByteArray.size_append]; rfl
  have hsz := B_size s.data.toList
  rw [B_data] at hsz
  obtain ⟨d, hd⟩ : ∃ d, s.data.toList[s.data.toList.length - 1]? = some d := ⟨s.data.toList[s.data.toList.length - 1]'(by have := List.length_pos_iff.2 hl.1; omega), List.getElem?_eq_getElem _⟩
  have hlp := List.length_pos_iff.2 hl.1
  have hd' : s.data.toList[s.size - 1]? = some d := by rw [hsz]; exact hd
  have hy := byte_at (s := s) (l := s.data.toList) rfl hd'
  have j2 : (0 : Int) ≤ (s.size : Int) - 1 := by omega
  have j4 : s.size - 1 < s.size := by omega
  have j5 : 0 < s.size := by omega
  have j6 : (s.size : Int) ≤ 100000 := by omega
  have j7 : (1 : Int) ≤ (s.size : Int) := by omega
  have hy1 := hy j4
  have hdn : d ≠ 10 := fun e => hl.2 (by rw [List.getLast?_eq_getElem?, hd, e])
  have u3 : ((d.toNat : Int) == 10) = false := (u8_eq d 10 (by omega)).trans (decide_eq_false hdn)
  have u4 : ((d.toNat : Int) != 10) = true := by rw [bne, u3]; rfl
  have q1 : (s.toList != ([] : Txt)) = true := by
    have := B_nil_iff s.data.toList
    rw [B_data] at this
    rw [this]; exact decide_eq_true hl.1
  have q2 : s.toList.isEmpty = false := by
    have e := B_list s.data.toList
    rw [B_data] at e
    rw [e]
    cases hh : s.data.toList with
    | nil => exact absurd hh hl.1
    | cons _ _ => rfl
  have i3 : (s.size : Int) - 1 < s.size := by omega
  have f1 : (er != 0) = true := by simpa using he
  subst hb
  clear hE hp hp' h1 h2 he hl hd hd' hy hdn hsz hlp
  go_enter Tryz.func5, Tryz.ntmps5
  go_wp2_with (first
    | (go_at_call 14; (with_reducible refine (hp1 _ ?_).mono ?_); exact HE.out.1; intro e w2 hP; obtain ⟨a1, c1, a2, c2, a3, c3, a4, c4, a5, c5, rfl, hC, hR, hb2⟩ := hP.op HE.out.2.1; have H2 := Lib.hid hb2; clear hP hC hR hb2 hp1)
    | (refine wpList_store_row rfl 41 (.tmp 5) (.tmp 25) rfl w2.heap.size (cfgRow c a1 a2 a3 a4 c1 c2 c3 c4) rfl rfl 41 zCfg (Blk.new w2 _ _) infoCfg rfl (by simp [Value.oneCell']) ?_)
    | (go_at_call 14; (with_reducible refine (hp2 _ ?_).mono ?_); exact HE.out.1.bel (bel_row H2.out _); intro e w3 hP; obtain ⟨a6, c6, a7, c7, a8, c8, a9, c9, a10, c10, rfl, hC, hR, hb3⟩ := hP.op HE.out.2.2; have H3 := Lib.hid (And.intro (bel_row ((bel_row H2.out (cfgRow c a1 a2 a3 a4 c1 c2 c3 c4)).trans (hb3.mono (bel_row H2.out (cfgRow c a1 a2 a3 a4 c1 c2 c3 c4)).size)) (cfgRow c a6 a7 a8 a9 c6 c7 c8 c9)) hC); have r3 := (cfg_lay (w := w3) (cfgRow c a6 a7 a8 a9 c6 c7 c8 c9)).rd; clear hP hC hR hb3 hp2)
    | (refine wpList_store_row rfl 41 (.tmp 9) (.tmp 35) rfl w3.heap.size (cfgRow c a6 a7 a8 a9 c6 c7 c8 c9) rfl rfl 41 zCfg (Blk.new w3 _ _) infoCfg rfl (by simp [Value.oneCell']) ?_)
    | fail
    | (go_at_call 9; refine (awake_is _ (HE.out.1.bel H3.out.1)).mono ?_; rintro e w9 ⟨rfl, hb9⟩; have H9 := Lib.hid hb9; clear hb9))
  go_ret
  exact ⟨rfl, (H3.out.1).trans (H9.out.mono (H3.out.1).size)⟩
set_option maxRecDepth 100000 in
set_option maxHeartbeats 4000000 in
theorem parts_no1 (s t : ByteArray) (w : World) (h1 : ¬ (s.size : Int) > 10000) (h2 : ¬ (t.size : Int) > 10000) (hE : Env w) {c c' : CfgV} {es es' : List EvV} {at' at'' er er' : Int} (hp : parseF s.data.toList = (c, es, at', er)) (hp' : parseF (s.data.toList ++ 10 :: t.data.toList) = (c', es', at'', er')) (he : er ≠ 0) (he' : er' ≠ 0) (hl : s.data.toList = []) : Calls Tryz.prog 5 #[.string s, .string t] w (AwP w) := by
  have hp1 := fun w0 (h0 : Env w0) => parse_is s.data.toList w0 h0
  have hp2 := fun w0 (h0 : Env w0) => parse_is (s.data.toList ++ 10 :: t.data.toList) w0 h0
  rw [B_data] at hp1
  rw [cat_B] at hp2
  have HE := Lib.hid (And.intro hE (And.intro hp hp'))
  have d1 : decide ((s.size : Int) > 10000) = false := decide_eq_false h1
  have d2 : decide ((t.size : Int) > 10000) = false := decide_eq_false h2
  have z1 : ¬ 9223372036854775807 < s.size + 1 := by omega
  have z2 : ¬ 9223372036854775807 < s.size + 1 + t.size := by omega
  have z3 : (s ++ ⟨#[10]⟩ : ByteArray).size = s.size + 1 := by rw [ByteArray.size_append]; rfl
  have hsz := B_size s.data.toList
  rw [B_data] at hsz
  have f1 : (er != 0) = true := by simpa using he
  have f2 : (er' != 0) = true := by simpa using he'
  have q1 : (s.toList != ([] : Txt)) = false := by
    have := B_nil_iff s.data.toList
    rw [B_data] at this
    rw [this]; exact decide_eq_false (by rw [hl]; simp)
  have q2 : s.toList.isEmpty = true := by
    have e := B_list s.data.toList
    rw [B_data] at e
    rw [e, hl]; rfl
  clear hE hp hp' h1 h2 he he' hl hsz
  go_enter Tryz.func5, Tryz.ntmps5
  go_wp2_with (first
    | (go_at_call 14; (with_reducible refine (hp1 _ ?_).mono ?_); exact HE.out.1; intro e w2 hP; obtain ⟨a1, c1, a2, c2, a3, c3, a4, c4, a5, c5, rfl, hC, hR, hb2⟩ := hP.op HE.out.2.1; have H2 := Lib.hid hb2; clear hP hC hR hb2 hp1)
    | (refine wpList_store_row rfl 41 (.tmp 5) (.tmp 25) rfl w2.heap.size (cfgRow c a1 a2 a3 a4 c1 c2 c3 c4) rfl rfl 41 zCfg (Blk.new w2 _ _) infoCfg rfl (by simp [Value.oneCell']) ?_)
    | (go_at_call 14; (with_reducible refine (hp2 _ ?_).mono ?_); exact HE.out.1.bel (bel_row H2.out _); intro e w3 hP; obtain ⟨a6, c6, a7, c7, a8, c8, a9, c9, a10, c10, rfl, hC, hR, hb3⟩ := hP.op HE.out.2.2; have H3 := Lib.hid (And.intro (bel_row ((bel_row H2.out (cfgRow c a1 a2 a3 a4 c1 c2 c3 c4)).trans (hb3.mono (bel_row H2.out (cfgRow c a1 a2 a3 a4 c1 c2 c3 c4)).size)) (cfgRow c' a6 a7 a8 a9 c6 c7 c8 c9)) hC); have r3 := (cfg_lay (w := w3) (cfgRow c' a6 a7 a8 a9 c6 c7 c8 c9)).rd; clear hP hC hR hb3 hp2)
    | (refine wpList_store_row rfl 41 (.tmp 9) (.tmp 35) rfl w3.heap.size (cfgRow c' a6 a7 a8 a9 c6 c7 c8 c9) rfl rfl 41 zCfg (Blk.new w3 _ _) infoCfg rfl (by simp [Value.oneCell']) ?_)
    | fail
    | (go_at_call 9; refine (awake_is _ (HE.out.1.bel H3.out.1)).mono ?_; rintro e w9 ⟨rfl, hb9⟩; have H9 := Lib.hid hb9; clear hb9))
  go_ret
  exact ⟨rfl, (H3.out.1).trans (H9.out.mono (H3.out.1).size)⟩
set_option maxRecDepth 100000 in
set_option maxHeartbeats 4000000 in
theorem parts_no2 (s t : ByteArray) (w : World) (h1 : ¬ (s.size : Int) > 10000) (h2 : ¬ (t.size : Int) > 10000) (hE : Env w) {c c' : CfgV} {es es' : List EvV} {at' at'' er er' : Int} (hp : parseF s.data.toList = (c, es, at', er)) (hp' : parseF (s.data.toList ++ 10 :: t.data.toList) = (c', es', at'', er')) (he : er ≠ 0) (he' : er' ≠ 0) (hl0 : s.data.toList ≠ []) (hl : s.data.toList.getLast? = some 10) : Calls Tryz.prog 5 #[.string s, .string t] w (AwP w) := by
  have hp1 := fun w0 (h0 : Env w0) => parse_is s.data.toList w0 h0
  have hp2 := fun w0 (h0 : Env w0) => parse_is (s.data.toList ++ 10 :: t.data.toList) w0 h0
  rw [B_data] at hp1
  rw [cat_B] at hp2
  have HE := Lib.hid (And.intro hE (And.intro hp hp'))
  have d1 : decide ((s.size : Int) > 10000) = false := decide_eq_false h1
  have d2 : decide ((t.size : Int) > 10000) = false := decide_eq_false h2
  have z1 : ¬ 9223372036854775807 < s.size + 1 := by omega
  have z2 : ¬ 9223372036854775807 < s.size + 1 + t.size := by omega
  have z3 : (s ++ ⟨#[10]⟩ : ByteArray).size = s.size + 1 := by rw [ByteArray.size_append]; rfl
  have hsz := B_size s.data.toList
  rw [B_data] at hsz
  have f1 : (er != 0) = true := by simpa using he
  have f2 : (er' != 0) = true := by simpa using he'
  obtain ⟨d, hd⟩ : ∃ d, s.data.toList[s.data.toList.length - 1]? = some d := ⟨s.data.toList[s.data.toList.length - 1]'(by have := List.length_pos_iff.2 hl0; omega), List.getElem?_eq_getElem _⟩
  have hlp := List.length_pos_iff.2 hl0
  have hd' : s.data.toList[s.size - 1]? = some d := by rw [hsz]; exact hd
  have hy := byte_at (s := s) (l := s.data.toList) rfl hd'
  have j2 : (0 : Int) ≤ (s.size : Int) - 1 := by omega
  have j4 : s.size - 1 < s.size := by omega
  have j5 : 0 < s.size := by omega
  have j6 : (s.size : Int) ≤ 100000 := by omega
  have j7 : (1 : Int) ≤ (s.size : Int) := by omega
  have hy1 := hy j4
  have hdn : d = 10 := by rw [List.getLast?_eq_getElem?, hd] at hl; exact Option.some.inj hl
  have u3 : ((d.toNat : Int) == 10) = true := (u8_eq d 10 (by omega)).trans (decide_eq_true hdn)
  have u4 : ((d.toNat : Int) != 10) = false := by rw [bne, u3]; rfl
  have q1 : (s.toList != ([] : Txt)) = true := by
    have := B_nil_iff s.data.toList
    rw [B_data] at this
    rw [this]; exact decide_eq_true hl0
  have q2 : s.toList.isEmpty = false := by
    have e := B_list s.data.toList
    rw [B_data] at e
    rw [e]
    cases hh : s.data.toList with
    | nil => exact absurd hh hl0
    | cons _ _ => rfl
  have i3 : (s.size : Int) - 1 < s.size := by omega
  clear hE hp hp' h1 h2 he he' hl hl0 hd hd' hy hdn hsz hlp
  go_enter Tryz.func5, Tryz.ntmps5
  go_wp2_with (first
    | (go_at_call 14; (with_reducible refine (hp1 _ ?_).mono ?_); exact HE.out.1; intro e w2 hP; obtain ⟨a1, c1, a2, c2, a3, c3, a4, c4, a5, c5, rfl, hC, hR, hb2⟩ := hP.op HE.out.2.1; have H2 := Lib.hid hb2; clear hP hC hR hb2 hp1)
    | (refine wpList_store_row rfl 41 (.tmp 5) (.tmp 25) rfl w2.heap.size (cfgRow c a1 a2 a3 a4 c1 c2 c3 c4) rfl rfl 41 zCfg (Blk.new w2 _ _) infoCfg rfl (by simp [Value.oneCell']) ?_)
    | (go_at_call 14; (with_reducible refine (hp2 _ ?_).mono ?_); exact HE.out.1.bel (bel_row H2.out _); intro e w3 hP; obtain ⟨a6, c6, a7, c7, a8, c8, a9, c9, a10, c10, rfl, hC, hR, hb3⟩ := hP.op HE.out.2.2; have H3 := Lib.hid (And.intro (bel_row ((bel_row H2.out (cfgRow c a1 a2 a3 a4 c1 c2 c3 c4)).trans (hb3.mono (bel_row H2.out (cfgRow c a1 a2 a3 a4 c1 c2 c3 c4)).size)) (cfgRow c' a6 a7 a8 a9 c6 c7 c8 c9)) hC); have r3 := (cfg_lay (w := w3) (cfgRow c' a6 a7 a8 a9 c6 c7 c8 c9)).rd; clear hP hC hR hb3 hp2)
    | (refine wpList_store_row rfl 41 (.tmp 9) (.tmp 35) rfl w3.heap.size (cfgRow c' a6 a7 a8 a9 c6 c7 c8 c9) rfl rfl 41 zCfg (Blk.new w3 _ _) infoCfg rfl (by simp [Value.oneCell']) ?_)
    | fail
    | (go_at_call 9; refine (awake_is _ (HE.out.1.bel H3.out.1)).mono ?_; rintro e w9 ⟨rfl, hb9⟩; have H9 := Lib.hid hb9; clear hb9))
  go_ret
  exact ⟨rfl, (H3.out.1).trans (H9.out.mono (H3.out.1).size)⟩
theorem parts_no (s t : ByteArray) (w : World) (h1 : ¬ (s.size : Int) > 10000) (h2 : ¬ (t.size : Int) > 10000) (hE : Env w) {c c' : CfgV} {es es' : List EvV} {at' at'' er er' : Int} (hp : parseF s.data.toList = (c, es, at', er)) (hp' : parseF (s.data.toList ++ 10 :: t.data.toList) = (c', es', at'', er')) (he : er ≠ 0) (he' : er' ≠ 0) (hl : ¬ (s.data.toList ≠ [] ∧ s.data.toList.getLast? ≠ some 10)) : Calls Tryz.prog 5 #[.string s, .string t] w (AwP w) := by
  by_cases h0 : s.data.toList = []
  · exact parts_no1 s t w h1 h2 hE hp hp' he he' h0
  · exact parts_no2 s t w h1 h2 hE hp hp' he he' h0 (Classical.byContradiction fun e => hl ⟨h0, e⟩)
theorem parts_v (s t : ByteArray) (w : World) (hs : s.size ≤ maxLen) (ht : t.size ≤ maxLen) (hE : Env w) : Calls Tryz.prog 5 #[.string s, .string t] w (AwP w) := by
  by_cases h1 : (s.size : Int) > 10000
  · exact parts_big1 s t w hs ht hE h1
  · by_cases h2 : (t.size : Int) > 10000
    · exact parts_big2 s t w hs ht hE h1 h2
    · have hz1 := B_size s.data.toList
      have hz2 := B_size t.data.toList
      rw [B_data] at hz1 hz2
      obtain ⟨c, es, at', er, hp⟩ : ∃ c es at' er, parseF s.data.toList = (c, es, at', er) := ⟨_, _, _, _, rfl⟩
      obtain ⟨c', es', at'', er', hp'⟩ : ∃ c es at' er, parseF (s.data.toList ++ 10 :: t.data.toList) = (c, es, at', er) := ⟨_, _, _, _, rfl⟩
      by_cases he : er = 0
      · have hk := parse_bad (s.data.toList ++ 10 :: t.data.toList)
        rw [hp'] at hk
        by_cases he' : er' = 0
        · exact parts_ok s t w h1 h2 hE hp hp' he he'
        · obtain ⟨k1, k2, k3⟩ := hk he'
          exact parts_two s t w h1 h2 hE hp hp' he he' k1 (k3 (by simp only [List.length_append, List.length_cons]; omega)).1
      · by_cases hl : s.data.toList ≠ [] ∧ s.data.toList.getLast? ≠ some 10
        · have hk := parts_same s.data.toList t.data.toList (by omega) (by omega) (by rw [hp]; exact he) hl
          have hb := (parse_bad s.data.toList (by rw [hp]; exact he)).2.1
          rw [hp] at hk hb
          exact parts_yes (c' := c) (es' := es) (at'' := at') (er' := er) s t w h1 h2 hE hp hk he hl hb
        · have hk := parts_bad s.data.toList t.data.toList (by omega) (by omega) (by rw [hp]; exact he)
          rw [hp'] at hk
          exact parts_no s t w h1 h2 hE hp hp' he hk hl
end Go.Proofs.YtefaaginedideaaGreatDoor
