/-
  HeapScript: the walk.
-/
import Derived.Deep.CutBlock
import Derived.Test.YtamgaklbkefejaaScrB
namespace Go.Proofs.Ytamgaklbkefejaa
set_option linter.unusedSimpArgs false
set_option linter.unusedVariables false
open Go.RowKit Go.Lib Own
open RegJ hiding Up
open RegF hiding put_size

theorem num_is (e : Int) (w : World) : Calls Try.prog 12 #[.int .i64 e] w fun r w' => r = .returned (.int .i64 e) ∧ w = w' := by
  go_enter Try.func12, Try.ntmps12
  go_wp2
  go_ret
  exact ⟨rfl, rfl⟩
/-- the acts, as they lie: three numbers each -/
def Acts (w : World) (av : Option Addr) (len : Nat) : Prop := ∀ i, i < len → ∃ g o d t j, av = some ⟨g, o, none⟩ ∧ w.cell? ⟨g, o + i * 3, none⟩ = some (.int .i64 d) ∧ w.cell? ⟨g, o + i * 3 + 1, none⟩ = some (.int .i64 t) ∧ w.cell? ⟨g, o + i * 3 + 2, none⟩ = some (.int .i64 j)
def ScrP (w : World) (e : Ending) (w' : World) : Prop := e = .returned (.bool true) ∧ Below w.heap.size w w'
set_option maxRecDepth 100000 in
theorem scr_long (av : Option Addr) (len cap : Nat) (hm : len ≤ maxLen) (hl : 100 < len) (w : World) :
    Calls Try.prog 4 #[.slice av len cap] w (ScrP w) := by
  unfold maxLen at hm
  have d1 : decide ((len : Int) > 100) = true := by simp; omega
  have haw := awake_any
  go_enter Try.func4, Try.ntmps4
  go_wp2_with (go_at_call 7; refine (haw _).mono ?_; rintro e w' ⟨rfl, hB⟩)
  go_ret
  exact ⟨rfl, hB⟩
/-- both are there, of none -/
theorem md0 (w : World) : Md w ((w.alloc (.cells #[.slice none 0 0] 58)).alloc (.cells #[.slice none 0 0] 39)) w.heap.size (w.heap.size + 1) [] none (.slice none 0 0) [] [] [] := by
  have hs : (w.alloc (.cells #[.slice none 0 0] 58)).heap.size = w.heap.size + 1 := by simp
  refine ⟨⟨none, none, [], List.Perm.refl _, ⟨(hp_new w).1.below ((Below.refl _ _).alloc (Nat.le_refl _) _), (hp_new w).2⟩, ⟨_, ?_, Or.inl ⟨rfl, rfl, rfl⟩, (fun g hg => by cases hg), by simp⟩, fun k hk hk' => ?_, fun k hk => ?_, fun k hk => ?_, ?_⟩, (fun k cs T hm => by cases hm), Or.inl ⟨rfl, rfl, rfl⟩⟩
  · exact Blk.new' hs.symm
  · rcases hk with hk | hk
    · rcases hk' with hk' | hk'
      · omega
      · cases hk'
    · cases hk
  · refine ⟨?_, fun he => ?_⟩
    · rcases hk with (hk | hk) | (hk | hk)
      · omega
      · cases hk
      · omega
      · cases hk
    · rcases he with ⟨cs, T, hm⟩ | he
      · cases hm
      · cases he
  · rcases hk with ⟨cs, T, hm⟩ | he
    · cases hm
    · cases he
  · exact ((Below.refl _ _).alloc (Nat.le_refl _) _).alloc (by simp) _
section
variable {W w w' : World} {bh br : Nat} {K : Kb} {b : Option Nat} {v : Value} {l xs ys : List It}
theorem md_cell (h : Md W w bh br K b v l xs ys) {a : Addr} {u : Value} (hc : W.cell? a = some u) : w.cell? a = some u := by
  obtain ⟨_, _, _, _, _, _, _, _, _, hB⟩ := h.1
  exact below_cell hB (Nat.le_refl _) hc
theorem md_has (h : Md W w bh br K b v l xs ys) (id : Int) (r : Bool) (hr : hasB xs id = r) : Calls Try.prog 21 #[.pointer (some ⟨bh, 0, none⟩), .int .i64 id] w (ValB (.bool r) w) := by
  obtain ⟨b1, c1, zs, h1, h2, h3, h4, h5, h6, h7⟩ := h.1
  exact has_is h2.1 id r ((hasB_perm h1 id).trans hr)
theorem md_rhas (h : Md W w bh br K b v l xs ys) (id : Int) (r : Bool) (hr : hasB ys id = r) : Calls Try.prog 22 #[.pointer (some ⟨br, 0, none⟩), .int .i64 id] w (ValB (.bool r) w) := by
  obtain ⟨b1, c1, zs, h1, h2, h3, h4, h5, h6, h7⟩ := h.1
  refine (rhas_is h3 id r hr).mono ?_
  rintro e w' ⟨rfl, rfl⟩
  exact ⟨rfl, Below.refl _ _⟩
theorem md_len (h : Md W w bh br K b v l xs ys) (n : Nat) (hn : xs.length = n) : Calls Try.prog 11 #[.pointer (some ⟨bh, 0, none⟩)] w (ValB (.int .i64 n) w) := by
  obtain ⟨b1, c1, zs, h1, h2, h3, h4, h5, h6, h7⟩ := h.1
  refine (len_is h2.1 n (h1.length_eq.trans hn)).mono ?_
  rintro e w' ⟨rfl, rfl⟩
  exact ⟨rfl, Below.refl _ _⟩
def MdA' (W : World) (bh br : Nat) (K : Kb) (ws : List It) (n : Nat) (e : Ending) (w' : World) : Prop := ∃ a c b, e = .returned (.slice a n c) ∧ Md W w' bh br K b (.slice a n c) ws ws ws
theorem md_all' (h : Md W w bh br K b v l ys ys) {m n : Nat} (hW : WF ys m) (hn : ys.length = n) : Calls Try.prog 20 #[.pointer (some ⟨bh, 0, none⟩)] w (MdA' W bh br K ys n) := by
  subst hn; exact md_all h hW
def DocAt (w : World) (a : Option Addr) (ys : List It) : Prop := ∀ k, k < ys.length → ∃ g, a = some ⟨g, 0, none⟩ ∧ w.cell? ⟨g, k * 2, none⟩ = some (.int .i64 (X ys k).1) ∧ w.cell? ⟨g, k * 2 + 1, none⟩ = some (.int .i64 (X ys k).2)
theorem DocAt.below {a : Option Addr} (h : DocAt w a ys) (hB : Below w.heap.size w w') : DocAt w' a ys := fun k hk => by
  obtain ⟨g, h1, h2, h3⟩ := h k hk
  exact ⟨g, h1, below_cell hB (Nat.le_refl _) h2, below_cell hB (Nat.le_refl _) h3⟩
theorem Md.view' (h : Md W w bh br K b v l xs ys) (n : Nat) (hn : ys.length = n) : ∃ a c, Blk w br #[.slice a n c] 39 ∧ DocAt w a ys := by
  subst hn; exact h.view
theorem same_n {a1 a2 : Option Addr} {c1 c2 n : Nat} (h1 : DocAt w a1 ys) (h2 : DocAt w a2 ys) (hn : ys.length = n) (hlen : ys.length ≤ 2000) :
    Calls Try.prog 23 #[.slice a1 n c1, .slice a2 n c2] w (ValB (.bool true) w) := by
  subst hn; exact same_doc h1 h2 hlen
/-- a held item is written over -/
theorem Md.wipe {a : Option Addr} {n c : Nat} (h : Md W w bh br K b (.slice a n c) l xs ys) (hn : l.length = n) (k : Nat) (hk : k < n) : ∃ g, a = some ⟨g, 0, none⟩ ∧ (∀ j, w.frozen? ⟨g, j, none⟩ = false) ∧ (∃ u, w.cell? ⟨g, k * 2, none⟩ = some u) ∧ (∃ u, w.cell? ⟨g, k * 2 + 1, none⟩ = some u) ∧ Md W ((w.setCell ⟨g, k * 2, none⟩ (.int .i64 (-9))).setCell ⟨g, k * 2 + 1, none⟩ (.int .i64 0)) bh br K b (.slice a n c) (l.set k (-9, 0)) xs ys := by
  subst hn
  rcases h.2.2 with ⟨_, h0, _⟩ | ⟨g, cap, rest, hv, hb, hB, hc, hm⟩
  · rw [h0] at hk; simp at hk
  · simp only [Value.slice.injEq] at hv
    obtain ⟨rfl, -, rfl⟩ := hv
    obtain ⟨k1, k2⟩ := blk_its hB k hk
    refine ⟨g, rfl, hB.nf, ⟨_, k1⟩, ⟨_, k2⟩, h.over ?_ (Or.inr ⟨g, c, rest, by simp, hb, blk_set hB k hk (-9, 0), ?_, hm⟩)⟩
    · exact ((Upd.refl (fun k => b = some k) w).setCell (p := ⟨g, k * 2, none⟩) (fun _ => hb) _).setCell (p := ⟨g, k * 2 + 1, none⟩) (fun _ => hb) _
    · rw [hc, List.length_append, List.length_append, pcells_len, pcells_len, List.length_set]
end
/-- what the switch leaves -/
def CutR (W : World) (bh br bx i : Nat) (x : Array Value) (s : Value) (w : World) : Prop := s = .bool true ∧ ∃ ws, WF ws (i + 1) ∧ Md W w bh br [(bx, x, 41)] none (.slice none 0 0) [] ws ws
/-- the end: All, then same -/
def EndJ (W : World) (ws : List It) (n : Nat) (f : Nat → Bool) (a : Act) (w : World) : Prop := Below W.heap.size W w ∧ (f 1 = true → ∃ p c, slot a 196 = .slice p n c ∧ DocAt w p ws)
theorem EndJ.put {W : World} {ws : List It} {n : Nat} {f f' : Nat → Bool} {a a' : Act} {w w' : World} (h : EndJ W ws n f a w) (e1 : f' 1 = f 1) (e2 : slot a' 196 = slot a 196) (hB : Below w.heap.size w w') : EndJ W ws n f' a' w' := by
  refine ⟨h.1.trans (hB.mono h.1.size), fun h1 => ?_⟩
  rw [e1] at h1
  obtain ⟨p, c, h2, h3⟩ := h.2 h1
  exact ⟨p, c, e2.trans h2, h3.below hB⟩
theorem all_docs {W w : World} {bh br : Nat} {K : Kb} {b : Option Nat} {v : Value} {l ys : List It} (h : Md W w bh br K b v l ys ys) {m n : Nat} (hW : WF ys m) (hn : ys.length = n) : Calls Try.prog 20 #[.pointer (some ⟨bh, 0, none⟩)] w fun e w' => ∃ p c, e = .returned (.slice p n c) ∧ DocAt w' p ys ∧ Below w.heap.size w w' := by
  subst hn
  obtain ⟨b1, c1, zs, h1, h2, h3, h4, h5, h6, h7⟩ := h.1
  refine (all_is h2.1).mono ?_
  rintro e w' ⟨a, c, us, b', rfl, hu, ho, hI, hb, hB⟩
  have e : us = ys := order_eq ho hW.ord (hu.trans h1)
  subst e
  exact ⟨a, c, rfl, hI.view, hB⟩
theorem Its.view' {w : World} {a : Option Addr} {n c : Nat} {b : Option Nat} {ys : List It} (h : Its w (.slice a n c) ys b) (hn : ys.length = n) : DocAt w a ys := by
  subst hn; exact h.view
set_option maxRecDepth 100000 in
set_option maxHeartbeats 4000000 in
theorem scr_walk (av : Option Addr) (len cap : Nat) (hl : len ≤ 100) (w : World) (hA : Acts w av len) :
    Calls Try.prog 4 #[.slice av len cap] w (ScrP w) := by
  have d1 : decide ((len : Int) > 100) = false := by simp; omega
  have haw := awake_any
  have HA := Lib.hid hA
  clear hA
  go_enter Try.func4, Try.ntmps4
  go_wp2_with (go_at_call 8; refine (hnew _).mono ?_; rintro e w' ⟨rfl, rfl⟩)
  have HMD := Lib.hid (md0 w)
  generalize w.heap.size + 1 = br at HMD ⊢
  generalize w.heap.size = bh at HMD ⊢
  go_loopw [5] (fun ix wr => ∃ (i : Nat) (ws : List It), i ≤ len ∧ ix = .int .i64 i ∧ WF ws i ∧ Md w wr bh br [] none (.slice none 0 0) [] ws ws) (fun ix _ => len - (intOf ix).toNat)
  case atStart => exact ⟨0, [], Nat.zero_le _, rfl, WF.nil, HMD.out⟩
  case round =>
    obtain ⟨i, ws, hi, rfl, hW, hM⟩ := hrel
    clear HMD
    by_cases hil : i < len
    · obtain ⟨g, o, d, id, key, rfl, k0, k1, k2⟩ := HA.out i hil
      have d2 : decide ((i : Int) < (len : Int)) = true := by simp; omega
      have i1 : (i : Int) < (len : Int) := by omega
      replace k0 := md_cell hM k0
      replace k1 := md_cell hM k1
      replace k2 := md_cell hM k2
      have HW := Lib.hid hW
      have HM := Lib.hid (hM.new #[.int .i64 d, .int .i64 id, .int .i64 key] 41)
      clear hW hM
      go_upto_block 2 with (fail)
      clear k0 k1 k2
      have c1 := (HM.out.blk _ _ _ List.mem_cons_self).rd
      generalize wr.alloc (.cells #[.int .i64 d, .int .i64 id, .int .i64 key] 41) = wx at HM c1 ⊢
      generalize wr.heap.size = bx at HM c1 ⊢
      try clear wr
      go_cut [7, 8, 9, 10, 11] from 27 to 194 (fun s7 _ _ _ _ wx => CutR w bh br bx i #[.int .i64 d, .int .i64 id, .int .i64 key] s7 wx)
      case first =>
        by_cases hd0 : d = 0
        · subst hd0
          clear c1
          go_wp2_with (fail)
          refine region_J (JJ 5 12 (fun a b w1 => Md w w1 bh br [(bx, #[.int .i64 0, .int .i64 id, .int .i64 key], 41)] none (.slice none 0 0) [] (Sel a (pushL ws id key) ws) (Sel b (pushL ws id key) ws))) (by kernel_rfl) (by kernel_rfl) ?_ ?_
          · exact HM.out.drewN 1
          · iterate 15
              apply wpJ_op rfl (by rfl)
              · intro f w1 hf hJ Q1 hQ
                have c1 := ((show Md w w1 bh br [(bx, #[.int .i64 0, .int .i64 id, .int .i64 key], 41)] none (.slice none 0 0) [] (Sel (f 5) (pushL ws id key) ws) (Sel (f 12) (pushL ws id key) ws) from hJ).blk _ _ _ List.mem_cons_self).rd
                simp only [Act.put, List.setIfInBounds_toArray, List.set_cons_zero, List.set_cons_succ] at hQ
                go_wp2_with (first
                  | (go_at_call 9; refine (md_c (JJ.one hJ hf.1) (fun b zs hp h => hd_push h hp HW.out (by omega) id key)).mono ?_; rintro e w3 ⟨rfl, hM3⟩)
                  | (go_at_call 13; refine (md_r (JJ.two hJ hf.1) (fun c h => rd_push h HW.out (by omega) id key)).mono ?_; rintro e w3 ⟨rfl, hM3⟩)
                  | (go_at_call 12; refine (num_is _ _).mono ?_; rintro e w3 ⟨rfl, rfl⟩))
                first
                  | exact hQ _ _ rfl (hJ.other (by decide) (by decide))
                  | exact hQ _ _ rfl (JJ.fin1 hM3 (by decide))
                  | exact hQ _ _ rfl (JJ.fin2 hM3 (by decide))
              simp only [Act.put, List.setIfInBounds_toArray, List.set_cons_zero, List.set_cons_succ]
            refine wpJ_nil ?_
            intro w3 hJ3
            have hM3 : Md w w3 bh br [(bx, #[.int .i64 0, .int .i64 id, .int .i64 key], 41)] none (.slice none 0 0) [] (pushL ws id key) (pushL ws id key) := hJ3.over rfl rfl
            clear hJ3
            go_wp2_with (fail)
            go_meet
            exact ⟨rfl, _, HW.out.push id key, hM3⟩
        · by_cases hd1 : d = 1
          · subst hd1
            clear hd0
            obtain ⟨p, q, hX⟩ : ∃ p q, X ws 0 = (p, q) := ⟨_, _, rfl⟩
            cases hr : (!ws.isEmpty) with
            | true =>
              have HX := Lib.hid hX
              have HR := Lib.hid hr
              clear hX hr
              have hpop := md_c HM.out (fun b zs hp h => hd_pop h hp HW.out p q HX.out true HR.out)
              go_upto_region 17 with (first
                | (go_at_call 10; (with_reducible refine hpop.mono ?_); rintro e w1 ⟨rfl, hM1⟩; clear hpop; have hmin := md_r (hM1.new #[.int .i64 p, .int .i64 q] 30) (fun c h => rd_min h p q HX.out true HR.out); clear hM1)
                | (go_at_call 14; (with_reducible refine hmin.mono ?_); rintro e w2 ⟨rfl, hM2⟩; clear hmin; have HM2 := Lib.hid (hM2.new #[.int .i64 p, .int .i64 q] 44); clear hM2))
              clear c1 HM
              have c10 := (HM2.out.blk _ _ _ List.mem_cons_self).rd
              have c8 := (HM2.out.blk _ _ _ (List.mem_cons_of_mem _ List.mem_cons_self)).rd
              generalize w2.alloc (.cells #[.int .i64 p, .int .i64 q] 44) = w3 at HM2 c10 c8 ⊢
              generalize w2.heap.size = b10 at HM2 c10 c8 ⊢
              generalize w1.heap.size = b8 at HM2 c10 c8 ⊢
              have hdr := md_r HM2.out (fun c h => rd_drop h HW.out p _ rfl)
              clear HM2
              go_wp2_with (go_at_call 15; (with_reducible refine hdr.mono ?_); rintro e w4 ⟨rfl, hM4⟩; clear hdr c10 c8; have c8 := (hM4.blk _ _ _ (List.mem_cons_of_mem _ List.mem_cons_self)).rd; have HM4 := Lib.hid hM4; clear hM4)
              go_meet
              exact ⟨rfl, _, (HW.out.drop p).le (by omega), HM4.out.fewer (fun e he => List.mem_cons_of_mem _ (List.mem_cons_of_mem _ he))⟩
            | false =>
              have hnil : ws = [] := by cases ws with
                | nil => rfl
                | cons a l => simp at hr
              have h00 : p = 0 ∧ q = 0 := by rw [hnil] at hX; unfold X at hX; simp at hX; omega
              obtain ⟨rfl, rfl⟩ := h00
              have HX := Lib.hid hX
              have HR := Lib.hid hr
              clear hX hr hnil
              have hpop := md_c HM.out (fun b zs hp h => hd_pop h hp HW.out 0 0 HX.out false HR.out)
              go_upto_region 17 with (first
                | (go_at_call 10; (with_reducible refine hpop.mono ?_); rintro e w1 ⟨rfl, hM1⟩; clear hpop; have hmin := md_r (hM1.new #[.int .i64 0, .int .i64 0] 30) (fun c h => rd_min h 0 0 HX.out false HR.out); clear hM1)
                | (go_at_call 14; (with_reducible refine hmin.mono ?_); rintro e w2 ⟨rfl, hM2⟩; clear hmin; have HM2 := Lib.hid (hM2.new #[.int .i64 0, .int .i64 0] 44); clear hM2))
              clear c1 HM
              have c10 := (HM2.out.blk _ _ _ List.mem_cons_self).rd
              have c8 := (HM2.out.blk _ _ _ (List.mem_cons_of_mem _ List.mem_cons_self)).rd
              generalize w2.alloc (.cells #[.int .i64 0, .int .i64 0] 44) = w3 at HM2 c10 c8 ⊢
              generalize w2.heap.size = b10 at HM2 c10 c8 ⊢
              generalize w1.heap.size = b8 at HM2 c10 c8 ⊢
              have hdr := md_r HM2.out (fun c h => rd_drop h HW.out 0 _ rfl)
              clear HM2
              go_wp2_with (go_at_call 15; (with_reducible refine hdr.mono ?_); rintro e w4 ⟨rfl, hM4⟩; clear hdr c10 c8; have c8 := (hM4.blk _ _ _ (List.mem_cons_of_mem _ List.mem_cons_self)).rd; have HM4 := Lib.hid hM4; clear hM4)
              go_meet
              exact ⟨rfl, _, (HW.out.drop 0).le (by omega), HM4.out.fewer (fun e he => List.mem_cons_of_mem _ (List.mem_cons_of_mem _ he))⟩
          · by_cases hd2 : d = 2
            · subst hd2
              clear hd0 hd1 c1
              go_wp2_with (fail)
              refine region_J (JJ 3 7 (fun a b w1 => Md w w1 bh br [(bx, #[.int .i64 2, .int .i64 id, .int .i64 key], 41)] none (.slice none 0 0) [] (Sel a (dropL ws id) ws) (Sel b (dropL ws id) ws))) (by kernel_rfl) (by kernel_rfl) ?_ ?_
              · exact HM.out.drewN 1
              · iterate 10
                  apply wpJ_op rfl (by rfl)
                  · intro f w1 hf hJ Q1 hQ
                    have c1 := ((show Md w w1 bh br [(bx, #[.int .i64 2, .int .i64 id, .int .i64 key], 41)] none (.slice none 0 0) [] (Sel (f 3) (dropL ws id) ws) (Sel (f 7) (dropL ws id) ws) from hJ).blk _ _ _ List.mem_cons_self).rd
                    simp only [Act.put, List.setIfInBounds_toArray, List.set_cons_zero, List.set_cons_succ] at hQ
                    go_wp2_with (first
                      | (go_at_call 16; refine (md_c (JJ.one hJ hf.1) (fun b zs hp h => hd_drop h hp HW.out id)).mono ?_; rintro e w3 ⟨rfl, hM3⟩)
                      | (go_at_call 15; refine (md_r (JJ.two hJ hf.1) (fun c h => rd_drop h HW.out id _ rfl)).mono ?_; rintro e w3 ⟨rfl, hM3⟩))
                    first
                      | exact hQ _ _ rfl (hJ.other (by decide) (by decide))
                      | exact hQ _ _ rfl (JJ.fin1 hM3 (by decide))
                      | exact hQ _ _ rfl (JJ.fin2 hM3 (by decide))
                  simp only [Act.put, List.setIfInBounds_toArray, List.set_cons_zero, List.set_cons_succ]
                refine wpJ_nil ?_
                intro w3 hJ3
                have hM3 : Md w w3 bh br [(bx, #[.int .i64 2, .int .i64 id, .int .i64 key], 41)] none (.slice none 0 0) [] (dropL ws id) (dropL ws id) := hJ3.over rfl rfl
                clear hJ3
                go_wp2_with (fail)
                go_meet
                exact ⟨rfl, _, (HW.out.drop id).le (by omega), hM3⟩
            · by_cases hd3 : d = 3
              · subst hd3
                clear hd0 hd1 hd2 c1
                go_wp2_with (fail)
                refine region_J (JJ 5 11 (fun a b w1 => Md w w1 bh br [(bx, #[.int .i64 3, .int .i64 id, .int .i64 key], 41)] none (.slice none 0 0) [] (Sel a (moveL ws id key) ws) (Sel b (moveL ws id key) ws))) (by kernel_rfl) (by kernel_rfl) ?_ ?_
                · exact HM.out.drewN 1
                · iterate 14
                    apply wpJ_op rfl (by rfl)
                    · intro f w1 hf hJ Q1 hQ
                      have c1 := ((show Md w w1 bh br [(bx, #[.int .i64 3, .int .i64 id, .int .i64 key], 41)] none (.slice none 0 0) [] (Sel (f 5) (moveL ws id key) ws) (Sel (f 11) (moveL ws id key) ws) from hJ).blk _ _ _ List.mem_cons_self).rd
                      simp only [Act.put, List.setIfInBounds_toArray, List.set_cons_zero, List.set_cons_succ] at hQ
                      go_wp2_with (first
                        | (go_at_call 17; refine (md_c (JJ.one hJ hf.1) (fun b zs hp h => hd_move h hp HW.out id key)).mono ?_; rintro e w3 ⟨rfl, hM3⟩)
                        | (go_at_call 18; refine (md_r (JJ.two hJ hf.1) (fun c h => rd_move h HW.out (by omega) id key)).mono ?_; rintro e w3 ⟨rfl, hM3⟩))
                      first
                        | exact hQ _ _ rfl (hJ.other (by decide) (by decide))
                        | exact hQ _ _ rfl (JJ.fin1 hM3 (by decide))
                        | exact hQ _ _ rfl (JJ.fin2 hM3 (by decide))
                    simp only [Act.put, List.setIfInBounds_toArray, List.set_cons_zero, List.set_cons_succ]
                  refine wpJ_nil ?_
                  intro w3 hJ3
                  have hM3 : Md w w3 bh br [(bx, #[.int .i64 3, .int .i64 id, .int .i64 key], 41)] none (.slice none 0 0) [] (moveL ws id key) (moveL ws id key) := hJ3.over rfl rfl
                  clear hJ3
                  go_wp2_with (fail)
                  go_meet
                  exact ⟨rfl, _, HW.out.move id key, hM3⟩
              · have e0 : (d == 0) = false := by simpa using hd0
                have e1 : (d == 1) = false := by simpa using hd1
                have e2 : (d == 2) = false := by simpa using hd2
                have e3 : (d == 3) = false := by simpa using hd3
                clear hd0 hd1 hd2 hd3
                go_wp2_with (fail)
                go_meet
                exact ⟨rfl, ws, HW.out.le (by omega), HM.out⟩
      case rest =>
        obtain ⟨rfl, us, hU, hMu⟩ := hcut
        clear HM c1 HW
        have HU := Lib.hid hU
        obtain ⟨n, hn⟩ : ∃ n, us.length = n := ⟨_, rfl⟩
        have hn1 : n ≤ 101 := by have := hU.len; omega
        obtain ⟨p, q, hX⟩ : ∃ p q, X us 0 = (p, q) := ⟨_, _, rfl⟩
        obtain ⟨r, hr⟩ : ∃ r, (!us.isEmpty) = r := ⟨_, rfl⟩
        obtain ⟨z, hz⟩ : ∃ z, hasB us id = z := ⟨_, rfl⟩
        have HX := Lib.hid hX
        have HR := Lib.hid hr
        have HZ := Lib.hid hz
        have HN := Lib.hid hn
        clear hX hr hz hn hU
        have hmin := md_c hMu (fun b zs hp h => hd_min h hp HU.out p q HX.out r HR.out)
        clear hMu
        go_upto_region 28 with (first
          | (go_at_call 19; (with_reducible refine hmin.mono ?_); rintro e w1 ⟨rfl, hM1⟩; clear hmin; have hrm := md_r (hM1.new #[.int .i64 p, .int .i64 q] 30) (fun c h => rd_min h p q HX.out r HR.out); clear hM1)
          | (go_at_call 14; (with_reducible refine hrm.mono ?_); rintro e w2 ⟨rfl, hM2⟩; clear hrm; have hal := md_all' (hM2.new #[.int .i64 p, .int .i64 q] 44) HU.out HN.out; clear hM2)
          | (go_at_call 20; (with_reducible refine hal.mono ?_); rintro e w3 ⟨a, c, b, rfl, hM3⟩; clear hal; have HM3 := Lib.hid hM3; clear hM3))
        generalize w2.heap.size = b14 at HM3 ⊢
        generalize w1.heap.size = b12 at HM3 ⊢
        obtain ⟨ra, rc, hrb, hrv⟩ := HM3.out.view' n HN.out
        have HV := Lib.hid (And.intro hrb hrv)
        clear hrb hrv
        refine region_J (fun _ w4 => Below w3.heap.size w3 w4) (by kernel_rfl) (by kernel_rfl) ?_ ?_
        · exact (Below.refl _ _).drew
        · iterate 51
            apply wpJ_op rfl (by rfl)
            · intro f w4 hf hJ Q1 hQ
              have hM4 := HM3.out.below hJ
              have c14 := (hM4.blk _ _ _ List.mem_cons_self).rd
              have c12 := (hM4.blk _ _ _ (List.mem_cons_of_mem _ List.mem_cons_self)).rd
              have cx := (hM4.blk _ _ _ (List.mem_cons_of_mem _ (List.mem_cons_of_mem _ List.mem_cons_self))).rd
              have cr := (Blk.below hJ HV.out.1 HV.out.1.lt).rd
              have HM4 := Lib.hid hM4
              clear hM4
              simp only [Act.put, List.setIfInBounds_toArray, List.set_cons_zero, List.set_cons_succ] at hQ
              go_wp2_with (first
                | (go_at_call 21; refine (md_has HM4.out id z HZ.out).mono ?_; rintro e w5 ⟨rfl, hB⟩)
                | (go_at_call 22; refine (md_rhas HM4.out id z HZ.out).mono ?_; rintro e w5 ⟨rfl, hB⟩)
                | (go_at_call 11; refine (md_len HM4.out n HN.out).mono ?_; rintro e w5 ⟨rfl, hB⟩)
                | (go_at_call 23; refine (same_n (DocAt.below (Its.view' HM3.out.2.2 HN.out) hJ) (DocAt.below HV.out.2 hJ) HN.out (by have := HN.out; omega)).mono ?_; rintro e w5 ⟨rfl, hB⟩))
              first
                | exact hQ _ _ rfl hJ
                | exact hQ _ _ rfl (hJ.trans (hB.mono hJ.size))
            simp only [Act.put, List.setIfInBounds_toArray, List.set_cons_zero, List.set_cons_succ]
          refine wpJ_nil ?_
          intro w4 hJ4
          have HM4 := Lib.hid (HM3.out.below hJ4)
          clear hJ4 HM3 HV
          go_wp2_with (fail)
          go_loopw [17] (fun kx wr => ∃ (k : Nat) (l : List It), k ≤ n ∧ kx = .int .i64 k ∧ l.length = n ∧ Md w wr bh br [(b14, #[.int .i64 p, .int .i64 q], 44), (b12, #[.int .i64 p, .int .i64 q], 30), (bx, #[.int .i64 d, .int .i64 id, .int .i64 key], 41)] b (.slice a n c) l us us) (fun kx _ => n - (intOf kx).toNat)
          case atStart => exact ⟨0, us, Nat.zero_le _, rfl, HN.out, HM4.out⟩
          case round =>
            obtain ⟨k, l, hk, rfl, hl2, hMl⟩ := hrel
            clear HM4
            by_cases hkn : k < n
            · obtain ⟨g, rfl, f1, ⟨u1, k1⟩, ⟨u2, k2⟩, hMw⟩ := hMl.wipe hl2 k hkn
              have HMw := Lib.hid hMw
              clear hMl hMw
              have d3 : decide ((k : Int) < (n : Int)) = true := by simp; omega
              have i3 : (k : Int) < (n : Int) := by omega
              have i4 : (0 : Int) ≤ k := by omega
              go_wp2_with (fail)
              go_roundw
              case rel => exact ⟨k + 1, _, by omega, by go_num, by rw [List.length_set]; exact hl2, HMw.out⟩
              case measure => simp [intOf]; omega
            · have d3 : decide ((k : Int) < (n : Int)) = false := by simp; omega
              have HMl := Lib.hid hMl
              clear hMl
              go_wp2_with (fail)
              go_roundw
              case rel => exact ⟨i + 1, us, by omega, by go_num, HU.out, HMl.out.less (fun e he => by cases he)⟩
              case measure => simp [intOf]; omega
    · have hil' : i = len := by omega
      subst hil'
      have d2 : decide ((i : Int) < (i : Int)) = false := by simp
      obtain ⟨n, hn⟩ : ∃ n, ws.length = n := ⟨_, rfl⟩
      have hn1 : n ≤ 100 := by have := hW.len; omega
      have HN := Lib.hid hn
      have HM := Lib.hid hM
      have HW := Lib.hid hW
      clear hn hM hW
      go_wp2_with (fail)
      obtain ⟨ra, rc, hrb, hrv⟩ := HM.out.view' n HN.out
      have HV := Lib.hid (And.intro hrb hrv)
      clear hrb hrv
      refine region_E (EndJ wr ws n) [Is 205 (some 195) (.pointer (some ⟨bh, 0, none⟩)), (fun u => ∃ p c, u = .slice p n c), Is 205 (some 197) (.pointer (some ⟨br, 0, none⟩)), Is 205 (some 198) (.pointer (some ⟨br, 0, none⟩)), Is 205 (some 199) (.pointer (some ⟨br, 0, none⟩)), Is 205 (some 200) (.slice ra n rc), Is 205 (some 201) (.bool true), Is 205 (some 202) (.bool true), Is 205 (some 203) (.bool true), Is 205 (some 204) (.bool true), Is 205 (some 2) (.bool true)] (by kernel_rfl) (by kernel_rfl) ?_ ?_
      · exact ⟨(Below.refl _ _).drew, fun h => by cases h⟩
      · apply wpE_op (by rfl) (by rfl) (by rfl)
        · intro f a' w4 ha hf hJ Q1 hQ
          simp only [Act.put, List.setIfInBounds_toArray, List.set_cons_zero, List.set_cons_succ] at hQ
          go_wp2_with (fail)
          exact hQ _ _ rfl (hJ.put rfl (slot_put_ne (a := a') (by decide) _) (Below.refl _ _))
        simp only [Act.put, List.setIfInBounds_toArray, List.set_cons_zero, List.set_cons_succ]
        apply wpE_any (d := 196) rfl (by simp) ⟨_, none, 0, rfl⟩ (by rfl)
        · intro f a' w4 ha hf hJ Q1 hQ
          have hM4 := HM.out.below hJ.1
          have hsz : 196 < a'.tmps.size := by rw [ha.1]; simp
          simp only [Act.put, List.setIfInBounds_toArray, List.set_cons_zero, List.set_cons_succ] at hQ
          have hall := all_docs hM4 HW.out HN.out
          go_wp2_with (go_at_call 20; refine hall.mono ?_; rintro e w5 ⟨p, c, rfl, hd, hB⟩)
          exact hQ _ _ _ rfl ⟨p, c, rfl⟩ ⟨hJ.1.trans (hB.mono hJ.1.size), fun _ => ⟨p, c, slot_put (a := a') hsz _, hd⟩⟩
        rintro _ ⟨ua, uc, rfl⟩
        simp only [Act.put, List.setIfInBounds_toArray, List.set_cons_zero, List.set_cons_succ]
        apply wpE_op (by rfl) (by rfl) (by rfl)
        · intro f a' w4 ha hf hJ Q1 hQ
          simp only [Act.put, List.setIfInBounds_toArray, List.set_cons_zero, List.set_cons_succ] at hQ
          go_wp2_with (fail)
          exact hQ _ _ rfl (hJ.put rfl (slot_put_ne (a := a') (by decide) _) (Below.refl _ _))
        simp only [Act.put, List.setIfInBounds_toArray, List.set_cons_zero, List.set_cons_succ]
        apply wpE_op (by rfl) (by rfl) (by rfl)
        · intro f a' w4 ha hf hJ Q1 hQ
          have cr := (Blk.below hJ.1 HV.out.1 HV.out.1.lt).rd
          simp only [Act.put, List.setIfInBounds_toArray, List.set_cons_zero, List.set_cons_succ] at hQ
          go_wp2_with (fail)
          exact hQ _ _ rfl (hJ.put rfl (slot_put_ne (a := a') (by decide) _) (Below.refl _ _))
        simp only [Act.put, List.setIfInBounds_toArray, List.set_cons_zero, List.set_cons_succ]
        apply wpE_op (by rfl) (by rfl) (by rfl)
        · intro f a' w4 ha hf hJ Q1 hQ
          have cr := (Blk.below hJ.1 HV.out.1 HV.out.1.lt).rd
          simp only [Act.put, List.setIfInBounds_toArray, List.set_cons_zero, List.set_cons_succ] at hQ
          go_wp2_with (fail)
          exact hQ _ _ rfl (hJ.put rfl (slot_put_ne (a := a') (by decide) _) (Below.refl _ _))
        simp only [Act.put, List.setIfInBounds_toArray, List.set_cons_zero, List.set_cons_succ]
        apply wpE_op (by rfl) (by rfl) (by rfl)
        · intro f a' w4 ha hf hJ Q1 hQ
          have cr := (Blk.below hJ.1 HV.out.1 HV.out.1.lt).rd
          simp only [Act.put, List.setIfInBounds_toArray, List.set_cons_zero, List.set_cons_succ] at hQ
          go_wp2_with (fail)
          exact hQ _ _ rfl (hJ.put rfl (slot_put_ne (a := a') (by decide) _) (Below.refl _ _))
        simp only [Act.put, List.setIfInBounds_toArray, List.set_cons_zero, List.set_cons_succ]
        apply wpE_op (by rfl) (by rfl) (by rfl)
        · intro f a' w4 ha hf hJ Q1 hQ
          have e1 : slot a' 196 = .slice ua n uc := by
            have := ha.2 196 (by decide)
            simp only [slot, Array.getD_eq_getD_getElem?, this]; rfl
          have hd : DocAt w4 ua ws := by
            obtain ⟨p, c, h1, h2⟩ := hJ.2 (up_dep hf.1 1 (by kernel_rfl))
            rw [e1] at h1
            simp only [Value.slice.injEq] at h1
            rw [h1.1]; exact h2
          simp only [Act.put, List.setIfInBounds_toArray, List.set_cons_zero, List.set_cons_succ] at hQ
          go_wp2_with (go_at_call 23; refine (same_n hd (DocAt.below HV.out.2 hJ.1) HN.out (by have := HN.out; omega)).mono ?_; rintro e w5 ⟨rfl, hB⟩)
          exact hQ _ _ rfl (hJ.put rfl (slot_put_ne (a := a') (by decide) _) hB)
        simp only [Act.put, List.setIfInBounds_toArray, List.set_cons_zero, List.set_cons_succ]
        apply wpE_op (by rfl) (by rfl) (by rfl)
        · intro f a' w4 ha hf hJ Q1 hQ
          simp only [Act.put, List.setIfInBounds_toArray, List.set_cons_zero, List.set_cons_succ] at hQ
          go_wp2_with (fail)
          exact hQ _ _ rfl (hJ.put rfl (slot_put_ne (a := a') (by decide) _) (Below.refl _ _))
        simp only [Act.put, List.setIfInBounds_toArray, List.set_cons_zero, List.set_cons_succ]
        apply wpE_op (by rfl) (by rfl) (by rfl)
        · intro f a' w4 ha hf hJ Q1 hQ
          simp only [Act.put, List.setIfInBounds_toArray, List.set_cons_zero, List.set_cons_succ] at hQ
          go_wp2_with (go_at_call 7; refine (haw _).mono ?_; rintro e w5 ⟨rfl, hB⟩)
          exact hQ _ _ rfl (hJ.put rfl (slot_put_ne (a := a') (by decide) _) hB)
        simp only [Act.put, List.setIfInBounds_toArray, List.set_cons_zero, List.set_cons_succ]
        apply wpE_op (by rfl) (by rfl) (by rfl)
        · intro f a' w4 ha hf hJ Q1 hQ
          simp only [Act.put, List.setIfInBounds_toArray, List.set_cons_zero, List.set_cons_succ] at hQ
          go_wp2_with (fail)
          exact hQ _ _ rfl (hJ.put rfl (slot_put_ne (a := a') (by decide) _) (Below.refl _ _))
        simp only [Act.put, List.setIfInBounds_toArray, List.set_cons_zero, List.set_cons_succ]
        apply wpE_op (by rfl) (by rfl) (by rfl)
        · intro f a' w4 ha hf hJ Q1 hQ
          simp only [Act.put, List.setIfInBounds_toArray, List.set_cons_zero, List.set_cons_succ] at hQ
          go_wp2_with (fail)
          exact hQ _ _ rfl (hJ.put rfl (slot_put_ne (a := a') (by decide) _) (Below.refl _ _))
        simp only [Act.put, List.setIfInBounds_toArray, List.set_cons_zero, List.set_cons_succ]
        refine wpE_nil ?_
        intro w5 hJ5
        have hB5 : Below w.heap.size w w5 := by
          obtain ⟨_, _, _, _, _, _, _, _, _, hB⟩ := HM.out.1
          exact hB.trans (hJ5.1.mono hB.size)
        go_wp2_with (fail)
        go_ret
        exact ⟨rfl, hB5⟩
theorem script_walk (av : Option Addr) (len cap : Nat) (w : World) (hm : len ≤ maxLen) (hA : Acts w av len) :
    Calls Try.prog 4 #[.slice av len cap] w fun e w' => e = .returned (.bool true) ∧ Below w.heap.size w w' := by
  by_cases hl : 100 < len
  · exact scr_long av len cap hm hl w
  · exact scr_walk av len cap (by omega) w hA
end Go.Proofs.Ytamgaklbkefejaa
