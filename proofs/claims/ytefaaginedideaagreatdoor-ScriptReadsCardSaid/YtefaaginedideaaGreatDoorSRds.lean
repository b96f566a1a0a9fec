/-
  Script's law: any text is read as the document says, or refused at its line.
-/
import Derived.Test.YtefaaginedideaaGreatDoorSCf
import Derived.Test.YtefaaginedideaaGreatDoorSAwk
import Derived.Test.YtefaaginedideaaGreatDoorSRP
import Derived.Test.YtefaaginedideaaGreatDoorPrI
namespace Go.Proofs.YtefaaginedideaaGreatDoor
set_option linter.unusedSimpArgs false
set_option linter.unusedVariables false
open Go.RowKit Own RegJ
open Go.Lib hiding intOf

theorem Rw.max {w : World} {T : TypeId} {sz n : Nat} {v : Value} {cs : List Value} {b : Option Nat} (h : Rw w T sz v n cs b) : n ≤ maxLen := by
  rcases h.2 with ⟨_, rfl, _⟩ | ⟨g, cap, rst, _, _, _, _, hnc, hmx⟩
  · simp
  · omega
/-- what Parse lays can be read -/
theorem Core.rd {w : World} {B : Nat} {c : CfgV} {tv bv mv gv : Value} {tq : List TQ} {eq : List EQ} {tb bb mb gb : Option Nat} (h : Core w B c tv bv mv gv tq eq tb bb mb gb) (hu : ∀ t ∈ c.tasks, t.uses.length ≤ 100000) : RdCfg w c tv bv mv gv tq eq := by
  refine ⟨h.lt, h.le, h.rt.rdc, h.re.rdc, h.rm.rdc, h.rg.rdc, fun i t q ht hq => ?_, fun i t q ht hq => ?_, fun i t q ht hq => ?_, ⟨h.rt.max, h.re.max, h.rm.max, h.rg.max⟩⟩
  · obtain ⟨a, cc, e, hr⟩ := (h.us i t q ht hq).rdc
    refine ⟨a, cc, e, hr, ?_⟩
    have := hu t (List.mem_of_getElem? ht)
    unfold maxLen; omega
  · obtain ⟨a, cc, e, hr⟩ := (h.pt i t q ht hq).rdc
    exact ⟨a, cc, e, hr, (h.pt i t q ht hq).max⟩
  · obtain ⟨a, cc, e, hr⟩ := (h.pe i t q ht hq).rdc
    exact ⟨a, cc, e, hr, (h.pe i t q ht hq).max⟩
def OvV (b : Option Nat) (w : World) (e : Ending) (w' : World) : Prop := e = .returned (.tuple #[]) ∧ Upd (fun k => b = some k) w w'
theorem Rw.set3 {w : World} {T : TypeId} {v : Value} {n : Nat} {ys : List Value} {g : Nat} (h : Rw w T 3 v n ys (some g)) (i : Nat) (hi : i < n) (x y z : Value) :
    Rw (((w.setCell ⟨g, i * 3, none⟩ x).setCell ⟨g, i * 3 + 1, none⟩ y).setCell ⟨g, i * 3 + 2, none⟩ z) T 3 v n (((ys.set (i * 3) x).set (i * 3 + 1) y).set (i * 3 + 2) z) (some g) := by
  have hl := h.1
  exact ((h.set (i * 3) (by omega) x).set (i * 3 + 1) (by simp; omega) y).set (i * 3 + 2) (by simp; omega) z
theorem ov_upd {w0 w : World} {g : Nat} (h : Upd (fun k => some g = some k) w0 w) (i : Nat) (x y z : Value) : Upd (fun k => some g = some k) w0 (((w.setCell ⟨g, i * 3, none⟩ x).setCell ⟨g, i * 3 + 1, none⟩ y).setCell ⟨g, i * 3 + 2, none⟩ z) :=
  ((h.setCell (p := ⟨g, _, none⟩) (fun _ => rfl) _).setCell (p := ⟨g, _, none⟩) (fun _ => rfl) _).setCell (p := ⟨g, _, none⟩) (fun _ => rfl) _
set_option maxRecDepth 100000 in
set_option maxHeartbeats 2000000 in
theorem overV_is {w : World} {a : Option Addr} {n c : Nat} {ys : List Value} {b : Option Nat} (h : Rw w 58 3 (.slice a n c) n ys b) (hn : n ≤ 900000) :
    Calls Tryz.prog 18 #[.slice a n c] w (OvV b w) := by
  have H0 := Lib.hid (And.intro h (Upd.refl (fun k => b = some k) w))
  clear h
  go_enter Tryz.func18, Tryz.ntmps18
  go_wp2_with (fail)
  go_loopw [2] (fun ix wr => ∃ (i : Nat) (zs : List Value), i ≤ n ∧ ix = .int .i64 i ∧ Hid (Rw wr 58 3 (.slice a n c) n zs b ∧ Upd (fun k => b = some k) w wr)) (fun ix _ => n - (intOf ix).toNat)
  case atStart => exact ⟨0, ys, Nat.zero_le _, rfl, H0⟩
  case round =>
    obtain ⟨i, zs, hi, rfl, H⟩ := hrel
    clear H0
    by_cases hil : i < n
    · obtain ⟨g, rfl⟩ := H.out.1.has (by omega)
      obtain ⟨cap, rest, hv, hB, _⟩ := H.out.1.blk g rfl
      simp only [Value.slice.injEq, true_and] at hv
      obtain ⟨rfl, rfl⟩ := hv
      have hl := H.out.1.1
      have c0 : wr.cell? ⟨g, i * 3, none⟩ = some (zs[i * 3]'(by omega)) := by rw [hB.rd, List.getElem?_toArray, List.getElem?_append_left (by omega), List.getElem?_eq_getElem]
      have c1 : wr.cell? ⟨g, i * 3 + 1, none⟩ = some (zs[i * 3 + 1]'(by omega)) := by rw [hB.rd, List.getElem?_toArray, List.getElem?_append_left (by omega), List.getElem?_eq_getElem]
      have c2 : wr.cell? ⟨g, i * 3 + 2, none⟩ = some (zs[i * 3 + 2]'(by omega)) := by rw [hB.rd, List.getElem?_toArray, List.getElem?_append_left (by omega), List.getElem?_eq_getElem]
      generalize zs[i * 3]'_ = p0 at c0
      generalize zs[i * 3 + 1]'_ = p1 at c1
      generalize zs[i * 3 + 2]'_ = p2 at c2
      have nf := hB.nf
      have HX := Lib.hid (And.intro (H.out.1.set3 i hil (.int .i64 (-9)) (.int .i64 0) (.int .i64 0)) (ov_upd H.out.2 i (.int .i64 (-9)) (.int .i64 0) (.int .i64 0)))
      have d1 : decide ((i : Int) < (n : Int)) = true := by simp; omega
      have i1 : (i : Int) < (n : Int) := by omega
      have i2 : (0 : Int) ≤ i := by omega
      clear hB hl H
      go_wp2_with (fail)
      go_roundw
      case rel => exact ⟨i + 1, _, by omega, by go_num, HX⟩
      case measure => simp [intOf]; omega
    · have d1 : decide ((i : Int) < (n : Int)) = false := by simp; omega
      have d2 : decide (i < n) = false := by simp; omega
      have hbA := (Below.refl wr.heap.size wr).alloc (Nat.le_refl _) (.cells [.int .i64 (-9), .int .i64 0, .int .i64 0].toArray 58)
      obtain ⟨v', WC, hrun, hA⟩ := app_run (P := Tryz.prog) (w := wr.alloc (.cells [.int .i64 (-9), .int .i64 0, .int .i64 0].toArray 58)) (S := 42) 42 _ 3 24 infoEv rfl (by decide) (by decide) Tryz.underlying42 (H.out.1.below hbA) ⟨wr.heap.size, 0, none⟩ 1 1 [.int .i64 (-9), .int .i64 0, .int .i64 0] rfl (new_row (W := wr) (cs := [.int .i64 (-9), .int .i64 0, .int .i64 0]) rfl) (by intro u hu; simp at hu; rcases hu with rfl | rfl <;> rfl) (by omega)
      have HU := Lib.hid ((H.out.2.alloc (.cells [.int .i64 (-9), .int .i64 0, .int .i64 0].toArray 58)).trans hA.choose_spec.2.1 (fun _ _ h => h))
      clear hil hi hA hbA H
      go_wp2_with (at_builtin; refine wp_appX rfl _ _ 42 rfl rfl rfl hrun ?_)
      go_returns
      exact ⟨rfl, HU.out⟩
/-- a record stored into a block of its own -/
theorem cfg_lay {w : World} (cs : Array Value) : Blk ((w.alloc (.cells zCfg 41)).setRow w.heap.size cs) w.heap.size cs 41 := Blk.row (Blk.new w zCfg 41) cs
theorem lines_count (s : Txt) : (parseF s).2.1.length ≤ 900000 := by
  unfold parseF
  split
  · simp
  · rename_i hl
    split
    · rename_i st hr
      have h1 : (linesF s).length ≤ 90000 := by
        have := spc_len 10 s
        unfold linesF
        split
        · simp
        · split
          · rw [List.length_dropLast]; omega
          · omega
      have key : ∀ (ls : List Txt) (s0 s1 : PSt) (i N : Nat), Sz s0 N → readF s0 i ls = .ok s1 → Sz s1 (N + ls.length) := by
        intro ls
        induction ls with
        | nil => intro s0 s1 i N h h'; cases h'; exact h
        | cons l r ih =>
          intro s0 s1 i N h h'
          rw [readF] at h'
          split at h'
          · rename_i s2 h2
            have := ih s2 s1 (i + 1) (N + 1) (h.line h2) h'
            rw [List.length_cons, show N + (r.length + 1) = N + 1 + r.length by omega]
            exact this
          · cases h'
      have := (key _ _ _ _ 0 ⟨by simp [pst0, cfg0], by simp [pst0, cfg0], by simp [pst0, cfg0], by simp [pst0, cfg0], by simp [pst0, cfg0], fun t ht => (by cases ht), fun t ht => (by cases ht)⟩ hr).2.2.2.2.1
      simp only
      omega
    · simp
set_option maxRecDepth 100000 in
set_option maxHeartbeats 4000000 in
theorem reads_v (s : ByteArray) (w : World) (hs : s.size ≤ maxLen) (hE : Env w) : Calls Tryz.prog 4 #[.string s] w (AwP w) := by
  unfold maxLen at hs
  have hok := parse_okC s.data.toList
  have hct := lines_count s.data.toList
  have hp1 := fun w0 (h0 : Env w0) => parse_is s.data.toList w0 h0
  have hp2 := fun w0 => rparse_is s.data.toList w0
  rw [B_data] at hp1 hp2
  obtain ⟨c, es, at', er, hpf⟩ : ∃ c es at' er, parseF s.data.toList = (c, es, at', er) := ⟨_, _, _, _, rfl⟩
  rw [hpf] at hok hct
  have HE := Lib.hid (And.intro hE (And.intro hpf (And.intro hok hct)))
  clear hE hpf hok hct
  by_cases hbig : (s.size : Int) > 66000
  · go_enter Tryz.func4, Tryz.ntmps4
    go_wp2_with (go_at_call 9; refine (awake_is _ HE.out.1).mono ?_; rintro e w2 ⟨rfl, hb2⟩; have H2 := Lib.hid hb2; clear hb2)
    go_ret
    exact ⟨rfl, H2.out⟩
  · have d1 : decide ((s.size : Int) > 66000) = false := decide_eq_false hbig
    clear hbig
    go_enter Tryz.func4, Tryz.ntmps4
    go_upto_region 5 with (first
      | (go_at_call 14; refine (hp1 _ HE.out.1).mono ?_; intro e w2 hP; obtain ⟨a1, c1, a2, c2, a3, c3, a4, c4, a5, c5, rfl, hC, hR, hb2⟩ := hP.op HE.out.2.1; have H2 := Lib.hid (And.intro hb2 (And.intro hC hR)); clear hP hC hR hb2 hp1)
      | (refine wpList_store_row rfl 41 (.tmp 3) (.tmp 19) rfl w2.heap.size #[.slice a1 c.tasks.length c1, .slice a2 c.best.length c2, .slice a3 c.mtx.length c3, .slice a4 c.gaps.length c4, .int .i64 c.frames, .int .i64 c.dog] rfl rfl 41 zCfg (Blk.new w2 _ _) infoCfg rfl (by simp [Value.oneCell']) ?_)
      | (go_at_call 15; refine (hp2 _).mono ?_; intro e w3 hP; obtain ⟨a6, c6, a7, c7, a8, c8, a9, c9, a10, c10, rfl, hC, hR, hb3⟩ := hP.op HE.out.2.1; have H3 := Lib.hid (And.intro hb3 (And.intro hC hR)); clear hP hC hR hb3 hp2)
      | (refine wpList_store_row rfl 41 (.tmp 7) (.tmp 26) rfl w3.heap.size #[.slice a6 c.tasks.length c6, .slice a7 c.best.length c7, .slice a8 c.mtx.length c8, .slice a9 c.gaps.length c9, .int .i64 c.frames, .int .i64 c.dog] rfl rfl 41 zCfg (Blk.new w3 _ _) infoCfg rfl (by simp [Value.oneCell']) ?_))
    obtain ⟨⟨tq, eq, tb, bb, mb, gb, hC1⟩, ⟨eb, hR1, hlo1⟩⟩ := H2.out.2
    obtain ⟨⟨tq', eq', tb', bb', mb', gb', hC2⟩, ⟨eb', hR2, hlo2⟩⟩ := H3.out.2
    have hw3 := H3.out.1
    have hbl2 := new_row_bel w2 zCfg #[.slice a1 c.tasks.length c1, .slice a2 c.best.length c2, .slice a3 c.mtx.length c3, .slice a4 c.gaps.length c4, .int .i64 c.frames, .int .i64 c.dog] 41
    have hbl3 := new_row_bel w3 zCfg #[.slice a6 c.tasks.length c6, .slice a7 c.best.length c7, .slice a8 c.mtx.length c8, .slice a9 c.gaps.length c9, .int .i64 c.frames, .int .i64 c.dog] 41
    have hk2 := cfg_lay (w := w2) #[.slice a1 c.tasks.length c1, .slice a2 c.best.length c2, .slice a3 c.mtx.length c3, .slice a4 c.gaps.length c4, .int .i64 c.frames, .int .i64 c.dog]
    have hk3 := cfg_lay (w := w3) #[.slice a6 c.tasks.length c6, .slice a7 c.best.length c7, .slice a8 c.mtx.length c8, .slice a9 c.gaps.length c9, .int .i64 c.frames, .int .i64 c.dog]
    generalize (w2.alloc (.cells zCfg 41)).setRow w2.heap.size #[.slice a1 c.tasks.length c1, .slice a2 c.best.length c2, .slice a3 c.mtx.length c3, .slice a4 c.gaps.length c4, .int .i64 c.frames, .int .i64 c.dog] = W2 at *
    generalize (w3.alloc (.cells zCfg 41)).setRow w3.heap.size #[.slice a6 c.tasks.length c6, .slice a7 c.best.length c7, .slice a8 c.mtx.length c8, .slice a9 c.gaps.length c9, .int .i64 c.frames, .int .i64 c.dog] = W3 at *
    have hb23 : Below W2.heap.size W2 W3 := hw3.trans (hbl3.mono hw3.size)
    have hb2 : Below w2.heap.size w2 W3 := hbl2.trans (hb23.mono hbl2.size)
    have r2 := (Blk.below hb23 hk2 hk2.lt).rd
    have r3 := hk3.rd
    have hg1 := (hC1.rd HE.out.2.2.1.u).below hb2
    have hg2 := (hC2.rd HE.out.2.2.1.u).below hbl3
    obtain ⟨x1, x2, hv1, he1⟩ := (hR1.below hb2).rdc
    obtain ⟨x3, x4, hv2, he2⟩ := (hR2.below hbl3).rdc
    simp only [Value.slice.injEq, true_and] at hv1 hv2
    obtain ⟨rfl, rfl⟩ := hv1
    obtain ⟨rfl, rfl⟩ := hv2
    have hsc := sameC_is hg1 hg2
    obtain ⟨ne, hne⟩ : ∃ ne, es.length = ne := ⟨_, rfl⟩
    have hR1' := hR1.below hb2
    rw [hne] at hR1'
    have HW := Lib.hid (And.intro (H2.out.1.trans (hb2.mono H2.out.1.size)) (And.intro he1 (And.intro he2 (And.intro hne (And.intro hR1' (And.intro hlo1 H2.out.1.size))))))
    rw [hne]
    clear hC1 hR1 hlo1 hC2 hR2 hlo2 hw3 hbl2 hbl3 hk2 hk3 hb23 hb2 hg1 hg2 he1 he2 hR1' hne
    go_wp2_with (first
      | (go_at_call 16; refine hsc.mono ?_; rintro e w5 ⟨rfl, hb5⟩; have H5 := Lib.hid (And.intro (HW.out.1.trans (hb5.mono HW.out.1.size)) (And.intro (HW.out.2.2.2.2.1.below hb5) (And.intro (HW.out.2.1.below hb5) (HW.out.2.2.1.below hb5)))); clear hb5 hsc)
      | (go_at_call 17; refine (sameE_is (es := es) ne c5 c10 H5.out.2.2.1 H5.out.2.2.2 HW.out.2.2.2.1 (by have h1 := HW.out.2.2.2.1; have h2 : es.length ≤ 900000 := HE.out.2.2.2; unfold maxLen; omega)).mono ?_; rintro e w6 ⟨rfl, q, rfl⟩)
      | (go_at_call 12; refine (num_is _ _).mono ?_; rintro e w7 ⟨rfl, rfl⟩)
      | (go_at_call 18; refine (overV_is (H5.out.2.1.below (bel_drewN w5 q)) (by have h1 := HW.out.2.2.2.1; have h2 : es.length ≤ 900000 := HE.out.2.2.2; omega)).mono ?_; rintro e w8 ⟨rfl, hu8⟩; have H8 := Lib.hid ((H5.out.1.trans ((bel_drewN w5 q).mono H5.out.1.size)).trans (hu8.below (by have := H5.out.1.size; simpa using this) (fun k hk => HW.out.2.2.2.2.2.1 k hk))); clear hu8)
      | (go_at_call 9; refine (awake_is _ (HE.out.1.bel H8.out)).mono ?_; rintro e w9 ⟨rfl, hb9⟩; have H9 := Lib.hid hb9; clear hb9))
    go_ret
    exact ⟨rfl, H8.out.trans (H9.out.mono H8.out.size)⟩
end Go.Proofs.YtefaaginedideaaGreatDoor
