/-
  The document's vfs: Walk, parent, Mkdir, Unlink, Rmdir, Link, Stat.
-/
import Derived.Test.YtchnjfmimpikcaaGreatDoorQRe
import Derived.Test.YtchnjfmimpikcaaGreatDoorVLst
namespace Go.Proofs.YtchnjfmimpikcaaGreatDoor
set_option linter.unusedSimpArgs false
set_option linter.unusedVariables false
open Go.RowKit Own RegC Three Two
open RegJ hiding Up
open RegF hiding put_size
open Go.Lib hiding intOf

/-- the document's vfs -/
structure RV (w : World) (O : Nat → Prop) (vb rb sb n N : Nat) (ns : NSt) : Prop where
  blk : Blk w vb #[.pointer (some ⟨rb, 0, none⟩), .pointer (some ⟨sb, 0, none⟩)] 105
  ovb : O vb
  tab : QO w O rb sb n N ns
/-- all but the vfs' own block -/
def Ov (O : Nat → Prop) (vb : Nat) (k : Nat) : Prop := O k ∧ k ≠ vb
section
variable {w w' w1 : World} {O O' F : Nat → Prop} {vb rb sb n N N' c : Nat} {ns ns' : NSt}
theorem QO.but (h : QO w O rb sb n N ns) {vb : Nat} {cs : Array Value} (hb : Blk w vb cs 105) : QO w (Ov O vb) rb sb n N ns := by
  obtain ⟨vs, h⟩ := h
  refine ⟨vs, ⟨h.tab, h.sto.only.mono (fun k hk _ => ⟨hk.1, fun e => hb.sty (by decide) (e ▸ hk.2)⟩), fun i nd hi => ?_, h.nil', h.far, ⟨h.orb, fun e => h.tab.neT hb (by decide) e⟩⟩⟩
  obtain ⟨⟨b, h1, h2⟩, h3⟩ := h.row i nd hi
  exact ⟨⟨b, h1, fun g hg => ⟨h2 g hg, fun e => by obtain ⟨cs', q⟩ := h1.blk g hg; exact q.neT hb (by decide) e⟩⟩, h3⟩
theorem RV.upd (h : RV w O vb rb sb n N ns) (hu : Upd F w w') (hF : ∀ k, O k → ¬ F k) : RV w' O vb rb sb n N ns := ⟨Blk.upd hu h.blk (hF _ h.ovb), h.ovb, h.tab.upd hu hF⟩
theorem RV.below (h : RV w O vb rb sb n N ns) (hB : Below w.heap.size w w') : RV w' O vb rb sb n N ns := ⟨Blk.below hB h.blk h.blk.lt, h.ovb, h.tab.below hB⟩
theorem RV.mono (h : RV w O vb rb sb n N ns) (ho : ∀ k, O k → k < w.heap.size → O' k) : RV w O' vb rb sb n N ns := ⟨h.blk, ho _ h.ovb h.blk.lt, h.tab.mono ho⟩
theorem RV.le (h : RV w O vb rb sb n N ns) (hN : N ≤ N') : RV w O vb rb sb n N' ns := ⟨h.blk, h.ovb, h.tab.le hN⟩
/-- a step of the table's -/
theorem RV.step (h : RV w O vb rb sb n N ns) (hP : QP w (Ov O vb) rb sb n N' ns' w') : RV w' (nx w w' O) vb rb sb n N' ns' ∧ Upd O w w' :=
  ⟨⟨Blk.upd hP.2 h.blk (fun e => e.2 rfl), nx_old h.ovb (Nat.lt_of_lt_of_le h.blk.lt hP.2.size), hP.1.mono (fun k hk _ => ⟨hk.1.imp (fun h => h.1) (fun h => h), hk.2⟩)⟩, hP.2.mono (fun k _ e => e.1)⟩
/-- behind a call at it -/
def VP (w : World) (O : Nat → Prop) (vb rb sb n N : Nat) (ns' : NSt) (v : Value) (e : Ending) (w' : World) : Prop := e = .returned v ∧ RV w' (nx w w' O) vb rb sb n N ns' ∧ Upd O w w'
theorem RV.tb (h : RV w O vb rb sb n N ns) : QO w (Ov O vb) rb sb n N ns := h.tab.but h.blk
theorem VP.mk (h : RV w O vb rb sb n N ns) (hB : Below w.heap.size w w1) {v : Value} {e : Ending} (he : e = .returned v) (hP : QP w1 (Ov O vb) rb sb n N' ns' w') : VP w O vb rb sb n N' ns' v e w' :=
  ⟨he, (h.step (QP.ahead hB hP)).1, (h.step (QP.ahead hB hP)).2⟩
theorem VP.same (h : RV w O vb rb sb n N ns) (hB : Below w.heap.size w w') {v : Value} {e : Ending} (he : e = .returned v) (hN : N ≤ N') : VP w O vb rb sb n N' ns v e w' :=
  ⟨he, ((h.below hB).mono (fun k hk hl => ⟨Or.inl hk, hl⟩)).le hN, (Upd.of_below (F := fun _ => False) hB).mono (fun _ _ h => h.elim)⟩
theorem RV.c0 (h : RV w O vb rb sb n N ns) : w.cell? ⟨vb, 0, none⟩ = some (.pointer (some ⟨rb, 0, none⟩)) := h.blk.rd 0
theorem RV.c1 (h : RV w O vb rb sb n N ns) : w.cell? ⟨vb, 1, none⟩ = some (.pointer (some ⟨sb, 0, none⟩)) := h.blk.rd 1
theorem qfind_is (h : QO w O rb sb n N ns) (hV : IV ns c) (d : Int) (nm : Txt) (f1 f2 : Int) (hf : findR ns d nm = (f1, f2)) : Calls Tryz.prog 94 #[.pointer (some ⟨rb, 0, none⟩), .int .i64 d, .string (B nm)] w fun e w' => e = .returned (.tuple #[.int .i64 f1, .int .i64 f2]) ∧ w = w' := by
  unfold findR at hf
  cases hd : dirAt ns d with
  | none =>
    rw [hd] at hf; cases hf
    obtain ⟨vs, hT⟩ := h
    exact rFind_no hT d nm hd
  | some nd =>
    rw [hd] at hf
    simp only at hf
    obtain ⟨i, rfl, hi, hdir⟩ := dirAt_some hd
    have hS := hV.srt i nd hi
    obtain ⟨vs, hT⟩ := h
    refine (rFind_yes hT i nm nd hi hdir).mono ?_
    rintro e w' ⟨⟨k, y, hy, rfl, rfl⟩ | ⟨hno, rfl⟩, rfl⟩
    · rw [fnd_yes hS hy] at hf
      cases hf
      exact ⟨rfl, rfl⟩
    · have : fndE nd.es nm = none := by
        unfold fndE
        rw [Option.map_eq_none_iff, List.find?_eq_none]
        intro x hx hd
        exact hno x hx (by simpa using hd)
      rw [this] at hf
      cases hf
      exact ⟨rfl, rfl⟩
set_option maxRecDepth 100000 in
theorem vwalk_is (h : RV w O vb rb sb n N ns) (hV : IV ns c) (l : Txt) (hl : l.length ≤ 100000) (r1 r2 : Int) (hr : walkR ns l = (r1, r2)) :
    Calls Tryz.prog 64 #[.pointer (some ⟨vb, 0, none⟩), .string (B l)] w fun e w' => e = .returned (.tuple #[.int .i64 r1, .int .i64 r2]) ∧ Below w.heap.size w w' := by
  have hs := rsplit_is l w hl
  obtain ⟨m, hn⟩ : ∃ m, (splitL l).length = m := ⟨_, rfl⟩
  obtain ⟨E, hE⟩ : ∃ E, splitE l = E := ⟨_, rfl⟩
  have hn6 := splitL_len l
  rw [hn] at hn6
  unfold walkR at hr
  have H := Lib.hid (And.intro h hV)
  have HN := Lib.hid hn
  have HE := Lib.hid hE
  by_cases hE0 : E = 0
  · subst hE0
    rw [if_pos hE] at hr
    have HR := Lib.hid hr
    clear h hV hl hr hn hE
    go_enter Tryz.func64, Tryz.ntmps64
    go_wp2_with (go_at_call 102; refine hs.mono ?_; intro e w1 hq; obtain ⟨a, c, b, rfl, hTx, hb, hB⟩ := hq.at HN.out HE.out; have H1 := Lib.hid (And.intro hTx hB); clear hs hTx hB hq hb)
    go_loopw [7, 8, 9] (fun v7 v8 v9 wr => ∃ (i : Nat) (id : Int), i ≤ m ∧ v9 = .int .i64 i ∧ v8 = .int .i64 id ∧ v7 = .int .i64 0 ∧ Hid (walkL ns id ((splitL l).drop i) = (r1, r2)) ∧ Below w1.heap.size w1 wr) (fun _ _ v9 _ => m - (intOf v9).toNat)
    case atStart => exact ⟨0, 0, Nat.zero_le _, rfl, rfl, rfl, Lib.hid HR.out, Below.refl _ _⟩
    case round =>
      obtain ⟨i, id, hi, rfl, rfl, rfl, HW, hBr⟩ := hrel
      have hBw : Below w.heap.size w wr := H1.out.2.trans (hBr.mono H1.out.2.size)
      by_cases hil : i < m
      · obtain ⟨x, hx⟩ : ∃ x, (splitL l)[i]? = some x := ⟨_, List.getElem?_eq_getElem (by rw [HN.out]; exact hil)⟩
        obtain ⟨g, o, rfl, k0⟩ := (RdT.below H1.out.1.rd hBr) i x hx
        have d1 : decide ((i : Int) < (m : Int)) = true := by simp; omega
        have i1 : (i : Int) < (m : Int) := by omega
        have i2 : (0 : Int) ≤ i := by omega
        have hdr : (splitL l).drop i = x :: (splitL l).drop (i + 1) := by
          obtain ⟨h1, h2⟩ := List.getElem?_eq_some_iff.1 hx
          rw [List.drop_eq_getElem_cons h1, h2]
        obtain ⟨f1, f2, hf⟩ : ∃ f1 f2, findR ns id x = (f1, f2) := ⟨_, _, rfl⟩
        have c1 := (H.out.1.below hBw).c0
        have hfi := fun q => qfind_is ((H.out.1.below hBw).below (below_dn (Below.refl wr.heap.size wr) q)).tab H.out.2 id x f1 f2 hf
        have hW := HW.out
        rw [hdr] at hW
        unfold walkL at hW
        rw [hf] at hW
        simp only at hW
        have HBB := Lib.hid (And.intro hBr hBw)
        clear hx hdr hf HW hBr hBw
        generalize B x = sx at *
        go_upto_region 8 with (fail)
        go_quiet ((go_at_call 94; exact Calls.quiet_of_same ((hfi _).mono fun e w2 ⟨h1, h2⟩ => ⟨h1, h2.symm⟩)))
        by_cases hf0 : f2 = 0
        · subst hf0
          rw [if_pos rfl] at hW
          have HW := Lib.hid hW
          clear hW
          go_wp2_with (fail)
          go_roundw
          case rel => exact ⟨i + 1, f1, by omega, by go_num, rfl, rfl, Lib.hid HW.out, below_dn HBB.out.1 _⟩
          case measure => simp [intOf]; omega
        · rw [if_neg hf0] at hW
          have e1 : (f2 != 0) = true := by simpa using hf0
          have HW := Lib.hid hW
          clear hW hf0
          go_wp2_with (fail)
          go_returns
          have := HW.out
          cases this
          exact ⟨rfl, below_dn HBB.out.2 _⟩
      · have hie : i = m := by omega
        subst hie
        have d1 : decide ((i : Int) < (i : Int)) = false := by simp
        have hW := HW.out
        rw [List.drop_of_length_le (by rw [HN.out]; omega)] at hW
        unfold walkL at hW
        have HW2 := Lib.hid (And.intro hW hBw)
        clear hW hBw
        go_wp2_with (fail)
        go_returns
        have := HW2.out.1
        cases this
        exact ⟨rfl, HW2.out.2⟩
  · rw [if_neg (by rw [hE]; exact hE0)] at hr
    rw [hE] at hr
    have e1 : (E != 0) = true := by simpa using hE0
    cases hr
    clear h hV hl hn hE H hE0
    go_enter Tryz.func64, Tryz.ntmps64
    go_wp2_with (go_at_call 102; refine hs.mono ?_; intro e w1 hq; obtain ⟨a, c, b, rfl, hTx, hb, hB⟩ := hq.at HN.out HE.out; have H1 := Lib.hid hB; clear hs hTx hB hq hb)
    go_returns
    exact ⟨rfl, H1.out⟩
end
end Go.Proofs.YtchnjfmimpikcaaGreatDoor
/-
  The document's vfs: parent, Mkdir, Unlink, Rmdir, Link, Stat, Open.
-/
namespace Go.Proofs.YtchnjfmimpikcaaGreatDoor
set_option linter.unusedSimpArgs false
set_option linter.unusedVariables false
open Go.RowKit Own RegC Three Two
open RegJ hiding Up
open RegF hiding put_size
open Go.Lib hiding intOf

section
variable {w w' w1 : World} {O O' F : Nat → Prop} {vb rb sb n N N' c : Nat} {ns ns' : NSt}
/-- steps one behind the other -/
def St2 (w : World) (O : Nat → Prop) (vb rb sb n N : Nat) (ns : NSt) (w' : World) : Prop := RV w' (nx w w' O) vb rb sb n N ns ∧ Upd O w w'
theorem St2.trans {a b : World} (h : Upd O w a) (k : St2 a (nx w a O) vb rb sb n N ns b) : St2 w O vb rb sb n N ns b :=
  ⟨k.1.mono (fun q hq _ => nx_trans h.size q hq), h.trans k.2 (fun q hq h => h.1.elim (fun h => h) (fun h => by omega))⟩
theorem VP.chain {v : Value} {e : Ending} (h : RV w O vb rb sb n N' ns') (hB : Below w.heap.size w w1) (he : e = .returned v) (hS : St2 w1 O vb rb sb n N ns w') : VP w O vb rb sb n N ns v e w' :=
  ⟨he, hS.1.mono (fun k hk _ => ⟨hk.1.imp (fun h => h) (fun h => by have := hB.size; omega), hk.2⟩), (Upd.of_below (F := O) hB).trans hS.2 (fun _ _ h => h)⟩
theorem VP.seq3 {a b d : World} (h1 : Upd O w a) (h2 : Upd (nx w a O) a b) (h3 : St2 b (nx a b (nx w a O)) vb rb sb n N ns d) : St2 w O vb rb sb n N ns d := St2.trans h1 (St2.trans h2 h3)
theorem qdir_is (h : QO w O rb sb n N ns) (id : Int) (b : Bool) (hb : isDirF ns id = b) : Calls Tryz.prog 87 #[.pointer (some ⟨rb, 0, none⟩), .int .i64 id] w fun e w' => e = .returned (.bool b) ∧ w = w' := by
  obtain ⟨vs, hT⟩ := h
  have := rDir_is hT id
  rw [← isDirF_dirAt, hb] at this
  exact this
set_option maxRecDepth 100000 in
theorem vpar_err (h : RV w O vb rb sb n N ns) (hV : IV ns c) (l : Txt) (hl : l.length ≤ 100000) (E : Int) (hE : parEr ns l = E) (hE0 : E ≠ 0) :
    Calls Tryz.prog 90 #[.pointer (some ⟨vb, 0, none⟩), .string (B l)] w fun e w' => e = .returned (.tuple #[.int .i64 0, .string ⟨#[]⟩, .int .i64 E]) ∧ Below w.heap.size w w' := by
  have hp := rpar_is l w hl
  unfold ParV at hp
  unfold parEr at hE
  have hdl := parD_len l
  by_cases h1 : parE l = 0
  · rw [if_pos h1] at hE
    rw [h1] at hp
    have HV := Lib.hid (And.intro h hV)
    obtain ⟨r1, hr1⟩ : ∃ r1, walkR ns (parD l) = (r1, E) := ⟨_, Prod.ext rfl hE⟩
    have HD := Lib.hid (And.intro hdl hr1)
    have e1 : (E != 0) = true := by simpa using hE0
    clear h hV hl hE h1 hdl hr1 hE0
    generalize hB1 : B (parN l) = bn at *
    generalize hB2 : B (parD l) = bd at *
    have HB := Lib.hid hB2
    clear hB1 hB2
    go_enter Tryz.func90, Tryz.ntmps90
    go_wp2_with (first
      | (go_at_call 116; (with_reducible refine hp.mono ?_); rintro e w1 ⟨rfl, hB⟩; have hwk := vwalk_is (HV.out.1.below hB) HV.out.2 (parD l) HD.out.1 r1 E HD.out.2; rw [HB.out] at hwk; have H1 := Lib.hid hB; clear hp hB)
      | (go_at_call 64; (with_reducible refine hwk.mono ?_); rintro e w2 ⟨rfl, hB⟩; have H2 := Lib.hid (H1.out.trans (hB.mono H1.out.size)); clear hwk hB))
    go_ret3
    exact ⟨rfl, H2.out⟩
  · rw [if_neg h1] at hE
    rw [hE] at hp
    have e1 : (E != 0) = true := by simpa using hE0
    clear h hV hl hE h1 hdl hE0
    generalize B (parN l) = bn at *
    generalize B (parD l) = bd at *
    go_enter Tryz.func90, Tryz.ntmps90
    go_wp2_with (go_at_call 116; (with_reducible refine hp.mono ?_); rintro e w1 ⟨rfl, hB⟩; have H1 := Lib.hid hB; clear hp hB)
    go_ret3
    exact ⟨rfl, H1.out⟩
set_option maxRecDepth 100000 in
theorem vpar_ok (h : RV w O vb rb sb n N ns) (hV : IV ns c) (l : Txt) (hl : l.length ≤ 100000) (hE : parEr ns l = 0) :
    Calls Tryz.prog 90 #[.pointer (some ⟨vb, 0, none⟩), .string (B l)] w fun e w' => e = .returned (.tuple #[.int .i64 (parDi ns l), .string (B (parN l)), .int .i64 0]) ∧ Below w.heap.size w w' := by
  have hp := rpar_is l w hl
  unfold ParV at hp
  unfold parEr at hE
  have hdl := parD_len l
  by_cases h1 : parE l = 0
  · rw [if_pos h1] at hE
    rw [h1] at hp
    have HV := Lib.hid (And.intro h hV)
    have hr1 : walkR ns (parD l) = (parDi ns l, 0) := Prod.ext rfl hE
    have HD := Lib.hid (And.intro hdl hr1)
    clear h hV hl hE h1 hdl hr1
    generalize parDi ns l = D at *
    generalize hB1 : B (parN l) = bn at *
    generalize hB2 : B (parD l) = bd at *
    have HB := Lib.hid hB2
    clear hB1 hB2
    go_enter Tryz.func90, Tryz.ntmps90
    go_wp2_with (first
      | (go_at_call 116; (with_reducible refine hp.mono ?_); rintro e w1 ⟨rfl, hB⟩; have hwk := vwalk_is (HV.out.1.below hB) HV.out.2 (parD l) HD.out.1 D 0 HD.out.2; rw [HB.out] at hwk; have H1 := Lib.hid hB; clear hp hB)
      | (go_at_call 64; (with_reducible refine hwk.mono ?_); rintro e w2 ⟨rfl, hB⟩; have H2 := Lib.hid (H1.out.trans (hB.mono H1.out.size)); clear hwk hB))
    go_ret3
    exact ⟨rfl, H2.out⟩
  · rw [if_neg h1] at hE; exact absurd hE h1
/-- at the directory of the last name -/
theorem vmkdir_is (h : RV w O vb rb sb n N ns) (hV : IV ns c) (hc : c ≤ 9000) (hN : N ≤ 890) (l : Txt) (hl : l.length ≤ 100000) (r : Int) (ns' : NSt) (hr : atPar ns l (mkdirF ns) = (r, ns')) :
    Calls Tryz.prog 58 #[.pointer (some ⟨vb, 0, none⟩), .string (B l)] w (VP w O vb rb sb n (N + 1) ns' (.int .i64 r)) := by
  unfold atPar at hr
  have H := Lib.hid (And.intro h hV)
  by_cases hE : parEr ns l = 0
  · rw [if_pos hE] at hr
    have hp := vpar_ok h hV l hl hE
    generalize parDi ns l = D at *
    obtain ⟨nm, hnm⟩ : ∃ nm, parN l = nm := ⟨_, rfl⟩
    rw [hnm] at hp hr
    unfold mkdirF at hr
    obtain ⟨f1, f2, hf⟩ : ∃ f1 f2, findR ns D nm = (f1, f2) := ⟨_, _, rfl⟩
    rw [hf] at hr
    simp only at hr
    have hfi : ∀ w1, Below w.heap.size w w1 → Calls Tryz.prog 94 #[.pointer (some ⟨rb, 0, none⟩), .int .i64 D, .string (B nm)] w1 fun e w' => e = .returned (.tuple #[.int .i64 f1, .int .i64 f2]) ∧ w1 = w' := fun w1 hB => qfind_is (H.out.1.below hB).tab H.out.2 D nm f1 f2 hf
    have hc0 : ∀ w1, Below w.heap.size w w1 → w1.cell? ⟨vb, 0, none⟩ = some (.pointer (some ⟨rb, 0, none⟩)) := fun w1 hB => (H.out.1.below hB).c0
    by_cases h0 : f2 = 0
    · subst h0
      rw [if_pos rfl] at hr
      cases hr
      clear h hV hl hE hnm hf
      generalize B nm = s at *
      generalize B l = sl at *
      go_enter Tryz.func58, Tryz.ntmps58
      go_wp2_with (first
        | (go_at_call 90; (with_reducible refine hp.mono ?_); rintro e w1 ⟨rfl, hB⟩; have hf1 := hfi w1 hB; have c0 := hc0 w1 hB; have H1 := Lib.hid hB; clear hp hB hfi hc0)
        | (go_at_call 94; (with_reducible refine hf1.mono ?_); rintro e w2 ⟨rfl, rfl⟩; clear hf1))
      go_ret
      exact VP.same H.out.1 H1.out rfl (by omega)
    · rw [if_neg h0] at hr
      have n0 : (f2 == 0) = false := by simpa using h0
      by_cases h11 : f2 = 11
      · subst h11
        rw [if_pos rfl] at hr
        cases hr
        clear h hV hl hE hnm hf h0
        generalize B nm = s at *
        generalize B l = sl at *
        go_enter Tryz.func58, Tryz.ntmps58
        go_wp2_with (first
          | (go_at_call 90; (with_reducible refine hp.mono ?_); rintro e w1 ⟨rfl, hB⟩; have hf1 := hfi w1 hB; have c0 := hc0 w1 hB; have H1 := Lib.hid hB; clear hp hB hfi hc0)
          | (go_at_call 94; (with_reducible refine hf1.mono ?_); rintro e w2 ⟨rfl, rfl⟩; clear hf1))
        go_ret
        exact VP.same H.out.1 H1.out rfl (by omega)
      · rw [if_neg h11] at hr
        have n11 : (f2 == 11) = false := by simpa using h11
        have hroot : ns 0 ≠ none := by have := hV.root; unfold Rt at this; intro e; rw [e] at this; cases this
        obtain ⟨nd, hd⟩ : ∃ nd, dirAt ns D = some nd := by
          cases hd : dirAt ns D with
          | none => unfold findR at hf; rw [hd] at hf; cases hf; exact absurd rfl h11
          | some nd => exact ⟨nd, rfl⟩
        obtain ⟨i0, rfl, hi0, hdir⟩ := dirAt_some hd
        unfold madeF at hr
        rw [hd] at hr
        simp only [Int.toNat_natCast] at hr
        cases hff : freeF ns with
        | none =>
          rw [hff] at hr
          simp only at hr
          rw [if_neg (by decide)] at hr
          cases hr
          have hmk : ∀ w1, Below w.heap.size w w1 → Calls Tryz.prog 91 #[.pointer (some ⟨rb, 0, none⟩), .bool true] w1 fun e w' => e = .returned (.tuple #[.int .i64 0, .int .i64 15]) ∧ w1 = w' := fun w1 hB => qmk_full (H.out.1.below hB).tab (by omega) true hroot hff
          clear h hV hl hE hnm hf h0 h11 hd hi0 hdir hff hroot
          generalize B nm = s at *
          generalize B l = sl at *
          go_enter Tryz.func58, Tryz.ntmps58
          go_wp2_with (first
            | (go_at_call 90; (with_reducible refine hp.mono ?_); rintro e w1 ⟨rfl, hB⟩; have hf1 := hfi w1 hB; have hm1 := hmk w1 hB; have c0 := hc0 w1 hB; have H1 := Lib.hid hB; clear hp hB hfi hc0 hmk)
            | (go_at_call 94; (with_reducible refine hf1.mono ?_); rintro e w2 ⟨rfl, rfl⟩; clear hf1)
            | (go_at_call 91; (with_reducible refine hm1.mono ?_); rintro e w3 ⟨rfl, rfl⟩; clear hm1))
          go_ret
          exact VP.same H.out.1 H1.out rfl (by omega)
        | some i =>
          rw [hff] at hr
          simp only at hr
          obtain ⟨h16, hni⟩ := freeF_some hff
          have hne : i0 ≠ i := fun e => by rw [e, hni] at hi0; cases hi0
          obtain ⟨e1, ns2, hEn⟩ : ∃ e1 ns2, entF (nsPut ns i (some ⟨true, 0, 1, [], []⟩)) i0 nd nm i = (e1, ns2) := ⟨_, _, rfl⟩
          obtain ⟨e2, ns3, hCl⟩ : ∃ e2 ns3, closeF ns2 i = (e2, ns3) := ⟨_, _, rfl⟩
          have hV1 := hV.make h16 hni true
          have hi1 : nsPut ns i (some ⟨true, 0, 1, [], []⟩) i0 = some nd := by rw [put_ne _ _ _ hne]; exact hi0
          have hV2 := entF_iv hV1 hi1 hdir nm i
          rw [hEn] at hr hV2
          simp only at hr hV2
          have hr2 : r = e1 ∧ ns' = ns3 := by
            by_cases he : e1 = 0
            · rw [if_pos he] at hr
              simp only [if_true] at hr
              rw [hCl] at hr
              cases hr
              exact ⟨he.symm, rfl⟩
            · rw [if_neg he] at hr
              simp only at hr
              rw [if_neg he, hCl] at hr
              cases hr
              exact ⟨rfl, rfl⟩
          obtain ⟨rfl, rfl⟩ := hr2
          have hlk : ∀ m, ndAt (nsPut ns i (some ⟨true, 0, 1, [], []⟩)) (i : Int) = some m → 0 ≤ m.links ∧ m.links ≤ 100000 := fun m hm => by
            obtain ⟨k, hk, hkk⟩ := ndAt_some hm
            exact ⟨hV1.inv.links hkk, hV1.inv.bnd k m hkk⟩
          have HQ := Lib.hid (And.intro hi1 (And.intro hdir (And.intro hlk (And.intro hEn (And.intro hCl (And.intro hV1 (And.intro hV2 (And.intro hroot hff))))))))
          have HC := Lib.hid (And.intro hc hN)
          clear h hV hl hE hnm hf h0 h11 hd hi0 hdir hff hroot hr hlk hV1 hV2 hi1 hEn hCl hne hni h16 hc hN
          obtain ⟨s, hs⟩ : ∃ s, B nm = s := ⟨_, rfl⟩
          have HS := Lib.hid hs
          rw [hs] at hp hfi
          clear hs
          generalize B l = sl at *
          go_enter Tryz.func58, Tryz.ntmps58
          go_wp2_with (first
            | (go_at_call 90; (with_reducible refine hp.mono ?_); rintro e w1 ⟨rfl, hB⟩; have hf1 := hfi w1 hB; have h1 := H.out.1.below hB; have hm1 := qmk_some h1.tb (by have := HC.out.2; omega) true HQ.out.2.2.2.2.2.2.2.1 i HQ.out.2.2.2.2.2.2.2.2; have c0 := h1.c0; have H1 := Lib.hid (And.intro hB h1); clear hp hB hfi hc0 h1)
            | (go_at_call 94; (with_reducible refine hf1.mono ?_); rintro e w2 ⟨rfl, rfl⟩; clear hf1)
            | (go_at_call 91; (with_reducible refine hm1.mono ?_); rintro e w3 ⟨rfl, hP⟩; have h3 := H1.out.2.step hP; have hen := qenter_f h3.1.tb i0 i nm nd HQ.out.1 HQ.out.2.1 (HQ.out.2.2.2.2.2.1.len _ _ HQ.out.1) (HQ.out.2.2.2.2.2.1.srt _ _ HQ.out.1) HQ.out.2.2.1 _ _ HQ.out.2.2.2.1; rw [HS.out] at hen; clear c0; have c0 := h3.1.c0; have H3 := Lib.hid h3; clear hm1 hP h3)
            | (go_at_call 92; (with_reducible refine hen.mono ?_); rintro e w4 ⟨rfl, hP⟩; have h4 := H3.out.1.step hP; have hcl := qclose_f h4.1.tb (by have := HC.out.2; omega) HQ.out.2.2.2.2.2.2.1 (by have := HC.out.1; omega) i _ _ HQ.out.2.2.2.2.1; clear c0; have c0 := h4.1.c0; have H4 := Lib.hid h4; clear hen hP h4)
            | (go_at_call 61; (with_reducible refine hcl.mono ?_); rintro e w5 ⟨rfl, hP⟩; have H5 := Lib.hid (H4.out.1.step hP); clear hcl hP))
          go_ret
          exact VP.chain H.out.1 H1.out.1 rfl (VP.seq3 H3.out.2 H4.out.2 H5.out)
  · rw [if_neg hE] at hr
    cases hr
    have hp := vpar_err h hV l hl _ rfl hE
    generalize parEr ns l = E at *
    have e1 : (E != 0) = true := by simpa using hE
    clear h hV hl hE
    generalize B l = sl at *
    go_enter Tryz.func58, Tryz.ntmps58
    go_wp2_with (go_at_call 90; (with_reducible refine hp.mono ?_); rintro e w1 ⟨rfl, hB⟩; have H1 := Lib.hid hB; clear hp hB)
    go_ret
    exact VP.same H.out.1 H1.out rfl (by omega)
end
end Go.Proofs.YtchnjfmimpikcaaGreatDoor
/-
  The document's vfs: Unlink, Rmdir, Link, Stat, Open; Close and Len of its nodes, Write of its bytes.
-/
namespace Go.Proofs.YtchnjfmimpikcaaGreatDoor
set_option linter.unusedSimpArgs false
set_option linter.unusedVariables false
open Go.RowKit Own RegC Three Two
open RegJ hiding Up
open RegF hiding put_size
open Go.Lib hiding intOf

section
variable {w w' w1 : World} {O O' F : Nat → Prop} {vb rb sb n N N' c : Nat} {ns ns' : NSt}
set_option maxRecDepth 100000 in
theorem vrem_is (h : RV w O vb rb sb n N ns) (hV : IV ns c) (hN : N ≤ 890) (l : Txt) (hl : l.length ≤ 100000) (isD : Bool) (oth : Int) (ho : oth = if isD = true then 11 else 12) (r : Int) (ns' : NSt) (hr : atPar ns l (fun d nm => remF ns d nm isD oth) = (r, ns')) :
    Calls Tryz.prog 93 #[.pointer (some ⟨vb, 0, none⟩), .string (B l), .bool isD] w (VP w O vb rb sb n N ns' (.int .i64 r)) := by
  unfold atPar at hr
  have H := Lib.hid (And.intro h hV)
  by_cases hE : parEr ns l = 0
  · rw [if_pos hE] at hr
    have hp := vpar_ok h hV l hl hE
    generalize parDi ns l = D at *
    obtain ⟨nm, hnm⟩ : ∃ nm, parN l = nm := ⟨_, rfl⟩
    rw [hnm] at hp hr
    simp only at hr
    unfold remF at hr
    obtain ⟨f1, f2, hf⟩ : ∃ f1 f2, findR ns D nm = (f1, f2) := ⟨_, _, rfl⟩
    rw [hf] at hr
    simp only at hr
    have hfi : ∀ w1, Below w.heap.size w w1 → Calls Tryz.prog 94 #[.pointer (some ⟨rb, 0, none⟩), .int .i64 D, .string (B nm)] w1 fun e w' => e = .returned (.tuple #[.int .i64 f1, .int .i64 f2]) ∧ w1 = w' := fun w1 hB => qfind_is (H.out.1.below hB).tab H.out.2 D nm f1 f2 hf
    have hc0 : ∀ w1, Below w.heap.size w w1 → w1.cell? ⟨vb, 0, none⟩ = some (.pointer (some ⟨rb, 0, none⟩)) := fun w1 hB => (H.out.1.below hB).c0
    by_cases h0 : f2 = 0
    · subst h0
      rw [if_neg (by simp)] at hr
      obtain ⟨bd, hbd⟩ : ∃ bd, isDirF ns f1 = bd := ⟨_, rfl⟩
      have hdi : ∀ w1, Below w.heap.size w w1 → Calls Tryz.prog 87 #[.pointer (some ⟨rb, 0, none⟩), .int .i64 f1] w1 fun e w' => e = .returned (.bool bd) ∧ w1 = w' := fun w1 hB => qdir_is (H.out.1.below hB).tab f1 bd hbd
      rw [hbd] at hr
      by_cases hbi : bd = isD
      · rw [if_neg (by simpa using hbi)] at hr
        subst hbi
        have hrm : ∀ w1, Below w.heap.size w w1 → Calls Tryz.prog 119 #[.pointer (some ⟨rb, 0, none⟩), .int .i64 D, .string (B nm)] w1 fun e w' => e = .returned (.int .i64 r) ∧ QP w1 (Ov O vb) rb sb n N ns' w' := fun w1 hB => qremove_f (H.out.1.below hB).tb (by omega) H.out.2 D nm r ns' hr
        clear h hV hl hE hnm hf hr hN hbd ho
        generalize B nm = s at *
        generalize B l = sl at *
        cases bd with
        | true =>
          go_enter Tryz.func93, Tryz.ntmps93
          go_wp2_with (first
            | (go_at_call 90; (with_reducible refine hp.mono ?_); rintro e w1 ⟨rfl, hB⟩; have hf1 := hfi w1 hB; have hd1 := hdi w1 hB; have hm1 := hrm w1 hB; have c0 := hc0 w1 hB; have H1 := Lib.hid hB; clear hp hB hfi hc0 hdi hrm)
            | (go_at_call 94; (with_reducible refine hf1.mono ?_); rintro e w2 ⟨rfl, rfl⟩; clear hf1)
            | (go_at_call 87; (with_reducible refine hd1.mono ?_); rintro e w3 ⟨rfl, rfl⟩)
            | (go_at_call 119; (with_reducible refine hm1.mono ?_); rintro e w4 ⟨rfl, hP⟩; have H4 := Lib.hid hP; clear hm1 hP))
          go_ret
          exact VP.mk H.out.1 H1.out rfl H4.out
        | false =>
          go_enter Tryz.func93, Tryz.ntmps93
          go_wp2_with (first
            | (go_at_call 90; (with_reducible refine hp.mono ?_); rintro e w1 ⟨rfl, hB⟩; have hf1 := hfi w1 hB; have hd1 := hdi w1 hB; have hm1 := hrm w1 hB; have c0 := hc0 w1 hB; have H1 := Lib.hid hB; clear hp hB hfi hc0 hdi hrm)
            | (go_at_call 94; (with_reducible refine hf1.mono ?_); rintro e w2 ⟨rfl, rfl⟩; clear hf1)
            | (go_at_call 87; (with_reducible refine hd1.mono ?_); rintro e w3 ⟨rfl, rfl⟩)
            | (go_at_call 119; (with_reducible refine hm1.mono ?_); rintro e w4 ⟨rfl, hP⟩; have H4 := Lib.hid hP; clear hm1 hP))
          go_ret
          exact VP.mk H.out.1 H1.out rfl H4.out
      · rw [if_pos (by simpa using hbi)] at hr
        cases hr
        subst ho
        clear h hV hl hE hnm hf hN hbd
        generalize B nm = s at *
        generalize B l = sl at *
        cases bd with
        | true =>
          obtain rfl : isD = false := by cases isD; rfl; exact absurd rfl hbi
          go_enter Tryz.func93, Tryz.ntmps93
          go_wp2_with (first
            | (go_at_call 90; (with_reducible refine hp.mono ?_); rintro e w1 ⟨rfl, hB⟩; have hf1 := hfi w1 hB; have hd1 := hdi w1 hB; have c0 := hc0 w1 hB; have H1 := Lib.hid hB; clear hp hB hfi hc0 hdi)
            | (go_at_call 94; (with_reducible refine hf1.mono ?_); rintro e w2 ⟨rfl, rfl⟩; clear hf1)
            | (go_at_call 87; (with_reducible refine hd1.mono ?_); rintro e w3 ⟨rfl, rfl⟩))
          go_ret
          exact VP.same H.out.1 H1.out rfl (Nat.le_refl _)
        | false =>
          obtain rfl : isD = true := by cases isD; exact absurd rfl hbi; rfl
          go_enter Tryz.func93, Tryz.ntmps93
          go_wp2_with (first
            | (go_at_call 90; (with_reducible refine hp.mono ?_); rintro e w1 ⟨rfl, hB⟩; have hf1 := hfi w1 hB; have hd1 := hdi w1 hB; have c0 := hc0 w1 hB; have H1 := Lib.hid hB; clear hp hB hfi hc0 hdi)
            | (go_at_call 94; (with_reducible refine hf1.mono ?_); rintro e w2 ⟨rfl, rfl⟩; clear hf1)
            | (go_at_call 87; (with_reducible refine hd1.mono ?_); rintro e w3 ⟨rfl, rfl⟩))
          go_ret
          exact VP.same H.out.1 H1.out rfl (Nat.le_refl _)
    · rw [if_pos h0] at hr
      have e1 : (f2 != 0) = true := by simpa using h0
      cases hr
      clear h hV hl hE hnm hf hN h0 ho
      generalize B nm = s at *
      generalize B l = sl at *
      go_enter Tryz.func93, Tryz.ntmps93
      go_wp2_with (first
        | (go_at_call 90; (with_reducible refine hp.mono ?_); rintro e w1 ⟨rfl, hB⟩; have hf1 := hfi w1 hB; have c0 := hc0 w1 hB; have H1 := Lib.hid hB; clear hp hB hfi hc0)
        | (go_at_call 94; (with_reducible refine hf1.mono ?_); rintro e w2 ⟨rfl, rfl⟩; clear hf1))
      go_ret
      exact VP.same H.out.1 H1.out rfl (Nat.le_refl _)
  · rw [if_neg hE] at hr
    cases hr
    have hp := vpar_err h hV l hl _ rfl hE
    generalize parEr ns l = E at *
    have e1 : (E != 0) = true := by simpa using hE
    clear h hV hl hE ho
    generalize B l = sl at *
    go_enter Tryz.func93, Tryz.ntmps93
    go_wp2_with (go_at_call 90; (with_reducible refine hp.mono ?_); rintro e w1 ⟨rfl, hB⟩; have H1 := Lib.hid hB; clear hp hB)
    go_ret
    exact VP.same H.out.1 H1.out rfl (Nat.le_refl _)
theorem vunlink_is (h : RV w O vb rb sb n N ns) (hV : IV ns c) (hN : N ≤ 890) (l : Txt) (hl : l.length ≤ 100000) (r : Int) (ns' : NSt) (hr : atPar ns l (fun d nm => remF ns d nm false 12) = (r, ns')) :
    Calls Tryz.prog 57 #[.pointer (some ⟨vb, 0, none⟩), .string (B l)] w (VP w O vb rb sb n N ns' (.int .i64 r)) := by
  have hm := vrem_is h hV hN l hl false 12 rfl r ns' hr
  clear h hV hr
  generalize B l = s at *
  go_enter Tryz.func57, Tryz.ntmps57
  go_wp2_with (go_at_call 93; (with_reducible refine hm.mono ?_); rintro e w1 ⟨rfl, hP⟩; have H1 := Lib.hid hP; clear hm hP)
  go_ret
  exact ⟨rfl, H1.out⟩
theorem vrmdir_is (h : RV w O vb rb sb n N ns) (hV : IV ns c) (hN : N ≤ 890) (l : Txt) (hl : l.length ≤ 100000) (r : Int) (ns' : NSt) (hr : atPar ns l (fun d nm => remF ns d nm true 11) = (r, ns')) :
    Calls Tryz.prog 59 #[.pointer (some ⟨vb, 0, none⟩), .string (B l)] w (VP w O vb rb sb n N ns' (.int .i64 r)) := by
  have hm := vrem_is h hV hN l hl true 11 rfl r ns' hr
  clear h hV hr
  generalize B l = s at *
  go_enter Tryz.func59, Tryz.ntmps59
  go_wp2_with (go_at_call 93; (with_reducible refine hm.mono ?_); rintro e w1 ⟨rfl, hP⟩; have H1 := Lib.hid hP; clear hm hP)
  go_ret
  exact ⟨rfl, H1.out⟩
set_option maxRecDepth 100000 in
theorem vlink_is (h : RV w O vb rb sb n N ns) (hV : IV ns c) (l l2 : Txt) (hl : l.length ≤ 100000) (hl2 : l2.length ≤ 100000) (r : Int) (ns' : NSt) (hr : linkF ns l l2 = (r, ns')) :
    Calls Tryz.prog 56 #[.pointer (some ⟨vb, 0, none⟩), .string (B l), .string (B l2)] w (VP w O vb rb sb n N ns' (.int .i64 r)) := by
  unfold linkF at hr
  obtain ⟨r1, r2, hwr⟩ : ∃ r1 r2, walkR ns l = (r1, r2) := ⟨_, _, rfl⟩
  have hwk := vwalk_is h hV l hl r1 r2 hwr
  rw [hwr] at hr
  simp only at hr
  have H := Lib.hid (And.intro h hV)
  have hc0 : ∀ w1, Below w.heap.size w w1 → w1.cell? ⟨vb, 0, none⟩ = some (.pointer (some ⟨rb, 0, none⟩)) := fun w1 hB => (H.out.1.below hB).c0
  by_cases h0 : r2 = 0
  · subst h0
    rw [if_neg (by simp)] at hr
    obtain ⟨bd, hbd⟩ : ∃ bd, isDirF ns r1 = bd := ⟨_, rfl⟩
    have hdi : ∀ w1, Below w.heap.size w w1 → Calls Tryz.prog 87 #[.pointer (some ⟨rb, 0, none⟩), .int .i64 r1] w1 fun e w' => e = .returned (.bool bd) ∧ w1 = w' := fun w1 hB => qdir_is (H.out.1.below hB).tab r1 bd hbd
    rw [hbd] at hr
    cases bd with
    | true =>
      rw [if_pos rfl] at hr
      cases hr
      clear h hV hl hl2 hwr hbd
      generalize B l = s at *
      generalize B l2 = s2 at *
      go_enter Tryz.func56, Tryz.ntmps56
      go_wp2_with (first
        | (go_at_call 64; (with_reducible refine hwk.mono ?_); rintro e w1 ⟨rfl, hB⟩; have hd1 := hdi w1 hB; have c0 := hc0 w1 hB; have H1 := Lib.hid hB; clear hwk hB hc0 hdi)
        | (go_at_call 87; (with_reducible refine hd1.mono ?_); rintro e w3 ⟨rfl, rfl⟩; clear hd1))
      go_ret
      exact VP.same H.out.1 H1.out rfl (Nat.le_refl _)
    | false =>
      rw [if_neg (by simp)] at hr
      unfold atPar at hr
      by_cases hE : parEr ns l2 = 0
      · rw [if_pos hE] at hr
        have hp : ∀ w1, Below w.heap.size w w1 → Calls Tryz.prog 90 #[.pointer (some ⟨vb, 0, none⟩), .string (B l2)] w1 fun e w' => e = .returned (.tuple #[.int .i64 (parDi ns l2), .string (B (parN l2)), .int .i64 0]) ∧ Below w1.heap.size w1 w' := fun w1 hB => vpar_ok (H.out.1.below hB) H.out.2 l2 hl2 hE
        simp only at hr
        unfold linkE at hr
        have hen : ∀ w1, Below w.heap.size w w1 → Calls Tryz.prog 92 #[.pointer (some ⟨rb, 0, none⟩), .int .i64 (parDi ns l2), .string (B (parN l2)), .int .i64 r1] w1 fun e w' => e = .returned (.int .i64 r) ∧ QP w1 (Ov O vb) rb sb n N ns' w' := fun w1 hB => by
          have hb := (H.out.1.below hB).tb
          cases hd : dirAt ns (parDi ns l2) with
          | none =>
            rw [hd] at hr; cases hr
            refine (renter_nodir hb _ r1 _ hd).mono ?_
            rintro e w' ⟨rfl, rfl⟩
            exact ⟨rfl, hb.refl⟩
          | some nd =>
            rw [hd] at hr
            simp only at hr
            obtain ⟨i, hi, hni, hdir⟩ := dirAt_some hd
            rw [hi] at hr ⊢
            simp only [Int.toNat_natCast] at hr
            exact qenter_f hb i r1 _ nd hni hdir (H.out.2.len i nd hni) (H.out.2.srt i nd hni) (fun m hm => by
              obtain ⟨k, hk, hkk⟩ := ndAt_some hm
              exact ⟨H.out.2.inv.links hkk, H.out.2.inv.bnd k m hkk⟩) r ns' hr
        clear h hV hl hl2 hwr hbd hE hr
        generalize B l = s at *
        generalize B l2 = s2 at *
        generalize B (parN l2) = s3 at *
        generalize parDi ns l2 = D at *
        go_enter Tryz.func56, Tryz.ntmps56
        go_wp2_with (first
          | (go_at_call 64; (with_reducible refine hwk.mono ?_); rintro e w1 ⟨rfl, hB⟩; have hd1 := hdi w1 hB; have hp1 := hp w1 hB; have c0 := hc0 w1 hB; have H1 := Lib.hid hB; clear hwk hB hdi hp)
          | (go_at_call 87; (with_reducible refine hd1.mono ?_); rintro e w3 ⟨rfl, rfl⟩; clear hd1)
          | (go_at_call 90; (with_reducible refine hp1.mono ?_); rintro e w4 ⟨rfl, hB⟩; have hb4 := H1.out.trans (hB.mono H1.out.size); have he4 := hen w4 hb4; clear c0; have c0 := hc0 w4 hb4; have H4 := Lib.hid hb4; clear hp1 hB hb4 hen hc0)
          | (go_at_call 92; (with_reducible refine he4.mono ?_); rintro e w5 ⟨rfl, hP⟩; have H5 := Lib.hid hP; clear he4 hP))
        go_ret
        exact VP.mk H.out.1 H4.out rfl H5.out
      · rw [if_neg hE] at hr
        cases hr
        have hp : ∀ w1, Below w.heap.size w w1 → Calls Tryz.prog 90 #[.pointer (some ⟨vb, 0, none⟩), .string (B l2)] w1 fun e w' => e = .returned (.tuple #[.int .i64 0, .string ⟨#[]⟩, .int .i64 (parEr ns l2)]) ∧ Below w1.heap.size w1 w' := fun w1 hB => vpar_err (H.out.1.below hB) H.out.2 l2 hl2 _ rfl hE
        generalize parEr ns l2 = E at *
        have e1 : (E != 0) = true := by simpa using hE
        clear h hV hl hl2 hwr hbd hE
        generalize B l = s at *
        generalize B l2 = s2 at *
        go_enter Tryz.func56, Tryz.ntmps56
        go_wp2_with (first
          | (go_at_call 64; (with_reducible refine hwk.mono ?_); rintro e w1 ⟨rfl, hB⟩; have hd1 := hdi w1 hB; have hp1 := hp w1 hB; have c0 := hc0 w1 hB; have H1 := Lib.hid hB; clear hwk hB hdi hp)
          | (go_at_call 87; (with_reducible refine hd1.mono ?_); rintro e w3 ⟨rfl, rfl⟩; clear hd1)
          | (go_at_call 90; (with_reducible refine hp1.mono ?_); rintro e w4 ⟨rfl, hB⟩; have H4 := Lib.hid (H1.out.trans (hB.mono H1.out.size)); clear hp1 hB))
        go_ret
        exact VP.same H.out.1 H4.out rfl (Nat.le_refl _)
  · rw [if_pos h0] at hr
    have e1 : (r2 != 0) = true := by simpa using h0
    cases hr
    clear h hV hl hl2 hwr h0
    generalize B l = s at *
    generalize B l2 = s2 at *
    go_enter Tryz.func56, Tryz.ntmps56
    go_wp2_with (go_at_call 64; (with_reducible refine hwk.mono ?_); rintro e w1 ⟨rfl, hB⟩; have H1 := Lib.hid hB; clear hwk hB hc0)
    go_ret
    exact VP.same H.out.1 H1.out rfl (Nat.le_refl _)
set_option maxRecDepth 100000 in
theorem vstat_no (h : RV w O vb rb sb n N ns) (hV : IV ns c) (hN : N ≤ 1000) (l : Txt) (hl : l.length ≤ 100000) (a e0 : Int) (hw : walkR ns l = (a, e0)) (he : e0 ≠ 0) :
    Calls Tryz.prog 63 #[.pointer (some ⟨vb, 0, none⟩), .string (B l)] w fun e w' => e = .returned (.tuple #[.agg in0, .int .i64 e0]) ∧ Below w.heap.size w w' := by
  have hB0 : Below w.heap.size w (w.alloc (.cells in0 36)) := (Below.refl _ _).alloc (Nat.le_refl _) _
  have hb0 := Blk.new w in0 36
  have hwk := vwalk_is (h.below hB0) hV l hl a e0 hw
  unfold in0 at *
  have H := Lib.hid (And.intro hB0 hb0)
  clear h hV hN hB0 hl hw hb0
  generalize B l = L at *
  go_enter Tryz.func63, Tryz.ntmps63
  go_wp2_with (go_at_call 64; (with_reducible refine hwk.mono ?_); rintro e w1 ⟨rfl, hB⟩; have hk1 := Blk.below hB H.out.2 H.out.2.lt; have c1 := hk1.rd; have f1 := hk1.nf; have H1 := Lib.hid (And.intro hB hk1); clear hB hwk hk1)
  have hk3 : Blk ((((w1.setCell ⟨w.heap.size, 0, none⟩ (.int .i64 0)).setCell ⟨w.heap.size, 1, none⟩ (.int .i64 0)).setCell ⟨w.heap.size, 2, none⟩ (.bool false)).setCell ⟨w.heap.size, 3, none⟩ (.int .i64 0)) w.heap.size #[.int .i64 0, .int .i64 0, .bool false, .int .i64 0] 36 := Blk.of ((((H1.out.2.set 0 (.int .i64 0)).set 1 (.int .i64 0)).set 2 (.bool false)).set 3 (.int .i64 0)) rfl
  have hu := ((((Upd.refl (fun k => k = w.heap.size) w1).setCell (p := ⟨w.heap.size, 0, none⟩) (fun _ => rfl) (.int .i64 0)).setCell (p := ⟨w.heap.size, 1, none⟩) (fun _ => rfl) (.int .i64 0)).setCell (p := ⟨w.heap.size, 2, none⟩) (fun _ => rfl) (.bool false)).setCell (p := ⟨w.heap.size, 3, none⟩) (fun _ => rfl) (.int .i64 0)
  have hb := H.out.1.trans (H1.out.1.mono H.out.1.size)
  have hbb : Below w.heap.size w ((((w1.setCell ⟨w.heap.size, 0, none⟩ (.int .i64 0)).setCell ⟨w.heap.size, 1, none⟩ (.int .i64 0)).setCell ⟨w.heap.size, 2, none⟩ (.bool false)).setCell ⟨w.heap.size, 3, none⟩ (.int .i64 0)) := hb.trans (hu.below hb.size (fun k hk => by omega))
  clear hu hb
  generalize ((((w1.setCell ⟨w.heap.size, 0, none⟩ (.int .i64 0)).setCell ⟨w.heap.size, 1, none⟩ (.int .i64 0)).setCell ⟨w.heap.size, 2, none⟩ (.bool false)).setCell ⟨w.heap.size, 3, none⟩ (.int .i64 0)) = w9 at hk3 hbb ⊢
  have c9 := hk3.rd
  try simp only [Exit.inBlock, Exit.then]
  refine bodyPost_ret (by simp [results, Tryz.results63, go_sem, c9]; try rfl) rfl ?_
  exact ⟨rfl, hbb⟩
set_option maxRecDepth 100000 in
theorem vstat_yes (h : RV w O vb rb sb n N ns) (hV : IV ns c) (hN : N ≤ 1000) (l : Txt) (hl : l.length ≤ 100000) (id : Int) (hw : walkR ns l = (id, 0)) (nd : Nd) (hn : ndAt ns id = some nd) :
    Calls Tryz.prog 63 #[.pointer (some ⟨vb, 0, none⟩), .string (B l)] w fun e w' => e = .returned (.tuple #[.agg #[.int .i64 id, .int .i64 nd.links, .bool nd.dir, .int .i64 (sizeN nd)], .int .i64 0]) ∧ Below w.heap.size w w' := by
  have hB0 : Below w.heap.size w (w.alloc (.cells in0 36)) := (Below.refl _ _).alloc (Nat.le_refl _) _
  have hb0 := Blk.new w in0 36
  have hwk := vwalk_is (h.below hB0) hV l hl id 0 hw
  have hget : ∀ w1, Below w.heap.size w w1 → Calls Tryz.prog 101 #[.pointer (some ⟨rb, 0, none⟩), .int .i64 id] w1 fun e w' => e = .returned (.tuple #[.agg #[.int .i64 id, .int .i64 nd.links, .bool nd.dir, .int .i64 (sizeN nd)], .bool true]) ∧ Below w1.heap.size w1 w' := fun w1 hB => by
    obtain ⟨vs, hT⟩ := (h.below hB).tab
    have := rGet_any hT hN rfl id
    unfold getV at this
    rw [hn] at this
    exact this
  unfold in0 at *
  have H := Lib.hid (And.intro h (And.intro hB0 (And.intro hget hb0)))
  clear h hV hN hB0 hget hl hw hn hb0
  generalize B l = L at *
  generalize sizeN nd = sz at *
  generalize nd.links = lk at *
  generalize nd.dir = dr at *
  go_enter Tryz.func63, Tryz.ntmps63
  go_wp2_with (first
    | (go_at_call 64; (with_reducible refine hwk.mono ?_); rintro e w1 ⟨rfl, hB⟩; have hb1 := H.out.2.1.trans (hB.mono H.out.2.1.size); have hk1 := Blk.below hB H.out.2.2.2 H.out.2.2.2.lt; have c0 := (H.out.1.below hb1).c0; have hg := H.out.2.2.1 w1 hb1; have H1 := Lib.hid (And.intro hb1 hk1); clear hB hwk hb1 hk1)
    | (go_at_call 101; (with_reducible refine hg.mono ?_); rintro e w2 ⟨rfl, hB⟩; have hk2 := (Blk.below hB H1.out.2 H1.out.2.lt).alloc (.cells #[.int .i64 id, .int .i64 lk, .bool dr, .int .i64 sz] 36); have f2 := hk2.nf; have c2 := hk2.rd; have H2 := Lib.hid (And.intro (H1.out.1.trans (hB.mono H1.out.1.size)) (And.intro hB True.intro)); clear hB hg hk2))
  have hk2 := (Blk.below H2.out.2.1 H1.out.2 H1.out.2.lt).alloc (.cells #[.int .i64 id, .int .i64 lk, .bool dr, .int .i64 sz] 36)
  have hk3 : Blk (((((w2.alloc (.cells #[.int .i64 id, .int .i64 lk, .bool dr, .int .i64 sz] 36)).setCell ⟨w.heap.size, 0, none⟩ (.int .i64 id)).setCell ⟨w.heap.size, 1, none⟩ (.int .i64 lk)).setCell ⟨w.heap.size, 2, none⟩ (.bool dr)).setCell ⟨w.heap.size, 3, none⟩ (.int .i64 sz)) w.heap.size #[.int .i64 id, .int .i64 lk, .bool dr, .int .i64 sz] 36 := Blk.of ((((hk2.set 0 (.int .i64 id)).set 1 (.int .i64 lk)).set 2 (.bool dr)).set 3 (.int .i64 sz)) rfl
  have hu := ((((Upd.refl (fun k => k = w.heap.size) (w2.alloc (.cells #[.int .i64 id, .int .i64 lk, .bool dr, .int .i64 sz] 36))).setCell (p := ⟨w.heap.size, 0, none⟩) (fun _ => rfl) (.int .i64 id)).setCell (p := ⟨w.heap.size, 1, none⟩) (fun _ => rfl) (.int .i64 lk)).setCell (p := ⟨w.heap.size, 2, none⟩) (fun _ => rfl) (.bool dr)).setCell (p := ⟨w.heap.size, 3, none⟩) (fun _ => rfl) (.int .i64 sz)
  have hb := H2.out.1.alloc H2.out.1.size (.cells #[.int .i64 id, .int .i64 lk, .bool dr, .int .i64 sz] 36)
  have hbb : Below w.heap.size w (((((w2.alloc (.cells #[.int .i64 id, .int .i64 lk, .bool dr, .int .i64 sz] 36)).setCell ⟨w.heap.size, 0, none⟩ (.int .i64 id)).setCell ⟨w.heap.size, 1, none⟩ (.int .i64 lk)).setCell ⟨w.heap.size, 2, none⟩ (.bool dr)).setCell ⟨w.heap.size, 3, none⟩ (.int .i64 sz)) := hb.trans (hu.below hb.size (fun k hk => by omega))
  clear hk2 hu hb
  generalize (((((w2.alloc (.cells #[.int .i64 id, .int .i64 lk, .bool dr, .int .i64 sz] 36)).setCell ⟨w.heap.size, 0, none⟩ (.int .i64 id)).setCell ⟨w.heap.size, 1, none⟩ (.int .i64 lk)).setCell ⟨w.heap.size, 2, none⟩ (.bool dr)).setCell ⟨w.heap.size, 3, none⟩ (.int .i64 sz)) = w9 at hk3 hbb ⊢
  have c9 := hk3.rd
  try simp only [Exit.inBlock, Exit.then]
  refine bodyPost_ret (by simp [results, Tryz.results63, go_sem, c9]; try rfl) rfl ?_
  exact ⟨rfl, hbb⟩
theorem vstat_is (h : RV w O vb rb sb n N ns) (hV : IV ns c) (hN : N ≤ 1000) (l : Txt) (hl : l.length ≤ 100000) (A : Array Value) (r : Int) (hr : statF ns l = (A, r)) :
    Calls Tryz.prog 63 #[.pointer (some ⟨vb, 0, none⟩), .string (B l)] w fun e w' => e = .returned (.tuple #[.agg A, .int .i64 r]) ∧ Below w.heap.size w w' := by
  obtain ⟨a, e0, hw⟩ : ∃ a e0, walkR ns l = (a, e0) := ⟨_, _, rfl⟩
  unfold statF at hr
  rw [hw] at hr
  simp only at hr
  by_cases he : e0 = 0
  · subst he
    rw [if_neg (by simp)] at hr
    cases hr
    obtain ⟨k, nk, rfl, hk⟩ := walkR_nd hV hw
    have := vstat_yes h hV hN l hl k hw nk (ndAt_nat hk)
    unfold getA
    rw [ndAt_nat hk]
    exact this
  · rw [if_pos he] at hr
    have := vstat_no h hV hN l hl a e0 hw he
    cases hr
    exact this
/-- Close of its nodes -/
theorem vclose_is (h : RV w O vb rb sb n N ns) (hV : IV ns c) (hN : N ≤ 890) (hc : c ≤ 9000) (id r : Int) (ns' : NSt) (hr : closeF ns id = (r, ns')) :
    Calls Tryz.prog 61 #[.pointer (some ⟨rb, 0, none⟩), .int .i64 id] w (VP w O vb rb sb n N ns' (.int .i64 r)) := by
  refine (qclose_f h.tb (by omega) hV (by omega) id r ns' hr).mono ?_
  rintro e w' ⟨rfl, hP⟩
  exact VP.mk h (Below.refl _ _) rfl hP
theorem vlen_is (h : RV w O vb rb sb n N ns) : Calls Tryz.prog 66 #[.pointer (some ⟨rb, 0, none⟩)] w fun e w' => e = .returned (.int .i64 (lenN ns 16)) ∧ w = w' := by
  obtain ⟨vs, hT⟩ := h.tab
  exact rLen_is hT
/-- a step of the store's, in the table -/
theorem QO.sto (h : QO w O rb sb n N ns) {fs' : Sfs} {ns' : NSt} (hs : SS w' (nx w w' (Os w O)) sb n N' fs') (hu : Upd (Os w O) w w') (hfs : fs' = filesOf ns') (hd : ∀ i, (ns' i).isSome = (ns i).isSome) (hn : ∀ i nd, ns' i = some nd → ∃ nd0, ns i = some nd0 ∧ nd.dir = nd0.dir ∧ nd.links = nd0.links ∧ nd.opens = nd0.opens ∧ nd.es = nd0.es) : QP w O rb sb n N' ns' w' := by
  obtain ⟨vs, hT⟩ := h
  have hv := hT.store hs hu
  subst hfs
  have hnc : ∀ i, nodeC (ns' i) (vs i) = nodeC (ns i) (vs i) := fun i => by
    cases hi : ns' i with
    | none =>
      have := hd i
      rw [hi] at this
      cases hj : ns i with
      | none => rfl
      | some nd => rw [hj] at this; cases this
    | some nd =>
      obtain ⟨nd0, h0, e1, e2, e3, e4⟩ := hn i nd hi
      rw [h0]
      show [Value.bool true, .bool nd.dir, .int .i64 nd.links, .int .i64 nd.opens, vs i] = [Value.bool true, .bool nd0.dir, .int .i64 nd0.links, .int .i64 nd0.opens, vs i]
      rw [e1, e2, e3]
  refine ⟨⟨vs, ⟨Blk.of hv.tab ?_, hv.sto, fun i nd hi => ?_, fun i hi => ?_, fun i hi => ?_, hv.orb⟩⟩, hu.mono (fun k _ h => h.1)⟩
  · unfold refC
    exact (refR_ext sb hnc).symm
  · obtain ⟨nd0, h0, e1, e2, e3, e4⟩ := hn i nd hi
    rw [e4]
    exact hv.row i nd0 h0
  · have := hd i
    rw [hi] at this
    cases hj : ns i with
    | none => exact hv.nil' i hj
    | some nd => rw [hj] at this; cases this
  · have := hd i
    rw [hv.far i hi] at this
    cases hj : ns' i with
    | none => rfl
    | some nd => rw [hj] at this; cases this
theorem vwrite_is (h : RV w O vb rb sb n N ns) (hN : N ≤ 1000) (id off : Int) (b : List Int) (hb6 : b.length ≤ 1000000) (v : Value) (hsrc : SrcD w O v b) (r : Int) (ns' : NSt) (hr : wrF ns n id off b = (r, ns')) :
    Calls Tryz.prog 62 #[.pointer (some ⟨sb, 0, none⟩), .int .i64 id, .int .i64 off, v] w (VP w O vb rb sb n N ns' (.int .i64 r)) := by
  obtain ⟨g1, g2⟩ := wrF_is ns n id off b
  rw [hr] at g1 g2
  have hq := h.tb
  obtain ⟨vs, hT⟩ := hq
  have hsrc2 : SrcD w (Os w (Ov O vb)) v b := by
    obtain ⟨a, c, rfl, hc, h3⟩ := hsrc
    exact ⟨a, c, rfl, hc, fun hp => by
      obtain ⟨g, q, rfl, h4, h5, h6⟩ := h3 hp
      exact ⟨g, q, rfl, h4, fun e => h5 e.1.1, h6⟩⟩
  refine (qwrite_is hT.sto.only hN id off b hb6 v hsrc2 r _ g1).mono ?_
  rintro e w' ⟨rfl, hS, hu⟩
  exact VP.mk h (Below.refl _ _) rfl (h.tb.sto hS hu rfl g2.cond.1 g2.cond.2)
theorem vcut_is (h : RV w O vb rb sb n N ns) (hN : N ≤ 1000) {i : Nat} {nd : Nd} (hi : ns i = some nd) (hd : nd.dir = false) :
    Calls Tryz.prog 88 #[.pointer (some ⟨sb, 0, none⟩), .int .i64 i] w (VP w O vb rb sb n N (nsPut ns i (some (setB nd []))) (.int .i64 0)) := by
  obtain ⟨vs, hT⟩ := h.tb
  have hat := fsAt_filesI hi hd
  have hc1 : cutE (filesOf ns) (i : Int) = 0 := by unfold cutE; rw [hat]
  have hc2 : cutS (filesOf ns) (i : Int) = filesOf (nsPut ns i (some (setB nd []))) := by
    unfold cutS; rw [hat, files_put hi hd]; rfl
  refine (qcut_is hT.sto.only hN (i : Int) 0 _ hc1 hc2).mono ?_
  rintro e w' ⟨rfl, hS, hu⟩
  have hsn : SameN ns (nsPut ns i (some (setB nd []))) := Or.inr ⟨i, nd, [], hi, hd, rfl⟩
  exact VP.mk h (Below.refl _ _) rfl (h.tb.sto hS hu rfl hsn.cond.1 hsn.cond.2)
end
end Go.Proofs.YtchnjfmimpikcaaGreatDoor
/-
  The document's vfs: Open, List.
-/
namespace Go.Proofs.YtchnjfmimpikcaaGreatDoor
set_option linter.unusedSimpArgs false
set_option linter.unusedVariables false
open Go.RowKit Own RegC Three Two
open RegJ hiding Up
open RegF hiding put_size
open Go.Lib hiding intOf

section
variable {w w' w1 : World} {O O' F : Nat → Prop} {vb rb sb n N N' c : Nat} {ns ns' : NSt}
theorem put_put2 (ns : NSt) (i : Nat) (x y : Option Nd) : nsPut (nsPut ns i x) i y = nsPut ns i y := by
  funext j; unfold nsPut; split <;> rfl
theorem fl_A {f : Int} (h : 0 ≤ f ∧ f ≤ 7) : (f % 2 == 0) = !flA f := by
  obtain ⟨h1, h2⟩ := h
  have : f = 0 ∨ f = 1 ∨ f = 2 ∨ f = 3 ∨ f = 4 ∨ f = 5 ∨ f = 6 ∨ f = 7 := by omega
  rcases this with rfl | rfl | rfl | rfl | rfl | rfl | rfl | rfl <;> decide
theorem fl_B {f : Int} (h : 0 ≤ f ∧ f ≤ 7) : (f / 2 % 2 == 1) = flB f := by
  obtain ⟨h1, h2⟩ := h
  have : f = 0 ∨ f = 1 ∨ f = 2 ∨ f = 3 ∨ f = 4 ∨ f = 5 ∨ f = 6 ∨ f = 7 := by omega
  rcases this with rfl | rfl | rfl | rfl | rfl | rfl | rfl | rfl <;> decide
theorem qopen_is (h : QO w O rb sb n N ns) {i : Nat} {nd : Nd} (hi : ns i = some nd) (ho : 0 ≤ nd.opens) (ho2 : nd.opens ≤ 100000) : Calls Tryz.prog 89 #[.pointer (some ⟨rb, 0, none⟩), .int .i64 i] w fun e w' => e = .returned (.int .i64 0) ∧ QP w O rb sb n N (nsPut ns i (some (addO nd 1))) w' := ropen_yes h i nd hi ho ho2
set_option maxRecDepth 100000 in
theorem vopen_old (h : RV w O vb rb sb n N ns) (hV : IV ns c) (hc : c ≤ 9000) (hN : N ≤ 890) (l : Txt) (hl : l.length ≤ 100000) (f : Int) (hf : 0 ≤ f ∧ f ≤ 7) {k : Nat} {nd : Nd} (hw : walkR ns l = ((k : Int), 0)) (hk : ns k = some nd) (hd : nd.dir = false) :
    Calls Tryz.prog 54 #[.pointer (some ⟨vb, 0, none⟩), .string (B l), .int .i64 f] w (VP w O vb rb sb n N (nsPut ns k (some (addO (if flB f = true then setB nd [] else nd) 1))) (.tuple #[.int .i64 k, .int .i64 0])) := by
  have hwk := vwalk_is h hV l hl k 0 hw
  have H := Lib.hid (And.intro h (And.intro hk hd))
  have hdi : ∀ w1, Below w.heap.size w w1 → Calls Tryz.prog 87 #[.pointer (some ⟨rb, 0, none⟩), .int .i64 k] w1 fun e w' => e = .returned (.bool false) ∧ w1 = w' := fun w1 hB => qdir_is (H.out.1.below hB).tab k false (by unfold isDirF; rw [ndAt_nat hk]; exact hd)
  have ho := hV.opn k nd hk
  have ho1 := hV.inv.opn k nd hk
  have d1 : decide (f < 0) = false := by simp; omega
  have d2 : decide (f > 7) = false := by simp; omega
  have hB2 := fl_B hf
  obtain ⟨i0, i1⟩ := hf
  have hc0 : ∀ w1, Below w.heap.size w w1 → w1.cell? ⟨vb, 0, none⟩ = some (.pointer (some ⟨rb, 0, none⟩)) ∧ w1.cell? ⟨vb, 1, none⟩ = some (.pointer (some ⟨sb, 0, none⟩)) := fun w1 hB => ⟨(H.out.1.below hB).c0, (H.out.1.below hB).c1⟩
  have HN := Lib.hid (And.intro hN (And.intro ho (And.intro ho1 hc)))
  cases hb : flB f with
  | false =>
    rw [hb] at hB2
    simp only [Bool.false_eq_true, if_false]
    clear h hV hl hw hk hd hN ho ho1 hc hb
    generalize B l = s at *
    go_enter Tryz.func54, Tryz.ntmps54
    go_wp2_with (first
      | (go_at_call 64; (with_reducible refine hwk.mono ?_); rintro e w1 ⟨rfl, hB⟩; have hd1 := hdi w1 hB; obtain ⟨c0, c1⟩ := hc0 w1 hB; have hop := qopen_is (H.out.1.below hB).tb H.out.2.1 HN.out.2.2.1 (by have := HN.out; omega); have H1 := Lib.hid hB; clear hwk hB hdi hc0)
      | (go_at_call 87; (with_reducible refine hd1.mono ?_); rintro e w3 ⟨rfl, rfl⟩; clear hd1)
      | (go_at_call 89; (with_reducible refine hop.mono ?_); rintro e w4 ⟨rfl, hP⟩; have H4 := Lib.hid hP; clear hop hP))
    go_returns
    exact VP.mk H.out.1 H1.out rfl H4.out
  | true =>
    rw [hb] at hB2
    simp only [if_true]
    clear h hV hl hw hk hd hN ho ho1 hc hb
    generalize B l = s at *
    go_enter Tryz.func54, Tryz.ntmps54
    go_wp2_with (first
      | (go_at_call 64; (with_reducible refine hwk.mono ?_); rintro e w1 ⟨rfl, hB⟩; have hd1 := hdi w1 hB; obtain ⟨c0, c1⟩ := hc0 w1 hB; have hct := vcut_is (H.out.1.below hB) (by have := HN.out.1; omega) H.out.2.1 H.out.2.2; have H1 := Lib.hid hB; clear hwk hB hdi hc0)
      | (go_at_call 87; (with_reducible refine hd1.mono ?_); rintro e w3 ⟨rfl, rfl⟩; clear hd1)
      | (go_at_call 88; (with_reducible refine hct.mono ?_); rintro e w4 ⟨rfl, hR, hu⟩; have hop := qopen_is (nd := setB nd []) hR.tb (put_eq _ _ _) HN.out.2.2.1 (by have := HN.out; show nd.opens ≤ 100000; omega); clear c0 c1; have c0 := hR.c0; have H4 := Lib.hid (And.intro hR hu); clear hct hR hu)
      | (go_at_call 89; (with_reducible refine hop.mono ?_); rintro e w5 ⟨rfl, hP⟩; have H5 := Lib.hid (H4.out.1.step hP); clear hop hP))
    go_returns
    have h5 := H5.out
    rw [put_put2] at h5
    exact VP.chain H.out.1 H1.out rfl (St2.trans H4.out.2 h5)
/-- what does not open: a refusal r, told ahead of the table -/
theorem vopen_bad (h : RV w O vb rb sb n N ns) (l : Txt) (f : Int) (hf : f < 0 ∨ 7 < f) :
    Calls Tryz.prog 54 #[.pointer (some ⟨vb, 0, none⟩), .string (B l), .int .i64 f] w (VP w O vb rb sb n N ns (.tuple #[.int .i64 0, .int .i64 19])) := by
  have H := Lib.hid h
  clear h
  generalize B l = s at *
  by_cases h0 : f < 0
  · have d1 : decide (f < 0) = true := by simpa using h0
    clear hf h0
    go_enter Tryz.func54, Tryz.ntmps54
    go_wp2
    go_returns
    exact VP.same H.out (Below.refl _ _) rfl (Nat.le_refl _)
  · have d1 : decide (f < 0) = false := by simpa using h0
    have d2 : decide (f > 7) = true := by simp; omega
    clear hf h0
    go_enter Tryz.func54, Tryz.ntmps54
    go_wp2
    go_returns
    exact VP.same H.out (Below.refl _ _) rfl (Nat.le_refl _)
set_option maxRecDepth 100000 in
theorem vopen_dir (h : RV w O vb rb sb n N ns) (hV : IV ns c) (l : Txt) (hl : l.length ≤ 100000) (f : Int) (hf : 0 ≤ f ∧ f ≤ 7) {k : Nat} {nd : Nd} (hw : walkR ns l = ((k : Int), 0)) (hk : ns k = some nd) (hd : nd.dir = true) :
    Calls Tryz.prog 54 #[.pointer (some ⟨vb, 0, none⟩), .string (B l), .int .i64 f] w (VP w O vb rb sb n N ns (.tuple #[.int .i64 0, .int .i64 12])) := by
  have hwk := vwalk_is h hV l hl k 0 hw
  have H := Lib.hid h
  have hdi : ∀ w1, Below w.heap.size w w1 → Calls Tryz.prog 87 #[.pointer (some ⟨rb, 0, none⟩), .int .i64 k] w1 fun e w' => e = .returned (.bool true) ∧ w1 = w' := fun w1 hB => qdir_is (H.out.below hB).tab k true (by unfold isDirF; rw [ndAt_nat hk]; exact hd)
  have hc0 : ∀ w1, Below w.heap.size w w1 → w1.cell? ⟨vb, 0, none⟩ = some (.pointer (some ⟨rb, 0, none⟩)) := fun w1 hB => (H.out.below hB).c0
  have d1 : decide (f < 0) = false := by simp; omega
  have d2 : decide (f > 7) = false := by simp; omega
  clear h hV hl hf hw hk hd
  generalize B l = s at *
  go_enter Tryz.func54, Tryz.ntmps54
  go_wp2_with (first
    | (go_at_call 64; (with_reducible refine hwk.mono ?_); rintro e w1 ⟨rfl, hB⟩; have hd1 := hdi w1 hB; have c0 := hc0 w1 hB; have H1 := Lib.hid hB; clear hwk hB hdi hc0)
    | (go_at_call 87; (with_reducible refine hd1.mono ?_); rintro e w3 ⟨rfl, rfl⟩; clear hd1))
  go_returns
  exact VP.same H.out H1.out rfl (Nat.le_refl _)
set_option maxRecDepth 100000 in
theorem vopen_err (h : RV w O vb rb sb n N ns) (hV : IV ns c) (l : Txt) (hl : l.length ≤ 100000) (f : Int) (hf : 0 ≤ f ∧ f ≤ 7) (r1 E : Int) (hw : walkR ns l = (r1, E)) (hE : E ≠ 0) (h9 : E = 9 → flA f = false) :
    Calls Tryz.prog 54 #[.pointer (some ⟨vb, 0, none⟩), .string (B l), .int .i64 f] w (VP w O vb rb sb n N ns (.tuple #[.int .i64 0, .int .i64 E])) := by
  have hwk := vwalk_is h hV l hl r1 E hw
  have H := Lib.hid h
  have d1 : decide (f < 0) = false := by simp; omega
  have d2 : decide (f > 7) = false := by simp; omega
  have e1 : (E == 0) = false := by simpa using hE
  have hA := fl_A hf
  obtain ⟨i0, i1⟩ := hf
  clear h hV hl hw hE
  generalize B l = s at *
  by_cases he : E = 9
  · rw [h9 he] at hA
    have e2 : (E != 9) = false := by simp [he]
    clear h9 he
    go_enter Tryz.func54, Tryz.ntmps54
    go_wp2_with (go_at_call 64; (with_reducible refine hwk.mono ?_); rintro e w1 ⟨rfl, hB⟩; have H1 := Lib.hid hB; clear hwk hB)
    go_returns
    exact VP.same H.out H1.out rfl (Nat.le_refl _)
  · have e2 : (E != 9) = true := by simpa using he
    clear h9 he hA
    go_enter Tryz.func54, Tryz.ntmps54
    go_wp2_with (go_at_call 64; (with_reducible refine hwk.mono ?_); rintro e w1 ⟨rfl, hB⟩; have H1 := Lib.hid hB; clear hwk hB)
    go_returns
    exact VP.same H.out H1.out rfl (Nat.le_refl _)
set_option maxRecDepth 100000 in
set_option maxHeartbeats 1000000 in
theorem vopen_made (h : RV w O vb rb sb n N ns) (hV : IV ns c) (hc : c ≤ 9000) (hN : N ≤ 890) (l : Txt) (hl : l.length ≤ 100000) (f : Int) (hf : 0 ≤ f ∧ f ≤ 7) (r1 : Int) (hw : walkR ns l = (r1, 9)) (hA : flA f = true) (m1 m2 : Int) (ns' : NSt) (hm : newF ns l = (m1, m2, ns')) :
    Calls Tryz.prog 54 #[.pointer (some ⟨vb, 0, none⟩), .string (B l), .int .i64 f] w (VP w O vb rb sb n (N + 1) ns' (.tuple #[.int .i64 m1, .int .i64 m2])) := by
  have hwk := vwalk_is h hV l hl r1 9 hw
  have H := Lib.hid (And.intro h hV)
  have d1 : decide (f < 0) = false := by simp; omega
  have d2 : decide (f > 7) = false := by simp; omega
  have hA2 := fl_A hf
  rw [hA] at hA2
  simp only [Bool.not_true] at hA2
  obtain ⟨i0, i1⟩ := hf
  have hc0 : ∀ w1, Below w.heap.size w w1 → w1.cell? ⟨vb, 0, none⟩ = some (.pointer (some ⟨rb, 0, none⟩)) := fun w1 hB => (H.out.1.below hB).c0
  unfold newF at hm
  by_cases hE : parEr ns l = 0
  · rw [if_pos hE] at hm
    have hp : ∀ w1, Below w.heap.size w w1 → Calls Tryz.prog 90 #[.pointer (some ⟨vb, 0, none⟩), .string (B l)] w1 fun e w' => e = .returned (.tuple #[.int .i64 (parDi ns l), .string (B (parN l)), .int .i64 0]) ∧ Below w1.heap.size w1 w' := fun w1 hB => vpar_ok (H.out.1.below hB) H.out.2 l hl hE
    generalize parDi ns l = D at *
    obtain ⟨nm, hnm⟩ : ∃ nm, parN l = nm := ⟨_, rfl⟩
    rw [hnm] at hp hm
    unfold madeF at hm
    cases hd : dirAt ns D with
    | none =>
      rw [hd] at hm; cases hm
      have hdi : ∀ w1, Below w.heap.size w w1 → Calls Tryz.prog 87 #[.pointer (some ⟨rb, 0, none⟩), .int .i64 D] w1 fun e w' => e = .returned (.bool false) ∧ w1 = w' := fun w1 hB => qdir_is (H.out.1.below hB).tab D false (by rw [isDirF_dirAt, hd]; rfl)
      clear h hV hl hw hA hE hnm hd hN hc
      generalize B nm = s at *
      generalize B l = sl at *
      go_enter Tryz.func54, Tryz.ntmps54
      go_wp2_with (first
        | (go_at_call 64; (with_reducible refine hwk.mono ?_); rintro e w1 ⟨rfl, hB⟩; have hp1 := hp w1 hB; have H1 := Lib.hid hB; clear hwk hB hp)
        | (go_at_call 90; (with_reducible refine hp1.mono ?_); rintro e w2 ⟨rfl, hB⟩; have hb2 := H1.out.trans (hB.mono H1.out.size); have c0 := hc0 w2 hb2; have hd2 := hdi w2 hb2; have H2 := Lib.hid hb2; clear hp1 hB hb2 hc0 hdi)
        | (go_at_call 87; (with_reducible refine hd2.mono ?_); rintro e w3 ⟨rfl, rfl⟩; clear hd2))
      go_returns
      exact VP.same H.out.1 H2.out rfl (by omega)
    | some nd =>
      rw [hd] at hm
      simp only at hm
      have hdi : ∀ w1, Below w.heap.size w w1 → Calls Tryz.prog 87 #[.pointer (some ⟨rb, 0, none⟩), .int .i64 D] w1 fun e w' => e = .returned (.bool true) ∧ w1 = w' := fun w1 hB => qdir_is (H.out.1.below hB).tab D true (by rw [isDirF_dirAt, hd]; rfl)
      obtain ⟨k0, rfl, hk0, hdir⟩ := dirAt_some hd
      simp only [Int.toNat_natCast] at hm
      have hroot : ns 0 ≠ none := by have := hV.root; unfold Rt at this; intro e; rw [e] at this; cases this
      cases hff : freeF ns with
      | none =>
        rw [hff] at hm
        cases hm
        have hmk : ∀ w1, Below w.heap.size w w1 → Calls Tryz.prog 91 #[.pointer (some ⟨rb, 0, none⟩), .bool false] w1 fun e w' => e = .returned (.tuple #[.int .i64 0, .int .i64 15]) ∧ w1 = w' := fun w1 hB => qmk_full (H.out.1.below hB).tab (by omega) false hroot hff
        clear h hV hl hw hA hE hnm hd hN hc hk0 hdir hroot hff
        generalize B nm = s at *
        generalize B l = sl at *
        go_enter Tryz.func54, Tryz.ntmps54
        go_wp2_with (first
          | (go_at_call 64; (with_reducible refine hwk.mono ?_); rintro e w1 ⟨rfl, hB⟩; have hp1 := hp w1 hB; have H1 := Lib.hid hB; clear hwk hB hp)
          | (go_at_call 90; (with_reducible refine hp1.mono ?_); rintro e w2 ⟨rfl, hB⟩; have hb2 := H1.out.trans (hB.mono H1.out.size); have c0 := hc0 w2 hb2; have hd2 := hdi w2 hb2; have hm2 := hmk w2 hb2; have H2 := Lib.hid hb2; clear hp1 hB hb2 hc0 hdi hmk)
          | (go_at_call 87; (with_reducible refine hd2.mono ?_); rintro e w3 ⟨rfl, rfl⟩; clear hd2)
          | (go_at_call 91; (with_reducible refine hm2.mono ?_); rintro e w4 ⟨rfl, rfl⟩; clear hm2))
        go_returns
        exact VP.same H.out.1 H2.out rfl (by omega)
      | some i =>
        rw [hff] at hm
        simp only at hm
        obtain ⟨h16, hni⟩ := freeF_some hff
        have hne : k0 ≠ i := fun e => by rw [e, hni] at hk0; cases hk0
        obtain ⟨e1, ns2, hEn⟩ : ∃ e1 ns2, entF (nsPut ns i (some ⟨false, 0, 1, [], []⟩)) k0 nd nm i = (e1, ns2) := ⟨_, _, rfl⟩
        obtain ⟨e2, ns3, hCl⟩ : ∃ e2 ns3, closeF ns2 i = (e2, ns3) := ⟨_, _, rfl⟩
        have hV1 := hV.make h16 hni false
        have hi1 : nsPut ns i (some ⟨false, 0, 1, [], []⟩) k0 = some nd := by rw [put_ne _ _ _ hne]; exact hk0
        have hV2 := entF_iv hV1 hi1 hdir nm i
        rw [hEn] at hm hV2
        simp only at hm hV2
        rw [hCl] at hm
        have hlk : ∀ m, ndAt (nsPut ns i (some ⟨false, 0, 1, [], []⟩)) (i : Int) = some m → 0 ≤ m.links ∧ m.links ≤ 100000 := fun m hm => by
          obtain ⟨k, hk, hkk⟩ := ndAt_some hm
          exact ⟨hV1.inv.links hkk, hV1.inv.bnd k m hkk⟩
        have HQ := Lib.hid (And.intro hi1 (And.intro hdir (And.intro hlk (And.intro hEn (And.intro hCl (And.intro hV1 (And.intro hV2 (And.intro hroot hff))))))))
        have HC := Lib.hid (And.intro hc hN)
        obtain ⟨s, hs⟩ : ∃ s, B nm = s := ⟨_, rfl⟩
        have HS := Lib.hid hs
        rw [hs] at hp
        clear h hV hl hw hA hE hnm hd hN hc hk0 hdir hroot hff hlk hV1 hV2 hi1 hEn hCl hne hni h16 hs
        generalize B l = sl at *
        by_cases he : e1 = 0
        · subst he
          rw [if_pos rfl] at hm
          cases hm
          go_enter Tryz.func54, Tryz.ntmps54
          go_wp2_with (first
            | (go_at_call 64; (with_reducible refine hwk.mono ?_); rintro e w1 ⟨rfl, hB⟩; have hp1 := hp w1 hB; have H1 := Lib.hid hB; clear hwk hB hp)
            | (go_at_call 90; (with_reducible refine hp1.mono ?_); rintro e w2 ⟨rfl, hB⟩; have hb2 := H1.out.trans (hB.mono H1.out.size); have c0 := hc0 w2 hb2; have hd2 := hdi w2 hb2; have hm2 := qmk_some (H.out.1.below hb2).tb (by have := HC.out.2; omega) false HQ.out.2.2.2.2.2.2.2.1 i HQ.out.2.2.2.2.2.2.2.2; have H2 := Lib.hid (And.intro hb2 (H.out.1.below hb2)); clear hp1 hB hb2 hc0 hdi)
            | (go_at_call 87; (with_reducible refine hd2.mono ?_); rintro e w3 ⟨rfl, rfl⟩; clear hd2)
            | (go_at_call 91; (with_reducible refine hm2.mono ?_); rintro e w3 ⟨rfl, hP⟩; have h3 := H2.out.2.step hP; have hen := qenter_f h3.1.tb k0 i nm nd HQ.out.1 HQ.out.2.1 (HQ.out.2.2.2.2.2.1.len _ _ HQ.out.1) (HQ.out.2.2.2.2.2.1.srt _ _ HQ.out.1) HQ.out.2.2.1 _ _ HQ.out.2.2.2.1; rw [HS.out] at hen; clear c0; have c0 := h3.1.c0; have H3 := Lib.hid h3; clear hm2 hP h3)
            | (go_at_call 92; (with_reducible refine hen.mono ?_); rintro e w4 ⟨rfl, hP⟩; have H4 := Lib.hid (H3.out.1.step hP); clear hen hP))
          go_returns
          exact VP.chain H.out.1 H2.out.1 rfl (St2.trans H3.out.2 H4.out)
        · rw [if_neg he] at hm
          have n1 : (e1 != 0) = true := by simpa using he
          cases hm
          clear he
          go_enter Tryz.func54, Tryz.ntmps54
          go_wp2_with (first
            | (go_at_call 64; (with_reducible refine hwk.mono ?_); rintro e w1 ⟨rfl, hB⟩; have hp1 := hp w1 hB; have H1 := Lib.hid hB; clear hwk hB hp)
            | (go_at_call 90; (with_reducible refine hp1.mono ?_); rintro e w2 ⟨rfl, hB⟩; have hb2 := H1.out.trans (hB.mono H1.out.size); have c0 := hc0 w2 hb2; have hd2 := hdi w2 hb2; have hm2 := qmk_some (H.out.1.below hb2).tb (by have := HC.out.2; omega) false HQ.out.2.2.2.2.2.2.2.1 i HQ.out.2.2.2.2.2.2.2.2; have H2 := Lib.hid (And.intro hb2 (H.out.1.below hb2)); clear hp1 hB hb2 hc0 hdi)
            | (go_at_call 87; (with_reducible refine hd2.mono ?_); rintro e w3 ⟨rfl, rfl⟩; clear hd2)
            | (go_at_call 91; (with_reducible refine hm2.mono ?_); rintro e w3 ⟨rfl, hP⟩; have h3 := H2.out.2.step hP; have hen := qenter_f h3.1.tb k0 i nm nd HQ.out.1 HQ.out.2.1 (HQ.out.2.2.2.2.2.1.len _ _ HQ.out.1) (HQ.out.2.2.2.2.2.1.srt _ _ HQ.out.1) HQ.out.2.2.1 _ _ HQ.out.2.2.2.1; rw [HS.out] at hen; clear c0; have c0 := h3.1.c0; have H3 := Lib.hid h3; clear hm2 hP h3)
            | (go_at_call 92; (with_reducible refine hen.mono ?_); rintro e w4 ⟨rfl, hP⟩; have h4 := H3.out.1.step hP; have hcl := qclose_f h4.1.tb (by have := HC.out.2; omega) HQ.out.2.2.2.2.2.2.1 (by have := HC.out.1; omega) i _ _ HQ.out.2.2.2.2.1; clear c0; have c0 := h4.1.c0; have H4 := Lib.hid h4; clear hen hP h4)
            | (go_at_call 61; (with_reducible refine hcl.mono ?_); rintro e w5 ⟨rfl, hP⟩; have H5 := Lib.hid (H4.out.1.step hP); clear hcl hP))
          go_returns
          exact VP.chain H.out.1 H2.out.1 rfl (VP.seq3 H3.out.2 H4.out.2 H5.out)
  · rw [if_neg hE] at hm
    cases hm
    have hp : ∀ w1, Below w.heap.size w w1 → Calls Tryz.prog 90 #[.pointer (some ⟨vb, 0, none⟩), .string (B l)] w1 fun e w' => e = .returned (.tuple #[.int .i64 0, .string ⟨#[]⟩, .int .i64 (parEr ns l)]) ∧ Below w1.heap.size w1 w' := fun w1 hB => vpar_err (H.out.1.below hB) H.out.2 l hl _ rfl hE
    generalize parEr ns l = E at *
    have e1 : (E != 0) = true := by simpa using hE
    clear h hV hl hw hA hE hN hc
    generalize B l = sl at *
    go_enter Tryz.func54, Tryz.ntmps54
    go_wp2_with (first
      | (go_at_call 64; (with_reducible refine hwk.mono ?_); rintro e w1 ⟨rfl, hB⟩; have hp1 := hp w1 hB; have H1 := Lib.hid hB; clear hwk hB hp)
      | (go_at_call 90; (with_reducible refine hp1.mono ?_); rintro e w2 ⟨rfl, hB⟩; have H2 := Lib.hid (H1.out.trans (hB.mono H1.out.size)); clear hp1 hB))
    go_returns
    exact VP.same H.out.1 H2.out rfl (by omega)
/-- Open, of whatever it is called with -/
theorem VP.le {v : Value} {e : Ending} (h : VP w O vb rb sb n N ns' v e w') (hN : N ≤ N') : VP w O vb rb sb n N' ns' v e w' := ⟨h.1, h.2.1.le hN, h.2.2⟩
theorem vopen_is (h : RV w O vb rb sb n N ns) (hV : IV ns c) (hc : c ≤ 9000) (hN : N ≤ 890) (l : Txt) (hl : l.length ≤ 100000) (f m1 m2 : Int) (ns' : NSt) (hm : openF ns l f = (m1, m2, ns')) :
    Calls Tryz.prog 54 #[.pointer (some ⟨vb, 0, none⟩), .string (B l), .int .i64 f] w (VP w O vb rb sb n (N + 1) ns' (.tuple #[.int .i64 m1, .int .i64 m2])) := by
  unfold openF at hm
  by_cases hb : f < 0 ∨ 7 < f
  · rw [if_pos hb] at hm
    cases hm
    exact (vopen_bad h l f hb).mono fun e w' hP => hP.le (by omega)
  · rw [if_neg hb] at hm
    have hf : 0 ≤ f ∧ f ≤ 7 := by omega
    obtain ⟨r1, r2, hw⟩ : ∃ r1 r2, walkR ns l = (r1, r2) := ⟨_, _, rfl⟩
    rw [hw] at hm
    simp only at hm
    by_cases h9 : r2 = 9 ∧ flA f = true
    · rw [if_pos h9] at hm
      obtain ⟨rfl, hA⟩ := h9
      exact vopen_made h hV hc hN l hl f hf r1 hw hA m1 m2 ns' hm
    · rw [if_neg h9] at hm
      by_cases h0 : r2 = 0
      · subst h0
        rw [if_neg (by simp)] at hm
        obtain ⟨k, nk, rfl, hk⟩ := walkR_nd hV hw
        rw [ndAt_nat hk] at hm
        simp only [Int.toNat_natCast] at hm
        by_cases hd : nk.dir = true
        · rw [if_pos hd] at hm
          cases hm
          exact (vopen_dir h hV l hl f hf hw hk hd).mono fun e w' hP => hP.le (by omega)
        · rw [if_neg hd] at hm
          cases hm
          exact (vopen_old h hV hc hN l hl f hf hw hk (by simpa using hd)).mono fun e w' hP => hP.le (by omega)
      · rw [if_pos h0] at hm
        have := vopen_err h hV l hl f hf r1 r2 hw h0 (fun e => by
          cases hA : flA f with
          | false => rfl
          | true => exact absurd ⟨e, hA⟩ h9)
        cases hm
        exact this.mono fun e w' hP => hP.le (by omega)
end
end Go.Proofs.YtchnjfmimpikcaaGreatDoor
/-
  The document's vfs: List.
-/
namespace Go.Proofs.YtchnjfmimpikcaaGreatDoor
set_option linter.unusedSimpArgs false
set_option linter.unusedVariables false
open Go.RowKit Own RegC Three Two
open RegJ hiding Up
open RegF hiding put_size
open Go.Lib hiding intOf

/-- an append to nothing, out of a row that may be empty -/
theorem wp_app2n {P : Program} {ops : Array Oper} {rest : List Oper} {o : Oper} {a : Act} {Q : Exit → Act → World → Prop} {w : World} (hgd : o.guard = none) (s x : Operand) (S T : TypeId) (z : Value) (bytes : Nat)
    (hinf : (P.info? T).map (fun i => (i.zero, i.size, i.bytes)) = some (some z, 2, bytes)) (hz2 : z.cells.size = 2) (hb2 : bytes ≤ 64) (hS : P.underlying S = some (.slice T))
    (ho : o.op = .call { callee := .builtin .append, args := #[s, x], argTypes := #[S, S] }) (hs : a.eval s = .slice none 0 0)
    (ad : Option Addr) (m c : Nat) (ys : List V2) (hm : ys.length = m) (hx : a.eval x = .slice ad m c) (hrd : Rd2 w ad ys) (hone : One2 ys) (hlen : ys.length ≤ 3000)
    (h : ∀ v' w' b', Row2 w' T v' ys b' → (∀ g, b' = some g → w.heap.size ≤ g) → Below w.heap.size w w' → wpList P ops Q rest (a.put o.dst v') w') : wpList P ops Q (o :: rest) a w := by
  by_cases h0 : 0 < m
  · obtain ⟨g, rfl, -⟩ := hrd 0 ys[0] (List.getElem?_eq_getElem (by omega))
    refine wp_app2 hgd s x S T z bytes hinf hz2 hb2 hS ho _ [] none hs (Or.inl ⟨rfl, rfl, rfl⟩) ⟨g, 0, none⟩ m c ys hm h0 hx ?_ hone (by simpa using hlen) ?_
    · intro j u hj
      have hl := cells2_len ys
      have hj2 : j < ys.length * 2 := by have := (List.getElem?_eq_some_iff.1 hj).1; omega
      have hk : j / 2 < ys.length := by omega
      have hy := List.getElem?_eq_getElem hk
      obtain ⟨g', e, h1, h2⟩ := hrd _ _ hy
      cases e
      obtain ⟨e1, e2⟩ := cells2_at ys _ _ hy
      rw [add_off]
      rcases Nat.mod_two_eq_zero_or_one j with hm | hm
      · have hjj : j / 2 * 2 = j := by omega
        rw [hjj] at h1 e1
        rw [hj] at e1; cases e1; exact h1
      · have hjj : j / 2 * 2 + 1 = j := by omega
        rw [hjj] at h2 e2
        rw [hj] at e2; cases e2; exact h2
    · intro v' w' b' hr hb hu
      rw [List.nil_append] at hr
      exact h v' w' b' hr (fun g hg => (hb g hg).elim (fun h => by cases h) id) (hu.below (Nat.le_refl _) (fun k hk => by cases hk))
  · obtain rfl : ys = [] := List.eq_nil_of_length_eq_zero (by omega)
    obtain rfl : m = 0 := by omega
    obtain ⟨i0, hi, hz0, hz1, hzb⟩ := info_parts hinf
    have hsrc : Src P i0.size S (.slice ad 0 c) 0 [] w := by
      cases ad with
      | none => exact Src.ofNil w hS c
      | some A => exact Src.ofSlice w hS A 0 c [] (by simp) (fun j u hj => by simp at hj) (fun u hu => by cases hu)
    have hrun := run_append_nothing (P := P) w S S o.type T i0 hS hi none 0 0 (Nat.le_refl _) (.slice ad 0 c) hsrc
    refine wpList_plain hgd fun K hK => ?_
    unfold Oper.wp
    simp [execOp, ho, resolve, invoke, builtin, hs, hx, hrun, Result.andThen]
    exact hK _ _ (h _ w none (Or.inl ⟨rfl, rfl, rfl⟩) (fun g hg => by cases hg) (Below.refl _ _))
section
variable {w w' w1 : World} {O O' F : Nat → Prop} {vb rb sb n N N' c : Nat} {ns ns' : NSt}
set_option maxRecDepth 100000 in
theorem vlist_no (h : RV w O vb rb sb n N ns) (hV : IV ns c) (l : Txt) (hl : l.length ≤ 100000) (a e0 r : Int) (hw : walkR ns l = (a, e0)) (hr : (e0 ≠ 0 ∧ r = e0) ∨ (e0 = 0 ∧ dirAt ns a = none ∧ r = 11)) :
    Calls Tryz.prog 65 #[.pointer (some ⟨vb, 0, none⟩), .string (B l)] w fun e w' => e = .returned (.tuple #[.slice none 0 0, .int .i64 r]) ∧ Below w.heap.size w w' := by
  have hwk := vwalk_is h hV l hl a e0 hw
  have H := Lib.hid h
  rcases hr with ⟨he, rfl⟩ | ⟨rfl, hd, rfl⟩
  · have e1 : (r != 0) = true := by simpa using he
    clear h hV hl hw he
    generalize B l = s at *
    go_enter Tryz.func65, Tryz.ntmps65
    go_wp2_with (go_at_call 64; (with_reducible refine hwk.mono ?_); rintro e w1 ⟨rfl, hB⟩; have H1 := Lib.hid hB; clear hwk hB)
    go_returns
    exact ⟨rfl, H1.out⟩
  · have hdi : ∀ w1, Below w.heap.size w w1 → Calls Tryz.prog 87 #[.pointer (some ⟨rb, 0, none⟩), .int .i64 a] w1 fun e w' => e = .returned (.bool false) ∧ w1 = w' := fun w1 hB => qdir_is (H.out.below hB).tab a false (by rw [isDirF_dirAt, hd]; rfl)
    have hc0 : ∀ w1, Below w.heap.size w w1 → w1.cell? ⟨vb, 0, none⟩ = some (.pointer (some ⟨rb, 0, none⟩)) := fun w1 hB => (H.out.below hB).c0
    clear h hV hl hw hd
    generalize B l = s at *
    go_enter Tryz.func65, Tryz.ntmps65
    go_wp2_with (first
      | (go_at_call 64; (with_reducible refine hwk.mono ?_); rintro e w1 ⟨rfl, hB⟩; have hd1 := hdi w1 hB; have c0 := hc0 w1 hB; have H1 := Lib.hid hB; clear hwk hB hdi hc0)
      | (go_at_call 87; (with_reducible refine hd1.mono ?_); rintro e w3 ⟨rfl, rfl⟩; clear hd1))
    go_returns
    exact ⟨rfl, H1.out⟩
def VList (w : World) (es : List En) (e : Ending) (w' : World) : Prop := ∃ v b, e = .returned (.tuple #[v, .int .i64 0]) ∧ Row2 w' 118 v (es.map enV) b ∧ (∀ g, b = some g → w.heap.size ≤ g) ∧ Below w.heap.size w w'
set_option maxRecDepth 100000 in
theorem vlist_yes (h : RV w O vb rb sb n N ns) (hV : IV ns c) (l : Txt) (hl : l.length ≤ 100000) (i : Nat) (nd : Nd) (hi : ns i = some nd) (hd : nd.dir = true) (hw : walkR ns l = ((i : Int), 0)) :
    Calls Tryz.prog 65 #[.pointer (some ⟨vb, 0, none⟩), .string (B l)] w (VList w nd.es) := by
  have hwk := vwalk_is h hV l hl i 0 hw
  have H := Lib.hid h
  have hdi : ∀ w1, Below w.heap.size w w1 → Calls Tryz.prog 87 #[.pointer (some ⟨rb, 0, none⟩), .int .i64 i] w1 fun e w' => e = .returned (.bool true) ∧ w1 = w' := fun w1 hB => qdir_is (H.out.below hB).tab i true (by rw [isDirF_dirAt, dirAt_yes hi hd]; rfl)
  have hc0 : ∀ w1, Below w.heap.size w w1 → w1.cell? ⟨vb, 0, none⟩ = some (.pointer (some ⟨rb, 0, none⟩)) := fun w1 hB => (H.out.below hB).c0
  obtain ⟨vs, hT⟩ := h.tab
  obtain ⟨h16, _, _, _, _, c4⟩ := hT.cells hi
  obtain ⟨⟨br, hrow, -⟩, h8⟩ := hT.row i nd hi
  obtain ⟨a, c', hv⟩ := hrow.slice
  rw [List.length_map] at hv
  rw [hv] at hrow c4
  have hc4 : ∀ w1, Below w.heap.size w w1 → w1.cell? ⟨rb, 1 + i * 5 + 4, none⟩ = some (.slice a nd.es.length c') := fun w1 hB => by
    have := ((hT.below hB).cells hi).2.2.2.2.2
    rw [hv] at this
    exact this
  have hrd : ∀ w1, Below w.heap.size w w1 → Rd2 w1 a (nd.es.map enV) := fun w1 hB => (hrow.below hB).rd
  have i1 : (i : Int) < 16 := by omega
  have i2 : (0 : Int) ≤ i := by omega
  obtain ⟨L, hL⟩ : ∃ L, nd.es.length = L := ⟨_, rfl⟩
  have HL := Lib.hid (And.intro hL (And.intro h8 hrd))
  rw [hL] at hc4
  clear h hV hl hi hd hw hT c4 hrow hv h8 hL h16 hrd
  generalize B l = s at *
  go_enter Tryz.func65, Tryz.ntmps65
  go_wp2_with (first
    | (go_at_call 64; (with_reducible refine hwk.mono ?_); rintro e w1 ⟨rfl, hB⟩; have hd1 := hdi w1 hB; have c0 := hc0 w1 hB; have c4 := hc4 w1 hB; have H1 := Lib.hid hB; clear hwk hB hdi hc0 hc4)
    | (go_at_call 87; (with_reducible refine hd1.mono ?_); rintro e w3 ⟨rfl, rfl⟩; clear hd1)
    | (at_builtin; refine wp_app2n rfl _ _ 54 118 _ 24 infoEntry rfl (by decide) Tryz.underlying54 rfl rfl a L c' (nd.es.map enV) (by rw [List.length_map]; exact HL.out.1) rfl (HL.out.2.2 w1 H1.out) (one_en _) (by rw [List.length_map]; have := HL.out; omega) ?_; intro v2 w2 b2 hr2 hb2 hu2; have H2 := Lib.hid (And.intro hr2 (And.intro hb2 hu2)); clear hr2 hb2 hu2))
  go_returns
  exact ⟨v2, b2, rfl, H2.out.1, fun g hg => by have := H2.out.2.1 g hg; have := H1.out.size; omega, H1.out.trans (H2.out.2.2.mono H1.out.size)⟩
end
end Go.Proofs.YtchnjfmimpikcaaGreatDoor
