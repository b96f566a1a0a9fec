/-
  The vfs: Mkdir, Unlink, Rmdir, Link, Stat.
-/
import Derived.Test.YtchnjfmimpikcaaDoorV3
namespace Go.Proofs.YtchnjfmimpikcaaDoor
set_option linter.unusedSimpArgs false
set_option linter.unusedVariables false
open Go.RowKit Own RegJ Two
open Go.Lib hiding intOf

def mkdirF (ns : NSt) (d : Int) (nm : Txt) : Int × NSt := if (findR ns d nm).2 = 0 then (10, ns) else if (findR ns d nm).2 = 11 then (11, ns) else if (madeF ns d nm true).2.1 = 0 then (0, (closeF (madeF ns d nm true).2.2 (madeF ns d nm true).1).2) else ((madeF ns d nm true).2.1, (madeF ns d nm true).2.2)
/-- an entry taken out -/
def rmvF (ns : NSt) (d : Int) (nm : Txt) : Int × NSt := match dirAt ns d with
  | none => (11, ns)
  | some nd => match nd.es[plc nd.es nm]? with
    | none => (9, ns)
    | some x => if x.1 = nm then (match ns x.2.toNat with
      | some ndm => if ndm.dir = true ∧ ndm.es ≠ [] then (13, ns) else (0, gone 17 (nsRem ns d.toNat nd (plc nd.es nm) x.2.toNat) x.2.toNat)
      | none => (0, ns)) else (9, ns)
def remF (ns : NSt) (d : Int) (nm : Txt) (isD : Bool) (other : Int) : Int × NSt := if (findR ns d nm).2 ≠ 0 then ((findR ns d nm).2, ns) else if isDirF ns (findR ns d nm).1 ≠ isD then (other, ns) else rmvF ns d nm
/-- at the directory of the last name -/
def atPar (ns : NSt) (l : Txt) (k : Int → Txt → Int × NSt) : Int × NSt := if parEr ns l = 0 then k (parDi ns l) (parN l) else (parEr ns l, ns)
section
variable {w w' : World} {vb tb : Nat} {ns ns' : NSt} {lo lo' : Lo} {N c d : Nat}
theorem remove_f [Inhabited CapT] (h : TB w tb ns lo N) (hV : IV ns c) (d : Int) (nm : Txt) (r : Int) (ns' : NSt) (hr : rmvF ns d nm = (r, ns')) :
    Calls Tryd.prog 70 #[.pointer (some ⟨tb, 0, none⟩), .int .i64 d, .string (B nm)] w fun e w' => e = .returned (.int .i64 r) ∧ ∃ lo', TB w' tb ns' lo' N ∧ TFr lo lo' w w' := by
  unfold rmvF at hr
  cases hd : dirAt ns d with
  | none =>
    rw [hd] at hr; cases hr
    refine (remove_no h d nm hd).mono ?_
    rintro e w' ⟨rfl, rfl⟩
    exact ⟨rfl, lo, h, TFr.refl _ _⟩
  | some nd =>
    rw [hd] at hr
    simp only at hr
    obtain ⟨i, rfl, hi, hdir⟩ := dirAt_some hd
    simp only [Int.toNat_natCast] at hr
    have hS := hV.srt i nd hi
    refine (remove_any h hV.inv i nm nd hi hdir).mono ?_
    rintro e w' ⟨j, hA, hq⟩
    obtain rfl := at_uniq hA (plc_at hS nm)
    rcases hq with ⟨hno, rfl, hB⟩ | ⟨m, ndm, hx, hm, hq⟩
    · have : (9, ns) = (r, ns') := by
        cases hx : nd.es[plc nd.es nm]? with
        | none => rw [hx] at hr; exact hr
        | some x =>
          rw [hx] at hr
          rw [isAt_some hx] at hno
          simp only at hr
          rw [if_neg (of_decide_eq_false hno)] at hr
          exact hr
      cases this
      exact ⟨rfl, lo, h.below hB, TFr.of_below hB⟩
    · rw [hx] at hr
      simp only at hr
      rw [if_pos trivial] at hr
      simp only [Int.toNat_natCast] at hr
      rw [hm] at hr
      simp only at hr
      rcases hq with ⟨k1, k2, rfl, hB⟩ | ⟨k1, rfl, lo', hT, hF⟩
      · rw [if_pos ⟨k1, k2⟩] at hr
        cases hr
        exact ⟨rfl, lo, h.below hB, TFr.of_below hB⟩
      · rw [if_neg k1] at hr
        cases hr
        exact ⟨rfl, lo', hT, hF⟩
theorem fnd_at {es : List En} {nm : Txt} {k : Int} (hS : Srt es) (h : fndE es nm = some k) : es[plc es nm]? = some (nm, k) := by
  have hA := plc_at hS nm
  cases hx : es[plc es nm]? with
  | none =>
    rw [fnd_no hS hA (by unfold isAt; rw [hx])] at h
    cases h
  | some x =>
    by_cases he : x.1 = nm
    · subst he
      rw [fnd_yes hS hx] at h
      cases h; rfl
    · rw [fnd_no hS hA (by rw [isAt_some hx]; simpa using he)] at h
      cases h
theorem rmvF_iv (hV : IV ns c) (d : Int) (nm : Txt) : IV (rmvF ns d nm).2 (c + 1) := by
  unfold rmvF
  cases hd : dirAt ns d with
  | none => exact hV.le (by omega)
  | some nd =>
    simp only
    obtain ⟨i, rfl, hi, hdir⟩ := dirAt_some hd
    simp only [Int.toNat_natCast]
    cases hx : nd.es[plc nd.es nm]? with
    | none => exact hV.le (by omega)
    | some x =>
      simp only
      by_cases he : x.1 = nm
      · rw [if_pos he]
        have hid := hV.inv.ids i nd hi x (List.mem_of_getElem? hx)
        cases hm : ns x.2.toNat with
        | none => exact hV.le (by omega)
        | some ndm =>
          simp only
          by_cases hk : ndm.dir = true ∧ ndm.es ≠ []
          · rw [if_pos hk]; exact hV.le (by omega)
          · rw [if_neg hk]
            have hx' : nd.es[plc nd.es nm]? = some (nm, ((x.2.toNat : Nat) : Int)) := by
              rw [hx, ← he, Int.toNat_of_nonneg (by omega)]
            exact hV.removed hi hdir hm hx'
      · rw [if_neg he]; exact hV.le (by omega)
set_option maxRecDepth 100000 in
theorem mkdir_is [Inhabited CapT] (h : VV w vb tb ns lo c) (hc : c ≤ 9000) (d : Int) (nm : Txt) (r : Int) (ns' : NSt) (hr : mkdirF ns d nm = (r, ns')) :
    Calls Tryd.prog 30 #[.pointer (some ⟨vb, 0, none⟩), .int .i64 d, .string (B nm)] w (MadP w vb tb ns' lo (c + 4) (.int .i64 r)) := by
  have c0 := h.1.cell
  obtain ⟨f1, f2, hf⟩ : ∃ f1 f2, findR ns d nm = (f1, f2) := ⟨_, _, rfl⟩
  have hfi := tfind_is h.1.2.1 d nm f1 f2 hf
  unfold mkdirF at hr
  rw [hf] at hr
  simp only at hr
  have H := Lib.hid h
  clear h hf
  by_cases h0 : f2 = 0
  · subst h0
    rw [if_pos rfl] at hr
    cases hr
    go_enter Tryd.func30, Tryd.ntmps30
    go_wp2_with (go_at_call 41; (with_reducible refine hfi.mono ?_); rintro e w1 ⟨rfl, hB⟩; have H1 := Lib.hid hB; clear hB hfi)
    go_ret
    exact ⟨rfl, lo, (H.out.below H1.out).le (by omega), TFr.of_below H1.out⟩
  · by_cases h1 : f2 = 11
    · subst h1
      rw [if_neg h0, if_pos rfl] at hr
      cases hr
      clear h0
      go_enter Tryd.func30, Tryd.ntmps30
      go_wp2_with (go_at_call 41; (with_reducible refine hfi.mono ?_); rintro e w1 ⟨rfl, hB⟩; have H1 := Lib.hid hB; clear hB hfi)
      go_ret
      exact ⟨rfl, lo, (H.out.below H1.out).le (by omega), TFr.of_below H1.out⟩
    · rw [if_neg h0, if_neg h1] at hr
      obtain ⟨m1, m2, nsm, hm⟩ : ∃ m1 m2 nsm, madeF ns d nm true = (m1, m2, nsm) := ⟨_, _, _, rfl⟩
      rw [hm] at hr
      simp only at hr
      have d1 : (f2 == 0) = false := by simpa using h0
      have d2 : (f2 == 11) = false := by simpa using h1
      have HM := Lib.hid hm
      clear h0 h1 hm
      by_cases hm0 : m2 = 0
      · subst hm0
        rw [if_pos rfl] at hr
        obtain ⟨x1, hcl⟩ : ∃ x1, closeF nsm m1 = (x1, ns') := ⟨(closeF nsm m1).1, by rw [Prod.mk.injEq] at hr; rw [← hr.2]⟩
        obtain rfl : r = 0 := by rw [Prod.mk.injEq] at hr; exact hr.1.symm
        have HC := Lib.hid hcl
        clear hr hcl
        go_enter Tryd.func30, Tryd.ntmps30
        go_wp2_with (first
          | (go_at_call 41; (with_reducible refine hfi.mono ?_); rintro e w1 ⟨rfl, hB⟩; have hmk := made_is (H.out.below hB) hc d nm true _ _ _ HM.out; have H1 := Lib.hid hB; clear hB hfi)
          | (go_at_call 32; (with_reducible refine hmk.mono ?_); rintro e w2 ⟨rfl, lo2, hV, hF⟩; clear c0; have c0 := hV.1.cell; have hcl := close_f hV.1.2.1 hV.2 (by omega) m1 _ _ HC.out; have H2 := Lib.hid (And.intro hV hF); clear hmk hV hF)
          | (go_at_call 12; (with_reducible refine hcl.mono ?_); rintro e w3 ⟨rfl, lo3, hT, hF⟩; have H3 := Lib.hid (And.intro hT hF); clear hcl hT hF))
        go_ret
        have hiv := closeF_iv H2.out.1.2 m1
        rw [HC.out] at hiv
        exact ⟨rfl, lo3, ⟨(H2.out.1.1.step H3.out.1 H3.out.2).le (by omega), hiv⟩, ((TFr.of_below H1.out).trans H2.out.2).trans H3.out.2⟩
      · rw [if_neg hm0] at hr
        cases hr
        have d3 : (r == 0) = false := by simpa using hm0
        clear hm0
        go_enter Tryd.func30, Tryd.ntmps30
        go_wp2_with (first
          | (go_at_call 41; (with_reducible refine hfi.mono ?_); rintro e w1 ⟨rfl, hB⟩; have hmk := made_is (H.out.below hB) hc d nm true _ _ _ HM.out; have H1 := Lib.hid hB; clear hB hfi)
          | (go_at_call 32; (with_reducible refine hmk.mono ?_); rintro e w2 ⟨rfl, lo2, hV, hF⟩; have H2 := Lib.hid (And.intro hV hF); clear hmk hV hF))
        go_ret
        exact ⟨rfl, lo2, H2.out.1.le (by omega), (TFr.of_below H1.out).trans H2.out.2⟩
set_option maxRecDepth 100000 in
theorem rem_is [Inhabited CapT] (h : VV w vb tb ns lo c) (hc : c ≤ 9000) (d : Int) (nm : Txt) (isD : Bool) (other : Int) (r : Int) (ns' : NSt) (hr : remF ns d nm isD other = (r, ns')) :
    Calls Tryd.prog 57 #[.pointer (some ⟨vb, 0, none⟩), .int .i64 d, .string (B nm), .bool isD, .int .i64 other] w (MadP w vb tb ns' lo (c + 1) (.int .i64 r)) := by
  have c0 := h.1.cell
  obtain ⟨f1, f2, hf⟩ : ∃ f1 f2, findR ns d nm = (f1, f2) := ⟨_, _, rfl⟩
  have hfi := tfind_is h.1.2.1 d nm f1 f2 hf
  unfold remF at hr
  rw [hf] at hr
  simp only at hr
  have H := Lib.hid h
  clear h hf
  by_cases h0 : f2 = 0
  · subst h0
    rw [if_neg (by simp)] at hr
    obtain ⟨b, hb⟩ : ∃ b, isDirF ns f1 = b := ⟨_, rfl⟩
    rw [hb] at hr
    have HB := Lib.hid hb
    clear hb
    by_cases hbi : b = isD
    · subst hbi
      rw [if_neg (by simp)] at hr
      have HR := Lib.hid hr
      clear hr
      go_enter Tryd.func57, Tryd.ntmps57
      go_wp2_with (first
        | (go_at_call 41; (with_reducible refine hfi.mono ?_); rintro e w1 ⟨rfl, hB⟩; have h1 := H.out.below hB; have hid := isdir_is h1.1 f1 b HB.out; have H1 := Lib.hid (And.intro h1 hB); clear hB hfi h1)
        | (go_at_call 33; (with_reducible refine hid.mono ?_); rintro e w2 ⟨rfl, hB⟩; have h2 := H1.out.1.below hB; clear c0; have c0 := h2.1.cell; have hrm := remove_f h2.1.2.1 h2.2 d nm _ _ HR.out; have H2 := Lib.hid (And.intro h2 hB); clear hB hid h2)
        | (go_at_call 70; (with_reducible refine hrm.mono ?_); rintro e w3 ⟨rfl, lo3, hT, hF⟩; have H3 := Lib.hid (And.intro hT hF); clear hrm hT hF))
      go_ret
      have hiv := rmvF_iv H.out.2 d nm
      rw [HR.out] at hiv
      exact ⟨rfl, lo3, ⟨(H2.out.1.1.step H3.out.1 H3.out.2).le (by omega), hiv⟩, ((TFr.of_below H1.out.2).trans (TFr.of_below H2.out.2)).trans H3.out.2⟩
    · rw [if_pos hbi] at hr
      cases hr
      have d1 : (!b == isD) = true := by cases b <;> cases isD <;> simp_all
      clear hbi
      go_enter Tryd.func57, Tryd.ntmps57
      go_wp2_with (first
        | (go_at_call 41; (with_reducible refine hfi.mono ?_); rintro e w1 ⟨rfl, hB⟩; have h1 := H.out.below hB; have hid := isdir_is h1.1 f1 b HB.out; have H1 := Lib.hid (And.intro h1 hB); clear hB hfi h1)
        | (go_at_call 33; (with_reducible refine hid.mono ?_); rintro e w2 ⟨rfl, hB⟩; have H2 := Lib.hid (And.intro (H1.out.1.below hB) hB); clear hB hid))
      go_ret
      exact ⟨rfl, lo, H2.out.1.le (by omega), (TFr.of_below H1.out.2).trans (TFr.of_below H2.out.2)⟩
  · rw [if_pos h0] at hr
    cases hr
    have d1 : (r != 0) = true := by simpa using h0
    clear h0
    go_enter Tryd.func57, Tryd.ntmps57
    go_wp2_with (go_at_call 41; (with_reducible refine hfi.mono ?_); rintro e w1 ⟨rfl, hB⟩; have H1 := Lib.hid hB; clear hB hfi)
    go_ret
    exact ⟨rfl, lo, (H.out.below H1.out).le (by omega), TFr.of_below H1.out⟩
theorem MadP.ahead [Inhabited CapT] {v : Value} {e : Ending} {w1 w2 : World} (hB : Below w.heap.size w w1) (h : MadP w1 vb tb ns' lo c v e w2) : MadP w vb tb ns' lo c v e w2 := by
  obtain ⟨h1, lo', h2, h3⟩ := h
  exact ⟨h1, lo', h2, (TFr.of_below hB).trans h3⟩
/-- behind a call that goes to the directory above -/
def ParP [Inhabited CapT] (w : World) (vb tb : Nat) (ns' : NSt) (lo : Lo) (c : Nat) (r0 : Int) (r : Int) (w' : World) : Prop := r = r0 ∧ ∃ lo', VV w' vb tb ns' lo' c ∧ TFr lo lo' w w'
set_option maxRecDepth 100000 in
theorem Mkdir_is [Inhabited CapT] (h : VV w vb tb ns lo c) (hc : c ≤ 9000) (l : Txt) (hl : l.length ≤ 100000) (r : Int) (ns' : NSt) (hr : atPar ns l (mkdirF ns) = (r, ns')) :
    Calls Tryd.prog 9 #[.pointer (some ⟨vb, 0, none⟩), .string (B l)] w (MadP w vb tb ns' lo (c + 4) (.int .i64 r)) := by
  unfold atPar at hr
  have hp := par_mkdir h l hl (ParP w vb tb ns' lo (c + 4) r)
    (fun E w1 hB hE hE0 => by rw [if_neg (by rw [hE]; exact hE0), hE] at hr; cases hr; exact ⟨rfl, lo, (h.below hB).le (by omega), TFr.of_below hB⟩)
    (fun hE w1 hB => by
      rw [if_pos hE] at hr
      refine (mkdir_is (h.below hB) hc (parDi ns l) (parN l) r ns' hr).mono ?_
      intro e w2 hq
      obtain ⟨h1, lo', h2, h3⟩ := MadP.ahead hB hq
      exact ⟨r, h1, rfl, lo', h2, h3⟩)
  clear h hl hr
  generalize B l = L at *
  go_enter Tryd.func9, Tryd.ntmps9
  go_wp2_with (go_at_call 29; (with_reducible refine hp.mono ?_); rintro e w1 ⟨r1, rfl, rfl, hq⟩; have H1 := Lib.hid hq; clear hp hq)
  go_ret
  exact ⟨rfl, H1.out⟩
set_option maxRecDepth 100000 in
theorem unlink_is [Inhabited CapT] (h : VV w vb tb ns lo c) (hc : c ≤ 9000) (d : Int) (nm : Txt) (r : Int) (ns' : NSt) (hr : remF ns d nm false 12 = (r, ns')) :
    Calls Tryd.prog 39 #[.pointer (some ⟨vb, 0, none⟩), .int .i64 d, .string (B nm)] w (MadP w vb tb ns' lo (c + 1) (.int .i64 r)) := by
  have hrm := rem_is h hc d nm false 12 r ns' hr
  clear h hr
  generalize B nm = L at *
  go_enter Tryd.func39, Tryd.ntmps39
  go_wp2_with (go_at_call 57; (with_reducible refine hrm.mono ?_); rintro e w1 ⟨rfl, hq⟩; have H1 := Lib.hid hq; clear hrm hq)
  go_ret
  exact ⟨rfl, H1.out⟩
set_option maxRecDepth 100000 in
theorem Unlink_is [Inhabited CapT] (h : VV w vb tb ns lo c) (hc : c ≤ 9000) (l : Txt) (hl : l.length ≤ 100000) (r : Int) (ns' : NSt) (hr : atPar ns l (fun d nm => remF ns d nm false 12) = (r, ns')) :
    Calls Tryd.prog 14 #[.pointer (some ⟨vb, 0, none⟩), .string (B l)] w (MadP w vb tb ns' lo (c + 1) (.int .i64 r)) := by
  unfold atPar at hr
  have hp := par_unlink h l hl (ParP w vb tb ns' lo (c + 1) r)
    (fun E w1 hB hE hE0 => by rw [if_neg (by rw [hE]; exact hE0), hE] at hr; cases hr; exact ⟨rfl, lo, (h.below hB).le (by omega), TFr.of_below hB⟩)
    (fun hE w1 hB => by
      rw [if_pos hE] at hr
      refine (unlink_is (h.below hB) hc (parDi ns l) (parN l) r ns' hr).mono ?_
      intro e w2 hq
      obtain ⟨h1, lo', h2, h3⟩ := MadP.ahead hB hq
      exact ⟨r, h1, rfl, lo', h2, h3⟩)
  clear h hl hr
  generalize B l = L at *
  go_enter Tryd.func14, Tryd.ntmps14
  go_wp2_with (go_at_call 29; (with_reducible refine hp.mono ?_); rintro e w1 ⟨r1, rfl, rfl, hq⟩; have H1 := Lib.hid hq; clear hp hq)
  go_ret
  exact ⟨rfl, H1.out⟩
set_option maxRecDepth 100000 in
theorem rmdir_is [Inhabited CapT] (h : VV w vb tb ns lo c) (hc : c ≤ 9000) (d : Int) (nm : Txt) (r : Int) (ns' : NSt) (hr : remF ns d nm true 11 = (r, ns')) :
    Calls Tryd.prog 38 #[.pointer (some ⟨vb, 0, none⟩), .int .i64 d, .string (B nm)] w (MadP w vb tb ns' lo (c + 1) (.int .i64 r)) := by
  have hrm := rem_is h hc d nm true 11 r ns' hr
  clear h hr
  generalize B nm = L at *
  go_enter Tryd.func38, Tryd.ntmps38
  go_wp2_with (go_at_call 57; (with_reducible refine hrm.mono ?_); rintro e w1 ⟨rfl, hq⟩; have H1 := Lib.hid hq; clear hrm hq)
  go_ret
  exact ⟨rfl, H1.out⟩
set_option maxRecDepth 100000 in
theorem Rmdir_is [Inhabited CapT] (h : VV w vb tb ns lo c) (hc : c ≤ 9000) (l : Txt) (hl : l.length ≤ 100000) (r : Int) (ns' : NSt) (hr : atPar ns l (fun d nm => remF ns d nm true 11) = (r, ns')) :
    Calls Tryd.prog 13 #[.pointer (some ⟨vb, 0, none⟩), .string (B l)] w (MadP w vb tb ns' lo (c + 1) (.int .i64 r)) := by
  unfold atPar at hr
  have hp := par_rmdir h l hl (ParP w vb tb ns' lo (c + 1) r)
    (fun E w1 hB hE hE0 => by rw [if_neg (by rw [hE]; exact hE0), hE] at hr; cases hr; exact ⟨rfl, lo, (h.below hB).le (by omega), TFr.of_below hB⟩)
    (fun hE w1 hB => by
      rw [if_pos hE] at hr
      refine (rmdir_is (h.below hB) hc (parDi ns l) (parN l) r ns' hr).mono ?_
      intro e w2 hq
      obtain ⟨h1, lo', h2, h3⟩ := MadP.ahead hB hq
      exact ⟨r, h1, rfl, lo', h2, h3⟩)
  clear h hl hr
  generalize B l = L at *
  go_enter Tryd.func13, Tryd.ntmps13
  go_wp2_with (go_at_call 29; (with_reducible refine hp.mono ?_); rintro e w1 ⟨r1, rfl, rfl, hq⟩; have H1 := Lib.hid hq; clear hp hq)
  go_ret
  exact ⟨rfl, H1.out⟩
end
end Go.Proofs.YtchnjfmimpikcaaDoor
