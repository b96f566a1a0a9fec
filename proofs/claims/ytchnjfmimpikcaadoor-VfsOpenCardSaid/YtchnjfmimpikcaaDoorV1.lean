/-
  The vfs as it lies; where a path leads (Walk); is a node a directory.
-/
import Derived.Test.YtchnjfmimpikcaaDoorIVal
import Derived.Test.YtchnjfmimpikcaaDoorPPar
namespace Go.Proofs.YtchnjfmimpikcaaDoor
set_option linter.unusedSimpArgs false
set_option linter.unusedVariables false
open Go.RowKit Own RegJ Two
open Go.Lib hiding intOf

/-- the library's cell, which is nobody's -/
def ML (w : World) (lo : Lo) : Prop := (∃ m0, w.cell? ⟨0, 0, none⟩ = some (.int .i64 m0)) ∧ ∀ r, lo r ≠ some 0
theorem cell_upd {F : Nat → Prop} {w w' : World} (hu : Upd F w w') {a : Addr} {v : Value} (h : w.cell? a = some v) (hf : ¬ F a.block) : w'.cell? a = some v := by
  have hl := cell_lt' h
  unfold World.cell? at *
  rw [hu.block a.block hl hf]
  exact h
theorem ML.step {w w' : World} {lo lo' : Lo} (h : ML w lo) (hF : TFr lo lo' w w') : ML w' lo' := by
  obtain ⟨⟨m0, h1⟩, h2⟩ := h
  refine ⟨⟨m0, cell_upd hF.1 h1 (fun ⟨r, hr⟩ => h2 r hr)⟩, fun r hr => ?_⟩
  rcases hF.2.1 r _ hr with ⟨r', h3⟩ | h3
  · exact h2 r' h3
  · have h4 := cell_lt' h1
    simp only at h4
    omega
/-- a vfs, over its table -/
def VB [Inhabited CapT] (w : World) (vb tb : Nat) (ns : NSt) (lo : Lo) (N : Nat) : Prop := (∃ sb, lo (.st .sto) = some sb ∧ Blk w vb #[.pointer (some ⟨sb, 0, none⟩), .pointer (some ⟨tb, 0, none⟩)] 64) ∧ TB w tb ns lo N ∧ (∀ r, lo r ≠ some vb) ∧ ML w lo
section
variable {w w' : World} {vb tb : Nat} {ns ns' : NSt} {lo lo' : Lo} {N N' : Nat}
theorem VB.below [Inhabited CapT] (h : VB w vb tb ns lo N) (hB : Below w.heap.size w w') : VB w' vb tb ns lo N := by
  obtain ⟨⟨sp, h0, h1⟩, h2, h3, h4⟩ := h
  exact ⟨⟨sp, h0, Blk.below hB h1 h1.lt⟩, h2.below hB, h3, h4.step (TFr.of_below hB)⟩
theorem VB.step [Inhabited CapT] (h : VB w vb tb ns lo N) (hT : TB w' tb ns' lo' N') (hF : TFr lo lo' w w') : VB w' vb tb ns' lo' N' := by
  obtain ⟨⟨sp, h0, h1⟩, h2, h3, h4⟩ := h
  refine ⟨⟨sp, hF.2.2.1.trans h0, Blk.upd hF.1 h1 (fun ⟨r, hr⟩ => h3 r hr)⟩, hT, fun r hr => ?_, h4.step hF⟩
  rcases hF.2.1 r vb hr with ⟨r', h⟩ | h
  · exact h3 r' h
  · have := h1.lt; omega
theorem VB.cell [Inhabited CapT] (h : VB w vb tb ns lo N) : w.cell? ⟨vb, 1, none⟩ = some (.pointer (some ⟨tb, 0, none⟩)) := by
  obtain ⟨⟨sp, _, h1⟩, _⟩ := h
  exact h1.cell rfl
theorem VB.cell0 [Inhabited CapT] (h : VB w vb tb ns lo N) : ∃ sb, lo (.st .sto) = some sb ∧ w.cell? ⟨vb, 0, none⟩ = some (.pointer (some ⟨sb, 0, none⟩)) := by
  obtain ⟨⟨sp, h0, h1⟩, _⟩ := h
  exact ⟨sp, h0, h1.cell rfl⟩
end
/-! ### what a directory names -/
def fndE (es : List En) (nm : Txt) : Option Int := (es.find? fun x => decide (x.1 = nm)).map Prod.snd
def findR (ns : NSt) (id : Int) (nm : Txt) : Int × Int := match dirAt ns id with
  | none => (0, 11)
  | some nd => match fndE nd.es nm with
    | some k => (k, 0)
    | none => (0, 9)
def walkL (ns : NSt) (id : Int) : List Txt → Int × Int
  | [] => (id, 0)
  | x :: r => if (findR ns id x).2 = 0 then walkL ns (findR ns id x).1 r else (0, (findR ns id x).2)
def walkR (ns : NSt) (l : Txt) : Int × Int := if splitE l = 0 then walkL ns 0 (splitL l) else (0, splitE l)
def isDirF (ns : NSt) (id : Int) : Bool := match ndAt ns id with
  | some nd => nd.dir
  | none => false
theorem fnd_no {es : List En} {nm : Txt} {j : Nat} (hS : Srt es) (hA : At es nm j) (hno : isAt es nm j = false) : fndE es nm = none := by
  have : es.find? (fun x => decide (x.1 = nm)) = none := List.find?_eq_none.2 fun x hx hd => by
    have hd := of_decide_eq_true hd
    obtain ⟨k, hk, hkx⟩ := List.getElem_of_mem hx
    have hkx : es[k]? = some x := by rw [List.getElem?_eq_getElem hk, hkx]
    rcases Nat.lt_trichotomy k j with e | e | e
    · have := hA.2.1 k x hkx e
      rw [hd, nlt_irr] at this; cases this
    · subst e
      rw [isAt_some hkx] at hno
      simp [hd] at hno
    · obtain ⟨y, hy⟩ : ∃ y, es[j]? = some y := ⟨_, List.getElem?_eq_getElem (by omega)⟩
      have h1 := srt_at hS hy hkx e
      have h2 := hA.2.2 j y hy (Nat.le_refl _)
      rw [hd, h2] at h1; cases h1
  unfold fndE
  rw [this]
  rfl
theorem fnd_yes {es : List En} {j : Nat} {x : En} (hS : Srt es) (hx : es[j]? = some x) : fndE es x.1 = some x.2 := by
  unfold fndE
  cases hf : es.find? (fun y => decide (y.1 = x.1)) with
  | none => exact absurd (List.find?_eq_none.1 hf x (List.mem_of_getElem? hx)) (by simp)
  | some y =>
    have h1 : y.1 = x.1 := by have := List.find?_some hf; simpa using this
    obtain ⟨k, hk, hky⟩ := List.getElem_of_mem (List.mem_of_find?_eq_some hf)
    have hky : es[k]? = some y := by rw [List.getElem?_eq_getElem hk, hky]
    rcases Nat.lt_trichotomy k j with e | e | e
    · have := srt_at hS hky hx e
      rw [h1, nlt_irr] at this; cases this
    · subst e
      rw [hx] at hky; cases hky; rfl
    · have := srt_at hS hx hky e
      rw [h1, nlt_irr] at this; cases this
section
variable {w : World} {vb tb : Nat} {ns : NSt} {lo : Lo} {N : Nat}
theorem tfind_is [Inhabited CapT] (h : TB w tb ns lo N) (id : Int) (nm : Txt) (f1 f2 : Int) (hf : findR ns id nm = (f1, f2)) : Calls Tryd.prog 41 #[.pointer (some ⟨tb, 0, none⟩), .int .i64 id, .string (B nm)] w fun e w' => e = .returned (.tuple #[.int .i64 f1, .int .i64 f2]) ∧ Below w.heap.size w w' := by
  unfold findR at hf
  cases hd : dirAt ns id with
  | none =>
    rw [hd] at hf; cases hf
    refine (tfind_no h id nm hd).mono ?_
    rintro e w' ⟨rfl, rfl⟩
    exact ⟨rfl, Below.refl _ _⟩
  | some nd =>
    rw [hd] at hf
    simp only at hf
    obtain ⟨i, rfl, hi, hdir⟩ := dirAt_some hd
    obtain ⟨k, v, _, _, _, _, hS⟩ := h.node _ _ hi
    refine (tfind_yes h i nm nd hi hdir).mono ?_
    rintro e w' ⟨⟨j, hA, hq⟩, hB⟩
    rcases hq with ⟨hno, rfl⟩ | ⟨x, hx, rfl, rfl⟩
    · rw [fnd_no hS hA hno] at hf
      cases hf
      exact ⟨rfl, hB⟩
    · rw [fnd_yes hS hx] at hf
      cases hf
      exact ⟨rfl, hB⟩
set_option maxRecDepth 100000 in
theorem isdir_is [Inhabited CapT] (h : VB w vb tb ns lo N) (id : Int) (b : Bool) (hb : isDirF ns id = b) : Calls Tryd.prog 33 #[.pointer (some ⟨vb, 0, none⟩), .int .i64 id] w fun e w' => e = .returned (.bool b) ∧ Below w.heap.size w w' := by
  have c1 := h.cell
  have hg := get_any h.2.1 id
  clear h
  unfold isDirF at hb
  unfold getV at hg
  cases hn : ndAt ns id with
  | none =>
    rw [hn] at hb hg
    simp only at hb hg
    subst hb
    unfold in0 at hg
    clear hn
    go_enter Tryd.func33, Tryd.ntmps33
    go_wp2_with (go_at_call 42; (with_reducible refine hg.mono ?_); rintro e w1 ⟨rfl, hB⟩; have H1 := Lib.hid hB; clear hB hg)
    go_ret
    exact ⟨rfl, H1.out.alloc H1.out.size _⟩
  | some nd =>
    rw [hn] at hb hg
    simp only at hb hg
    subst hb
    generalize sizeN nd = sz at *
    generalize nd.dir = b at *
    generalize nd.links = k at *
    clear hn
    go_enter Tryd.func33, Tryd.ntmps33
    go_wp2_with (go_at_call 42; (with_reducible refine hg.mono ?_); rintro e w1 ⟨rfl, hB⟩; have H1 := Lib.hid hB; clear hB hg)
    go_ret
    exact ⟨rfl, H1.out.alloc H1.out.size _⟩
set_option maxRecDepth 100000 in
set_option maxHeartbeats 1000000 in
theorem walk_is [Inhabited CapT] (h : VB w vb tb ns lo N) (l : Txt) (hl : l.length ≤ 100000) (r1 r2 : Int) (hr : walkR ns l = (r1, r2)) :
    Calls Tryd.prog 17 #[.pointer (some ⟨vb, 0, none⟩), .string (B l)] w fun e w' => e = .returned (.tuple #[.int .i64 r1, .int .i64 r2]) ∧ Below w.heap.size w w' := by
  obtain ⟨m0, hm0⟩ := h.2.2.2.1
  have hs := split_is l w hl m0 hm0
  obtain ⟨n, hn⟩ : ∃ n, (splitL l).length = n := ⟨_, rfl⟩
  obtain ⟨E, hE⟩ : ∃ E, splitE l = E := ⟨_, rfl⟩
  have hn6 := splitL_len l
  rw [hn] at hn6
  unfold walkR at hr
  have H := Lib.hid h
  have HN := Lib.hid hn
  have HE := Lib.hid hE
  by_cases hE0 : E = 0
  · subst hE0
    rw [if_pos hE] at hr
    have HR := Lib.hid hr
    clear h hm0 hl hr hn hE
    go_enter Tryd.func17, Tryd.ntmps17
    go_wp2_with (go_at_call 40; refine hs.mono ?_; intro e w1 hq; obtain ⟨a, c, b, rfl, hTx, hb, hB⟩ := hq.at HN.out HE.out; have H1 := Lib.hid (And.intro hTx hB); clear hs hTx hB hq hb)
    go_loopw [7, 8, 20] (fun v7 v8 v20 wr => ∃ (i : Nat) (id : Int), i ≤ n ∧ v20 = .int .i64 i ∧ v8 = .int .i64 id ∧ v7 = .int .i64 0 ∧ Hid (walkL ns id ((splitL l).drop i) = (r1, r2)) ∧ Below w1.heap.size w1 wr) (fun _ _ v20 _ => n - (intOf v20).toNat)
    case atStart => exact ⟨0, 0, Nat.zero_le _, rfl, rfl, rfl, Lib.hid HR.out, Below.refl _ _⟩
    case round =>
      obtain ⟨i, id, hi, rfl, rfl, rfl, HW, hBr⟩ := hrel
      have hBw : Below w.heap.size w wr := H1.out.2.trans (hBr.mono H1.out.2.size)
      by_cases hil : i < n
      · obtain ⟨x, hx⟩ : ∃ x, (splitL l)[i]? = some x := ⟨_, List.getElem?_eq_getElem (by rw [HN.out]; exact hil)⟩
        obtain ⟨g, o, rfl, k0⟩ := (RdT.below H1.out.1.rd hBr) i x hx
        have d1 : decide ((i : Int) < (n : Int)) = true := by simp; omega
        have i1 : (i : Int) < (n : Int) := by omega
        have i2 : (0 : Int) ≤ i := by omega
        have c1 := (H.out.below hBw).cell
        have hdr : (splitL l).drop i = x :: (splitL l).drop (i + 1) := by
          obtain ⟨h1, h2⟩ := List.getElem?_eq_some_iff.1 hx
          rw [List.drop_eq_getElem_cons h1, h2]
        obtain ⟨f1, f2, hf⟩ : ∃ f1 f2, findR ns id x = (f1, f2) := ⟨_, _, rfl⟩
        have hfi := tfind_is (H.out.below hBw).2.1 id x f1 f2 hf
        have hW := HW.out
        rw [hdr] at hW
        unfold walkL at hW
        rw [hf] at hW
        simp only at hW
        have HBB := Lib.hid (And.intro hBr hBw)
        clear hx hdr hf HW hBr hBw
        by_cases hf0 : f2 = 0
        · subst hf0
          rw [if_pos rfl] at hW
          have HW := Lib.hid hW
          clear hW
          go_wp2_with (go_at_call 41; (with_reducible refine hfi.mono ?_); rintro e w2 ⟨rfl, hB2⟩; have H2 := Lib.hid (HBB.out.1.trans (hB2.mono HBB.out.1.size)); clear hB2 hfi)
          go_roundw
          case rel => exact ⟨i + 1, f1, by omega, by go_num, rfl, rfl, Lib.hid HW.out, H2.out⟩
          case measure => simp [intOf]; omega
        · rw [if_neg hf0] at hW
          have e1 : (f2 != 0) = true := by simpa using hf0
          have HW := Lib.hid hW
          clear hW hf0
          go_wp2_with (go_at_call 41; (with_reducible refine hfi.mono ?_); rintro e w2 ⟨rfl, hB2⟩; have H2 := Lib.hid (HBB.out.2.trans (hB2.mono HBB.out.2.size)); clear hB2 hfi)
          go_returns
          have := HW.out
          cases this
          exact ⟨rfl, H2.out⟩
      · have d1 : decide ((i : Int) < (n : Int)) = false := by simp; omega
        have hW := HW.out
        rw [List.drop_of_length_le (by rw [HN.out]; omega)] at hW
        unfold walkL at hW
        have HW2 := Lib.hid (And.intro hW hBw)
        clear hW HW hBr hBw
        go_wp2_with (fail)
        go_returns
        have := HW2.out.1
        cases this
        exact ⟨rfl, HW2.out.2⟩
  · have hsl := splitL_bad (l := l) (by rw [hE]; exact hE0)
    rw [if_neg (by rw [hE]; exact hE0), hE] at hr
    have e1 : (E != 0) = true := by simpa using hE0
    obtain rfl : n = 0 := by rw [← hn, hsl]; rfl
    have HR := Lib.hid hr
    clear h hm0 hl hr hn hE hE0 hsl
    go_enter Tryd.func17, Tryd.ntmps17
    go_wp2_with (go_at_call 40; refine hs.mono ?_; intro e w1 hq; obtain ⟨a, c, b, rfl, hTx, hb, hB⟩ := hq.at HN.out HE.out; have H1 := Lib.hid (And.intro hTx hB); clear hs hTx hB hq hb)
    go_loopw [7, 8, 20] (fun v7 v8 v20 wr => v20 = .int .i64 0 ∧ v7 = .int .i64 E ∧ v8 = .int .i64 0 ∧ wr = w1) (fun _ _ _ _ => 0)
    case atStart => exact ⟨rfl, rfl, rfl, rfl⟩
    case round =>
      obtain ⟨rfl, rfl, rfl, rfl⟩ := hrel
      go_wp2_with (fail)
      go_returns
      have := HR.out
      cases this
      exact ⟨rfl, H1.out.2⟩
end
end Go.Proofs.YtchnjfmimpikcaaDoor
