/-
  Link at the program's vfs.
-/
import Derived.Test.YtjpjafajploiaaaGreatDoorVOpD
namespace Go.Proofs.YtjpjafajploiaaaGreatDoor
set_option linter.unusedSimpArgs false
set_option linter.unusedVariables false
open Go.RowKit Own RegJ Two
open Go.Lib hiding intOf
section
variable {w w' : World} {vb tb : Nat} {ns ns' : NSt} {lo lo' : Lo} {N c d : Nat}
def linkE (ns : NSt) (d : Int) (nm : Txt) (id : Int) : Int × NSt := match dirAt ns d with
  | none => (11, ns)
  | some nd => entF ns d.toNat nd nm id
def linkF (ns : NSt) (s t : Txt) : Int × NSt := if (walkR ns s).2 ≠ 0 then ((walkR ns s).2, ns) else if isDirF ns (walkR ns s).1 = true then (6, ns) else atPar ns t fun d nm => linkE ns d nm (walkR ns s).1
theorem linkE_is [Inhabited CapT] (h : VV w vb tb ns lo c) (d : Int) (nm : Txt) (id r : Int) (ns' : NSt) (hr : linkE ns d nm id = (r, ns')) :
    Calls Tryz.prog 89 #[.pointer (some ⟨tb, 0, none⟩), .int .i64 d, .string (B nm), .int .i64 id] w fun e w' => e = .returned (.int .i64 r) ∧ ∃ lo', VV w' vb tb ns' lo' (c + 1) ∧ TFr lo lo' w w' := by
  unfold linkE at hr
  cases hd : dirAt ns d with
  | none =>
    rw [hd] at hr; cases hr
    refine (enter_nodir h.1.2.1 d id nm hd).mono ?_
    rintro e w' ⟨rfl, rfl⟩
    exact ⟨rfl, lo, h.le (by omega), TFr.refl _ _⟩
  | some nd =>
    rw [hd] at hr
    simp only at hr
    obtain ⟨i, rfl, hi, hdir⟩ := dirAt_some hd
    simp only [Int.toNat_natCast] at hr
    have hiv := entF_iv h.2 hi hdir nm id
    rw [hr] at hiv
    refine (enter_f h.1.2.1 i id nm nd hi hdir (fun m hm => ?_) r ns' hr).mono ?_
    · obtain ⟨k, hk, hkk⟩ := ndAt_some hm
      exact ⟨h.2.inv.links hkk, h.2.inv.bnd k m hkk⟩
    · rintro e w' ⟨rfl, lo', hT, hF⟩
      exact ⟨rfl, lo', ⟨(h.1.step hT hF).le (by omega), hiv⟩, hF⟩
set_option maxRecDepth 100000 in
theorem linkK_is [Inhabited CapT] (h : VV w vb tb ns lo c) (bv bi : Nat) (hv : w.cell? ⟨bv, 0, none⟩ = some (.pointer (some ⟨vb, 0, none⟩))) (id : Int) (hi : w.cell? ⟨bi, 0, none⟩ = some (.int .i64 id))
    (d : Int) (nm : Txt) (r0 : Int) (ns' : NSt) (hr : linkE ns d nm id = (r0, ns')) :
    Calls Tryz.prog 88 #[.int .i64 d, .string (B nm), .pointer (some ⟨bv, 0, none⟩), .pointer (some ⟨bi, 0, none⟩)] w fun e w' => ∃ r, e = .returned (.int .i64 r) ∧ ParP w vb tb ns' lo (c + 1) r0 r w' := by
  have hB : Below w.heap.size w w.drew := (Below.refl _ _).drew
  have hen := linkE_is (h.below hB) d nm id r0 ns' hr
  have cv := h.1.cell
  have H := Lib.hid hB
  clear h hr hB
  generalize B nm = L at *
  go_enter Tryz.func88, Tryz.ntmps88
  go_wp2
  go_still_tail 7, (by kernel_rfl)
  change wpList _ _ _ _ _ w.drew
  clear hv hi cv
  generalize w.drew = w3 at *
  go_wp2_with (go_at_call 89; (with_reducible refine hen.mono ?_); rintro e w4 ⟨rfl, lo4, hV, hF⟩; have H4 := Lib.hid (And.intro hV hF); clear hen hV hF)
  go_returns
  exact ⟨r0, rfl, rfl, lo4, H4.out.1, (TFr.of_below H.out).trans H4.out.2⟩
set_option maxRecDepth 100000 in
theorem Link_is [Inhabited CapT] (h : VV w vb tb ns lo c) (l l2 : Txt) (hl : l.length ≤ 100000) (hl2 : l2.length ≤ 100000) (r0 : Int) (ns' : NSt) (hm : linkF ns l l2 = (r0, ns')) :
    Calls Tryz.prog 48 #[.pointer (some ⟨vb, 0, none⟩), .string (B l), .string (B l2)] w (MadP w vb tb ns' lo (c + 1) (.int .i64 r0)) := by
  have hl0 := h.lts
  have hB0 : Below w.heap.size w (w.alloc (.cells #[.pointer (some ⟨vb, 0, none⟩)] 66)) := (Below.refl _ _).alloc (Nat.le_refl _) _
  obtain ⟨a, e0, hw⟩ : ∃ a e0, walkR ns l = (a, e0) := ⟨_, _, rfl⟩
  have hwk := walk_is (h.below hB0).1 l hl a e0 hw
  have hbv := Blk.new w #[.pointer (some ⟨vb, 0, none⟩)] 66
  have c0 := hbv.rd
  unfold linkF at hm
  rw [hw] at hm
  simp only at hm
  by_cases h0 : e0 = 0
  · subst h0
    rw [if_neg (by simp)] at hm
    by_cases hd : isDirF ns a = true
    · rw [if_pos hd] at hm; cases hm
      have H := Lib.hid (And.intro hB0 (And.intro hbv (And.intro h hd)))
      clear h hB0 hbv hl hl2 hw hd hl0
      generalize B l = L at *
      generalize B l2 = L2 at *
      go_enter Tryz.func48, Tryz.ntmps48
      go_wp2_with (first
        | (go_at_call 70; (with_reducible refine hwk.mono ?_); rintro e w1 ⟨rfl, hB⟩; have hb1 := (Blk.below hB H.out.2.1 H.out.2.1.lt).alloc (.cells #[.int .i64 a] 3); clear c0; have c0 := hb1.rd; have c1 := (Blk.new w1 #[.int .i64 a] 3).rd; have hb := H.out.1.trans (hB.mono H.out.1.size); have hb2 := hb.alloc hb.size (.cells #[.int .i64 a] 3); have hid := isdir_is (H.out.2.2.1.below hb2).1 a true H.out.2.2.2; have H1 := Lib.hid hb2; clear hB hwk hb1 hb hb2)
        | (go_at_call 86; (with_reducible refine hid.mono ?_); rintro e w2 ⟨rfl, hB⟩; have H2 := Lib.hid hB; clear hB hid))
      go_returns
      have hb := H1.out.trans (H2.out.mono H1.out.size)
      exact ⟨rfl, lo, (H.out.2.2.1.below hb).le (by omega), TFr.of_below hb⟩
    · rw [if_neg hd] at hm
      unfold atPar at hm
      have hpar : ∀ w1 b1, Below w.heap.size w w1 → w1.cell? ⟨w.heap.size, 0, none⟩ = some (.pointer (some ⟨vb, 0, none⟩)) → w1.cell? ⟨b1, 0, none⟩ = some (.int .i64 a) → Calls Tryz.prog 87 #[.pointer (some ⟨vb, 0, none⟩), .string (B l2), .func (.func 88) #[] #[.pointer (some ⟨w.heap.size, 0, none⟩), .pointer (some ⟨b1, 0, none⟩)]] w1
          fun e w2 => ∃ r, e = .returned (.int .i64 r) ∧ ParP w1 vb tb ns' lo (c + 1) r0 r w2 := fun w1 b1 hB1 hcv hci => by
        have h2 := h.below hB1
        refine par_LinkF h2 l2 hl2 _ _ _ (fun E w3 hB3 hE hE0 => ?_) (fun hE w3 hB3 => ?_)
        · rw [if_neg (by rw [hE]; exact hE0), hE] at hm
          cases hm
          exact ⟨rfl, lo, (h2.below hB3).le (by omega), TFr.of_below hB3⟩
        · rw [if_pos hE] at hm
          have f1 : w3.cell? ⟨w.heap.size, 0, none⟩ = some (.pointer (some ⟨vb, 0, none⟩)) := cell_upd (Upd.of_below (F := fun _ => False) hB3) hcv (fun h => h)
          have f2 : w3.cell? ⟨b1, 0, none⟩ = some (.int .i64 a) := cell_upd (Upd.of_below (F := fun _ => False) hB3) hci (fun h => h)
          refine (linkK_is (h2.below hB3) w.heap.size b1 f1 a f2 (parDi ns l2) (parN l2) r0 ns' hm).mono ?_
          rintro e w4 ⟨r, rfl, rfl, lo', h3, h4⟩
          exact ⟨r, rfl, rfl, lo', h3, (TFr.of_below hB3).trans h4⟩
      have H := Lib.hid (And.intro hB0 (And.intro hbv (And.intro h (And.intro (by simpa using hd : isDirF ns a = false) hpar))))
      clear h hB0 hbv hl hl2 hw hd hl0 hpar hm
      generalize B l = L at *
      generalize B l2 = L2 at *
      go_enter Tryz.func48, Tryz.ntmps48
      go_wp2_with (first
        | (go_at_call 70; (with_reducible refine hwk.mono ?_); rintro e w1 ⟨rfl, hB⟩; have hb1 := (Blk.below hB H.out.2.1 H.out.2.1.lt).alloc (.cells #[.int .i64 a] 3); clear c0; have c0 := hb1.rd; have c1 := (Blk.new w1 #[.int .i64 a] 3).rd; have hb := H.out.1.trans (hB.mono H.out.1.size); have hb2 := hb.alloc hb.size (.cells #[.int .i64 a] 3); have hid := isdir_is (H.out.2.2.1.below hb2).1 a false H.out.2.2.2.1; have H1 := Lib.hid (And.intro hb2 hb1); clear hB hwk hb1 hb hb2)
        | (go_at_call 86; (with_reducible refine hid.mono ?_); rintro e w2 ⟨rfl, hB⟩; have hb := H1.out.1.trans (hB.mono H1.out.1.size); have k0 := Blk.below hB H1.out.2 H1.out.2.lt; have k1 := Blk.below hB (Blk.new w1 #[.int .i64 a] 3) (Blk.new w1 #[.int .i64 a] 3).lt; clear c0 c1; have c0 := k0.rd; have hp := H.out.2.2.2.2 w2 w1.heap.size hb (k0.rd 0) (k1.rd 0); have H2 := Lib.hid hb; clear hB hid hb k0 k1)
        | (go_at_call 87; (with_reducible refine hp.mono ?_); rintro e w3 ⟨r, rfl, rfl, hq⟩; have H3 := Lib.hid hq; clear hp hq))
      go_returns
      obtain ⟨lo', h3, h4⟩ := H3.out
      exact ⟨rfl, lo', h3, (TFr.of_below H2.out).trans h4⟩
  · rw [if_pos h0] at hm; cases hm
    have H := Lib.hid (And.intro hB0 (And.intro hbv h))
    clear h hB0 hbv hl hl2 hw hl0
    generalize B l = L at *
    generalize B l2 = L2 at *
    go_enter Tryz.func48, Tryz.ntmps48
    go_wp2_with (go_at_call 70; (with_reducible refine hwk.mono ?_); rintro e w1 ⟨rfl, hB⟩; have H1 := Lib.hid hB; clear hB hwk)
    go_returns
    have hb := H.out.1.trans (H1.out.mono H.out.1.size)
    have hb2 := hb.alloc hb.size (.cells #[.int .i64 a] 3)
    exact ⟨rfl, lo, (H.out.2.2.below hb2).le (by omega), TFr.of_below hb2⟩
theorem d_link [Inhabited CapT] {w0 : World} {fb sb : Nat} (h : DV w0 vb tb fb sb ns c w) (l l2 : Txt) (hl : l.length ≤ 100000) (hl2 : l2.length ≤ 100000) (r : Int) (ns' : NSt) (hr : linkF ns l l2 = (r, ns')) (s s2 : ByteArray) (hs : s = B l) (hs2 : s2 = B l2) :
    Calls Tryz.prog 48 #[.pointer (some ⟨vb, 0, none⟩), .string s, .string s2] w (DP w0 vb tb fb sb ns' (c + 1) (.int .i64 r)) := by
  subst hs hs2
  obtain ⟨lo, h1, h2, h3, h4, h5⟩ := h
  refine (Link_is h1 l l2 hl hl2 r _ hr).mono ?_
  rintro e w' ⟨rfl, lo', g1, g2⟩
  exact ⟨rfl, DV.fr g1 g2 h2 h3 h4 h5⟩
theorem d_rm [Inhabited CapT] {w0 : World} {fb sb : Nat} (h : DV w0 vb tb fb sb ns c w) (hc : c ≤ 9000) (l : Txt) (hl : l.length ≤ 100000) (r : Int) (ns' : NSt) (hr : atPar ns l (fun d nm => remF ns d nm true 11) = (r, ns')) (s : ByteArray) (hs : s = B l) :
    Calls Tryz.prog 51 #[.pointer (some ⟨vb, 0, none⟩), .string s] w (DP w0 vb tb fb sb ns' (c + 1) (.int .i64 r)) := by
  subst hs
  obtain ⟨lo, h1, h2, h3, h4, h5⟩ := h
  refine (Rmdir_is h1 hc l hl r _ hr).mono ?_
  rintro e w' ⟨rfl, lo', g1, g2⟩
  exact ⟨rfl, DV.fr g1 g2 h2 h3 h4 h5⟩
end
end Go.Proofs.YtjpjafajploiaaaGreatDoor
/-
  Stat of a path that leads nowhere; Stat of a vfs of the call's own.
-/
namespace Go.Proofs.YtjpjafajploiaaaGreatDoor
set_option linter.unusedSimpArgs false
set_option linter.unusedVariables false
open Go.RowKit Own RegJ Two
open Go.Lib hiding intOf
section
variable {w w' : World} {vb tb : Nat} {ns ns' : NSt} {lo lo' : Lo} {N c d : Nat}
set_option maxRecDepth 100000 in
theorem stat_no [Inhabited CapT] (h : VV w vb tb ns lo c) (l : Txt) (hl : l.length ≤ 100000) (a e0 : Int) (hw : walkR ns l = (a, e0)) (he : e0 ≠ 0) :
    Calls Tryz.prog 94 #[.pointer (some ⟨vb, 0, none⟩), .string (B l)] w fun e w' => e = .returned (.tuple #[.agg in0, .int .i64 e0]) ∧ Below w.heap.size w w' := by
  have hB0 : Below w.heap.size w (w.alloc (.cells in0 184)) := (Below.refl _ _).alloc (Nat.le_refl _) _
  have hb0 := Blk.new w in0 184
  have hwk := walk_is (h.below hB0).1 l hl a e0 hw
  unfold in0 at *
  have H := Lib.hid (And.intro hB0 hb0)
  clear h hB0 hl hw hb0
  generalize B l = L at *
  go_enter Tryz.func94, Tryz.ntmps94
  go_wp2_with (go_at_call 70; (with_reducible refine hwk.mono ?_); rintro e w1 ⟨rfl, hB⟩; have hk1 := Blk.below hB H.out.2 H.out.2.lt; have c1 := hk1.rd; have f1 := hk1.nf; have H1 := Lib.hid (And.intro hB hk1); clear hB hwk hk1)
  have hk3 : Blk ((((w1.setCell ⟨w.heap.size, 0, none⟩ (.int .i64 0)).setCell ⟨w.heap.size, 1, none⟩ (.int .i64 0)).setCell ⟨w.heap.size, 2, none⟩ (.bool false)).setCell ⟨w.heap.size, 3, none⟩ (.int .i64 0)) w.heap.size #[.int .i64 0, .int .i64 0, .bool false, .int .i64 0] 184 := Blk.of ((((H1.out.2.set 0 (.int .i64 0)).set 1 (.int .i64 0)).set 2 (.bool false)).set 3 (.int .i64 0)) rfl
  have hu := ((((Upd.refl (fun k => k = w.heap.size) w1).setCell (p := ⟨w.heap.size, 0, none⟩) (fun _ => rfl) (.int .i64 0)).setCell (p := ⟨w.heap.size, 1, none⟩) (fun _ => rfl) (.int .i64 0)).setCell (p := ⟨w.heap.size, 2, none⟩) (fun _ => rfl) (.bool false)).setCell (p := ⟨w.heap.size, 3, none⟩) (fun _ => rfl) (.int .i64 0)
  have hb := H.out.1.trans (H1.out.1.mono H.out.1.size)
  have hbb : Below w.heap.size w ((((w1.setCell ⟨w.heap.size, 0, none⟩ (.int .i64 0)).setCell ⟨w.heap.size, 1, none⟩ (.int .i64 0)).setCell ⟨w.heap.size, 2, none⟩ (.bool false)).setCell ⟨w.heap.size, 3, none⟩ (.int .i64 0)) := hb.trans (hu.below hb.size (fun k hk => by omega))
  clear hu hb
  generalize ((((w1.setCell ⟨w.heap.size, 0, none⟩ (.int .i64 0)).setCell ⟨w.heap.size, 1, none⟩ (.int .i64 0)).setCell ⟨w.heap.size, 2, none⟩ (.bool false)).setCell ⟨w.heap.size, 3, none⟩ (.int .i64 0)) = w9 at hk3 hbb ⊢
  have c9 := hk3.rd
  try simp only [Exit.inBlock, Exit.then]
  refine bodyPost_ret (by simp [results, Tryz.results94, go_sem, c9]; try rfl) rfl ?_
  exact ⟨rfl, hbb⟩
def statF (ns : NSt) (l : Txt) : Array Value × Int := if (walkR ns l).2 ≠ 0 then (in0, (walkR ns l).2) else (getA ns (walkR ns l).1, 0)
theorem Stat_is [Inhabited CapT] (h : VV w vb tb ns lo c) (l : Txt) (hl : l.length ≤ 100000) (A : Array Value) (r : Int) (hr : statF ns l = (A, r)) :
    Calls Tryz.prog 94 #[.pointer (some ⟨vb, 0, none⟩), .string (B l)] w fun e w' => e = .returned (.tuple #[.agg A, .int .i64 r]) ∧ Below w.heap.size w w' := by
  obtain ⟨a, e0, hw⟩ : ∃ a e0, walkR ns l = (a, e0) := ⟨_, _, rfl⟩
  unfold statF at hr
  rw [hw] at hr
  simp only at hr
  by_cases h0 : e0 = 0
  · subst h0
    rw [if_neg (by simp)] at hr
    obtain ⟨k, nk, rfl, hk⟩ := walkR_nd h.2 hw
    have hnd : ndAt ns (k : Int) = some nk := by unfold ndAt; simp [hk]
    unfold getA at hr
    rw [hnd] at hr
    cases hr
    exact stat_yes h l hl _ hw nk hnd
  · rw [if_pos h0] at hr
    cases hr
    exact stat_no h l hl a _ hw h0
theorem d_stat [Inhabited CapT] {w0 : World} {fb sb : Nat} (h : DV w0 vb tb fb sb ns c w) (l : Txt) (hl : l.length ≤ 100000) (A : Array Value) (r : Int) (hr : statF ns l = (A, r)) (s : ByteArray) (hs : s = B l) :
    Calls Tryz.prog 94 #[.pointer (some ⟨vb, 0, none⟩), .string s] w (DP w0 vb tb fb sb ns c (.tuple #[.agg A, .int .i64 r])) := by
  subst hs
  have h' := h
  obtain ⟨lo, h1, h2, h3⟩ := h
  refine (Stat_is h1 l hl A r hr).mono ?_
  rintro e w' ⟨rfl, hB⟩
  exact ⟨rfl, h'.below hB⟩
end
end Go.Proofs.YtjpjafajploiaaaGreatDoor
