/-
  Descriptors with pipes: both made; Start, Copy, Close, Used, Leave beside pipes.
-/
import Derived.Test.YtaldahogjlokkaaGreatDoorLn
import Derived.Test.YtaldahogjlokkaaGreatDoorKu
import Derived.Test.YtaldahogjlokkaaGreatDoorKa
namespace Go.Proofs.YtaldahogjlokkaaGreatDoor
set_option linter.unusedSimpArgs false
set_option linter.unusedVariables false
open Go.RowKit Own RegJ Two
open Go.Lib hiding intOf

section
variable {cap : Nat} {w0 w w1 w2 w' : World} {O O1 : Nat → Prop} {fdb vb tb fb sb pb mb : Nat} {ns ns' : NSt} {c c' N N' M M' : Nat} {S S' : FS} {ps ps' : PS} {po : PRl → Option Nat} {fo : Nat → Nat}
theorem ex_start (h : EX cap w0 O fdb vb tb fb sb pb mb ns c N M S ps w) (hN : N ≤ 1000) (pid : Int) (hw : (Lit.int .i64 pid).wf = true) (h0 : 0 ≤ pid) (hp : S.pr pid = none) :
    Calls Tryz.prog 12 #[.pointer (some ⟨fdb, 0, none⟩), .int .i64 pid] w fun e w' => ∃ b, w.heap.size ≤ b ∧ EP cap w0 O fdb vb tb fb sb pb mb ns c (N + 1) M (S.start pid b) ps w (.int .i64 0) e w' := by
  obtain ⟨po, fo, O1, h1, h2, h3, h4, h5, h6⟩ := h
  letI C : Inhabited CapT := capP cap ps fo
  refine (k_start h1 hN pid hw h0 hp).mono ?_
  rintro e w' ⟨b, hb, hq⟩
  exact ⟨b, hb, EX.lift h2 h3 h4 h5 h6 hq⟩
theorem ex_copy (h : EX cap w0 O fdb vb tb fb sb pb mb ns c N M S ps w) (hN : N ≤ 1000) (pid q : Int) (hw : (Lit.int .i64 pid).wf = true) (hw2 : (Lit.int .i64 q).wf = true) (h0 : 0 ≤ q) (b : Nat) (hb : S.pr pid = some b) (hto : S.pr q = none) (hfew : Few S 1000) :
    Calls Tryz.prog 19 #[.pointer (some ⟨fdb, 0, none⟩), .int .i64 pid, .int .i64 q] w fun e w' => ∃ b2, w.heap.size ≤ b2 ∧ EP cap w0 O fdb vb tb fb sb pb mb ns c (N + 1) M ((S.twin q b b2).bumps (S.sl b) 8) ps w (.int .i64 0) e w' := by
  obtain ⟨po, fo, O1, h1, h2, h3, h4, h5, h6⟩ := h
  letI C : Inhabited CapT := capP cap ps fo
  refine (k_copy h1 hN pid q hw hw2 h0 b hb hto hfew).mono ?_
  rintro e w' ⟨b, hb, hq⟩
  exact ⟨b, hb, EX.lift h2 h3 h4 h5 h6 hq⟩
theorem ex_close (h : EX cap w0 O fdb vb tb fb sb pb mb ns c N M S ps w) (pid : Int) (hw : (Lit.int .i64 pid).wf = true) (b : Nat) (hb : S.pr pid = some b) (d x : Nat) (hd : d < 8) (hx : S.sl b d = some x) (t : Th) (ht : S.th x = some t) (hnm : 2 ≤ t.nm ∧ t.nm ≤ 100000) :
    Calls Tryz.prog 22 #[.pointer (some ⟨fdb, 0, none⟩), .int .i64 pid, .int .i64 d] w (EP cap w0 O fdb vb tb fb sb pb mb ns c N M ((S.setsl b d none).setth x { t with nm := t.nm - 1 }) ps w (.int .i64 0)) := by
  obtain ⟨po, fo, O1, h1, h2, h3, h4, h5, h6⟩ := h
  letI C : Inhabited CapT := capP cap ps fo
  exact (k_close h1 pid hw b hb d x hd hx t ht hnm).mono (fun e w' hq => EX.lift h2 h3 h4 h5 h6 hq)
theorem ex_free (h : EX cap w0 O fdb vb tb fb sb pb mb ns c N M S ps w) (r : Int) (hr : ((cap - psN ps 4 : Nat) : Int) - usedN (filesOf ns) 16 = r) :
    Calls Tryz.prog 25 #[.pointer (some ⟨fb, 0, none⟩)] w fun e w' => e = .returned (.int .i64 r) ∧ Below w.heap.size w w' := by
  obtain ⟨po, fo, O1, h1, h2, h3, h4, h5, h6⟩ := h
  subst hr
  exact x_free h1
/-- a process gone -/
def FS.drop (S : FS) (pid : Int) : FS := ⟨fun i => if i = pid then none else S.pr i, S.sl, S.th⟩
theorem FdB.drop (h : FdB w fdb vb pb mb N S) (pid : Int) {n s : Nat} (hm : MapI w' Tryz.prog 3 mb n s (mdel (fun i => (S.pr i).map fun b => .pointer (some ⟨b, 0, none⟩)) pid)) (hn : n ≤ N) (hu : Upd (fun k => k = mb) w w') (hne : ∀ k cs T, Blk w k cs T → ¬ k = mb) : FdB w' fdb vb pb mb N (S.drop pid) := by
  have hs : ∀ i b, (S.drop pid).pr i = some b → S.pr i = some b := fun i b hi => by
    unfold FS.drop at hi
    simp only at hi
    split at hi
    · cases hi
    · exact hi
  refine ⟨Blk.upd hu h.f (hne _ _ _ h.f), ⟨n, s, ?_, hn⟩, fun i b hi => Blk.upd hu (h.t i b (hs i b hi)) (hne _ _ _ (h.t i b (hs i b hi))), fun b t ht => Blk.upd hu (h.x b t ht) (hne _ _ _ (h.x b t ht)), fun i b hi => h.r i b (hs i b hi), fun i j b hi hj => h.j i j b (hs i b hi) (hs j b hj)⟩
  have e : (fun i => ((S.drop pid).pr i).map fun b => Value.pointer (some ⟨b, 0, none⟩)) = mdel (fun i => (S.pr i).map fun b => .pointer (some ⟨b, 0, none⟩)) pid := by
    funext i
    unfold mdel FS.drop
    simp only
    split <;> rfl
  rw [e]; exact hm
theorem MapI.blk {P : Program} {k : TypeId} {b n s : Nat} {m : Int → Option Value} (h : MapI w P k b n s m) {cs : Array Value} {T : TypeId} {j : Nat} (hb : Blk w j cs T) : ¬ j = b := by
  rintro rfl
  obtain ⟨D, ⟨es, clock, hh, _⟩, _⟩ := h
  unfold Blk at hb
  rw [hb] at hh
  cases hh
set_option maxRecDepth 100000 in
set_option maxHeartbeats 2000000 in
/-- a process leaves that has one descriptor alone -/
theorem ex_leave (h : EX cap w0 O fdb vb tb fb sb pb mb ns c N M S ps w) (pid : Int) (hw : (Lit.int .i64 pid).wf = true) (b : Nat) (hb : S.pr pid = some b) (d : Nat) (hus : usedL (S.sl b) 8 = [(d : Int)]) (r : Int) (hS : S'.pr pid = some b)
    (hcl : ∀ W, Below w.heap.size w W → Calls Tryz.prog 22 #[.pointer (some ⟨fdb, 0, none⟩), .int .i64 pid, .int .i64 d] W (EP cap w0 O fdb vb tb fb sb pb mb ns c N M S' ps' W (.int .i64 r))) :
    Calls Tryz.prog 31 #[.pointer (some ⟨fdb, 0, none⟩), .int .i64 pid] w (EP cap w0 O fdb vb tb fb sb pb mb ns c N M (S'.drop pid) ps' w (.int .i64 0)) := by
  have hpc := k_proc h.fd pid hw (some b) hb 0 (by unfold procR; rw [hb])
  have husd := k_used h.fd pid hw b hb
  rw [hus] at husd
  have HE := Lib.hid (And.intro h (And.intro hb (And.intro hw hS)))
  simp only [ptb, Option.map] at hpc
  clear h hb hus hw hS
  go_enter Tryz.func31, Tryz.ntmps31
  go_wp2_with (first
    | (go_at_call 46; refine hpc.mono ?_; rintro e w1 ⟨rfl, rfl⟩)
    | (go_at_call 23; refine husd.mono ?_; rintro e w1 ⟨a, cu, g, rfl, hR, hgO, hB1⟩; have H1 := Lib.hid (And.intro hR (And.intro hgO hB1)); have hc1 := hcl w1 hB1; clear hR hgO hB1 husd hcl hpc))
  go_loopw [22] (fun v22 wr => (v22 = .int .i64 0 ∧ wr = w1) ∨ (v22 = .int .i64 1 ∧ EP cap w0 O fdb vb tb fb sb pb mb ns c N M S' ps' w1 (.int .i64 r) (.returned (.int .i64 r)) wr)) (fun v22 _ => 1 - (intOf v22).toNat)
  case atStart => exact .inl ⟨rfl, rfl⟩
  case round =>
    rcases hrel with ⟨rfl, rfl⟩ | ⟨rfl, hq⟩
    · obtain ⟨g', rfl, hcell⟩ : ∃ g, a = some ⟨g, 0, none⟩ ∧ wr.cell? ⟨g, 0, none⟩ = some (.int .i64 d) := by
        obtain ⟨A, rfl, hA⟩ := H1.out.1.rd 0 (.int .i64 d) rfl
        rcases H1.out.1 with ⟨hv, hn, _⟩ | ⟨g', cap', rest, hv, hgr, hBk, _⟩
        · cases hn
        · simp only [Value.slice.injEq] at hv
          exact ⟨g', hv.1, by rw [hBk.rd]; rfl⟩
      go_wp2_with (go_at_call 22; refine hc1.mono ?_; rintro e w3 hq; obtain rfl := hq.1; have H3 := Lib.hid hq; clear hq hc1)
      go_roundw
      case rel => exact .inr ⟨by go_num, H3.out⟩
      case measure => simp [intOf]
    · obtain ⟨-, hU, O3, hE3, hO3⟩ := hq
      have c2 : wr.cell? ⟨fdb, 2, none⟩ = some (.map (some mb)) := hE3.fd.f.rd 2
      obtain ⟨n, s, hm, hn⟩ := hE3.fd.m
      have H4 := Lib.hid (And.intro hU (And.intro hE3 (And.intro hO3 (And.intro hm hn))))
      clear hU hE3 hO3 hm hn hc1
      go_wp2_with (at_delete; refine wp_mapdel _ rfl _ _ 91 3 rfl 90 Tryz.underlying3 Tryz.underlying91 mb n s _ rfl H4.out.2.2.2.1 pid HE.out.2.2.1 rfl ?_; intro w5 hM5 hu5; have H5 := Lib.hid (And.intro hM5 hu5); clear hM5 hu5)
      go_ret
      obtain ⟨hU, hE3, hO3, hm, hn⟩ := H4.out
      obtain ⟨hM5, hu5⟩ := H5.out
      obtain ⟨hR, hgO, hB1⟩ := H1.out
      have hD := hE3.fd.drop pid hM5 hn hu5 (fun k cs T hk => hm.blk hk)
      have hown := hE3.own (hu5.mono (fun k _ e => .inr (.inl e))) hD (fun k hk => .inl (by
        rcases hk with hk | hk | ⟨i, hi⟩ | hk
        · exact .inl hk
        · exact .inr (.inl hk)
        · refine .inr (.inr (.inl ⟨i, ?_⟩))
          unfold FS.drop at hi
          simp only at hi
          split at hi
          · cases hi
          · exact hi
        · exact .inr (.inr (.inr hk)))) (.int .i64 0)
      exact EP.ahead hB1 (EP.seq hU hO3 hown)
end
/-! ### both made -/
theorem slabnew_is (fb : Nat) (w : World) : Calls Tryz.prog 38 #[.pointer (some ⟨fb, 0, none⟩)] w fun e w' => e = .returned (.pointer (some ⟨w.heap.size + 1, 0, none⟩)) ∧ w' = (w.alloc (.map #[] 0)).alloc (.cells #[takeV fb, giveV fb, .map (some w.heap.size)] 154) := by
  have hmm := @run_makeMap Tryz.prog
  go_enter Tryz.func38, Tryz.ntmps38
  go_wp2_with (fail)
  go_ret
  exact ⟨by simp, rfl⟩
theorem pipenew_is (kb : Nat) (w : World) : Calls Tryz.prog 37 #[.pointer (some ⟨kb, 0, none⟩)] w fun e w' => e = .returned (.pointer (some ⟨w.heap.size, 0, none⟩)) ∧ w' = w.alloc (.cells #[.pointer (some ⟨kb, 0, none⟩), .pointer none, .pointer none, .pointer none, .pointer none] 151) := by
  go_enter Tryz.func37, Tryz.ntmps37
  go_wp2_with (fail)
  go_ret
  exact ⟨rfl, rfl⟩
end Go.Proofs.YtaldahogjlokkaaGreatDoor
/-
  Both, with the program's pipes known.
-/
namespace Go.Proofs.YtaldahogjlokkaaGreatDoor
set_option linter.unusedSimpArgs false
set_option linter.unusedVariables false
open Go.RowKit Own RegJ Two
open Go.Lib hiding intOf

def ps00 : PS := fun _ => none
def po00 (s : Nat) : PRl → Option Nat := fun r => match r with | .pp => some (s + 2) | .sl => some (s + 1) | .mp => some s | _ => none
theorem PpI.new {w w' : World} {fb s : Nat} (hm : MapI w Tryz.prog 3 s 0 0 (fun _ => none)) (hsl : Blk w (s + 1) #[takeV fb, giveV fb, .map (some s)] 154) (hpp : Blk w (s + 2) #[.pointer (some ⟨s + 1, 0, none⟩), .pointer none, .pointer none, .pointer none, .pointer none] 151) : PpI w (po00 s) (fun _ => 0) ps00 fb 0 := by
  refine ⟨fun r r' k h1 h2 => ?_, fun r k h1 => ?_, ⟨s + 2, s + 1, s, 0, 0, rfl, rfl, rfl, hpp, hsl, ?_, Nat.le_refl _, Nat.le_refl _⟩, fun i _ => rfl, fun _ _ => rfl, (fun i p hp => by cases hp), (fun i j p q hp => by cases hp), (fun i p hp => by cases hp)⟩
  · cases r <;> cases r' <;> simp [po00] at h1 h2 ⊢ <;> omega
  · have a := hpp.lt
    cases r <;> simp [po00] at h1 <;> omega
  · have e : shM ps00 (fun _ => 0) (po00 s) = fun _ => none := by
      funext f
      unfold shM
      rw [atFr_no (fun j p hj hp => by cases hp)]
      rfl
    rw [e]; exact hm
def BothE (w : World) (e : Ending) (w' : World) : Prop := ∃ fdb vb tb fb sb pb mb k1 k2 O, e = .returned (.tuple #[.pointer (some ⟨fdb, 0, none⟩), .pointer (some ⟨k1, 0, none⟩), .pointer (some ⟨fb, 0, none⟩), .pointer (some ⟨k2, 0, none⟩)]) ∧ EX 10 w O fdb vb tb fb sb pb mb ns0 0 0 0 fs00 ps00 w'
set_option maxRecDepth 100000 in
set_option maxHeartbeats 2000000 in
theorem both_e (w : World) (hm : MC w) : Calls Tryz.prog 11 #[] w (BothE w) := by
  letI C : Inhabited CapT := capP 10 ps00 (fun _ => 0)
  have hc : (capI : CapT) = capV 10 := by
    show (⟨10 - psN ps00 4, pOth ps00 (fun _ => 0)⟩ : CapT) = ⟨10, fun _ => False⟩
    have e : pOth ps00 (fun _ => 0) = fun _ => False := funext fun i => propext ⟨(fun ⟨j, p, h, _⟩ => by cases h), fun h => h.elim⟩
    rw [e]; rfl
  have hfn : Calls Tryz.prog 32 #[.int .i64 10] w (FNewP w 10) := fnew_is 10 (by omega) (by omega) w
  have hrn : ∀ w, Calls Tryz.prog 33 #[.int .i64 10] w (RNewP w 10) := fun w => rnew_is 10 (by omega) (by omega) w
  have HM := Lib.hid (And.intro hm hc)
  clear hm hc
  go_enter Tryz.func11, Tryz.ntmps11
  go_wp2_with (first
    | (go_at_call 32; (with_reducible refine hfn.mono ?_); rintro e w1 ⟨fb, bb, kb, rfl, hFr, hB, g1, g2, g3, g4, g5, g6⟩; have hvn := fun W (hW : Below w1.heap.size w1 W) => v_new HM.out.1 HM.out.2 fb bb kb hFr hB g1 g2 g3 g4 g5 g6 hW; have H1 := Lib.hid hB; clear hB hFr g1 g2 g3 g4 g5 g6 hfn; have hr1 := hrn w1)
    | (go_at_call 33; (refine hr1.mono ?_); rintro e w2 ⟨m4, q1, q2, rfl, -, hB⟩; have hq := r22new_any m4 w2; have H2 := Lib.hid hB; clear hB hr1)
    | (go_at_call 34; (with_reducible refine hq.mono ?_); rintro e w3 ⟨⟨k22, rfl⟩, hB⟩; have H3 := Lib.hid (H2.out.trans (hB.mono H2.out.size)); clear hB hq)
    | (go_at_call 36; refine (hvn _ (H3.out.trans (((((Below.refl _ _).alloc (Nat.le_refl _) _).alloc (by simp) _).alloc (by simp; omega) _).mono H3.out.size))).mono ?_; rintro e w4 ⟨vb, tb, lo, rfl, hV, hB', hb, hf⟩; have hB'' := H3.out.trans ((((((Below.refl w3.heap.size w3).alloc (Nat.le_refl _) _).alloc (by simp) _).alloc (by simp; omega) _).trans (hB'.mono (by simp; omega))).mono H3.out.size); have H4 := Lib.hid (And.intro hV (And.intro hB'' (And.intro hb hf))); clear hV hB' hB'' hb hf hvn)
    | (go_at_call 38; refine (slabnew_is fb w4).mono ?_; rintro e w5 ⟨rfl, h5⟩; have H5 := Lib.hid h5; clear h5)
    | (go_at_call 37; refine (pipenew_is _ w5).mono ?_; rintro e w6 ⟨rfl, h6⟩; have H6 := Lib.hid h6; clear h6; have hd := fdnew_is vb w5.heap.size w6)
    | (go_at_call 35; refine hd.mono ?_; rintro e w7 ⟨fdb, mb, rfl, hB, h1, h2, hF⟩; have H7 := Lib.hid (And.intro hB (And.intro h1 (And.intro h2 hF))); clear hB h1 h2 hF hd))
  go_returns
  obtain ⟨hV, hB4, hb, hf⟩ := H4.out
  obtain ⟨hB7, h1, h2, hF⟩ := H7.out
  have e5 := H5.out
  have e6 := H6.out
  have s5 : w5.heap.size = w4.heap.size + 2 := by rw [e5]; simp
  have s6 : w6.heap.size = w4.heap.size + 3 := by rw [e6]; simp [s5]
  have hB5 : Below w4.heap.size w4 w5 := by rw [e5]; exact ((Below.refl _ _).alloc (Nat.le_refl _) _).alloc (by simp) _
  have hB56 : Below w5.heap.size w5 w6 := by rw [e6]; exact (Below.refl _ _).alloc (Nat.le_refl _) _
  have hB6 : Below w4.heap.size w4 w6 := hB5.trans (hB56.mono hB5.size)
  have hB47 : Below w4.heap.size w4 w7 := hB6.trans (hB7.mono hB6.size)
  have hB17 : Below w1.heap.size w1 w7 := hB4.trans (hB47.mono hB4.size)
  have hB07 : Below w.heap.size w w7 := H1.out.trans (hB17.mono H1.out.size)
  obtain ⟨sb, hs, _⟩ := hV.1.cell0
  obtain ⟨l1, l2, l3⟩ := hV.lts
  have hV7 := hV.below hB47
  have z1 := H1.out.size
  have z4 := hB4.size
  have z6 := hB6.size
  have z47 := hB47.size
  have z7 := hB7.size
  have zm := HM.out.1.lt
  have hmk : MapI w7 Tryz.prog 3 w4.heap.size 0 0 (fun _ => none) := by
    have a : MapI w5 Tryz.prog 3 w4.heap.size 0 0 (fun _ => none) := by rw [e5]; exact (MapI.made w4 Tryz.prog 3).upd ((Upd.refl (fun _ => False) _).alloc _) (fun h => h)
    exact (a.upd (Upd.of_below (F := fun _ => False) hB56) (fun h => h)).upd (Upd.of_below (F := fun _ => False) hB7) (fun h => h)
  have hsl : Blk w7 (w4.heap.size + 1) #[takeV fb, giveV fb, .map (some w4.heap.size)] 154 := by
    have a : Blk w5 (w4.heap.size + 1) #[takeV fb, giveV fb, .map (some w4.heap.size)] 154 := by
      rw [e5]
      have := Blk.new (w4.alloc (.map #[] 0)) #[takeV fb, giveV fb, .map (some w4.heap.size)] 154
      rw [show (w4.alloc (.map #[] 0)).heap.size = w4.heap.size + 1 by simp] at this
      exact this
    have b := Blk.below hB56 a a.lt
    exact Blk.below hB7 b b.lt
  have hpp : Blk w7 (w4.heap.size + 2) #[.pointer (some ⟨w4.heap.size + 1, 0, none⟩), .pointer none, .pointer none, .pointer none, .pointer none] 151 := by
    have a : Blk w6 (w4.heap.size + 2) #[.pointer (some ⟨w4.heap.size + 1, 0, none⟩), .pointer none, .pointer none, .pointer none, .pointer none] 151 := by
      rw [e6]
      have := Blk.new w5 #[.pointer (some ⟨w4.heap.size + 1, 0, none⟩), .pointer none, .pointer none, .pointer none, .pointer none] 151
      rw [s5] at this
      exact this
    exact Blk.below hB7 a a.lt
  have hP := PpI.new (w' := w7) hmk hsl hpp
  rw [s5] at hF
  refine ⟨fdb, vb, tb, fb, sb, w4.heap.size + 2, mb, _, _, fun k => (fun k => (w.heap.size ≤ k ∧ k < w7.heap.size) ∧ (k < w4.heap.size ∨ w6.heap.size ≤ k)) k ∨ ∃ r, po00 w4.heap.size r = some k, rfl, po00 w4.heap.size, fun _ => 0, _, ⟨lo, hV7, hB07, fun k hk => hk.1, fun r k hk => ?_, hf, hs, hF, fun k hk => ?_⟩, hP, rfl, by decide, fun r k hr => ?_, fun k => Iff.rfl⟩
  · have := l2 r k hk
    exact ⟨⟨hb r k hk, by omega⟩, .inl this⟩
  · have hk2 : w6.heap.size ≤ k := by
      rcases hk with rfl | rfl | ⟨i, hi⟩ | hx
      · exact h1
      · exact h2
      · cases hi
      · cases hx
    have hk3 := hF.lt hk
    exact ⟨⟨⟨by omega, hk3⟩, .inr hk2⟩, fun r hr => by have := l2 r k hr; omega, by omega, by omega⟩
  · have hk : w4.heap.size ≤ k ∧ k < w4.heap.size + 3 := by cases r <;> simp [po00] at hr <;> omega
    exact ⟨by omega, fun ho => by have := ho.2; omega, by omega⟩
end Go.Proofs.YtaldahogjlokkaaGreatDoor
