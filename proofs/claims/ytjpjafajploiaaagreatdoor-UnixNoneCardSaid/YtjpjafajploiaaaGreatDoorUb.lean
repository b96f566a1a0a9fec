/-
  A system as it lies: vfs, descriptors, processes; New, Start.
-/
import Derived.Test.YtjpjafajploiaaaGreatDoorKa
import Derived.Test.YtjpjafajploiaaaGreatDoorVSta
import Derived.Test.YtjpjafajploiaaaGreatDoorUa
import Derived.Test.YtjpjafajploiaaaGreatDoorUn
namespace Go.Proofs.YtjpjafajploiaaaGreatDoor
set_option linter.unusedSimpArgs false
set_option linter.unusedVariables false
open Go.RowKit Own RegJ Two
open Go.Lib hiding intOf

/-- a system of the call's own -/
structure UX [Inhabited CapT] (w0 : World) (O : Nat → Prop) (fdb vb tb fb sb pb mb : Nat) (ns : NSt) (c N : Nat) (S : FS) (syb qb qm M : Nat) (m : PrM) (w : World) : Prop where
  fx : FX w0 O fdb vb tb fb sb pb mb ns c N S w
  sy : Blk w syb #[.pointer (some ⟨fb, 0, none⟩), .pointer (some ⟨vb, 0, none⟩), .pointer (some ⟨fdb, 0, none⟩), .pointer (some ⟨qb, 0, none⟩)] 83
  pr : PrB w qb qm M m
  lo : w0.heap.size ≤ syb ∧ w0.heap.size ≤ qb ∧ w0.heap.size ≤ qm
  no : ¬ O syb ∧ ¬ O qb ∧ ¬ O qm
  ne : syb ≠ qm ∧ vb ≠ qm
  mc : 0 < w0.heap.size
theorem FX.beside' {C : Inhabited CapT} {w0 w w' : World} {O : Nat → Prop} {fdb vb tb fb sb pb mb : Nat} {ns : NSt} {c N : Nat} {S : FS} {F : Nat → Prop} (h : FX w0 O fdb vb tb fb sb pb mb ns c N S w) (hmc : 0 < w0.heap.size) (hu : Upd F w w') (hF : ∀ k, F k → w0.heap.size ≤ k ∧ ¬ O k ∧ k ≠ vb) : FX w0 O fdb vb tb fb sb pb mb ns c N S w' := by
  obtain ⟨lo, h1, h2, h3, h4, h5, h6, h7, h8⟩ := h
  exact ⟨lo, h1.upd hu (fun hk => (hF _ hk).2.2 rfl) (fun r k hr hk => (hF k hk).2.1 (h4 r k hr)) (fun hk => by have := (hF _ hk).1; omega), h2.trans (hu.below h2.size (fun k hk => (hF k hk).1)), fun k hk => ⟨(h3 k hk).1, Nat.lt_of_lt_of_le (h3 k hk).2 hu.size⟩, h4, h5, h6, h7.upd hu (fun k hk hf => (hF k hf).2.1 (h8 k hk).1), h8⟩
section
variable {w0 w w' : World} {O O' : Nat → Prop} {fdb vb tb fb sb pb mb : Nat} {ns ns' : NSt} {c c' N N' : Nat} {S S' : FS} {syb qb qm M M' : Nat} {m m' : PrM}
theorem UX.below [Inhabited CapT] (h : UX w0 O fdb vb tb fb sb pb mb ns c N S syb qb qm M m w) (hB : Below w.heap.size w w') : UX w0 O fdb vb tb fb sb pb mb ns c N S syb qb qm M m w' :=
  ⟨h.fx.below hB, Blk.below hB h.sy h.sy.lt, h.pr.below hB, h.lo, h.no, h.ne, h.mc⟩
theorem UX.le [Inhabited CapT] (h : UX w0 O fdb vb tb fb sb pb mb ns c N S syb qb qm M m w) (hc : c ≤ c') : UX w0 O fdb vb tb fb sb pb mb ns c' N S syb qb qm M m w :=
  ⟨h.fx.le hc, h.sy, h.pr, h.lo, h.no, h.ne, h.mc⟩
theorem UX.step [Inhabited CapT] (h : UX w0 O fdb vb tb fb sb pb mb ns c N S syb qb qm M m w) (hU : Upd O w w') (hX : FX w0 O' fdb vb tb fb sb pb mb ns' c' N' S' w') (hO : ∀ k, O' k → O k ∨ w.heap.size ≤ k) : UX w0 O' fdb vb tb fb sb pb mb ns' c' N' S' syb qb qm M m w' := by
  obtain ⟨l1, l2⟩ := h.pr.lt
  have l3 := h.sy.lt
  have hn := h.no
  refine ⟨hX, Blk.upd hU h.sy hn.1, h.pr.upd hU hn.2.1 hn.2.2, h.lo, ⟨fun hk => ?_, fun hk => ?_, fun hk => ?_⟩, h.ne, h.mc⟩
  · rcases hO _ hk with hk | hk
    · exact hn.1 hk
    · omega
  · rcases hO _ hk with hk | hk
    · exact hn.2.1 hk
    · omega
  · rcases hO _ hk with hk | hk
    · exact hn.2.2 hk
    · omega
theorem UX.proc [Inhabited CapT] (h : UX w0 O fdb vb tb fb sb pb mb ns c N S syb qb qm M m w) (hP : PrB w' qb qm M' m') (hu : Upd (fun k => k = qm) w w') : UX w0 O fdb vb tb fb sb pb mb ns c N S syb qb qm M' m' w' :=
  ⟨h.fx.beside' h.mc hu (fun k hk => by subst hk; exact ⟨h.lo.2.2, h.no.2.2, fun e => h.ne.2 e.symm⟩), Blk.upd hu h.sy h.ne.1, hP, h.lo, h.no, h.ne, h.mc⟩
/-- behind a call -/
def UP [Inhabited CapT] (w0 : World) (O : Nat → Prop) (fdb vb tb fb sb pb mb : Nat) (ns : NSt) (c N : Nat) (S : FS) (syb qb qm M : Nat) (m : PrM) (w : World) (v : Value) (e : Ending) (w' : World) : Prop :=
  e = .returned v ∧ Upd (fun k => O k ∨ k = qm) w w' ∧ ∃ O', UX w0 O' fdb vb tb fb sb pb mb ns c N S syb qb qm M m w' ∧ ∀ k, O' k → O k ∨ w.heap.size ≤ k
end
theorem v_newN [Inhabited CapT] {w w1 W : World} (n : Nat) (hn : 1 ≤ n) (hm : MC w) (hc : capI = capV n) (fb bb kb : Nat) (hF : FrB w1 fb bb kb none (fs0 n)) (hB : Below w.heap.size w w1) (g1 : w.heap.size ≤ fb) (g2 : w.heap.size ≤ bb) (g3 : w.heap.size ≤ kb) (n1 : fb ≠ bb) (n2 : fb ≠ kb) (n3 : bb ≠ kb) (hW : Below w1.heap.size w1 W) :
    Calls Tryz.prog 33 #[.pointer (some ⟨fb, 0, none⟩)] W (VnP w.heap.size fb W) :=
  vnew_is fb bb kb n W (hF.below hW) n1 n2 n3 hn hc (hm.below (hB.trans (hW.mono hB.size))) w.heap.size g1 g2 g3 (hB.trans (hW.mono hB.size)).size hm.lt
def UNewP [Inhabited CapT] (w : World) (e : Ending) (w' : World) : Prop := ∃ syb fdb vb tb fb sb pb mb qb qm O, e = .returned (.tuple #[.pointer (some ⟨syb, 0, none⟩), .int .i64 0]) ∧ UX w O fdb vb tb fb sb pb mb ns0 0 0 fs00 syb qb qm 0 (fun _ => none) w'
set_option maxRecDepth 100000 in
set_option maxHeartbeats 2000000 in
theorem unew_is [Inhabited CapT] (n : Nat) (h1 : 1 ≤ n) (h64 : n ≤ 64) (w : World) (hm : MC w) (hc : capI = capV n) : Calls Tryz.prog 10 #[.int .i64 n] w (UNewP w) := by
  have hfn : Calls Tryz.prog 32 #[.int .i64 n] w (FNewP w n) := fnew_is n h1 h64 w
  have HM := Lib.hid (And.intro hm (And.intro hc h1))
  clear hm hc h1 h64
  go_enter Tryz.func10, Tryz.ntmps10
  go_wp2_with (first
    | (go_at_call 32; (with_reducible refine hfn.mono ?_); rintro e w1 ⟨fb, bb, kb, rfl, hFr, hB, g1, g2, g3, g4, g5, g6⟩; have hvn := fun W (hW : Below w1.heap.size w1 W) => v_newN n HM.out.2.2 HM.out.1 HM.out.2.1 fb bb kb hFr hB g1 g2 g3 g4 g5 g6 hW; have H1 := Lib.hid hB; clear hB hFr g1 g2 g3 g4 g5 g6 hfn)
    | (go_at_call 33; refine (hvn _ (Below.refl _ _)).mono ?_; rintro e w4 ⟨vb, tb, lo, rfl, hV, hB', hb, hf⟩; have H4 := Lib.hid (And.intro hV (And.intro hB' (And.intro hb hf))); clear hV hB' hb hf hvn; have hs := slabnew_any fb w4)
    | (go_at_call 36; refine hs.mono ?_; rintro e w5 ⟨⟨k5, rfl⟩, hB⟩; have H5 := Lib.hid hB; clear hB hs; have hp := pipenew_any k5 w5)
    | (go_at_call 35; refine hp.mono ?_; rintro e w6 ⟨⟨k6, rfl⟩, hB⟩; have H6 := Lib.hid (H5.out.trans (hB.mono H5.out.size)); clear hB hp; have hd := fdnew_is vb k6 w6)
    | (go_at_call 34; refine hd.mono ?_; rintro e w7 ⟨fdb, mb, rfl, hB, h1, h2, hF⟩; have H7 := Lib.hid (And.intro hB (And.intro h1 (And.intro h2 hF))); clear hB h1 h2 hF hd; have hq := procnew_is w7)
    | (go_at_call 37; refine hq.mono ?_; rintro e w8 ⟨qb, qm, rfl, hB, h1, h2, hF⟩; have H8 := Lib.hid (And.intro hB (And.intro h1 (And.intro h2 hF))); clear hB h1 h2 hF hq))
  go_returns
  obtain ⟨hV, hB4, hb, hf⟩ := H4.out
  obtain ⟨hB7, h1, h2, hF⟩ := H7.out
  obtain ⟨hB8, q1, q2, hQ⟩ := H8.out
  have hB6 := H6.out
  have hB47 : Below w4.heap.size w4 w7 := hB6.trans (hB7.mono hB6.size)
  have hB17 : Below w1.heap.size w1 w7 := hB4.trans (hB47.mono hB4.size)
  have hB07 : Below w.heap.size w w7 := H1.out.trans (hB17.mono H1.out.size)
  obtain ⟨sb, hs, _⟩ := hV.1.cell0
  obtain ⟨l1, l2, l3⟩ := hV.lts
  have hV7 := hV.below hB47
  have z1 := H1.out.size
  have z4 := hB4.size
  have z6 := hB6.size
  have z47 := hB47.size
  have z7 := hB07.size
  have zm := HM.out.1.lt
  obtain ⟨lq1, lq2⟩ := hQ.lt
  have hX : FX w (fun k => w.heap.size ≤ k ∧ k < w7.heap.size) fdb vb tb fb sb k6 mb ns0 0 0 fs00 w7 := by
    refine ⟨lo, hV7, hB07, fun k hk => hk, fun r k hk => ⟨hb r k hk, ?_⟩, hf, hs, hF, fun k hk => ?_⟩
    · have := l2 r k hk; omega
    · have hk2 : w6.heap.size ≤ k := by
        rcases hk with rfl | rfl | ⟨i, hi⟩ | hx
        · exact h1
        · exact h2
        · cases hi
        · cases hx
      have hk3 := hF.lt hk
      exact ⟨⟨by omega, hk3⟩, fun r hr => by have := l2 r k hr; omega, by omega, by omega⟩
  have hal : Below w8.heap.size w8 (w8.alloc (.cells #[.pointer (some ⟨fb, 0, none⟩), .pointer (some ⟨vb, 0, none⟩), .pointer (some ⟨fdb, 0, none⟩), .pointer (some ⟨qb, 0, none⟩)] 83)) := (Below.refl _ _).alloc (Nat.le_refl _) _
  have z8 := hB8.size
  refine ⟨w8.heap.size, fdb, vb, tb, fb, sb, k6, mb, qb, qm, _, rfl, hX.below (hB8.trans (hal.mono hB8.size)), Blk.new w8 _ _, hQ.below hal, ⟨by omega, by omega, by omega⟩, ⟨fun hk => by have := hk.2; omega, fun hk => by have := hk.2; omega, fun hk => by have := hk.2; omega⟩, ⟨by omega, by omega⟩, by omega⟩
section
variable {w0 w w' : World} {O O' : Nat → Prop} {fdb vb tb fb sb pb mb : Nat} {ns ns' : NSt} {c c' N N' : Nat} {S S' : FS} {syb qb qm M M' : Nat} {m m' : PrM}
set_option maxRecDepth 100000 in
theorem ustart_is [Inhabited CapT] (h : UX w0 O fdb vb tb fb sb pb mb ns c N S syb qb qm M m w) (hN : N ≤ 100000) (hM : M ≤ 10000) (pid : Int) (hw : (Lit.int .i64 pid).wf = true) (h0 : 0 ≤ pid) (hp : m pid = none) (hs : S.pr pid = none) :
    Calls Tryz.prog 11 #[.pointer (some ⟨syb, 0, none⟩), .int .i64 pid] w fun e w' => ∃ b, w.heap.size ≤ b ∧ UP w0 O fdb vb tb fb sb pb mb ns c (N + 1) (S.start pid b) syb qb qm (M + 1) (prPut m pid (some ⟨-1, 0, false⟩)) w (.int .i64 0) e w' := by
  have hps := pstart_one h.pr hM pid hw h0 hp
  have c3 := h.sy.rd 3
  have H := Lib.hid (And.intro h (And.intro hN (And.intro hw (And.intro h0 hs))))
  clear h hN hw h0 hs hp
  go_enter Tryz.func11, Tryz.ntmps11
  go_wp2_with (first
    | (go_at_call 38; refine hps.mono ?_; rintro e w1 ⟨rfl, hP, hu⟩; have h1 := H.out.1.proc hP hu; have c2 := h1.sy.rd 2; have hks := k_start h1.fx H.out.2.1 pid H.out.2.2.1 H.out.2.2.2.1 H.out.2.2.2.2; have H1 := Lib.hid (And.intro h1 hu); clear hps c3 h1 hP hu)
    | (go_at_call 39; refine hks.mono ?_; rintro e w2 ⟨b, hb, rfl, hU, O2, hD, hO⟩; have H2 := Lib.hid (And.intro hb (And.intro hU (And.intro hD hO))); clear hks hb hU hD hO c2))
  go_ret
  obtain ⟨h1, hu⟩ := H1.out
  obtain ⟨hb, hU, hD, hO⟩ := H2.out
  have hz := hu.size
  exact ⟨b, by omega, rfl, (hu.mono (fun k _ hk => .inr hk)).trans hU (fun k _ hk => .inl hk), O2, h1.step hU hD hO, fun k hk => (hO k hk).imp (fun h => h) (fun h => by omega)⟩
end
end Go.Proofs.YtjpjafajploiaaaGreatDoor
