/-
  Script: the reader's state in memory, and what a line of numbers turns of it.
-/
import Derived.Test.YtefaaginedideaaGreatDoorSPut
import Derived.Test.YtefaaginedideaaGreatDoorSCk
namespace Go.Proofs.YtefaaginedideaaGreatDoor
set_option linter.unusedSimpArgs false
set_option linter.unusedVariables false
open Go.RowKit Own RegJ
open Go.Lib hiding intOf

def ActP (st : PSt) (p7 : Value) (tb bb : Option Nat) : Prop :=
  (st.act = 0 ∧ p7 = .pointer none) ∨
  (st.act = 1 ∧ ∃ g n, tb = some g ∧ st.c.tasks.length = n + 1 ∧ p7 = .pointer (some ⟨g, n * 8 + 7, none⟩)) ∨
  (st.act = 2 ∧ ∃ g n, bb = some g ∧ st.c.best.length = n + 1 ∧ p7 = .pointer (some ⟨g, n * 2 + 1, none⟩))
/-- the header's block -/
def psCs (tv bv mv gv : Value) (f d : Int) (ev p7 : Value) : Array Value := #[tv, bv, mv, gv, .int .i64 f, .int .i64 d, ev, p7]
def PSC (w : World) (B : Nat) (st : PSt) (rb : Nat) (tv bv mv gv ev p7 : Value) (tq : List TQ) (eq : List EQ) (tb bb mb gb eb : Option Nat) : Prop := B ≤ rb ∧ B ≤ w.heap.size ∧ Blk w rb (psCs tv bv mv gv st.c.frames st.c.dog ev p7) 78 ∧ Core w B st.c tv bv mv gv tq eq tb bb mb gb ∧ Rw w 58 3 ev st.es.length (vCells st.es) eb ∧ (∀ g, eb = some g → B ≤ g) ∧ ActP st p7 tb bb
def PSI (w : World) (B : Nat) (st : PSt) (rb : Nat) : Prop := ∃ tv bv mv gv ev p7 tq eq tb bb mb gb eb, PSC w B st rb tv bv mv gv ev p7 tq eq tb bb mb gb eb
theorem PSI.below {w w' : World} {B : Nat} {st : PSt} {rb : Nat} (h : PSI w B st rb) (hb : Below w.heap.size w w') : PSI w' B st rb := by
  obtain ⟨tv, bv, mv, gv, ev, p7, tq, eq, tb, bb, mb, gb, eb, h1, h2, h3, h4, h5, h6, h7⟩ := h
  exact ⟨tv, bv, mv, gv, ev, p7, tq, eq, tb, bb, mb, gb, eb, h1, Nat.le_trans h2 hb.size, Blk.below hb h3 h3.lt, h4.below hb, h5.below hb, h6, h7⟩
theorem PSI.ge {w : World} {B : Nat} {st : PSt} {rb : Nat} (h : PSI w B st rb) : B ≤ w.heap.size := by
  obtain ⟨tv, bv, mv, gv, ev, p7, tq, eq, tb, bb, mb, gb, eb, h1, h2, _⟩ := h
  exact h2
theorem rT : 78 ≠ 89 ∧ 78 ≠ 92 ∧ 78 ≠ 87 ∧ 78 ≠ 3 ∧ 78 ≠ 25 := by decide
/-- how a line ends that served -/
def LnS (w : World) (B : Nat) (st' : PSt) (rb : Nat) (e : Ending) (w' : World) : Prop := e = .returned (.bool true) ∧ PSI w' B st' rb ∧ Below B w w'
def LnN (w : World) (B : Nat) (e : Ending) (w' : World) : Prop := e = .returned (.bool false) ∧ Below B w w'
theorem set_below {w : World} {B b o : Nat} (h : B ≤ b) (hw : B ≤ w.heap.size) (v : Value) : Below B w (w.setCell ⟨b, o, none⟩ v) := (Below.refl B w).setCell (p := ⟨b, o, none⟩) h v
theorem Core.fd {w : World} {B : Nat} {c : CfgV} {tv bv mv gv : Value} {tq : List TQ} {eq : List EQ} {tb bb mb gb : Option Nat} (h : Core w B c tv bv mv gv tq eq tb bb mb gb) (f d : Int) : Core w B { c with frames := f, dog := d } tv bv mv gv tq eq tb bb mb gb := ⟨h.lt, h.le, h.rt, h.re, h.rm, h.rg, h.us, h.pt, h.pe, h.pd, h.lo⟩
section
variable {w : World} {B rb : Nat} {st : PSt}
theorem frames_ps (h : PSI w B st rb) {nv : Value} {x : Int} {nb : Option Nat} (hI : IRow w nv [x] nb) : Calls Tryz.prog 62 #[.pointer (some ⟨rb, 0, none⟩), nv] w (LnS w B { st with c := { st.c with frames := x } } rb) := by
  obtain ⟨tv, bv, mv, gv, ev, p7, tq, eq, tb, bb, mb, gb, eb, h1, h2, h3, h4, h5, h6, h7⟩ := h
  refine (frames_ok w rb _ h3 (by simp [psCs]) nv x nb hI).mono ?_
  rintro e w' ⟨rfl, rfl⟩
  have hu : Upd (fun k => k = rb) w (w.setCell ⟨rb, 4, none⟩ (.int .i64 x)) := (Upd.refl (fun k => k = rb) w).setCell (p := ⟨rb, 4, none⟩) (fun _ => rfl) _
  exact ⟨rfl, ⟨tv, bv, mv, gv, ev, p7, tq, eq, tb, bb, mb, gb, eb, h1, by simpa using h2, Blk.of (h3.set 4 _) rfl, (h4.hdr h3 rT 4 _).fd _ _, h5.upd hu (fun g hg e => by subst e; exact h5.neT h3 (by decide) hg), h6, h7⟩, set_below h1 h2 _⟩
theorem dog_ps (h : PSI w B st rb) {nv : Value} {x : Int} {nb : Option Nat} (hI : IRow w nv [x] nb) : Calls Tryz.prog 63 #[.pointer (some ⟨rb, 0, none⟩), nv] w (LnS w B { st with c := { st.c with dog := x } } rb) := by
  obtain ⟨tv, bv, mv, gv, ev, p7, tq, eq, tb, bb, mb, gb, eb, h1, h2, h3, h4, h5, h6, h7⟩ := h
  refine (dog_ok w rb _ h3 (by simp [psCs]) nv x nb hI).mono ?_
  rintro e w' ⟨rfl, rfl⟩
  have hu : Upd (fun k => k = rb) w (w.setCell ⟨rb, 5, none⟩ (.int .i64 x)) := (Upd.refl (fun k => k = rb) w).setCell (p := ⟨rb, 5, none⟩) (fun _ => rfl) _
  exact ⟨rfl, ⟨tv, bv, mv, gv, ev, p7, tq, eq, tb, bb, mb, gb, eb, h1, by simpa using h2, Blk.of (h3.set 5 _) rfl, (h4.hdr h3 rT 5 _).fd _ _, h5.upd hu (fun g hg e => by subst e; exact h5.neT h3 (by decide) hg), h6, h7⟩, set_below h1 h2 _⟩
theorem mutex_ps (h : PSI w B st rb) {nv : Value} {x y : Int} {nb : Option Nat} (hI : IRow w nv [x, y] nb) (hn : st.c.mtx.length + 1 ≤ 1000000) : Calls Tryz.prog 64 #[.pointer (some ⟨rb, 0, none⟩), nv] w (LnS w B { st with c := { st.c with mtx := st.c.mtx ++ [(x, y)] } } rb) := by
  obtain ⟨tv, bv, mv, gv, ev, p7, tq, eq, tb, bb, mb, gb, eb, h1, h2, h3, h4, h5, h6, h7⟩ := h
  refine (mutex_ok w rb _ h3 nv x y nb hI _ _ mv mb rfl h4.rm hn).mono ?_
  rintro e w' ⟨rfl, W, v', w1, hbW, hA, rfl⟩
  have h3W := Blk.below hbW h3 h3.lt
  have h4W := h4.below hbW
  have h5W := h5.below hbW
  have h2W : B ≤ W.heap.size := Nat.le_trans h2 hbW.size
  obtain ⟨mb', h4', hu⟩ := h4W.mtx h2W hA
  have h3' := Blk.upd hu h3W (h4W.rm.neT h3W (by decide))
  have h5' := h5W.upd hu (h5W.neR h4W.rm (by decide))
  have hu2 : Upd (fun k => k = rb) w1 (w1.setCell ⟨rb, 2, none⟩ v') := (Upd.refl (fun k => k = rb) w1).setCell (p := ⟨rb, 2, none⟩) (fun _ => rfl) _
  have hb1 : Below B W w1 := hu.below h2W (fun k hk => h4.lo k (.inr (.inr (.inl hk))))
  have hb2 : Below B w w1 := (hbW.mono h2).trans hb1
  have hs1 : B ≤ w1.heap.size := Nat.le_trans h2W hu.size
  exact ⟨rfl, ⟨tv, bv, v', gv, ev, p7, tq, eq, tb, bb, mb', gb, eb, h1, by simpa using hs1, Blk.of (h3'.set 2 _) rfl, h4'.hdr h3' rT 2 _, h5'.upd hu2 (fun g hg e => by subst e; exact h5'.neT h3' (by decide) hg), h6, h7⟩, hb2.trans (set_below h1 hs1 _)⟩
theorem gap_ps (h : PSI w B st rb) {nv : Value} {x : Int} {nb : Option Nat} (hI : IRow w nv [x] nb) (hn : st.c.gaps.length + 1 ≤ 1000000) : Calls Tryz.prog 65 #[.pointer (some ⟨rb, 0, none⟩), nv] w (LnS w B { st with c := { st.c with gaps := st.c.gaps ++ [x] } } rb) := by
  obtain ⟨tv, bv, mv, gv, ev, p7, tq, eq, tb, bb, mb, gb, eb, h1, h2, h3, h4, h5, h6, h7⟩ := h
  refine (gap_ok w rb _ h3 nv x nb hI _ _ gv gb rfl h4.rg hn).mono ?_
  rintro e w' ⟨rfl, W, v', w1, hbW, hA, rfl⟩
  have h3W := Blk.below hbW h3 h3.lt
  have h4W := h4.below hbW
  have h5W := h5.below hbW
  have h2W : B ≤ W.heap.size := Nat.le_trans h2 hbW.size
  obtain ⟨gb', h4', hu⟩ := h4W.gap h2W hA
  have h3' := Blk.upd hu h3W (h4W.rg.neT h3W (by decide))
  have h5' := h5W.upd hu (h5W.neR h4W.rg (by decide))
  have hu2 : Upd (fun k => k = rb) w1 (w1.setCell ⟨rb, 3, none⟩ v') := (Upd.refl (fun k => k = rb) w1).setCell (p := ⟨rb, 3, none⟩) (fun _ => rfl) _
  have hb1 : Below B W w1 := hu.below h2W (fun k hk => h4.lo k (.inr (.inr (.inr (.inl hk)))))
  have hb2 : Below B w w1 := (hbW.mono h2).trans hb1
  have hs1 : B ≤ w1.heap.size := Nat.le_trans h2W hu.size
  exact ⟨rfl, ⟨tv, bv, mv, v', ev, p7, tq, eq, tb, bb, mb, gb', eb, h1, by simpa using hs1, Blk.of (h3'.set 3 _) rfl, h4'.hdr h3' rT 3 _, h5'.upd hu2 (fun g hg e => by subst e; exact h5'.neT h3' (by decide) hg), h6, h7⟩, hb2.trans (set_below h1 hs1 _)⟩
theorem at_ps (h : PSI w B st rb) {nv : Value} {x y z : Int} (hy0 : 0 ≤ y) (hy1 : y ≤ 999999) {nb : Option Nat} (hI : IRow w nv [x, y, z] nb) (hn : st.es.length + 1 ≤ 1000000) : Calls Tryz.prog 68 #[.pointer (some ⟨rb, 0, none⟩), nv] w (LnS w B { st with es := st.es ++ [⟨x, y - 1, z⟩] } rb) := by
  obtain ⟨tv, bv, mv, gv, ev, p7, tq, eq, tb, bb, mb, gb, eb, h1, h2, h3, h4, h5, h6, h7⟩ := h
  refine (at_ok w rb _ h3 nv x y z hy0 hy1 nb hI _ _ ev eb rfl h5 hn).mono ?_
  rintro e w' ⟨rfl, W, v', w1, hbW, hA, rfl⟩
  have h3W := Blk.below hbW h3 h3.lt
  have h4W := h4.below hbW
  have h5W := h5.below hbW
  have h2W : B ≤ W.heap.size := Nat.le_trans h2 hbW.size
  obtain ⟨eb', hR, hu, hb⟩ := hA
  have hv := vCells_app st.es ⟨x, y - 1, z⟩
  simp only at hv
  rw [hv, show st.es.length + 1 = (st.es ++ [(⟨x, y - 1, z⟩ : EvV)]).length by simp] at hR
  have h4' := h4W.keep hu (fun g cs T hB hf => (by
    obtain ⟨cap, rest, _, hB', _⟩ := h5W.blk g hf
    unfold Blk at hB hB'
    rw [hB] at hB'
    cases hB'
    decide))
  have h3' := Blk.upd hu h3W (h5W.neT h3W (by decide))
  have hu2 : Upd (fun k => k = rb) w1 (w1.setCell ⟨rb, 6, none⟩ v') := (Upd.refl (fun k => k = rb) w1).setCell (p := ⟨rb, 6, none⟩) (fun _ => rfl) _
  have hb1 : Below B W w1 := hu.below h2W (fun k hk => h6 k hk)
  have hb2 : Below B w w1 := (hbW.mono h2).trans hb1
  have hs1 : B ≤ w1.heap.size := Nat.le_trans h2W hu.size
  refine ⟨rfl, ⟨tv, bv, mv, gv, v', p7, tq, eq, tb, bb, mb, gb, eb', h1, by simpa using hs1, Blk.of (h3'.set 6 _) rfl, h4'.hdr h3' rT 6 _, hR.upd hu2 (fun g hg e => by subst e; exact hR.neT h3' (by decide) hg), fun g hg => ?_, h7⟩, hb2.trans (set_below h1 hs1 _)⟩
  rcases hb g hg with e | e
  · exact h6 g e
  · omega
theorem best_ps (h : PSI w B st rb) {nv : Value} {x : Int} {nb : Option Nat} (hI : IRow w nv [x] nb) (hn : st.c.best.length + 1 ≤ 1000000) : Calls Tryz.prog 67 #[.pointer (some ⟨rb, 0, none⟩), nv] w (LnS w B { st with c := { st.c with best := st.c.best ++ [⟨x, []⟩] }, act := 2 } rb) := by
  obtain ⟨tv, bv, mv, gv, ev, p7, tq, eq, tb, bb, mb, gb, eb, h1, h2, h3, h4, h5, h6, h7⟩ := h
  refine (best_ok w rb _ h3 nv x nb hI _ _ bv p7 bb rfl rfl h4.re hn).mono ?_
  rintro e w' ⟨rfl, W, w1, g, c, hbW, hA, rfl⟩
  have h3W := Blk.below hbW h3 h3.lt
  have h4W := h4.below hbW
  have h5W := h5.below hbW
  have h2W : B ≤ W.heap.size := Nat.le_trans h2 hbW.size
  obtain ⟨bb', h4', hu, hR⟩ := h4W.eff (t := ⟨x, []⟩) h2W rfl hA
  have hbb : bb' = some g := by
    obtain ⟨g', hg'⟩ := hR.has (by omega)
    obtain ⟨_, _, hv, _⟩ := hR.blk g' hg'
    simp only [Value.slice.injEq, Option.some.injEq, Addr.mk.injEq] at hv
    rw [hg', hv.1.1]
  have h3' := Blk.upd hu h3W (h4W.re.neT h3W (by decide))
  have h5' := h5W.upd hu (h5W.neR h4W.re (by decide))
  have hb1 : Below B W w1 := hu.below h2W (fun k hk => h4.lo k (.inr (.inl hk)))
  have hb2 : Below B w w1 := (hbW.mono h2).trans hb1
  have hs1 : B ≤ w1.heap.size := Nat.le_trans h2W hu.size
  have k3 := (h3'.set 1 (.slice (some ⟨g, 0, none⟩) (st.c.best.length + 1) c)).drew
  have k4 := h4'.hdr h3' rT 1 (.slice (some ⟨g, 0, none⟩) (st.c.best.length + 1) c)
  have hu2 : Upd (fun k => k = rb) w1 ((w1.setCell ⟨rb, 1, none⟩ (.slice (some ⟨g, 0, none⟩) (st.c.best.length + 1) c)).drew) := ((Upd.refl (fun k => k = rb) w1).setCell (p := ⟨rb, 1, none⟩) (fun _ => rfl) _).drew
  have k4' := k4.below ((Below.refl _ _).drew)
  have k5 := h5'.upd hu2 (fun g hg e => by subst e; exact h5'.neT h3' (by decide) hg)
  have hu3 := (Upd.refl (fun k => k = rb) ((w1.setCell ⟨rb, 1, none⟩ (.slice (some ⟨g, 0, none⟩) (st.c.best.length + 1) c)).drew)).setCell (p := ⟨rb, 7, none⟩) (fun _ => rfl) (.pointer (some ⟨g, st.c.best.length * 2 + 1, none⟩))
  have hs2 : B ≤ ((w1.setCell ⟨rb, 1, none⟩ (.slice (some ⟨g, 0, none⟩) (st.c.best.length + 1) c)).drew).heap.size := by simpa [World.drew] using hs1
  exact ⟨rfl, ⟨tv, _, mv, gv, ev, _, tq, _, tb, bb', mb, gb, eb, h1, by simpa [World.drew] using hs1, Blk.of (k3.set 7 _) rfl, k4'.hdr k3 rT 7 _, k5.upd hu3 (fun g hg e => by subst e; exact k5.neT k3 (by decide) hg), h6, .inr (.inr ⟨rfl, g, st.c.best.length, hbb, by simp, rfl⟩)⟩, (hb2.trans (set_below h1 hs1 _).drew).trans (set_below h1 hs2 _)⟩
theorem task_post {w0 : World} {tv bv mv gv ev p7 : Value} {tq : List TQ} {eq : List EQ} {tb bb mb gb eb : Option Nat} (h : PSC w0 B st rb tv bv mv gv ev p7 tq eq tb bb mb gb eb) (hbw : Below w0.heap.size w0 w) {t : TaskV} (hp : t.prog = []) {uv : Value} (hU : ∀ gb, (∀ g, gb = some g → g < w0.heap.size) → UsesOk w uv t.uses gb) {w' : World}
    (hP : PutP 89 8 7 w rb 0 st.c.tasks.length (tCells st.c.tasks tq) (taskCs t ⟨uv, .slice none 0 0, none⟩) tb w') :
    PSI w' B { st with c := { st.c with tasks := st.c.tasks ++ [t] }, act := 1 } rb ∧ Below B w w' := by
  obtain ⟨h1, h2, h3, h4, h5, h6, h7⟩ := h
  have hU2 := hU gb (fun g hg => h4.rg.lt g hg)
  replace h2 : B ≤ w.heap.size := Nat.le_trans h2 hbw.size
  replace h3 := Blk.below hbw h3 h3.lt
  replace h4 := h4.below hbw
  replace h5 := h5.below hbw
  obtain ⟨W, w1, g, c, hbW, hA, rfl⟩ := hP
  have h3W := Blk.below hbW h3 h3.lt
  have h4W := h4.below hbW
  have h5W := h5.below hbW
  have h2W : B ≤ W.heap.size := Nat.le_trans h2 hbW.size
  have hUW := hU2.upd (Upd.of_below (F := fun _ => False) hbW) (fun _ _ _ _ hf => hf)
  obtain ⟨tb0, _, hu0, _⟩ := id hA
  have hU1 := hUW.upd hu0 (fun g cs hB _ hf => h4W.rt.neT hB (by decide) hf)
  obtain ⟨tb', h4', hu, hR⟩ := h4W.task h2W hp hA hU1
  have htb : tb' = some g := by
    obtain ⟨g', hg'⟩ := hR.has (by omega)
    obtain ⟨_, _, hv, _⟩ := hR.blk g' hg'
    simp only [Value.slice.injEq, Option.some.injEq, Addr.mk.injEq] at hv
    rw [hg', hv.1.1]
  have h3' := Blk.upd hu h3W (h4W.rt.neT h3W (by decide))
  have h5' := h5W.upd hu (h5W.neR h4W.rt (by decide))
  have hb1 : Below B W w1 := hu.below h2W (fun k hk => h4.lo k (.inl hk))
  have hb2 : Below B w w1 := (hbW.mono h2).trans hb1
  have hs1 : B ≤ w1.heap.size := Nat.le_trans h2W hu.size
  have k3 := (h3'.set 0 (.slice (some ⟨g, 0, none⟩) (st.c.tasks.length + 1) c)).drew
  have k4 := h4'.hdr h3' rT 0 (.slice (some ⟨g, 0, none⟩) (st.c.tasks.length + 1) c)
  have hu2 : Upd (fun k => k = rb) w1 ((w1.setCell ⟨rb, 0, none⟩ (.slice (some ⟨g, 0, none⟩) (st.c.tasks.length + 1) c)).drew) := ((Upd.refl (fun k => k = rb) w1).setCell (p := ⟨rb, 0, none⟩) (fun _ => rfl) _).drew
  have k4' := k4.below ((Below.refl _ _).drew)
  have k5 := h5'.upd hu2 (fun g hg e => by subst e; exact h5'.neT h3' (by decide) hg)
  have hu3 := (Upd.refl (fun k => k = rb) ((w1.setCell ⟨rb, 0, none⟩ (.slice (some ⟨g, 0, none⟩) (st.c.tasks.length + 1) c)).drew)).setCell (p := ⟨rb, 7, none⟩) (fun _ => rfl) (.pointer (some ⟨g, st.c.tasks.length * 8 + 7, none⟩))
  have hs2 : B ≤ ((w1.setCell ⟨rb, 0, none⟩ (.slice (some ⟨g, 0, none⟩) (st.c.tasks.length + 1) c)).drew).heap.size := by simpa [World.drew] using hs1
  exact ⟨⟨_, bv, mv, gv, ev, _, _, eq, tb', bb, mb, gb, eb, h1, by simpa [World.drew] using hs1, Blk.of (k3.set 7 _) rfl, k4'.hdr k3 rT 7 _, k5.upd hu3 (fun g hg e => by subst e; exact k5.neT k3 (by decide) hg), h6, .inr (.inl ⟨rfl, g, st.c.tasks.length, htb, by simp, rfl⟩)⟩, (hb2.trans (set_below h1 hs1 _).drew).trans (set_below h1 hs2 _)⟩
theorem task_ps {w0 : World} (h : PSI w0 B st rb) (hbw : Below w0.heap.size w0 w) {nv : Value} {x0 x1 x2 x3 x4 x5 : Int} {us : List Int} (hx0 : 0 ≤ x5) (hx1 : x5 ≤ 999999) (hul : us.length ≤ 100000) {nb : Option Nat} (hI : IRow w nv (x0 :: x1 :: x2 :: x3 :: x4 :: x5 :: us) nb) (hnb : ∀ g, nb = some g → w0.heap.size ≤ g) (hn : st.c.tasks.length + 1 ≤ 1000000) :
    Calls Tryz.prog 66 #[.pointer (some ⟨rb, 0, none⟩), nv] w (LnS w B { st with c := { st.c with tasks := st.c.tasks ++ [⟨x0, x1, x2, x3, x4, x5 - 1, us, []⟩] }, act := 1 } rb) := by
  obtain ⟨g, hg⟩ := hI.has (by simp)
  obtain ⟨cap, rest, rfl, hB, hc, hcn, hm⟩ := hI.blk g hg
  have hrd : ∀ (k : Nat) (n : Int), (x0 :: x1 :: x2 :: x3 :: x4 :: x5 :: us)[k]? = some n → w.cell? ⟨g, k, none⟩ = some (.int .i64 n) := fun k n hk => by
    have hl : k < (x0 :: x1 :: x2 :: x3 :: x4 :: x5 :: us).length := (List.getElem?_eq_some_iff.1 hk).1
    rw [hB.rd, List.getElem?_toArray, List.getElem?_append_left (by simpa using hl), List.getElem?_map, hk]; rfl
  have hlen : (x0 :: x1 :: x2 :: x3 :: x4 :: x5 :: us).length = us.length + 6 := rfl
  have hU : ∀ (o c' : Nat), (us = [] ∨ o = 6) → ∀ gb, (∀ g, gb = some g → g < w0.heap.size) → UsesOk w (.slice (some ⟨g, o, none⟩) us.length c') us gb := fun o c' ho gb hgb => by
    refine ⟨_, _, rfl, ?_⟩
    rcases ho with e | rfl
    · exact .inl e
    · refine .inr ⟨g, 6, _, rfl, fun e => ?_, hB, fun k n hk => ?_⟩
      · have := hgb g e
        have := hnb g hg
        omega
      · have hl : k < us.length := (List.getElem?_eq_some_iff.1 hk).1
        rw [List.getElem?_toArray, List.getElem?_append_left (by simp; omega), List.getElem?_map]
        have : (x0 :: x1 :: x2 :: x3 :: x4 :: x5 :: us)[6 + k]? = us[k]? := by rw [Nat.add_comm]; rfl
        rw [this, hk]; rfl
  obtain ⟨tv, bv, mv, gv, ev, p7, tq, eq, tb, bb, mb, gb, eb, hc0⟩ := h
  have h3 := Blk.below hbw hc0.2.2.1 hc0.2.2.1.lt
  have h4 := hc0.2.2.2.1.below hbw
  by_cases h6 : cap = 6
  · subst h6
    have hus : us = [] := List.eq_nil_of_length_eq_zero (by omega)
    subst hus
    refine (task_six w rb _ h3 x0 x1 x2 x3 x4 x5 hx0 hx1 g hrd _ _ tv p7 tb rfl rfl h4.rt hn).mono ?_
    rintro e w' ⟨rfl, hP⟩
    exact ⟨rfl, task_post hc0 hbw (t := ⟨x0, x1, x2, x3, x4, x5 - 1, [], []⟩) rfl (hU 0 0 (.inl rfl)) hP⟩
  · refine (task_ok w rb _ h3 x0 x1 x2 x3 x4 x5 us hx0 hx1 hul g _ cap rfl hcn h6 hrd _ _ tv p7 tb rfl rfl h4.rt hn).mono ?_
    rintro e w' ⟨rfl, hP⟩
    have hm : us.length + 6 - 6 = us.length := by omega
    rw [hm] at hP
    exact ⟨rfl, task_post hc0 hbw (t := ⟨x0, x1, x2, x3, x4, x5 - 1, us, []⟩) rfl (hU 6 (cap - 6) (.inr rfl)) hP⟩
/-! ### steps -/
theorem modLast_set {α : Type} (f : α → α) (l : List α) (n : Nat) (x : α) (hl : l.length = n + 1) (hx : l[n]? = some x) : modLast f l = l.set n (f x) := by
  have hlast : l.getLast? = some x := by rw [List.getLast?_eq_getElem?, hl]; exact hx
  unfold modLast
  rw [hlast]
  simp only
  have hd := List.dropLast_eq_take (l := l)
  rw [hd, hl, Nat.add_sub_cancel]
  apply List.ext_getElem?
  intro k
  rw [List.getElem?_set]
  rcases Nat.lt_trichotomy k n with h | h | h
  · rw [List.getElem?_append_left (by rw [List.length_take]; omega), List.getElem?_take, if_pos h, if_neg (by omega)]
  · subst h
    rw [if_pos rfl, if_pos (by omega), List.getElem?_append_right (by rw [List.length_take]; omega), List.length_take, show k - min k l.length = 0 by omega]; rfl
  · rw [if_neg (by omega), List.getElem?_eq_none (by rw [List.length_append, List.length_take]; simp; omega), List.getElem?_eq_none (by omega)]
theorem snone_ps (h : PSI w B st rb) (o : OpV) (ha : st.act = 0 ∨ mayO o = false) : Calls Tryz.prog 81 #[.pointer (some ⟨rb, 0, none⟩), opV o] w (LnN w B) := by
  have hg := h.ge
  obtain ⟨tv, bv, mv, gv, ev, p7, tq, eq, tb, bb, mb, gb, eb, h1, h2, h3, h4, h5, h6, h7⟩ := h
  rcases h7 with ⟨h0, rfl⟩ | ⟨h0, g, n, htb, hn, rfl⟩ | ⟨h0, g, n, htb, hn, rfl⟩
  · refine (step_none o w rb _ h3 rfl).mono ?_
    rintro e w' ⟨rfl, hb⟩
    exact ⟨rfl, hb.mono hg⟩
  · refine (step_bad o w rb _ h3 _ rfl (by rcases ha with h | h; omega; exact h)).mono ?_
    rintro e w' ⟨rfl, hb⟩
    exact ⟨rfl, hb.mono hg⟩
  · refine (step_bad o w rb _ h3 _ rfl (by rcases ha with h | h; omega; exact h)).mono ?_
    rintro e w' ⟨rfl, hb⟩
    exact ⟨rfl, hb.mono hg⟩
theorem step_ps (h : PSI w B st rb) (o : OpV) (ha : st.act ≠ 0) (hm : mayO o = true) (hnt : ∀ t ∈ st.c.tasks, t.prog.length + 1 ≤ 1000000) (hne : ∀ t ∈ st.c.best, t.prog.length + 1 ≤ 1000000) :
    Calls Tryz.prog 81 #[.pointer (some ⟨rb, 0, none⟩), opV o] w (LnS w B (addOp st o) rb) := by
  obtain ⟨tv, bv, mv, gv, ev, p7, tq, eq, tb, bb, mb, gb, eb, h1, h2, h3, h4, h5, h6, h7⟩ := h
  rcases h7 with ⟨h0, rfl⟩ | ⟨h0, g, n, htb, hn, rfl⟩ | ⟨h0, g, n, htb, hn, rfl⟩
  · exact absurd h0 ha
  · have hnl : n < st.c.tasks.length := by omega
    have ht := List.getElem?_eq_getElem hnl
    have hnq : n < tq.length := by rw [h4.lt]; omega
    have hq := List.getElem?_eq_getElem hnq
    generalize st.c.tasks[n] = t at ht
    generalize tq[n] = q at hq
    obtain ⟨cap, rest, htv, hS, _⟩ := h4.rt.blk g htb
    have hcell : (tCells st.c.tasks tq ++ rest).toArray[n * 8 + 7]? = some q.pv := by
      have := tCells_at ht hq (k := 7) (by omega)
      rw [List.getElem?_toArray, List.getElem?_append_left (by rw [h4.rt.1]; omega), this]; rfl
    refine (step_ok o w rb _ h3 g (n * 8 + 7) rfl hm _ _ hS (by decide) _ _ q.pv q.pb hcell (h4.pt n t q ht hq) (hnt t (List.mem_of_getElem? ht))).mono ?_
    rintro e w' ⟨rfl, W, v', w1, hbW, hA, rfl⟩
    have h3W := Blk.below hbW h3 h3.lt
    have h4W := h4.below hbW
    have h5W := h5.below hbW
    have h2W : B ≤ W.heap.size := Nat.le_trans h2 hbW.size
    obtain ⟨q', h4', hu⟩ := h4W.stepT h2W htb ht hq hA
    have hF : ∀ (S : TypeId) (k : Nat) (cs : Array Value), Blk W k cs S → S ≠ 25 → S ≠ 89 → ¬ (q.pb = some k ∨ k = g) := fun S k cs hB hs1 hs2 hk => by
      rcases hk with hk | rfl
      · exact (h4W.pt n t q ht hq).neT hB (fun e => hs1 e.symm) hk
      · exact h4W.rt.neT hB (fun e => hs2 e.symm) htb
    have h3' := Blk.upd hu h3W (hF _ _ _ h3W (by decide) (by decide))
    have h5' := h5W.upd hu (fun k hk => by
      obtain ⟨_, _, _, hB, _⟩ := h5W.blk k hk
      exact hF _ _ _ hB (by decide) (by decide))
    have hlo : ∀ k, (q.pb = some k ∨ k = g) → B ≤ k := fun k hk => by
      rcases hk with hk | rfl
      · exact h4.lo k (.inr (.inr (.inr (.inr (.inl ⟨q, List.mem_of_getElem? hq, hk⟩)))))
      · exact h4.lo _ (.inl htb)
    have hst : addOp st o = { st with c := { st.c with tasks := st.c.tasks.set n { t with prog := t.prog ++ [o] } } } := by
      unfold addOp
      rw [if_pos h0, modLast_set _ _ n t hn ht]
    rw [hst]
    exact ⟨rfl, ⟨tv, bv, mv, gv, ev, _, _, eq, tb, bb, mb, gb, eb, h1, Nat.le_trans h2W hu.size, h3', h4', h5', h6, .inr (.inl ⟨h0, g, n, htb, by simpa using hn, rfl⟩)⟩, (hbW.mono h2).trans (hu.below h2W hlo)⟩
  · have hnl : n < st.c.best.length := by omega
    have ht := List.getElem?_eq_getElem hnl
    have hnq : n < eq.length := by rw [h4.le]; omega
    have hq := List.getElem?_eq_getElem hnq
    generalize st.c.best[n] = t at ht
    generalize eq[n] = q at hq
    obtain ⟨cap, rest, htv, hS, _⟩ := h4.re.blk g htb
    have hcell : (eCells st.c.best eq ++ rest).toArray[n * 2 + 1]? = some q.pv := by
      have := eCells_at ht hq (k := 1) (by omega)
      rw [List.getElem?_toArray, List.getElem?_append_left (by rw [h4.re.1]; omega), this]; rfl
    refine (step_ok o w rb _ h3 g (n * 2 + 1) rfl hm _ _ hS (by decide) _ _ q.pv q.pb hcell (h4.pe n t q ht hq) (hne t (List.mem_of_getElem? ht))).mono ?_
    rintro e w' ⟨rfl, W, v', w1, hbW, hA, rfl⟩
    have h3W := Blk.below hbW h3 h3.lt
    have h4W := h4.below hbW
    have h5W := h5.below hbW
    have h2W : B ≤ W.heap.size := Nat.le_trans h2 hbW.size
    obtain ⟨q', h4', hu⟩ := h4W.stepE h2W htb ht hq hA
    have hF : ∀ (S : TypeId) (k : Nat) (cs : Array Value), Blk W k cs S → S ≠ 25 → S ≠ 92 → ¬ (q.pb = some k ∨ k = g) := fun S k cs hB hs1 hs2 hk => by
      rcases hk with hk | rfl
      · exact (h4W.pe n t q ht hq).neT hB (fun e => hs1 e.symm) hk
      · exact h4W.re.neT hB (fun e => hs2 e.symm) htb
    have h3' := Blk.upd hu h3W (hF _ _ _ h3W (by decide) (by decide))
    have h5' := h5W.upd hu (fun k hk => by
      obtain ⟨_, _, _, hB, _⟩ := h5W.blk k hk
      exact hF _ _ _ hB (by decide) (by decide))
    have hlo : ∀ k, (q.pb = some k ∨ k = g) → B ≤ k := fun k hk => by
      rcases hk with hk | rfl
      · exact h4.lo k (.inr (.inr (.inr (.inr (.inr ⟨q, List.mem_of_getElem? hq, hk⟩)))))
      · exact h4.lo _ (.inr (.inl htb))
    have hst : addOp st o = { st with c := { st.c with best := st.c.best.set n { t with prog := t.prog ++ [o] } } } := by
      unfold addOp
      rw [if_neg (by omega), modLast_set _ _ n t hn ht]
    rw [hst]
    exact ⟨rfl, ⟨tv, bv, mv, gv, ev, _, tq, _, tb, bb, mb, gb, eb, h1, Nat.le_trans h2W hu.size, h3', h4', h5', h6, .inr (.inr ⟨h0, g, n, htb, by simpa using hn, rfl⟩)⟩, (hbW.mono h2).trans (hu.below h2W hlo)⟩
end
end Go.Proofs.YtefaaginedideaaGreatDoor
