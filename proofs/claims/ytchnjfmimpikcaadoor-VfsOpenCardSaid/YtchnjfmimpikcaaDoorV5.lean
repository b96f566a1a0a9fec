/-
  The vfs: Open of a new file; Stat; a new vfs.
-/
import Derived.Test.YtchnjfmimpikcaaDoorV4
namespace Go.Proofs.YtchnjfmimpikcaaDoor
set_option linter.unusedSimpArgs false
set_option linter.unusedVariables false
open Go.RowKit Own RegJ Two
open Go.Lib hiding intOf

section
variable {w w' : World} {vb tb : Nat} {ns ns' : NSt} {lo lo' : Lo} {N c d : Nat}
theorem VV.upd [Inhabited CapT] {F : Nat → Prop} (h : VV w vb tb ns lo c) (hu : Upd F w w') (h1 : ¬ F vb) (h2 : ∀ r k, lo r = some k → ¬ F k) (h3 : ¬ F 0) : VV w' vb tb ns lo c := by
  obtain ⟨⟨⟨sp, k0, k1⟩, k2, k3, ⟨m0, k4⟩, k5⟩, k6⟩ := h
  exact ⟨⟨⟨sp, k0, Blk.upd hu k1 h1⟩, k2.upd hu h2, k3, ⟨m0, cell_upd hu k4 h3⟩, k5⟩, k6⟩
theorem VV.lts [Inhabited CapT] (h : VV w vb tb ns lo c) : vb < w.heap.size ∧ (∀ r k, lo r = some k → k < w.heap.size) ∧ 0 < w.heap.size := by
  obtain ⟨⟨⟨sp, k0, k1⟩, k2, k3, ⟨m0, k4⟩, k5⟩, k6⟩ := h
  exact ⟨k1.lt, fun r k hk => k2.lt r k hk, cell_lt' k4⟩
/-- what the function leaves that makes a file -/
def OKP [Inhabited CapT] (w : World) (vb tb : Nat) (ns' : NSt) (lo : Lo) (c bi : Nat) (m1 m2 : Int) (r : Int) (w' : World) : Prop := r = m2 ∧ w'.cell? ⟨bi, 0, none⟩ = some (.int .i64 m1) ∧ ∃ lo', VV w' vb tb ns' lo' c ∧ Upd (fun k => (∃ r, lo r = some k) ∨ k = bi) w w' ∧ (∀ r k, lo' r = some k → (∃ r', lo r' = some k) ∨ w.heap.size ≤ k) ∧ lo' (.st .sto) = lo (.st .sto) ∧ lo' (.st .frm) = lo (.st .frm)
set_option maxRecDepth 100000 in
theorem openK_is [Inhabited CapT] (h : VV w vb tb ns lo c) (hc : c ≤ 9000) (bv bi : Nat) (hv : w.cell? ⟨bv, 0, none⟩ = some (.pointer (some ⟨vb, 0, none⟩))) (hi : ∃ u, Blk w bi #[u] 3) (hlo : ∀ r, lo r ≠ some bi) (hne : bi ≠ vb) (hg : bi ≠ 0)
    (d : Int) (nm : Txt) (m1 m2 : Int) (ns' : NSt) (hm : madeF ns d nm false = (m1, m2, ns')) :
    Calls Tryd.prog 31 #[.int .i64 d, .string (B nm), .pointer (some ⟨bv, 0, none⟩), .pointer (some ⟨bi, 0, none⟩)] w fun e w' => ∃ r, e = .returned (.int .i64 r) ∧ OKP w vb tb ns' lo (c + 3) bi m1 m2 r w' := by
  have hmk := made_is h hc d nm false m1 m2 ns' hm
  obtain ⟨u, hi⟩ := hi
  have H := Lib.hid (And.intro h (And.intro hi (And.intro hlo (And.intro hne hg))))
  clear h hi hlo hne hg hm
  generalize B nm = L at *
  go_enter Tryd.func31, Tryd.ntmps31
  go_wp2_with (go_at_call 32; (with_reducible refine hmk.mono ?_); rintro e w1 ⟨rfl, lo1, hV, hF⟩; have hb1 := Blk.upd hF.1 H.out.2.1 (fun ⟨r, hr⟩ => H.out.2.2.1 r hr); have c1 := hb1.rd; have f1 := hb1.nf; have H1 := Lib.hid (And.intro hV (And.intro hF hb1)); clear hmk hV hF hb1)
  go_ret
  refine ⟨m2, rfl, rfl, Blk.cell (Blk.of (H1.out.2.2.set 0 (.int .i64 m1)) rfl) rfl, lo1, ?_, ?_, H1.out.2.1.2⟩
  · have hu : Upd (fun k => k = bi) w1 (w1.setCell ⟨bi, 0, none⟩ (.int .i64 m1)) := (Upd.refl (fun k => k = bi) w1).setCell (p := ⟨bi, 0, none⟩) (fun _ => rfl) _
    refine H1.out.1.upd hu (fun e => H.out.2.2.2.1 e.symm) (fun r k hk e => ?_) (fun e => H.out.2.2.2.2 e.symm)
    subst e
    have hl := H.out.2.1.lt
    rcases H1.out.2.1.2.1 r k hk with ⟨r', h1⟩ | h1
    · exact H.out.2.2.1 r' h1
    · omega
  · exact Upd.setCell (F := fun k => (∃ r, lo r = some k) ∨ k = bi) (H1.out.2.1.1.mono (fun _ _ e => Or.inl e)) (p := ⟨bi, 0, none⟩) (fun _ => Or.inr rfl) _
def newF (ns : NSt) (l : Txt) : Int × Int × NSt := if parEr ns l = 0 then madeF ns (parDi ns l) (parN l) false else (0, parEr ns l, ns)
set_option maxRecDepth 100000 in
theorem open_new [Inhabited CapT] (h : VV w vb tb ns lo c) (hc : c ≤ 9000) (l : Txt) (hl : l.length ≤ 100000) (hw : walkR ns l = (0, 9)) (m1 m2 : Int) (ns' : NSt) (hm : newF ns l = (m1, m2, ns')) :
    Calls Tryd.prog 10 #[.pointer (some ⟨vb, 0, none⟩), .string (B l), .int .i64 1] w (MadP w vb tb ns' lo (c + 3) (.tuple #[.int .i64 m1, .int .i64 m2])) := by
  have hb11 : (Go.bits Go.BinOp.and Go.IntKind.i64 1 1 != 0) = true := by decide +kernel
  have hl0 := h.lts
  have hB0 : Below w.heap.size w (w.alloc (.cells #[.pointer (some ⟨vb, 0, none⟩)] 26)) := (Below.refl _ _).alloc (Nat.le_refl _) _
  have hwk := walk_is (h.below hB0).1 l hl 0 9 hw
  have hbv := Blk.new w #[.pointer (some ⟨vb, 0, none⟩)] 26
  have c0 := hbv.rd
  have hpar : ∀ w1, Below w.heap.size (w.alloc (.cells #[.pointer (some ⟨vb, 0, none⟩)] 26)) w1 → w1.cell? ⟨w.heap.size, 0, none⟩ = some (.pointer (some ⟨vb, 0, none⟩)) → w.heap.size < w1.heap.size → Calls Tryd.prog 29 #[.pointer (some ⟨vb, 0, none⟩), .string (B l), .func (.func 31) #[] #[.pointer (some ⟨w.heap.size, 0, none⟩), .pointer (some ⟨w1.heap.size, 0, none⟩)]] (w1.alloc (.cells #[.int .i64 0] 3))
      fun e w2 => ∃ r, e = .returned (.int .i64 r) ∧ OKP (w1.alloc (.cells #[.int .i64 0] 3)) vb tb ns' lo (c + 3) w1.heap.size m1 m2 r w2 := fun w1 hB1 hcv hsz => by
    have hBw : Below w.heap.size w w1 := hB0.trans hB1
    have hBn := hBw.alloc hBw.size (.cells #[.int .i64 0] 3)
    have h2 := h.below hBn
    have hbi := Blk.new w1 #[.int .i64 0] 3
    refine par_OpenF h2 l hl _ _ _ (fun E w3 hB3 hE hE0 => ?_) (fun hE w3 hB3 => ?_)
    · unfold newF at hm
      rw [if_neg (by rw [hE]; exact hE0), hE] at hm
      cases hm
      exact ⟨rfl, (Blk.below hB3 hbi hbi.lt).cell rfl, lo, (h2.below hB3).le (by omega), Upd.of_below hB3, fun r k hk => Or.inl ⟨r, hk⟩, rfl, rfl⟩
    · unfold newF at hm
      rw [if_pos hE] at hm
      have hcv2 : w3.cell? ⟨w.heap.size, 0, none⟩ = some (.pointer (some ⟨vb, 0, none⟩)) := cell_upd (Upd.of_below (F := fun _ => False) hB3) (cell_upd ((Upd.refl (fun _ => False) w1).alloc _) hcv (fun h => h)) (fun h => h)
      refine (openK_is (h2.below hB3) hc w.heap.size w1.heap.size hcv2 ⟨_, Blk.below hB3 hbi hbi.lt⟩ (fun r hr => ?_) (by omega) (by omega) _ _ m1 m2 ns' hm).mono ?_
      · have := hl0.2.1 r _ hr; omega
      · rintro e w4 ⟨r, rfl, h1, h2, lo', h3, h4, h5⟩
        have hz := hB3.size
        exact ⟨r, rfl, h1, h2, lo', h3, (Upd.of_below hB3).trans h4 (fun _ _ e => e), fun r k hk => (h5.1 r k hk).elim Or.inl (fun e => Or.inr (by omega)), h5.2⟩
  have H := Lib.hid (And.intro h (And.intro hB0 (And.intro hpar (And.intro hbv hl0))))
  clear h hB0 hpar hbv hl hw hm hl0
  generalize B l = L at *
  go_enter Tryd.func10, Tryd.ntmps10
  go_wp2_with (first
    | (go_at_call 17; (with_reducible refine hwk.mono ?_); rintro e w1 ⟨rfl, hB⟩; have hb1 := Blk.below hB H.out.2.2.2.1 H.out.2.2.2.1.lt; clear c0; have c0 := (hb1.alloc (.cells #[.int .i64 0] 3)).rd; have hbw : Below w.heap.size (w.alloc (.cells #[.pointer (some ⟨vb, 0, none⟩)] 26)) w1 := hB.mono (by simp); have hp := H.out.2.2.1 w1 hbw (hb1.cell rfl) hb1.lt; have H1 := Lib.hid (And.intro hbw hb1); clear hB hwk hb1 hbw)
    | (go_at_call 29; (with_reducible refine hp.mono ?_); rintro e w2 ⟨r, rfl, rfl, c2, hq⟩; have H2 := Lib.hid hq; clear hp hq))
  go_returns
  obtain ⟨lo', h3, h4, h5⟩ := H2.out
  have hz1 := H1.out.2.lt
  refine ⟨rfl, lo', h3, ?_, fun r k hk => (h5.1 r k hk).elim Or.inl (fun e => Or.inr ?_), h5.2⟩
  · have hBw : Below w.heap.size w w1 := H.out.2.1.trans H1.out.1
    exact (Upd.of_below (hBw.alloc hBw.size (.cells #[.int .i64 0] 3))).trans h4 (fun i hi e => e.elim id (fun e => by omega))
  · simp at e; omega
def getA (ns : NSt) (id : Int) : Array Value := match ndAt ns id with
  | some nd => #[.int .i64 id, .int .i64 nd.links, .bool nd.dir, .int .i64 (sizeN nd)]
  | none => in0
set_option maxRecDepth 100000 in
theorem stat_yes [Inhabited CapT] (h : VV w vb tb ns lo c) (l : Txt) (hl : l.length ≤ 100000) (id : Int) (hw : walkR ns l = (id, 0)) (nd : Nd) (hn : ndAt ns id = some nd) :
    Calls Tryd.prog 18 #[.pointer (some ⟨vb, 0, none⟩), .string (B l)] w fun e w' => e = .returned (.tuple #[.agg #[.int .i64 id, .int .i64 nd.links, .bool nd.dir, .int .i64 (sizeN nd)], .int .i64 0]) ∧ Below w.heap.size w w' := by
  have hB0 : Below w.heap.size w (w.alloc (.cells in0 40)) := (Below.refl _ _).alloc (Nat.le_refl _) _
  have hb0 := Blk.new w in0 40
  have hwk := walk_is (h.below hB0).1 l hl id 0 hw
  have hget : ∀ w1, Below w.heap.size w w1 → Calls Tryd.prog 42 #[.pointer (some ⟨tb, 0, none⟩), .int .i64 id] w1 fun e w' => e = .returned (.tuple #[.agg #[.int .i64 id, .int .i64 nd.links, .bool nd.dir, .int .i64 (sizeN nd)], .bool true]) ∧ Below w1.heap.size w1 w' := fun w1 hB => by
    have := get_any (h.below hB).1.2.1 id
    unfold getV at this
    rw [hn] at this
    exact this
  unfold in0 at *
  have H := Lib.hid (And.intro h (And.intro hB0 (And.intro hget hb0)))
  clear h hB0 hget hl hw hn hb0
  generalize B l = L at *
  generalize sizeN nd = sz at *
  generalize nd.links = lk at *
  generalize nd.dir = dr at *
  go_enter Tryd.func18, Tryd.ntmps18
  go_wp2_with (first
    | (go_at_call 17; (with_reducible refine hwk.mono ?_); rintro e w1 ⟨rfl, hB⟩; have hb1 := H.out.2.1.trans (hB.mono H.out.2.1.size); have hk1 := Blk.below hB H.out.2.2.2 H.out.2.2.2.lt; have c0 := (H.out.1.below hb1).1.cell; have hg := H.out.2.2.1 w1 hb1; have H1 := Lib.hid (And.intro hb1 hk1); clear hB hwk hb1 hk1)
    | (go_at_call 42; (with_reducible refine hg.mono ?_); rintro e w2 ⟨rfl, hB⟩; have hk2 := (Blk.below hB H1.out.2 H1.out.2.lt).alloc (.cells #[.int .i64 id, .int .i64 lk, .bool dr, .int .i64 sz] 40); have f2 := hk2.nf; have c2 := hk2.rd; have H2 := Lib.hid (And.intro (H1.out.1.trans (hB.mono H1.out.1.size)) (And.intro hB True.intro)); clear hB hg hk2))
  have hk2 := (Blk.below H2.out.2.1 H1.out.2 H1.out.2.lt).alloc (.cells #[.int .i64 id, .int .i64 lk, .bool dr, .int .i64 sz] 40)
  have hk3 : Blk (((((w2.alloc (.cells #[.int .i64 id, .int .i64 lk, .bool dr, .int .i64 sz] 40)).setCell ⟨w.heap.size, 0, none⟩ (.int .i64 id)).setCell ⟨w.heap.size, 1, none⟩ (.int .i64 lk)).setCell ⟨w.heap.size, 2, none⟩ (.bool dr)).setCell ⟨w.heap.size, 3, none⟩ (.int .i64 sz)) w.heap.size #[.int .i64 id, .int .i64 lk, .bool dr, .int .i64 sz] 40 := Blk.of ((((hk2.set 0 (.int .i64 id)).set 1 (.int .i64 lk)).set 2 (.bool dr)).set 3 (.int .i64 sz)) rfl
  have hu := ((((Upd.refl (fun k => k = w.heap.size) (w2.alloc (.cells #[.int .i64 id, .int .i64 lk, .bool dr, .int .i64 sz] 40))).setCell (p := ⟨w.heap.size, 0, none⟩) (fun _ => rfl) (.int .i64 id)).setCell (p := ⟨w.heap.size, 1, none⟩) (fun _ => rfl) (.int .i64 lk)).setCell (p := ⟨w.heap.size, 2, none⟩) (fun _ => rfl) (.bool dr)).setCell (p := ⟨w.heap.size, 3, none⟩) (fun _ => rfl) (.int .i64 sz)
  have hb := H2.out.1.alloc H2.out.1.size (.cells #[.int .i64 id, .int .i64 lk, .bool dr, .int .i64 sz] 40)
  have hbb : Below w.heap.size w (((((w2.alloc (.cells #[.int .i64 id, .int .i64 lk, .bool dr, .int .i64 sz] 40)).setCell ⟨w.heap.size, 0, none⟩ (.int .i64 id)).setCell ⟨w.heap.size, 1, none⟩ (.int .i64 lk)).setCell ⟨w.heap.size, 2, none⟩ (.bool dr)).setCell ⟨w.heap.size, 3, none⟩ (.int .i64 sz)) := hb.trans (hu.below hb.size (fun k hk => by omega))
  clear hk2 hu hb
  generalize (((((w2.alloc (.cells #[.int .i64 id, .int .i64 lk, .bool dr, .int .i64 sz] 40)).setCell ⟨w.heap.size, 0, none⟩ (.int .i64 id)).setCell ⟨w.heap.size, 1, none⟩ (.int .i64 lk)).setCell ⟨w.heap.size, 2, none⟩ (.bool dr)).setCell ⟨w.heap.size, 3, none⟩ (.int .i64 sz)) = w9 at hk3 hbb ⊢
  have c9 := hk3.rd
  try simp only [Exit.inBlock, Exit.then]
  refine bodyPost_ret (by simp [results, Tryd.results18, go_sem, c9]; try rfl) rfl ?_
  exact ⟨rfl, hbb⟩
end
end Go.Proofs.YtchnjfmimpikcaaDoor
