/-
  Scripts printed, by the program.
-/
import Derived.Test.YtefaaginedideaaGreatDoorPrL
import Derived.Test.YtefaaginedideaaGreatDoorRegP
namespace Go.Proofs.YtefaaginedideaaGreatDoor
set_option linter.unusedSimpArgs false
set_option linter.unusedVariables false
open Go.RowKit Own RegJ
open Go.Lib hiding intOf

theorem step_line {B b : Nat} {α : Type} {f : α → Txt} {g : α → Bool} {L : List α} {i : Nat} {x : α} {bad0 : Bool} {l0 : Txt} {W w' : World} (hx : L[i]? = some x) (h : PrR B b ((bad0 || (L.take i).any g) || g x) ((l0 ++ (L.take i).flatMap f) ++ f x) W w') : PrR B b (bad0 || (L.take (i + 1)).any g) (l0 ++ (L.take (i + 1)).flatMap f) W w' := by
  rw [any_next hx, fm_next hx, ← Bool.or_assoc, ← List.append_assoc]; exact h
theorem step_ln {B b : Nat} {α : Type} {f : α → Txt} {g : α → Bool} {L : List α} {i : Nat} {x : α} {bad0 : Bool} {l0 t : Txt} {W w' : World} (hx : L[i]? = some x) (hf : f x = t ++ [10]) (h : PrR B b ((bad0 || (L.take i).any g) || g x) ((l0 ++ (L.take i).flatMap f) ++ t ++ [10]) W w') : PrR B b (bad0 || (L.take (i + 1)).any g) (l0 ++ (L.take (i + 1)).flatMap f) W w' :=
  step_line hx (by rw [hf, ← List.append_assoc]; exact h)
theorem step_ef {B b : Nat} {α : Type} {f : α → Txt} {g : α → Bool} {L : List α} {i : Nat} {x : α} {bad0 g1 g2 : Bool} {l0 t u : Txt} {W w' : World} (hx : L[i]? = some x) (hf : f x = t ++ [10] ++ u) (hg : g x = (g1 || g2)) (h : PrR B b (((bad0 || (L.take i).any g) || g1) || g2) ((l0 ++ (L.take i).flatMap f) ++ t ++ [10] ++ u) W w') : PrR B b (bad0 || (L.take (i + 1)).any g) (l0 ++ (L.take (i + 1)).flatMap f) W w' :=
  step_line hx (by rw [hf, hg, ← Bool.or_assoc, ← List.append_assoc, ← List.append_assoc]; exact h)
theorem step_l2 {B b : Nat} {α : Type} {f : α → Txt} {g : α → Bool} {L : List α} {i : Nat} {x : α} {bad0 g1 g2 : Bool} {l0 t : Txt} {W w' : World} (hx : L[i]? = some x) (hf : f x = t ++ [10]) (hg : g x = (g1 || g2)) (h : PrR B b (((bad0 || (L.take i).any g) || g1) || g2) ((l0 ++ (L.take i).flatMap f) ++ t ++ [10]) W w') : PrR B b (bad0 || (L.take (i + 1)).any g) (l0 ++ (L.take (i + 1)).flatMap f) W w' :=
  step_line hx (by rw [hf, hg, ← Bool.or_assoc, ← List.append_assoc]; exact h)
theorem step_tk {B b : Nat} {α : Type} {f : α → Txt} {g : α → Bool} {L : List α} {i : Nat} {x : α} {bad0 g1 g2 g3 : Bool} {l0 t u : Txt} {W w' : World} (hx : L[i]? = some x) (hf : f x = t ++ [10] ++ u) (hg : g x = ((g1 || g2) || g3)) (h : PrR B b ((((bad0 || (L.take i).any g) || g1) || g2) || g3) ((l0 ++ (L.take i).flatMap f) ++ t ++ [10] ++ u) W w') : PrR B b (bad0 || (L.take (i + 1)).any g) (l0 ++ (L.take (i + 1)).flatMap f) W w' :=
  step_line hx (by rw [hf, hg, ← Bool.or_assoc, ← Bool.or_assoc, ← List.append_assoc, ← List.append_assoc]; exact h)
theorem lineT_len {word : Txt} {ns : List Int} (h : Rng ns) : (lineT word ns).length ≤ word.length + 22 * ns.length := by
  have := numsT_len h
  unfold lineT
  rw [List.length_append]; omega
theorem rng1 {x : Int} (h : InR x) : Rng [x] := by intro y hy; simp at hy; subst hy; exact h
theorem rng2 {x y : Int} (h : InR x) (k : InR y) : Rng [x, y] := by intro z hz; simp at hz; rcases hz with rfl | rfl; exact h; exact k
theorem inR_next (x : Int) : InR (nextV x) := by have := nextV_rng x; unfold InR; omega
theorem rng_ev {e : EvV} (h : InR e.tick ∧ InR e.line ∧ InR e.task) : Rng [e.tick, nextV e.line, e.task] := by
  intro z hz; simp at hz; rcases hz with rfl | rfl | rfl
  · exact h.1
  · exact inR_next _
  · exact h.2.2
theorem rng_tk {t : TaskV} (h : InR t.cl ∧ InR t.lv ∧ InR t.pe ∧ InR t.de ∧ InR t.bu ∧ InR t.li ∧ ∀ u ∈ t.uses, InR u) : Rng (taskNsP t) := by
  intro z hz
  unfold taskNsP at hz
  rw [List.mem_append] at hz
  rcases hz with hz | hz
  · simp at hz
    rcases hz with rfl | rfl | rfl | rfl | rfl | rfl
    · exact h.1
    · exact h.2.1
    · exact h.2.2.1
    · exact h.2.2.2.1
    · exact h.2.2.2.2.1
    · exact inR_next _
  · exact h.2.2.2.2.2.2 z hz
theorem ops_len {os : List OpV} {K : Nat} (h : os.length ≤ K) : (opsP os).length ≤ 2001 * K := by
  have := opsP_len (i := os.length) h
  rwa [List.take_length] at this
theorem mtxP_len {m : Int × Int} (h : InR m.1 ∧ InR m.2) : (mtxP m).length ≤ 60 := by
  have := lineT_len (word := mutexW) (rng2 h.1 h.2)
  unfold mtxP
  simp only [mutexW, List.length_append, List.length_cons, List.length_nil] at *
  omega
theorem gapP_len {g : Int} (h : InR g) : (gapP g).length ≤ 60 := by
  have := lineT_len (word := gapW) (rng1 h)
  unfold gapP
  simp only [gapW, List.length_append, List.length_cons, List.length_nil] at *
  omega
theorem evP_len {e : EvV} (h : InR e.tick ∧ InR e.line ∧ InR e.task) : (evP e).length ≤ 100 := by
  have := lineT_len (word := atW) (rng_ev h)
  unfold evP
  simp only [atW, List.length_append, List.length_cons, List.length_nil] at *
  omega
theorem effP_len {b : EffV} (h : InR b.lv) (hp : b.prog.length ≤ 20000) : (effP b).length ≤ 41000000 := by
  have := lineT_len (word := bestW) (rng1 h)
  have := ops_len hp
  unfold effP
  simp only [bestW, List.length_append, List.length_cons, List.length_nil] at *
  omega
theorem taskP_len {t : TaskV} (h : InR t.cl ∧ InR t.lv ∧ InR t.pe ∧ InR t.de ∧ InR t.bu ∧ InR t.li ∧ ∀ u ∈ t.uses, InR u) (hk : t.uses.length ≤ 20000 ∧ t.prog.length ≤ 20000) : (taskP t).length ≤ 41000000 := by
  have h1 := lineT_len (word := taskW) (rng_tk h)
  have h2 := ops_len hk.2
  have h3 : (taskNsP t).length = 6 + t.uses.length := by unfold taskNsP; rw [List.length_append]; rfl
  rw [h3] at h1
  unfold taskP
  simp only [taskW, List.length_append, List.length_cons, List.length_nil] at *
  omega
theorem headP_len {c : CfgV} (h : CfgR c) : (headP c).length ≤ 100 := by
  have h1 := lineT_len (word := framesW) (rng1 h.f)
  have h2 := lineT_len (word := dogW) (rng1 h.d)
  unfold headP
  simp only [framesW, dogW, List.length_append, List.length_cons, List.length_nil] at *
  omega
/-- the row that append hands back -/
theorem rds_app {B b g n : Nat} {W w : World} {ns : List Int} {a : Option Addr} {c : Nat} (h : AppR W 3 1 n (icells ns) (some g) (.slice a n c) w) (hg : b < g) (hW : b < W.heap.size) : RdS B b w a ns := fun k m hk => by
  obtain ⟨b', hR, hu, hlo⟩ := h
  obtain ⟨a', c', hv, hrd⟩ := hR.rdc
  simp only [Value.slice.injEq, true_and] at hv
  obtain ⟨rfl, rfl⟩ := hv
  obtain ⟨g', o, rfl, hc⟩ := hrd k (.int .i64 m) (by rw [List.getElem?_map, hk]; rfl)
  obtain ⟨g2, hg2⟩ := hR.has (by have := (List.getElem?_eq_some_iff.1 hk).1; have := hR.1; simp at this; omega)
  obtain ⟨cap, rest, hv2, hB, _⟩ := hR.blk g2 hg2
  simp only [Value.slice.injEq, Option.some.injEq, Addr.mk.injEq, true_and, and_true] at hv2
  obtain ⟨⟨rfl, rfl⟩, _⟩ := hv2
  refine ⟨_, _, rfl, hc, .inr ⟨?_, _, hB, fun c fz => by simp⟩⟩
  rcases hlo _ hg2 with e | e
  · cases e; omega
  · omega
theorem info_sizes : (Tryz.prog.info? 87).map (·.size) = some 2 ∧ (Tryz.prog.info? 89).map (·.size) = some 8 ∧ (Tryz.prog.info? 92).map (·.size) = some 2 ∧ (Tryz.prog.info? 58).map (·.size) = some 3 := ⟨by kernel_rfl, by kernel_rfl, by kernel_rfl, by kernel_rfl⟩
/-- a copy of a record in a block of its own -/
theorem copy_bel (w : World) (zs cs : Array Value) (T : TypeId) : Below w.heap.size w ((w.alloc (.cells zs T)).setRow w.heap.size cs) := ((Below.refl _ _).alloc (Nat.le_refl _) _).trans ((Upd.row _ _ _).below (by simp) (fun k hk => by omega))
set_option maxRecDepth 100000 in
set_option maxHeartbeats 8000000 in
theorem pprint_go {w : World} {c : CfgV} {es : List EvV} {tv bv mv gv : Value} {tq : List TQ} {eq : List EQ} {ea : Option Addr} {ec : Nat} (ne : Nat) (h : RdCfg w c tv bv mv gv tq eq) (he : RdC w ea (vCells es)) (hne : es.length = ne) (hR : CfgR c) (hRe : EvsR es) (hN : CfgN c 20000) (hNe : ne ≤ 20000) (hEnv : Env w) :
    Calls Tryz.prog 20 #[.agg #[tv, bv, mv, gv, .int .i64 c.frames, .int .i64 c.dog], .slice ea ne ec] w (ValB (.tuple #[.string (B (printT c es)), .int .i64 (printE c es)]) w) := by
  obtain ⟨a0, c0, rfl, hT⟩ := h.rt
  obtain ⟨a1, c1, rfl, hE⟩ := h.re
  obtain ⟨a2, c2, rfl, hM⟩ := h.rm
  obtain ⟨a3, c3, rfl, hG⟩ := h.rg
  obtain ⟨n0, e0⟩ : ∃ n, c.tasks.length = n := ⟨_, rfl⟩
  obtain ⟨n1, e1⟩ : ∃ n, c.best.length = n := ⟨_, rfl⟩
  obtain ⟨n2, e2⟩ : ∃ n, c.mtx.length = n := ⟨_, rfl⟩
  obtain ⟨n3, e3⟩ : ∃ n, c.gaps.length = n := ⟨_, rfl⟩
  have HN := Lib.hid (And.intro e0 (And.intro e1 (And.intro e2 (And.intro e3 (And.intro hne (And.intro hR (And.intro hRe hN)))))))
  have m0 : n0 ≤ 20000 := by have := hN.t; omega
  have m1 : n1 ≤ 20000 := by have := hN.b; omega
  have m2 : n2 ≤ 20000 := by have := hN.m; omega
  have m3 : n3 ≤ 20000 := by have := hN.g; omega
  have HC := Lib.hid (And.intro h (And.intro hT (And.intro hE (And.intro hM (And.intro hG he)))))
  rw [e0, e1, e2, e3]
  obtain ⟨fr, hfr⟩ : ∃ fr, c.frames = fr := ⟨_, rfl⟩
  obtain ⟨dg, hdg⟩ : ∃ dg, c.dog = dg := ⟨_, rfl⟩
  rw [hfr, hdg]
  have HFD := Lib.hid (And.intro hfr hdg)
  have hB1 := (Blk.new w #[.slice a0 n0 c0, .slice a1 n1 c1, .slice a2 n2 c2, .slice a3 n3 c3, .int .i64 fr, .int .i64 dg] 41).alloc (.cells #[.pointer none, .slice none 0 0, .bool false] 64)
  have hPr : Pr (w.heap.size + 1) (w.heap.size + 1) false [] ((w.alloc (.cells #[.slice a0 n0 c0, .slice a1 n1 c1, .slice a2 n2 c2, .slice a3 n3 c3, .int .i64 fr, .int .i64 dg] 41)).alloc (.cells #[.pointer none, .slice none 0 0, .bool false] 64)) := by
    have := BldV.new 64 [.bool false] (w.alloc (.cells #[.slice a0 n0 c0, .slice a1 n1 c1, .slice a2 n2 c2, .slice a3 n3 c3, .int .i64 fr, .int .i64 dg] 41))
    rw [show (w.alloc (.cells #[.slice a0 n0 c0, .slice a1 n1 c1, .slice a2 n2 c2, .slice a3 n3 c3, .int .i64 fr, .int .i64 dg] 41)).heap.size = w.heap.size + 1 by simp] at this
    exact this
  have hbel : Below w.heap.size w ((w.alloc (.cells #[.slice a0 n0 c0, .slice a1 n1 c1, .slice a2 n2 c2, .slice a3 n3 c3, .int .i64 fr, .int .i64 dg] 41)).alloc (.cells #[.pointer none, .slice none 0 0, .bool false] 64)) := ((Below.refl _ _).alloc (Nat.le_refl _) _).alloc (by simp) _
  have hE2 := hEnv.bel hbel
  have hsz2 : w.heap.size + 1 ≤ ((w.alloc (.cells #[.slice a0 n0 c0, .slice a1 n1 c1, .slice a2 n2 c2, .slice a3 n3 c3, .int .i64 fr, .int .i64 dg] 41)).alloc (.cells #[.pointer none, .slice none 0 0, .bool false] 64)).heap.size := by simp
  have h8 : 8 ≤ w.heap.size + 1 := by have := hEnv.size; omega
  clear h hT hE hM hG he e0 e1 e2 e3 hne hR hRe hN hEnv hfr hdg
  go_enter Tryz.func20, Tryz.ntmps20
  go_upto_region 2 with (fail)
  obtain ⟨W2, hW2⟩ : ∃ W2, ((w.alloc (.cells #[.slice a0 n0 c0, .slice a1 n1 c1, .slice a2 n2 c2, .slice a3 n3 c3, .int .i64 fr, .int .i64 dg] 41)).alloc (.cells #[.pointer none, .slice none 0 0, .bool false] 64)) = W2 := ⟨_, rfl⟩
  rw [hW2] at hB1 hPr hbel hE2 hsz2 ⊢
  clear hW2
  have r0 := hB1.rd
  have HB := Lib.hid (And.intro hsz2 (And.intro hE2 (And.intro h8 (And.intro hbel (And.intro hB1 hPr)))))
  clear hB1 hPr hbel hE2 hsz2 h8
  have hl1 := pline_new (word := framesW) [fr] 1 1 #[.int .i64 fr] rfl HB.out.2.1 HB.out.2.2.1 HB.out.1 HB.out.2.2.2.2.2 rfl (rng1 (HFD.out.1 ▸ HN.out.2.2.2.2.2.1.f)) (by simp [framesW])
  rw [show B framesW = ⟨#[102, 114, 97, 109, 101, 115]⟩ from rfl] at hl1
  go_upto_region 3 with (go_at_call 22; refine hl1.mono ?_; rintro e w3 ⟨rfl, hr3⟩; have H3 := Lib.hid hr3; clear hr3 hl1)
  have hB3 : w.heap.size + 1 ≤ w3.heap.size := Nat.le_trans HB.out.1 H3.out.2.1.size
  have r3 := (H3.out.2.1.cell (p := ⟨w.heap.size, 5, none⟩) (Nat.lt_succ_self _)).trans (r0 5)
  have hl2 := pline_new (word := dogW) [dg] 1 1 #[.int .i64 dg] rfl (HB.out.2.1.below HB.out.2.2.1 H3.out.2.1) HB.out.2.2.1 hB3 H3.out.1 rfl (rng1 (HFD.out.2 ▸ HN.out.2.2.2.2.2.1.d)) (by have := lineT_len (word := framesW) (ns := [fr]) (rng1 (HFD.out.1 ▸ HN.out.2.2.2.2.2.1.f)); simp only [dogW, framesW, List.length_append, List.length_cons, List.length_nil] at *; omega)
  rw [show B dogW = ⟨#[100, 111, 103]⟩ from rfl] at hl2
  go_upto_region 4 with (go_at_call 22; refine hl2.mono ?_; rintro e w4 ⟨rfl, hr4⟩; have H4 := Lib.hid hr4; clear hr4 hl2)
  have HS := Lib.hid (show PrR (w.heap.size + 1) (w.heap.size + 1) (headB c) (headP c) W2 w4 by
    have h := H3.out.trans H4.out
    have e1 : headB c = ((false || badB [fr]) || badB [dg]) := by unfold headB; rw [HFD.out.1, HFD.out.2]; rfl
    have e2 : headP c = [] ++ lineT framesW [fr] ++ [10] ++ lineT dogW [dg] ++ [10] := by unfold headP; rw [HFD.out.1, HFD.out.2]; rfl
    rw [e1, e2]; exact h)
  have hlh := headP_len HN.out.2.2.2.2.2.1
  clear r3 hB3 H3 H4
  have rb := fun k => (HS.out.2.1.cell (p := ⟨w.heap.size, k, none⟩) (Nat.lt_succ_self _)).trans (r0 k)
  clear r0
  go_wp2_with (fail)
  clear rb
  go_loopw [32] (fun ix wr => ∃ i : Nat, i ≤ n2 ∧ ix = .int .i64 i ∧ Hid (PrR (w.heap.size + 1) (w.heap.size + 1) (headB c || (c.mtx.take i).any mtxB) (headP c ++ (c.mtx.take i).flatMap mtxP) W2 wr)) (fun ix _ => n2 - (intOf ix).toNat)
  case atStart => exact ⟨0, Nat.zero_le _, rfl, Lib.hid (by rw [List.take_zero, List.any_nil, List.flatMap_nil, Bool.or_false, List.append_nil]; exact HS.out)⟩
  case round =>
    obtain ⟨i, hi, rfl, H⟩ := hrel
    clear HS
    have hBr : w.heap.size + 1 ≤ wr.heap.size := Nat.le_trans HB.out.1 H.out.2.1.size
    have hEr := HB.out.2.1.below HB.out.2.2.1 H.out.2.1
    by_cases hil : i < n2
    · obtain ⟨⟨y0, y1⟩, hx⟩ : ∃ x, c.mtx[i]? = some x := ⟨c.mtx[i]'(by rw [HN.out.2.2.1]; exact hil), List.getElem?_eq_getElem _⟩
      have hbw := HB.out.2.2.2.1.trans (H.out.2.1.mono (Nat.le_succ _))
      obtain ⟨g, o, rfl, ka⟩ := (HC.out.2.2.2.1.below hbw).at (mCells_at hx (by omega : 0 < 2))
      have k0 := ka _ _ (mCells_at hx (by omega : 0 < 2))
      have k1 := ka _ _ (mCells_at hx (by omega : 1 < 2))
      rw [← Nat.add_assoc] at k1
      rw [Nat.add_zero] at k0
      have hmr := HN.out.2.2.2.2.2.1.m _ (List.mem_of_getElem? hx)
      have hM := Lib.hid (And.intro hx (And.intro hmr hbw))
      have d1 : decide ((i : Int) < (n2 : Int)) = true := by simp; omega
      have i1 : (i : Int) < (n2 : Int) := by omega
      have i2 : (0 : Int) ≤ i := by omega
      dsimp only at k0 k1
      clear hx hmr hbw ka
      go_upto_region 7 with (refine wpList_store_row rfl 87 (.tmp 8) (.tmp 35) rfl wr.heap.size #[.int .i64 y0, .int .i64 y1] rfl rfl 87 #[Value.int .i64 0, .int .i64 0] (Blk.new wr _ _) info_sizes.1 rfl (by simp [Value.oneCell']) ?_)
      clear k0 k1
      have hcb := copy_bel wr #[Value.int .i64 0, .int .i64 0] #[.int .i64 y0, .int .i64 y1] 87
      have hcr := Blk.row (Blk.new wr #[Value.int .i64 0, .int .i64 0] 87) #[.int .i64 y0, .int .i64 y1]
      obtain ⟨wW, hW⟩ : ∃ W', ((wr.alloc (.cells #[Value.int .i64 0, .int .i64 0] 87)).setRow wr.heap.size #[.int .i64 y0, .int .i64 y1]) = W' := ⟨_, rfl⟩
      rw [hW] at hcb hcr ⊢
      clear hW
      have k := hcr.rd
      have hP := H.out.1.below hcb
      have hEw := hEr.bel hcb
      have hsz := Nat.le_trans hBr hcb.size
      have hfl := fm_take (f := mtxP) (i := i) (fun x hx => mtxP_len (HN.out.2.2.2.2.2.1.m x hx)) (Nat.le_of_eq HN.out.2.2.1)
      have hl := pline_new (word := mutexW) [y0, y1] 2 2 #[.int .i64 y0, .int .i64 y1] rfl hEw HB.out.2.2.1 hsz hP rfl (rng2 hM.out.2.1.1 hM.out.2.1.2) (by rw [List.length_append]; simp only [mutexW, List.length_cons, List.length_nil]; omega)
      rw [show B mutexW = ⟨#[109, 117, 116, 101, 120]⟩ from rfl] at hl
      have HQ := Lib.hid (And.intro hcb hl)
      clear hl hcb hcr hP hEw hsz hfl
      have hl := HQ.out.2
      go_wp2_with (go_at_call 22; refine hl.mono ?_; rintro e w5 ⟨rfl, hr5⟩; have H5 := Lib.hid (step_ln (f := mtxP) (g := mtxB) hM.out.1 rfl (H.out.trans (BldR.bel hBr HQ.out.1 hr5))); clear hr5 hl)
      go_roundw
      case rel => exact ⟨i + 1, by omega, by go_num, H5⟩
      case measure => simp [intOf]; omega
    · have d1 : decide ((i : Int) < (n2 : Int)) = false := by simp; omega
      have d2 : decide (i < n2) = false := by simp; omega
      obtain rfl : n2 = i := by omega
      have HS := Lib.hid (show PrR (w.heap.size + 1) (w.heap.size + 1) (headB c || c.mtx.any mtxB) (headP c ++ c.mtx.flatMap mtxP) W2 wr by have h := H.out; rw [← any_all HN.out.2.2.1, ← fm_all HN.out.2.2.1] at h; exact h)
      clear hil hi H
      have hlh2 : (headP c ++ c.mtx.flatMap mtxP).length ≤ 1300000 := by
        have h := fm_len (f := mtxP) (M := 60) c.mtx (fun x hx => mtxP_len (HN.out.2.2.2.2.2.1.m x hx))
        rw [HN.out.2.2.1] at h
        rw [List.length_append]; omega
      replace hlh := hlh2
      clear hlh2
      have rb := fun k => (HS.out.2.1.cell (p := ⟨w.heap.size, k, none⟩) (Nat.lt_succ_self _)).trans (HB.out.2.2.2.2.1.rd k)
      go_wp2_with (fail)
      clear rb
      go_loopw [47] (fun ix wr => ∃ i : Nat, i ≤ n3 ∧ ix = .int .i64 i ∧ Hid (PrR (w.heap.size + 1) (w.heap.size + 1) ((headB c || c.mtx.any mtxB) || (c.gaps.take i).any gapB) ((headP c ++ c.mtx.flatMap mtxP) ++ (c.gaps.take i).flatMap gapP) W2 wr)) (fun ix _ => n3 - (intOf ix).toNat)
      case atStart => exact ⟨0, Nat.zero_le _, rfl, Lib.hid (by rw [List.take_zero, List.any_nil, List.flatMap_nil, Bool.or_false, List.append_nil]; exact HS.out)⟩
      case round =>
        obtain ⟨i, hi, rfl, H⟩ := hrel
        clear HS
        have hBr : w.heap.size + 1 ≤ wr.heap.size := Nat.le_trans HB.out.1 H.out.2.1.size
        have hEr := HB.out.2.1.below HB.out.2.2.1 H.out.2.1
        by_cases hil : i < n3
        · obtain ⟨y0, hx⟩ : ∃ x, c.gaps[i]? = some x := ⟨c.gaps[i]'(by rw [HN.out.2.2.2.1]; exact hil), List.getElem?_eq_getElem _⟩
          have hbw := HB.out.2.2.2.1.trans (H.out.2.1.mono (Nat.le_succ _))
          obtain ⟨g, o, rfl, ka⟩ := (HC.out.2.2.2.2.1.below hbw).at (i := i) (v := .int .i64 y0) (by rw [List.getElem?_map, hx]; rfl)
          have k0 := ka i (.int .i64 y0) (by rw [List.getElem?_map, hx]; rfl)
          have hmr := HN.out.2.2.2.2.2.1.g _ (List.mem_of_getElem? hx)
          have hM := Lib.hid (And.intro hx hmr)
          have d1 : decide ((i : Int) < (n3 : Int)) = true := by simp; omega
          have i1 : (i : Int) < (n3 : Int) := by omega
          have i2 : (0 : Int) ≤ i := by omega
          have hP := H.out.1
          have hfl := fm_take (f := gapP) (i := i) (fun x hx => gapP_len (HN.out.2.2.2.2.2.1.g x hx)) (Nat.le_of_eq HN.out.2.2.2.1)
          have hl := pline_new (word := gapW) [y0] 1 1 #[.int .i64 y0] rfl hEr HB.out.2.2.1 hBr hP rfl (rng1 hM.out.2) (by rw [List.length_append]; simp only [gapW, List.length_cons, List.length_nil]; omega)
          rw [show B gapW = ⟨#[103, 97, 112]⟩ from rfl] at hl
          clear hx hmr hbw ka hP hfl
          go_wp2_with (go_at_call 22; refine hl.mono ?_; rintro e w5 ⟨rfl, hr5⟩; have H5 := Lib.hid (step_ln (f := gapP) (g := gapB) hM.out.1 rfl (H.out.trans hr5)); clear hr5 hl)
          go_roundw
          case rel => exact ⟨i + 1, by omega, by go_num, H5⟩
          case measure => simp [intOf]; omega
        · have d1 : decide ((i : Int) < (n3 : Int)) = false := by simp; omega
          have d2 : decide (i < n3) = false := by simp; omega
          obtain rfl : n3 = i := by omega
          have HS := Lib.hid (show PrR (w.heap.size + 1) (w.heap.size + 1) ((headB c || c.mtx.any mtxB) || c.gaps.any gapB) ((headP c ++ c.mtx.flatMap mtxP) ++ c.gaps.flatMap gapP) W2 wr by have h := H.out; rw [← any_all HN.out.2.2.2.1, ← fm_all HN.out.2.2.2.1] at h; exact h)
          clear hil hi H
          have hlh2 : ((headP c ++ c.mtx.flatMap mtxP) ++ c.gaps.flatMap gapP).length ≤ 2600000 := by
            have h := fm_len (f := gapP) (M := 60) c.gaps (fun x hx => gapP_len (HN.out.2.2.2.2.2.1.g x hx))
            rw [HN.out.2.2.2.1] at h
            rw [List.length_append]; omega
          replace hlh := hlh2
          clear hlh2
          have rb := fun k => (HS.out.2.1.cell (p := ⟨w.heap.size, k, none⟩) (Nat.lt_succ_self _)).trans (HB.out.2.2.2.2.1.rd k)
          go_wp2_with (fail)
          clear rb
          go_loopw [59] (fun ix wr => ∃ i : Nat, i ≤ n0 ∧ ix = .int .i64 i ∧ Hid (PrR (w.heap.size + 1) (w.heap.size + 1) (((headB c || c.mtx.any mtxB) || c.gaps.any gapB) || (c.tasks.take i).any taskB) (((headP c ++ c.mtx.flatMap mtxP) ++ c.gaps.flatMap gapP) ++ (c.tasks.take i).flatMap taskP) W2 wr)) (fun ix _ => n0 - (intOf ix).toNat)
          case atStart => exact ⟨0, Nat.zero_le _, rfl, Lib.hid (by rw [List.take_zero, List.any_nil, List.flatMap_nil, Bool.or_false, List.append_nil]; exact HS.out)⟩
          case round =>
            obtain ⟨i, hi, rfl, H⟩ := hrel
            clear HS
            have hBr : w.heap.size + 1 ≤ wr.heap.size := Nat.le_trans HB.out.1 H.out.2.1.size
            have hEr := HB.out.2.1.below HB.out.2.2.1 H.out.2.1
            by_cases hil : i < n0
            · have hil2 : i < c.tasks.length := by rw [HN.out.1]; exact hil
              have hx := List.getElem?_eq_getElem hil2
              have hq1 := List.getElem?_eq_getElem (show i < tq.length by rw [HC.out.1.lt]; exact hil2)
              generalize c.tasks[i] = x at hx
              generalize tq[i]'_ = q1 at hq1
              have hbw := HB.out.2.2.2.1.trans (H.out.2.1.mono (Nat.le_succ _))
              obtain ⟨ua, uc, hu1, hu2, hu3⟩ := HC.out.1.us i x q1 hx hq1
              obtain ⟨pa, pc, hp1, hp2, hp3⟩ := HC.out.1.pt i x q1 hx hq1
              obtain ⟨g, o, rfl, ka⟩ := (HC.out.2.1.below hbw).at (tCells_at hx hq1 (by omega : 0 < 8))
              have p0 := ka _ _ (tCells_at hx hq1 (by omega : 0 < 8))
              have p1 := ka _ _ (tCells_at hx hq1 (by omega : 1 < 8))
              have p2 := ka _ _ (tCells_at hx hq1 (by omega : 2 < 8))
              have p3 := ka _ _ (tCells_at hx hq1 (by omega : 3 < 8))
              have p4 := ka _ _ (tCells_at hx hq1 (by omega : 4 < 8))
              have p5 := ka _ _ (tCells_at hx hq1 (by omega : 5 < 8))
              have p6 := ka _ _ (tCells_at hx hq1 (by omega : 6 < 8))
              have p7 := ka _ _ (tCells_at hx hq1 (by omega : 7 < 8))
              rw [← Nat.add_assoc] at p1 p2 p3 p4 p5 p6 p7
              rw [Nat.add_zero] at p0
              obtain ⟨nu, hnu⟩ : ∃ nu, x.uses.length = nu := ⟨_, rfl⟩
              obtain ⟨np, hnp⟩ : ∃ np, x.prog.length = np := ⟨_, rfl⟩
              rw [hu1, hnu] at p6
              rw [hp1, hnp] at p7
              have hmr := HN.out.2.2.2.2.2.1.t _ (List.mem_of_getElem? hx)
              have hpn := HN.out.2.2.2.2.2.2.2.u _ (List.mem_of_getElem? hx)
              rw [hnu, hnp] at hpn
              have hpn1 := hpn.1
              have hpn2 := hpn.2
              have hM := Lib.hid (And.intro hx (And.intro hmr (And.intro hu2 (And.intro hp2 (And.intro hnu (And.intro hnp (And.intro trivial hbw)))))))
              have d1 : decide ((i : Int) < (n0 : Int)) = true := by simp; omega
              have i1 : (i : Int) < (n0 : Int) := by omega
              have i2 : (0 : Int) ≤ i := by omega
              clear hx hq1 hmr hbw ka hp1 hp2 hp3 hu1 hu2 hu3 hil2 hnp hnu hpn
              go_upto_region 17 with (refine wpList_store_row rfl 89 (.tmp 12) (.tmp 62) rfl wr.heap.size #[.int .i64 x.cl, .int .i64 x.lv, .int .i64 x.pe, .int .i64 x.de, .int .i64 x.bu, .int .i64 x.li, .slice ua nu uc, .slice pa np pc] rfl rfl 89 #[Value.int .i64 0, .int .i64 0, .int .i64 0, .int .i64 0, .int .i64 0, .int .i64 0, .slice none 0 0, .slice none 0 0] (Blk.new wr _ _) info_sizes.2.1 rfl (by simp [Value.oneCell']) ?_)
              clear p0 p1 p2 p3 p4 p5 p6 p7
              have hcb := copy_bel wr #[Value.int .i64 0, .int .i64 0, .int .i64 0, .int .i64 0, .int .i64 0, .int .i64 0, .slice none 0 0, .slice none 0 0] #[.int .i64 x.cl, .int .i64 x.lv, .int .i64 x.pe, .int .i64 x.de, .int .i64 x.bu, .int .i64 x.li, .slice ua nu uc, .slice pa np pc] 89
              have hcr := Blk.row (Blk.new wr #[Value.int .i64 0, .int .i64 0, .int .i64 0, .int .i64 0, .int .i64 0, .int .i64 0, .slice none 0 0, .slice none 0 0] 89) #[.int .i64 x.cl, .int .i64 x.lv, .int .i64 x.pe, .int .i64 x.de, .int .i64 x.bu, .int .i64 x.li, .slice ua nu uc, .slice pa np pc]
              obtain ⟨wW, hW⟩ : ∃ W', ((wr.alloc (.cells #[Value.int .i64 0, .int .i64 0, .int .i64 0, .int .i64 0, .int .i64 0, .int .i64 0, .slice none 0 0, .slice none 0 0] 89)).setRow wr.heap.size #[.int .i64 x.cl, .int .i64 x.lv, .int .i64 x.pe, .int .i64 x.de, .int .i64 x.bu, .int .i64 x.li, .slice ua nu uc, .slice pa np pc]) = W' := ⟨_, rfl⟩
              rw [hW] at hcb hcr ⊢
              clear hW
              have hP := BldV.drew (H.out.1.below hcb)
              have hcb2 : Below wr.heap.size wr wW.drew := hcb.trans ((((Upd.refl (fun _ => False) wW).drewN 1).below (Nat.le_refl _) (fun _ h => h.elim)).mono hcb.size)
              have hcd : Blk wW.drew wr.heap.size #[.int .i64 x.cl, .int .i64 x.lv, .int .i64 x.pe, .int .i64 x.de, .int .i64 x.bu, .int .i64 x.li, .slice ua nu uc, .slice pa np pc] 89 := hcr
              have hEw := hEr.bel hcb2
              have hnw := nextW x.li (BldR.refl hP)
              have hnx := pnext_ex x.li hP
              obtain ⟨W1, hW1⟩ : ∃ W', (if nextB x.li = true then wW.drew.setCell ⟨w.heap.size + 1, 2, none⟩ (.bool true) else wW.drew) = W' := ⟨_, rfl⟩
              rw [hW1] at hnw hnx
              clear hW1
              have hbr := H.out.1.lt
              have hcA : Blk W1 wr.heap.size #[.int .i64 x.cl, .int .i64 x.lv, .int .i64 x.pe, .int .i64 x.de, .int .i64 x.bu, .int .i64 x.li, .slice ua nu uc, .slice pa np pc] 89 := Blk.others hnw.2.2 hcd (by omega) (by decide)
              have hEA := hEw.below HB.out.2.2.1 hnw.2.1
              have hsz := Nat.le_trans (Nat.le_trans hBr hcb2.size) hnw.2.1.size
              have hb1 : w.heap.size + 1 < W1.heap.size := hnw.1.lt
              have hal := (Below.refl W1.heap.size W1).alloc (Nat.le_refl _) (.cells #[.int .i64 x.cl, .int .i64 x.lv, .int .i64 x.pe, .int .i64 x.de, .int .i64 x.bu, .int .i64 (nextV x.li)] 3)
              have hI : Rw (W1.alloc (.cells #[.int .i64 x.cl, .int .i64 x.lv, .int .i64 x.pe, .int .i64 x.de, .int .i64 x.bu, .int .i64 (nextV x.li)] 3)) 3 1 (.slice (some ⟨W1.heap.size, 0, none⟩) 6 6) 6 (icells [x.cl, x.lv, x.pe, x.de, x.bu, nextV x.li]) (some W1.heap.size) := ⟨rfl, .inr ⟨_, 6, [], rfl, rfl, Blk.new W1 _ _, rfl, by omega, by decide⟩⟩
              obtain ⟨v', WC, hrun, hA⟩ := app_uses (uc := uc) hI rfl (hM.out.2.2.1.below (hM.out.2.2.2.2.2.2.2.trans ((hcb2.mono (by omega)).trans ((hnw.2.1.mono (by omega)).trans (hal.mono (by omega)))))) nu hM.out.2.2.2.2.1 (by omega)
              obtain ⟨a3, c3, rfl⟩ := hA.slice
              rw [show icells [x.cl, x.lv, x.pe, x.de, x.bu, nextV x.li] ++ icells x.uses = icells (taskNsP x) by unfold taskNsP; simp [icells]] at hA
              have hbC : Below W1.heap.size W1 WC := hal.trans (by
                obtain ⟨_, _, hu, _⟩ := hA
                exact hu.below (by simp) (fun k hk => by simp at hk; omega))
              have hnl : (taskNsP x).length = 6 + nu := by unfold taskNsP; rw [List.length_append, hM.out.2.2.2.2.1]; rfl
              have hfl := fm_take (f := taskP) (i := i) (fun x hx => taskP_len (HN.out.2.2.2.2.2.1.t x hx) (HN.out.2.2.2.2.2.2.2.u x hx)) (Nat.le_of_eq HN.out.1)
              have hl := pline_is (word := taskW) (6 + nu) c3 (hEA.bel hbC) HB.out.2.2.1 (Nat.le_trans hsz hbC.size) (hnw.1.below hbC) (rds_app hA hb1 (Nat.lt_of_lt_of_le hb1 hal.size)) hnl (rng_tk hM.out.2.1) (by rw [List.length_append]; simp only [taskW, List.length_cons, List.length_nil]; omega)
              rw [show B taskW = ⟨#[116, 97, 115, 107]⟩ from rfl] at hl
              have hcC := Blk.below hbC hcA hcA.lt
              have HQ := Lib.hid (And.intro hcb2 (And.intro hl (And.intro hcd (And.intro hcA (And.intro hnw (And.intro hnx (And.intro hcC (And.intro hrun (And.intro hbC (And.intro hEA (And.intro hsz (And.intro hfl hnl))))))))))))
              clear hl hcb hcr hP hEw hsz hfl hcd hcA hnw hnx hEA hcb2 hI hA hal hcC hrun hbC hnl
              refine region_Ch 14 15 18 19 wW.drew W1 (W1.alloc (.cells #[.int .i64 x.cl, .int .i64 x.lv, .int .i64 x.pe, .int .i64 x.de, .int .i64 x.bu, .int .i64 (nextV x.li)] 3)) WC (PrR (w.heap.size + 1) (w.heap.size + 1) (((((headB c || c.mtx.any mtxB) || c.gaps.any gapB) || (c.tasks.take i).any taskB) || nextB x.li) || badB (taskNsP x)) ((((headP c ++ c.mtx.flatMap mtxP) ++ c.gaps.flatMap gapP) ++ (c.tasks.take i).flatMap taskP) ++ lineT taskW (taskNsP x) ++ [10]) WC) rfl (by kernel_rfl) (by kernel_rfl) ?_
              apply wpJ_op rfl (by rfl)
              · intro f w1 hf hJ Q1 hQ
                simp only [Act.put, List.setIfInBounds_toArray, List.set_cons_zero, List.set_cons_succ] at hQ
                go_wp2_with (fail)
                exact hQ _ _ rfl (hJ.other rfl hf (by decide) (by decide) (by decide) (by decide))
              simp only [Act.put, List.setIfInBounds_toArray, List.set_cons_zero, List.set_cons_succ]
              apply wpJ_op rfl (by rfl)
              · intro f w1 hf hJ Q1 hQ
                simp only [Act.put, List.setIfInBounds_toArray, List.set_cons_zero, List.set_cons_succ] at hQ
                go_wp2_with (fail)
                exact hQ _ _ rfl (hJ.other rfl hf (by decide) (by decide) (by decide) (by decide))
              simp only [Act.put, List.setIfInBounds_toArray, List.set_cons_zero, List.set_cons_succ]
              apply wpJ_op rfl (by rfl)
              · intro f w1 hf hJ Q1 hQ
                have hL : f 19 = false := path_no hJ.1 [18, 15, 2] (by kernel_rfl) (by decide) hf.1
                have hF := hJ.pre (F := fun u => Blk u wr.heap.size #[.int .i64 x.cl, .int .i64 x.lv, .int .i64 x.pe, .int .i64 x.de, .int .i64 x.bu, .int .i64 x.li, .slice ua nu uc, .slice pa np pc] 89) hL HQ.out.2.2.1 HQ.out.2.2.2.1 (HQ.out.2.2.2.1.alloc _) HQ.out.2.2.2.2.2.2.1
                have k0 := hF.rd 0
                simp only [Act.put, List.setIfInBounds_toArray, List.set_cons_zero, List.set_cons_succ] at hQ
                go_wp2_with (fail)
                exact hQ _ _ rfl (hJ.other rfl hf (by decide) (by decide) (by decide) (by decide))
              simp only [Act.put, List.setIfInBounds_toArray, List.set_cons_zero, List.set_cons_succ]
              apply wpJ_op rfl (by rfl)
              · intro f w1 hf hJ Q1 hQ
                simp only [Act.put, List.setIfInBounds_toArray, List.set_cons_zero, List.set_cons_succ] at hQ
                go_wp2_with (fail)
                exact hQ _ _ rfl (hJ.other rfl hf (by decide) (by decide) (by decide) (by decide))
              simp only [Act.put, List.setIfInBounds_toArray, List.set_cons_zero, List.set_cons_succ]
              apply wpJ_op rfl (by rfl)
              · intro f w1 hf hJ Q1 hQ
                have hL : f 19 = false := path_no hJ.1 [18, 15, 4] (by kernel_rfl) (by decide) hf.1
                have hF := hJ.pre (F := fun u => Blk u wr.heap.size #[.int .i64 x.cl, .int .i64 x.lv, .int .i64 x.pe, .int .i64 x.de, .int .i64 x.bu, .int .i64 x.li, .slice ua nu uc, .slice pa np pc] 89) hL HQ.out.2.2.1 HQ.out.2.2.2.1 (HQ.out.2.2.2.1.alloc _) HQ.out.2.2.2.2.2.2.1
                have k1 := hF.rd 1
                simp only [Act.put, List.setIfInBounds_toArray, List.set_cons_zero, List.set_cons_succ] at hQ
                go_wp2_with (fail)
                exact hQ _ _ rfl (hJ.other rfl hf (by decide) (by decide) (by decide) (by decide))
              simp only [Act.put, List.setIfInBounds_toArray, List.set_cons_zero, List.set_cons_succ]
              apply wpJ_op rfl (by rfl)
              · intro f w1 hf hJ Q1 hQ
                simp only [Act.put, List.setIfInBounds_toArray, List.set_cons_zero, List.set_cons_succ] at hQ
                go_wp2_with (fail)
                exact hQ _ _ rfl (hJ.other rfl hf (by decide) (by decide) (by decide) (by decide))
              simp only [Act.put, List.setIfInBounds_toArray, List.set_cons_zero, List.set_cons_succ]
              apply wpJ_op rfl (by rfl)
              · intro f w1 hf hJ Q1 hQ
                have hL : f 19 = false := path_no hJ.1 [18, 15, 6] (by kernel_rfl) (by decide) hf.1
                have hF := hJ.pre (F := fun u => Blk u wr.heap.size #[.int .i64 x.cl, .int .i64 x.lv, .int .i64 x.pe, .int .i64 x.de, .int .i64 x.bu, .int .i64 x.li, .slice ua nu uc, .slice pa np pc] 89) hL HQ.out.2.2.1 HQ.out.2.2.2.1 (HQ.out.2.2.2.1.alloc _) HQ.out.2.2.2.2.2.2.1
                have k2 := hF.rd 2
                simp only [Act.put, List.setIfInBounds_toArray, List.set_cons_zero, List.set_cons_succ] at hQ
                go_wp2_with (fail)
                exact hQ _ _ rfl (hJ.other rfl hf (by decide) (by decide) (by decide) (by decide))
              simp only [Act.put, List.setIfInBounds_toArray, List.set_cons_zero, List.set_cons_succ]
              apply wpJ_op rfl (by rfl)
              · intro f w1 hf hJ Q1 hQ
                simp only [Act.put, List.setIfInBounds_toArray, List.set_cons_zero, List.set_cons_succ] at hQ
                go_wp2_with (fail)
                exact hQ _ _ rfl (hJ.other rfl hf (by decide) (by decide) (by decide) (by decide))
              simp only [Act.put, List.setIfInBounds_toArray, List.set_cons_zero, List.set_cons_succ]
              apply wpJ_op rfl (by rfl)
              · intro f w1 hf hJ Q1 hQ
                have hL : f 19 = false := path_no hJ.1 [18, 15, 8] (by kernel_rfl) (by decide) hf.1
                have hF := hJ.pre (F := fun u => Blk u wr.heap.size #[.int .i64 x.cl, .int .i64 x.lv, .int .i64 x.pe, .int .i64 x.de, .int .i64 x.bu, .int .i64 x.li, .slice ua nu uc, .slice pa np pc] 89) hL HQ.out.2.2.1 HQ.out.2.2.2.1 (HQ.out.2.2.2.1.alloc _) HQ.out.2.2.2.2.2.2.1
                have k3 := hF.rd 3
                simp only [Act.put, List.setIfInBounds_toArray, List.set_cons_zero, List.set_cons_succ] at hQ
                go_wp2_with (fail)
                exact hQ _ _ rfl (hJ.other rfl hf (by decide) (by decide) (by decide) (by decide))
              simp only [Act.put, List.setIfInBounds_toArray, List.set_cons_zero, List.set_cons_succ]
              apply wpJ_op rfl (by rfl)
              · intro f w1 hf hJ Q1 hQ
                simp only [Act.put, List.setIfInBounds_toArray, List.set_cons_zero, List.set_cons_succ] at hQ
                go_wp2_with (fail)
                exact hQ _ _ rfl (hJ.other rfl hf (by decide) (by decide) (by decide) (by decide))
              simp only [Act.put, List.setIfInBounds_toArray, List.set_cons_zero, List.set_cons_succ]
              apply wpJ_op rfl (by rfl)
              · intro f w1 hf hJ Q1 hQ
                have hL : f 19 = false := path_no hJ.1 [18, 15, 10] (by kernel_rfl) (by decide) hf.1
                have hF := hJ.pre (F := fun u => Blk u wr.heap.size #[.int .i64 x.cl, .int .i64 x.lv, .int .i64 x.pe, .int .i64 x.de, .int .i64 x.bu, .int .i64 x.li, .slice ua nu uc, .slice pa np pc] 89) hL HQ.out.2.2.1 HQ.out.2.2.2.1 (HQ.out.2.2.2.1.alloc _) HQ.out.2.2.2.2.2.2.1
                have k4 := hF.rd 4
                simp only [Act.put, List.setIfInBounds_toArray, List.set_cons_zero, List.set_cons_succ] at hQ
                go_wp2_with (fail)
                exact hQ _ _ rfl (hJ.other rfl hf (by decide) (by decide) (by decide) (by decide))
              simp only [Act.put, List.setIfInBounds_toArray, List.set_cons_zero, List.set_cons_succ]
              apply wpJ_op rfl (by rfl)
              · intro f w1 hf hJ Q1 hQ
                simp only [Act.put, List.setIfInBounds_toArray, List.set_cons_zero, List.set_cons_succ] at hQ
                go_wp2_with (fail)
                exact hQ _ _ rfl (hJ.other rfl hf (by decide) (by decide) (by decide) (by decide))
              simp only [Act.put, List.setIfInBounds_toArray, List.set_cons_zero, List.set_cons_succ]
              apply wpJ_op rfl (by rfl)
              · intro f w1 hf hJ Q1 hQ
                simp only [Act.put, List.setIfInBounds_toArray, List.set_cons_zero, List.set_cons_succ] at hQ
                go_wp2_with (fail)
                exact hQ _ _ rfl (hJ.other rfl hf (by decide) (by decide) (by decide) (by decide))
              simp only [Act.put, List.setIfInBounds_toArray, List.set_cons_zero, List.set_cons_succ]
              apply wpJ_op rfl (by rfl)
              · intro f w1 hf hJ Q1 hQ
                have hL : f 19 = false := path_no hJ.1 [18, 15, 14, 13] (by kernel_rfl) (by decide) hf.1
                have hF := hJ.pre (F := fun u => Blk u wr.heap.size #[.int .i64 x.cl, .int .i64 x.lv, .int .i64 x.pe, .int .i64 x.de, .int .i64 x.bu, .int .i64 x.li, .slice ua nu uc, .slice pa np pc] 89) hL HQ.out.2.2.1 HQ.out.2.2.2.1 (HQ.out.2.2.2.1.alloc _) HQ.out.2.2.2.2.2.2.1
                have k5 := hF.rd 5
                simp only [Act.put, List.setIfInBounds_toArray, List.set_cons_zero, List.set_cons_succ] at hQ
                go_wp2_with (fail)
                exact hQ _ _ rfl (hJ.other rfl hf (by decide) (by decide) (by decide) (by decide))
              simp only [Act.put, List.setIfInBounds_toArray, List.set_cons_zero, List.set_cons_succ]
              apply wpJ_op rfl (by rfl)
              · intro f w1 hf hJ Q1 hQ
                have hA : f 15 = false := path_no hJ.1 [14] (by kernel_rfl) (by decide) hf.1
                have hC : f 18 = false := path_no hJ.1 [15] (by kernel_rfl) (by decide) hA
                have hL : f 19 = false := path_no hJ.1 [18] (by kernel_rfl) (by decide) hC
                rw [hJ.atN hf.1 hA hC hL]
                simp only [Act.put, List.setIfInBounds_toArray, List.set_cons_zero, List.set_cons_succ] at hQ
                go_wp2_with (have hnx := HQ.out.2.2.2.2.2.1; go_at_call 36; refine hnx.mono ?_; rintro e w8 ⟨rfl, rfl⟩)
                exact hQ _ _ rfl (hJ.goN rfl hf hA hC hL (by decide) (by decide) (by decide))
              simp only [Act.put, List.setIfInBounds_toArray, List.set_cons_zero, List.set_cons_succ]
              apply wpJ_op rfl (by rfl)
              · intro f w1 hf hJ Q1 hQ
                have hC : f 18 = false := path_no hJ.1 [15] (by kernel_rfl) (by decide) hf.1
                have hL : f 19 = false := path_no hJ.1 [18] (by kernel_rfl) (by decide) hC
                have hN : f 14 = true := up_dep hf 14 (by kernel_rfl)
                rw [hJ.atA hN hf.1 hC hL]
                simp only [Act.put, List.setIfInBounds_toArray, List.set_cons_zero, List.set_cons_succ] at hQ
                go_wp2_with (fail)
                exact hQ _ _ rfl (hJ.goA rfl hf hC hL (by decide) (by decide))
              simp only [Act.put, List.setIfInBounds_toArray, List.set_cons_zero, List.set_cons_succ]
              apply wpJ_op rfl (by rfl)
              · intro f w1 hf hJ Q1 hQ
                simp only [Act.put, List.setIfInBounds_toArray, List.set_cons_zero, List.set_cons_succ] at hQ
                go_wp2_with (fail)
                exact hQ _ _ rfl (hJ.other rfl hf (by decide) (by decide) (by decide) (by decide))
              simp only [Act.put, List.setIfInBounds_toArray, List.set_cons_zero, List.set_cons_succ]
              apply wpJ_op rfl (by rfl)
              · intro f w1 hf hJ Q1 hQ
                have hL : f 19 = false := path_no hJ.1 [18, 17] (by kernel_rfl) (by decide) hf.1
                have hF := hJ.pre (F := fun u => Blk u wr.heap.size #[.int .i64 x.cl, .int .i64 x.lv, .int .i64 x.pe, .int .i64 x.de, .int .i64 x.bu, .int .i64 x.li, .slice ua nu uc, .slice pa np pc] 89) hL HQ.out.2.2.1 HQ.out.2.2.2.1 (HQ.out.2.2.2.1.alloc _) HQ.out.2.2.2.2.2.2.1
                have k6 := hF.rd 6
                simp only [Act.put, List.setIfInBounds_toArray, List.set_cons_zero, List.set_cons_succ] at hQ
                go_wp2_with (fail)
                exact hQ _ _ rfl (hJ.other rfl hf (by decide) (by decide) (by decide) (by decide))
              simp only [Act.put, List.setIfInBounds_toArray, List.set_cons_zero, List.set_cons_succ]
              apply wpJ_op rfl (by rfl)
              · intro f w1 hf hJ Q1 hQ
                have hL : f 19 = false := path_no hJ.1 [18] (by kernel_rfl) (by decide) hf.1
                have hA : f 15 = true := up_dep hf 15 (by kernel_rfl)
                rw [hJ.atC hA hf.1 hL]
                simp only [Act.put, List.setIfInBounds_toArray, List.set_cons_zero, List.set_cons_succ] at hQ
                go_wp2_with (have hrun := HQ.out.2.2.2.2.2.2.2.1; at_builtin; refine wp_appX rfl _ _ 39 rfl rfl rfl hrun ?_)
                exact hQ _ _ rfl (hJ.goC rfl hf hL (by decide))
              simp only [Act.put, List.setIfInBounds_toArray, List.set_cons_zero, List.set_cons_succ]
              apply wpJ_op rfl (by rfl)
              · intro f w1 hf hJ Q1 hQ
                have hC : f 18 = true := up_dep hf 18 (by kernel_rfl)
                rw [hJ.atL hC hf.1]
                simp only [Act.put, List.setIfInBounds_toArray, List.set_cons_zero, List.set_cons_succ] at hQ
                go_wp2_with (have hl := HQ.out.2.1; go_at_call 22; refine hl.mono ?_; rintro e w8 ⟨rfl, hq⟩)
                exact hQ _ _ rfl (hJ.goL rfl hf hq)
              simp only [Act.put, List.setIfInBounds_toArray, List.set_cons_zero, List.set_cons_succ]
              refine wpJ_nil ?_
              intro w9 hJ9
              have hq9 := hJ9.fin rfl
              clear hJ9
              have H5 := Lib.hid hq9
              clear hq9
              have k := (Blk.others H5.out.2.2 HQ.out.2.2.2.2.2.2.1 (by omega) (by decide)).rd
              have hs := psteps_is np pc ((HQ.out.2.2.2.2.2.2.2.2.2.1.bel HQ.out.2.2.2.2.2.2.2.2.1).below HB.out.2.2.1 H5.out.2.1) HB.out.2.2.1 (Nat.le_trans (Nat.le_trans HQ.out.2.2.2.2.2.2.2.2.2.2.1 HQ.out.2.2.2.2.2.2.2.2.1.size) H5.out.2.1.size) H5.out.1 (hM.out.2.2.2.1.rdb (Nat.le_succ _) (HB.out.2.2.2.1.trans ((H.out.2.1.trans ((HQ.out.1.mono hBr).trans (HQ.out.2.2.2.2.1.2.1.trans ((HQ.out.2.2.2.2.2.2.2.2.1.mono (by omega)).trans H5.out.2.1)))).mono (Nat.le_succ _)))) hM.out.2.2.2.2.2.1 (by omega) (by
                have h := lineT_len (word := taskW) (rng_tk hM.out.2.1)
                have h2 := HQ.out.2.2.2.2.2.2.2.2.2.2.2.1
                rw [HQ.out.2.2.2.2.2.2.2.2.2.2.2.2] at h
                rw [List.length_append, List.length_append, List.length_append]
                simp only [taskW, List.length_cons, List.length_nil] at h ⊢
                omega)
              go_wp2_with (go_at_call 37; refine hs.mono ?_; rintro e w6 ⟨rfl, hr6⟩; have H6 := Lib.hid (step_tk (f := taskP) (g := taskB) hM.out.1 rfl rfl ((H.out.trans (BldR.bel hBr HQ.out.1 (HQ.out.2.2.2.2.1.trans (BldR.bel HQ.out.2.2.2.2.2.2.2.2.2.2.1 HQ.out.2.2.2.2.2.2.2.2.1 H5.out)))).trans hr6)); clear hr6 hs)
              go_roundw
              case rel => exact ⟨i + 1, by omega, by go_num, H6⟩
              case measure => simp [intOf]; omega
            · have d1 : decide ((i : Int) < (n0 : Int)) = false := by simp; omega
              have d2 : decide (i < n0) = false := by simp; omega
              obtain rfl : n0 = i := by omega
              have HS := Lib.hid (show PrR (w.heap.size + 1) (w.heap.size + 1) (((headB c || c.mtx.any mtxB) || c.gaps.any gapB) || c.tasks.any taskB) (((headP c ++ c.mtx.flatMap mtxP) ++ c.gaps.flatMap gapP) ++ c.tasks.flatMap taskP) W2 wr by have h := H.out; rw [← any_all HN.out.1, ← fm_all HN.out.1] at h; exact h)
              clear hil hi H
              have hlh2 : (((headP c ++ c.mtx.flatMap mtxP) ++ c.gaps.flatMap gapP) ++ c.tasks.flatMap taskP).length ≤ 820010000000 := by
                have h := fm_len (f := taskP) (M := 41000000) c.tasks (fun x hx => taskP_len (HN.out.2.2.2.2.2.1.t x hx) (HN.out.2.2.2.2.2.2.2.u x hx))
                rw [HN.out.1] at h
                rw [List.length_append]; omega
              replace hlh := hlh2
              clear hlh2
              have rb := fun k => (HS.out.2.1.cell (p := ⟨w.heap.size, k, none⟩) (Nat.lt_succ_self _)).trans (HB.out.2.2.2.2.1.rd k)
              go_wp2_with (fail)
              clear rb
              go_loopw [91] (fun ix wr => ∃ i : Nat, i ≤ n1 ∧ ix = .int .i64 i ∧ Hid (PrR (w.heap.size + 1) (w.heap.size + 1) ((((headB c || c.mtx.any mtxB) || c.gaps.any gapB) || c.tasks.any taskB) || (c.best.take i).any effB) ((((headP c ++ c.mtx.flatMap mtxP) ++ c.gaps.flatMap gapP) ++ c.tasks.flatMap taskP) ++ (c.best.take i).flatMap effP) W2 wr)) (fun ix _ => n1 - (intOf ix).toNat)
              case atStart => exact ⟨0, Nat.zero_le _, rfl, Lib.hid (by rw [List.take_zero, List.any_nil, List.flatMap_nil, Bool.or_false, List.append_nil]; exact HS.out)⟩
              case round =>
                obtain ⟨i, hi, rfl, H⟩ := hrel
                clear HS
                have hBr : w.heap.size + 1 ≤ wr.heap.size := Nat.le_trans HB.out.1 H.out.2.1.size
                have hEr := HB.out.2.1.below HB.out.2.2.1 H.out.2.1
                by_cases hil : i < n1
                · have hil2 : i < c.best.length := by rw [HN.out.2.1]; exact hil
                  have hx := List.getElem?_eq_getElem hil2
                  have hq1 := List.getElem?_eq_getElem (show i < eq.length by rw [HC.out.1.le]; exact hil2)
                  generalize c.best[i] = x at hx
                  generalize eq[i]'_ = q1 at hq1
                  have hbw := HB.out.2.2.2.1.trans (H.out.2.1.mono (Nat.le_succ _))
                  obtain ⟨pa, pc, hp1, hp2, hp3⟩ := HC.out.1.pe i x q1 hx hq1
                  obtain ⟨g, o, rfl, ka⟩ := (HC.out.2.2.1.below hbw).at (eCells_at hx hq1 (by omega : 0 < 2))
                  have k0 := ka _ _ (eCells_at hx hq1 (by omega : 0 < 2))
                  have k1 := ka _ _ (eCells_at hx hq1 (by omega : 1 < 2))
                  rw [← Nat.add_assoc] at k1
                  rw [Nat.add_zero] at k0
                  have hmr := HN.out.2.2.2.2.2.1.b _ (List.mem_of_getElem? hx)
                  have hpn := HN.out.2.2.2.2.2.2.2.p _ (List.mem_of_getElem? hx)
                  obtain ⟨np, hnp⟩ : ∃ np, x.prog.length = np := ⟨_, rfl⟩
                  replace k1 : wr.cell? ⟨g, o + i * 2 + 1, none⟩ = some (.slice pa np pc) := by rw [k1, ← hnp, ← hp1]
                  obtain ⟨y0, hy0⟩ : ∃ y, x.lv = y := ⟨_, rfl⟩
                  replace k0 : wr.cell? ⟨g, o + i * 2, none⟩ = some (.int .i64 y0) := by rw [k0, ← hy0]
                  rw [hnp] at hpn
                  rw [hy0] at hmr
                  have hM := Lib.hid (And.intro hx (And.intro hmr (And.intro hp2 (And.intro hnp hy0))))
                  have d1 : decide ((i : Int) < (n1 : Int)) = true := by simp; omega
                  have i1 : (i : Int) < (n1 : Int) := by omega
                  have i2 : (0 : Int) ≤ i := by omega
                  clear hx hq1 hmr hbw ka hp1 hp2 hp3 hil2 hnp hy0
                  go_upto_region 23 with (refine wpList_store_row rfl 92 (.tmp 14) (.tmp 94) rfl wr.heap.size #[.int .i64 y0, .slice pa np pc] rfl rfl 92 #[Value.int .i64 0, .slice none 0 0] (Blk.new wr _ _) info_sizes.2.2.1 rfl (by simp [Value.oneCell']) ?_)
                  clear k0 k1
                  have hcb := copy_bel wr #[Value.int .i64 0, .slice none 0 0] #[.int .i64 y0, .slice pa np pc] 92
                  have hcr := Blk.row (Blk.new wr #[Value.int .i64 0, .slice none 0 0] 92) #[.int .i64 y0, .slice pa np pc]
                  obtain ⟨wW, hW⟩ : ∃ W', ((wr.alloc (.cells #[Value.int .i64 0, .slice none 0 0] 92)).setRow wr.heap.size #[.int .i64 y0, .slice pa np pc]) = W' := ⟨_, rfl⟩
                  rw [hW] at hcb hcr ⊢
                  clear hW
                  have hlt := hcr.lt
                  have k := hcr.rd
                  have hP := H.out.1.below hcb
                  have hEw := hEr.bel hcb
                  have hsz := Nat.le_trans hBr hcb.size
                  have hfl := fm_take (f := effP) (i := i) (fun x hx => effP_len (HN.out.2.2.2.2.2.1.b x hx) (HN.out.2.2.2.2.2.2.2.p x hx)) (Nat.le_of_eq HN.out.2.1)
                  have hl := pline_new (word := bestW) [y0] 1 1 #[.int .i64 y0] rfl hEw HB.out.2.2.1 hsz hP rfl (rng1 hM.out.2.1) (by rw [List.length_append]; simp only [bestW, List.length_cons, List.length_nil]; omega)
                  rw [show B bestW = ⟨#[98, 101, 115, 116]⟩ from rfl] at hl
                  have HQ := Lib.hid (And.intro hcb (And.intro hl (And.intro hcr (And.intro hEw (And.intro hsz hfl)))))
                  clear hl hcb hcr hP hEw hsz hfl
                  have hl := HQ.out.2.1
                  go_upto_region 24 with (go_at_call 22; refine hl.mono ?_; rintro e w5 ⟨rfl, hr5⟩; have H5 := Lib.hid hr5; clear hr5 hl)
                  clear k
                  have k := (Blk.others H5.out.2.2 HQ.out.2.2.1 (by have := H.out.1.lt; omega) (by decide)).rd
                  have hs := psteps_is np pc (HQ.out.2.2.2.1.below HB.out.2.2.1 H5.out.2.1) HB.out.2.2.1 (Nat.le_trans HQ.out.2.2.2.2.1 H5.out.2.1.size) H5.out.1 (hM.out.2.2.1.rdb (Nat.le_succ _) (HB.out.2.2.2.1.trans ((H.out.2.1.trans ((HQ.out.1.mono hBr).trans H5.out.2.1)).mono (Nat.le_succ _)))) hM.out.2.2.2.1 (by omega) (by
                    have h := lineT_len (word := bestW) (rng1 hM.out.2.1)
                    have h2 := HQ.out.2.2.2.2.2
                    rw [List.length_append, List.length_append, List.length_append]
                    simp only [bestW, List.length_cons, List.length_nil] at h ⊢
                    omega)
                  go_wp2_with (go_at_call 37; refine hs.mono ?_; rintro e w6 ⟨rfl, hr6⟩; have H6 := Lib.hid (step_ef (f := effP) (g := effB) (g1 := badB [y0]) hM.out.1 (by unfold effP; rw [hM.out.2.2.2.2]) (by unfold effB; rw [hM.out.2.2.2.2]) ((H.out.trans (BldR.bel hBr HQ.out.1 H5.out)).trans hr6)); clear hr6 hs)
                  go_roundw
                  case rel => exact ⟨i + 1, by omega, by go_num, H6⟩
                  case measure => simp [intOf]; omega
                · have d1 : decide ((i : Int) < (n1 : Int)) = false := by simp; omega
                  have d2 : decide (i < n1) = false := by simp; omega
                  obtain rfl : n1 = i := by omega
                  have HS := Lib.hid (show PrR (w.heap.size + 1) (w.heap.size + 1) ((((headB c || c.mtx.any mtxB) || c.gaps.any gapB) || c.tasks.any taskB) || c.best.any effB) ((((headP c ++ c.mtx.flatMap mtxP) ++ c.gaps.flatMap gapP) ++ c.tasks.flatMap taskP) ++ c.best.flatMap effP) W2 wr by have h := H.out; rw [← any_all HN.out.2.1, ← fm_all HN.out.2.1] at h; exact h)
                  clear hil hi H
                  have hlh2 : ((((headP c ++ c.mtx.flatMap mtxP) ++ c.gaps.flatMap gapP) ++ c.tasks.flatMap taskP) ++ c.best.flatMap effP).length ≤ 1640020000000 := by
                    have h := fm_len (f := effP) (M := 41000000) c.best (fun x hx => effP_len (HN.out.2.2.2.2.2.1.b x hx) (HN.out.2.2.2.2.2.2.2.p x hx))
                    rw [HN.out.2.1] at h
                    rw [List.length_append]; omega
                  replace hlh := hlh2
                  clear hlh2
                  have rb := fun k => (HS.out.2.1.cell (p := ⟨w.heap.size, k, none⟩) (Nat.lt_succ_self _)).trans (HB.out.2.2.2.2.1.rd k)
                  go_wp2_with (fail)
                  clear rb
                  go_loopw [107] (fun ix wr => ∃ i : Nat, i ≤ ne ∧ ix = .int .i64 i ∧ Hid (PrR (w.heap.size + 1) (w.heap.size + 1) (((((headB c || c.mtx.any mtxB) || c.gaps.any gapB) || c.tasks.any taskB) || c.best.any effB) || (es.take i).any evB) (((((headP c ++ c.mtx.flatMap mtxP) ++ c.gaps.flatMap gapP) ++ c.tasks.flatMap taskP) ++ c.best.flatMap effP) ++ (es.take i).flatMap evP) W2 wr)) (fun ix _ => ne - (intOf ix).toNat)
                  case atStart => exact ⟨0, Nat.zero_le _, rfl, Lib.hid (by rw [List.take_zero, List.any_nil, List.flatMap_nil, Bool.or_false, List.append_nil]; exact HS.out)⟩
                  case round =>
                    obtain ⟨i, hi, rfl, H⟩ := hrel
                    clear HS
                    have hBr : w.heap.size + 1 ≤ wr.heap.size := Nat.le_trans HB.out.1 H.out.2.1.size
                    have hEr := HB.out.2.1.below HB.out.2.2.1 H.out.2.1
                    by_cases hil : i < ne
                    · obtain ⟨⟨y0, y1, y2⟩, hx⟩ : ∃ x, es[i]? = some x := ⟨es[i]'(by rw [HN.out.2.2.2.2.1]; exact hil), List.getElem?_eq_getElem _⟩
                      have hbw := HB.out.2.2.2.1.trans (H.out.2.1.mono (Nat.le_succ _))
                      obtain ⟨g, o, rfl, ka⟩ := (HC.out.2.2.2.2.2.below hbw).at (vCells_at hx (by omega : 0 < 3))
                      have k0 := ka _ _ (vCells_at hx (by omega : 0 < 3))
                      have k1 := ka _ _ (vCells_at hx (by omega : 1 < 3))
                      have k2 := ka _ _ (vCells_at hx (by omega : 2 < 3))
                      rw [← Nat.add_assoc] at k1 k2
                      rw [Nat.add_zero] at k0
                      have hmr := HN.out.2.2.2.2.2.2.1 _ (List.mem_of_getElem? hx)
                      have hM := Lib.hid (And.intro hx hmr)
                      have d1 : decide ((i : Int) < (ne : Int)) = true := by simp; omega
                      have i1 : (i : Int) < (ne : Int) := by omega
                      have i2 : (0 : Int) ≤ i := by omega
                      dsimp only at k0 k1 k2
                      clear hx hmr hbw ka
                      go_upto_region 29 with (refine wpList_store_row rfl 58 (.tmp 16) (.tmp 110) rfl wr.heap.size #[.int .i64 y0, .int .i64 y1, .int .i64 y2] rfl rfl 58 #[Value.int .i64 0, .int .i64 0, .int .i64 0] (Blk.new wr _ _) info_sizes.2.2.2 rfl (by simp [Value.oneCell']) ?_)
                      clear k0 k1 k2
                      have hcb := copy_bel wr #[Value.int .i64 0, .int .i64 0, .int .i64 0] #[.int .i64 y0, .int .i64 y1, .int .i64 y2] 58
                      have hcr := Blk.row (Blk.new wr #[Value.int .i64 0, .int .i64 0, .int .i64 0] 58) #[.int .i64 y0, .int .i64 y1, .int .i64 y2]
                      obtain ⟨wW, hW⟩ : ∃ W', ((wr.alloc (.cells #[Value.int .i64 0, .int .i64 0, .int .i64 0] 58)).setRow wr.heap.size #[.int .i64 y0, .int .i64 y1, .int .i64 y2]) = W' := ⟨_, rfl⟩
                      rw [hW] at hcb hcr ⊢
                      clear hW
                      have hP := BldV.drew (H.out.1.below hcb)
                      have hcb2 : Below wr.heap.size wr wW.drew := hcb.trans ((((Upd.refl (fun _ => False) wW).drewN 1).below (Nat.le_refl _) (fun _ h => h.elim)).mono hcb.size)
                      have hcd : Blk wW.drew wr.heap.size #[.int .i64 y0, .int .i64 y1, .int .i64 y2] 58 := hcr
                      have hEw := hEr.bel hcb2
                      have hnw := nextW y1 (BldR.refl hP)
                      have hnc := fun w' (h : Calls Tryz.prog 36 #[.pointer (some ⟨w.heap.size + 1, 0, none⟩), .int .i64 y1] wW.drew w') => h
                      have hnx := pnext_ex y1 hP
                      obtain ⟨WA, hWA⟩ : ∃ W', (if nextB y1 = true then wW.drew.setCell ⟨w.heap.size + 1, 2, none⟩ (.bool true) else wW.drew) = W' := ⟨_, rfl⟩
                      rw [hWA] at hnw hnx
                      clear hWA hnc
                      have hcA : Blk WA wr.heap.size #[.int .i64 y0, .int .i64 y1, .int .i64 y2] 58 := Blk.others hnw.2.2 hcd (by have := H.out.1.lt; omega) (by decide)
                      have hEA := hEw.below HB.out.2.2.1 hnw.2.1
                      have hsz := Nat.le_trans (Nat.le_trans hBr hcb2.size) hnw.2.1.size
                      have hfl := fm_take (f := evP) (i := i) (fun x hx => evP_len (HN.out.2.2.2.2.2.2.1 x hx)) (Nat.le_of_eq HN.out.2.2.2.2.1)
                      have hl := pline_new (word := atW) [y0, (nextV y1), y2] 3 3 #[.int .i64 y0, .int .i64 (nextV y1), .int .i64 y2] rfl hEA HB.out.2.2.1 hsz hnw.1 rfl (rng_ev (e := ⟨y0, y1, y2⟩) hM.out.2) (by rw [List.length_append]; simp only [atW, List.length_cons, List.length_nil]; omega)
                      rw [show B atW = ⟨#[97, 116]⟩ from rfl] at hl
                      have HQ := Lib.hid (And.intro hcb2 (And.intro hl (And.intro hcd (And.intro hcA (And.intro hnw hnx)))))
                      clear hl hcb hcr hP hEw hsz hfl hcd hcA hnw hnx hEA hcb2
                      refine region_Ch 3 6 9 10 wW.drew wW.drew WA (WA.alloc (.cells #[.int .i64 y0, .int .i64 (nextV y1), .int .i64 y2] 3)) (PrR (w.heap.size + 1) (w.heap.size + 1) (((((((headB c || c.mtx.any mtxB) || c.gaps.any gapB) || c.tasks.any taskB) || c.best.any effB) || (es.take i).any evB) || nextB y1) || badB [y0, (nextV y1), y2]) ((((((headP c ++ c.mtx.flatMap mtxP) ++ c.gaps.flatMap gapP) ++ c.tasks.flatMap taskP) ++ c.best.flatMap effP) ++ (es.take i).flatMap evP) ++ lineT atW [y0, (nextV y1), y2] ++ [10]) WA) rfl (by kernel_rfl) (by kernel_rfl) ?_
                      apply wpJ_op rfl (by rfl)
                      · intro f w1 hf hJ Q1 hQ
                        simp only [Act.put, List.setIfInBounds_toArray, List.set_cons_zero, List.set_cons_succ] at hQ
                        go_wp2_with (fail)
                        exact hQ _ _ rfl (hJ.other rfl hf (by decide) (by decide) (by decide) (by decide))
                      simp only [Act.put, List.setIfInBounds_toArray, List.set_cons_zero, List.set_cons_succ]
                      apply wpJ_op rfl (by rfl)
                      · intro f w1 hf hJ Q1 hQ
                        simp only [Act.put, List.setIfInBounds_toArray, List.set_cons_zero, List.set_cons_succ] at hQ
                        go_wp2_with (fail)
                        exact hQ _ _ rfl (hJ.other rfl hf (by decide) (by decide) (by decide) (by decide))
                      simp only [Act.put, List.setIfInBounds_toArray, List.set_cons_zero, List.set_cons_succ]
                      apply wpJ_op rfl (by rfl)
                      · intro f w1 hf hJ Q1 hQ
                        have hL : f 10 = false := path_no hJ.1 [9, 2] (by kernel_rfl) (by decide) hf.1
                        have hF := hJ.pre (F := fun u => Blk u wr.heap.size #[.int .i64 y0, .int .i64 y1, .int .i64 y2] 58) hL HQ.out.2.2.1 HQ.out.2.2.1 HQ.out.2.2.2.1 (HQ.out.2.2.2.1.alloc _)
                        have k0 := hF.rd 0
                        simp only [Act.put, List.setIfInBounds_toArray, List.set_cons_zero, List.set_cons_succ] at hQ
                        go_wp2_with (fail)
                        exact hQ _ _ rfl (hJ.other rfl hf (by decide) (by decide) (by decide) (by decide))
                      simp only [Act.put, List.setIfInBounds_toArray, List.set_cons_zero, List.set_cons_succ]
                      apply wpJ_op rfl (by rfl)
                      · intro f w1 hf hJ Q1 hQ
                        have hA : f 6 = false := path_no hJ.1 [3] (by kernel_rfl) (by decide) hf.1
                        have hC : f 9 = false := path_no hJ.1 [6] (by kernel_rfl) (by decide) hA
                        have hL : f 10 = false := path_no hJ.1 [9] (by kernel_rfl) (by decide) hC
                        rw [hJ.atN hf.1 hA hC hL]
                        simp only [Act.put, List.setIfInBounds_toArray, List.set_cons_zero, List.set_cons_succ] at hQ
                        go_wp2_with (fail)
                        exact hQ _ _ rfl (hJ.goN rfl hf hA hC hL (by decide) (by decide) (by decide))
                      simp only [Act.put, List.setIfInBounds_toArray, List.set_cons_zero, List.set_cons_succ]
                      apply wpJ_op rfl (by rfl)
                      · intro f w1 hf hJ Q1 hQ
                        simp only [Act.put, List.setIfInBounds_toArray, List.set_cons_zero, List.set_cons_succ] at hQ
                        go_wp2_with (fail)
                        exact hQ _ _ rfl (hJ.other rfl hf (by decide) (by decide) (by decide) (by decide))
                      simp only [Act.put, List.setIfInBounds_toArray, List.set_cons_zero, List.set_cons_succ]
                      apply wpJ_op rfl (by rfl)
                      · intro f w1 hf hJ Q1 hQ
                        have hL : f 10 = false := path_no hJ.1 [9, 6, 5] (by kernel_rfl) (by decide) hf.1
                        have hF := hJ.pre (F := fun u => Blk u wr.heap.size #[.int .i64 y0, .int .i64 y1, .int .i64 y2] 58) hL HQ.out.2.2.1 HQ.out.2.2.1 HQ.out.2.2.2.1 (HQ.out.2.2.2.1.alloc _)
                        have k1 := hF.rd 1
                        simp only [Act.put, List.setIfInBounds_toArray, List.set_cons_zero, List.set_cons_succ] at hQ
                        go_wp2_with (fail)
                        exact hQ _ _ rfl (hJ.other rfl hf (by decide) (by decide) (by decide) (by decide))
                      simp only [Act.put, List.setIfInBounds_toArray, List.set_cons_zero, List.set_cons_succ]
                      apply wpJ_op rfl (by rfl)
                      · intro f w1 hf hJ Q1 hQ
                        have hC : f 9 = false := path_no hJ.1 [6] (by kernel_rfl) (by decide) hf.1
                        have hL : f 10 = false := path_no hJ.1 [9] (by kernel_rfl) (by decide) hC
                        have hN : f 3 = true := up_dep hf 3 (by kernel_rfl)
                        rw [hJ.atA hN hf.1 hC hL]
                        simp only [Act.put, List.setIfInBounds_toArray, List.set_cons_zero, List.set_cons_succ] at hQ
                        go_wp2_with (have hnx := HQ.out.2.2.2.2.2; go_at_call 36; refine hnx.mono ?_; rintro e w8 ⟨rfl, rfl⟩)
                        exact hQ _ _ rfl (hJ.goA rfl hf hC hL (by decide) (by decide))
                      simp only [Act.put, List.setIfInBounds_toArray, List.set_cons_zero, List.set_cons_succ]
                      apply wpJ_op rfl (by rfl)
                      · intro f w1 hf hJ Q1 hQ
                        simp only [Act.put, List.setIfInBounds_toArray, List.set_cons_zero, List.set_cons_succ] at hQ
                        go_wp2_with (fail)
                        exact hQ _ _ rfl (hJ.other rfl hf (by decide) (by decide) (by decide) (by decide))
                      simp only [Act.put, List.setIfInBounds_toArray, List.set_cons_zero, List.set_cons_succ]
                      apply wpJ_op rfl (by rfl)
                      · intro f w1 hf hJ Q1 hQ
                        have hL : f 10 = false := path_no hJ.1 [9, 8] (by kernel_rfl) (by decide) hf.1
                        have hF := hJ.pre (F := fun u => Blk u wr.heap.size #[.int .i64 y0, .int .i64 y1, .int .i64 y2] 58) hL HQ.out.2.2.1 HQ.out.2.2.1 HQ.out.2.2.2.1 (HQ.out.2.2.2.1.alloc _)
                        have k2 := hF.rd 2
                        simp only [Act.put, List.setIfInBounds_toArray, List.set_cons_zero, List.set_cons_succ] at hQ
                        go_wp2_with (fail)
                        exact hQ _ _ rfl (hJ.other rfl hf (by decide) (by decide) (by decide) (by decide))
                      simp only [Act.put, List.setIfInBounds_toArray, List.set_cons_zero, List.set_cons_succ]
                      apply wpJ_op rfl (by rfl)
                      · intro f w1 hf hJ Q1 hQ
                        have hL : f 10 = false := path_no hJ.1 [9] (by kernel_rfl) (by decide) hf.1
                        have hA : f 6 = true := up_dep hf 6 (by kernel_rfl)
                        rw [hJ.atC hA hf.1 hL]
                        simp only [Act.put, List.setIfInBounds_toArray, List.set_cons_zero, List.set_cons_succ] at hQ
                        go_wp2_with (fail)
                        exact hQ _ _ rfl (hJ.goC rfl hf hL (by decide))
                      simp only [Act.put, List.setIfInBounds_toArray, List.set_cons_zero, List.set_cons_succ]
                      apply wpJ_op rfl (by rfl)
                      · intro f w1 hf hJ Q1 hQ
                        have hC : f 9 = true := up_dep hf 9 (by kernel_rfl)
                        rw [hJ.atL hC hf.1]
                        simp only [Act.put, List.setIfInBounds_toArray, List.set_cons_zero, List.set_cons_succ] at hQ
                        go_wp2_with (have hl := HQ.out.2.1; go_at_call 22; refine hl.mono ?_; rintro e w8 ⟨rfl, hq⟩)
                        exact hQ _ _ rfl (hJ.goL rfl hf hq)
                      simp only [Act.put, List.setIfInBounds_toArray, List.set_cons_zero, List.set_cons_succ]
                      refine wpJ_nil ?_
                      intro w9 hJ9
                      have hq9 := hJ9.fin rfl
                      clear hJ9
                      have H5 := Lib.hid (step_l2 (f := evP) (g := evB) (x := ⟨y0, y1, y2⟩) hM.out.1 rfl rfl (H.out.trans (BldR.bel hBr HQ.out.1 (HQ.out.2.2.2.2.1.trans hq9))))
                      clear hq9
                      go_wp2_with (fail)
                      go_roundw
                      case rel => exact ⟨i + 1, by omega, by go_num, H5⟩
                      case measure => simp [intOf]; omega
                    · have d1 : decide ((i : Int) < (ne : Int)) = false := by simp; omega
                      have d2 : decide (i < ne) = false := by simp; omega
                      obtain rfl : ne = i := by omega
                      have HS := Lib.hid (show PrR (w.heap.size + 1) (w.heap.size + 1) (((((headB c || c.mtx.any mtxB) || c.gaps.any gapB) || c.tasks.any taskB) || c.best.any effB) || es.any evB) (((((headP c ++ c.mtx.flatMap mtxP) ++ c.gaps.flatMap gapP) ++ c.tasks.flatMap taskP) ++ c.best.flatMap effP) ++ es.flatMap evP) W2 wr by have h := H.out; rw [← any_all HN.out.2.2.2.2.1, ← fm_all HN.out.2.2.2.2.1] at h; exact h)
                      clear hil hi H
                      have hlh2 : (((((headP c ++ c.mtx.flatMap mtxP) ++ c.gaps.flatMap gapP) ++ c.tasks.flatMap taskP) ++ c.best.flatMap effP) ++ es.flatMap evP).length ≤ 1640030000000 := by
                        have h := fm_len (f := evP) (M := 100) es (fun x hx => evP_len (HN.out.2.2.2.2.2.2.1 x hx))
                        rw [HN.out.2.2.2.2.1] at h
                        rw [List.length_append]; omega
                      replace hlh := hlh2
                      clear hlh2
                      have HE := Lib.hid (show PrR (w.heap.size + 1) (w.heap.size + 1) (cfgB c es) (cfgP c es) W2 wr from HS.out)
                      have hlh2 : (cfgP c es).length ≤ 1640030000000 := hlh
                      clear HS hlh hEr hBr
                      have hbel := HB.out.2.2.2.1.trans (HE.out.2.1.mono (Nat.le_succ _))
                      have hP := HE.out.1
                      cases hok : okCfg c es
                      · have cb : cfgB c es = true := by rw [cfgB_not, hok]; rfl
                        rw [cb] at hP
                        have c2 : wr.cell? ⟨w.heap.size + 1, 2, none⟩ = some (.bool true) := hP.tl 0
                        have e1 : printE c es = 19 := by unfold printE; rw [if_pos hok]
                        have e2 : printT c es = [] := by unfold printT; rw [e1]; rfl
                        clear cb hP
                        go_wp2_with (fail)
                        go_ret2
                        exact ⟨by rw [e1, e2]; rfl, hbel⟩
                      · have cb : cfgB c es = false := by rw [cfgB_not, hok]; rfl
                        have ct : cfgP c es = cfgT c es := cfgP_ok hok
                        rw [cb, ct] at hP
                        have c2 : wr.cell? ⟨w.heap.size + 1, 2, none⟩ = some (.bool false) := hP.tl 0
                        have hbl := blen_is hP
                        have ebl : (Lib.byteCells (cfgT c es)).length = (cfgT c es).length := by simp [Lib.byteCells]
                        rw [ebl] at hbl
                        obtain ⟨m, hm⟩ : ∃ m, (cfgT c es).length = m := ⟨_, rfl⟩
                        rw [hm] at hbl
                        have HZ := Lib.hid (And.intro hok (And.intro hP (And.intro hm ct)))
                        rw [ct, hm] at hlh2
                        clear cb hP ebl hok hm ct
                        by_cases h3 : 65536 < m
                        · have e1 : printE c es = 3 := by unfold printE; rw [if_neg (by rw [HZ.out.1]; decide), if_pos (by rw [HZ.out.2.2.1]; exact h3)]
                          have e2 : printT c es = [] := by unfold printT; rw [e1]; rfl
                          have d1 : decide ((m : Int) > 65536) = true := by simp; omega
                          go_wp2_with (go_at_call 38; refine hbl.mono ?_; rintro e w7 ⟨rfl, rfl⟩; clear hbl)
                          go_ret2
                          exact ⟨by rw [e1, e2]; rfl, hbel⟩
                        · have e1 : printE c es = 0 := by unfold printE; rw [if_neg (by rw [HZ.out.1]; decide), if_neg (by rw [HZ.out.2.2.1]; exact h3)]
                          have e2 : printT c es = cfgT c es := by unfold printT; rw [if_pos e1]
                          have d1 : decide ((m : Int) > 65536) = false := by simp; omega
                          have hbs := bstr_is (by decide) HZ.out.2.1 (by rw [← HZ.out.2.2.2]; unfold cfgP headP; simp)
                          go_wp2_with (first
                            | (go_at_call 38; refine hbl.mono ?_; rintro e w7 ⟨rfl, rfl⟩; clear hbl)
                            | (go_at_call 24; refine hbs.mono ?_; rintro e w8 ⟨rfl, hb8, _⟩; clear hbs))
                          go_ret2
                          exact ⟨by rw [e1, e2]; rfl, hbel.trans (hb8.mono (Nat.le_succ _))⟩
end Go.Proofs.YtefaaginedideaaGreatDoor
