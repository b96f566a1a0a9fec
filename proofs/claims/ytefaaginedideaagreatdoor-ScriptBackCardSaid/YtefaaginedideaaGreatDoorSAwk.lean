/-
  Script's law: what every program answers that is one.
-/
import Derived.Test.YtefaaginedideaaGreatDoorSLaw
import Derived.Test.YtefaaginedideaaGreatDoorSBk
namespace Go.Proofs.YtefaaginedideaaGreatDoor
set_option linter.unusedSimpArgs false
set_option linter.unusedVariables false
open Go.RowKit Own RegJ
open Go.Lib hiding intOf

def aw1 : Txt := [102, 114, 97, 109, 101, 115, 32, 56, 10, 98, 101, 115, 116, 32, 51, 10, 111, 112, 32, 49, 32, 50, 32, 48, 32, 48, 10, 97, 116, 32, 53, 32, 48, 32, 49, 10]
def aw2 : Txt := [102, 114, 97, 109, 101, 115, 32, 56, 10, 111, 112, 32, 48, 32, 48, 32, 48, 32, 48]
set_option maxRecDepth 100000 in
theorem awp1 : parseF aw1 = (⟨[], [⟨3, [opNums 1 2 0 0]⟩], [], [], 8, 0⟩, [⟨5, -1, 1⟩], 0, 0) := by kernel_rfl
set_option maxRecDepth 100000 in
theorem awp2 : parseF aw2 = (cfg0, [], 2, 19) := by kernel_rfl
set_option maxRecDepth 100000 in
theorem awo : opR (opCall 1 1 0 [47, 97] []) = [99, 97, 108, 108, 32, 49, 32, 49, 32, 48, 32, 34, 47, 97, 34, 32, 34, 34] := by kernel_rfl
set_option maxRecDepth 100000 in
theorem awe : opE (opCall 1 1 0 [47, 97] []) = 0 := by kernel_rfl
/-- what Parse hands back, opened -/
theorem ParV.op {s : Txt} {w : World} {e : Ending} {w' : World} (h : ParV s w e w') {c : CfgV} {es : List EvV} {at' er : Int} (hp : parseF s = (c, es, at', er)) :
    ∃ a1 c1 a2 c2 a3 c3 a4 c4 a5 c5, e = .returned (.tuple #[.agg #[.slice a1 c.tasks.length c1, .slice a2 c.best.length c2, .slice a3 c.mtx.length c3, .slice a4 c.gaps.length c4, .int .i64 c.frames, .int .i64 c.dog], .slice a5 es.length c5, .int .i64 at', .int .i64 er]) ∧
      (∃ tq eq tb bb mb gb, Core w' w.heap.size c (.slice a1 c.tasks.length c1) (.slice a2 c.best.length c2) (.slice a3 c.mtx.length c3) (.slice a4 c.gaps.length c4) tq eq tb bb mb gb) ∧ (∃ eb, Rw w' 58 3 (.slice a5 es.length c5) es.length (vCells es) eb ∧ ∀ g, eb = some g → w.heap.size ≤ g) ∧ Below w.heap.size w w' := by
  obtain ⟨tv, bv, mv, gv, ev, tq, eq, tb, bb, mb, gb, eb, rfl, hC, hR, hlo, hb⟩ := h
  rw [hp] at hC hR
  rw [hp]
  obtain ⟨a1, c1, rfl⟩ := hC.rt.slice
  obtain ⟨a2, c2, rfl⟩ := hC.re.slice
  obtain ⟨a3, c3, rfl⟩ := hC.rm.slice
  obtain ⟨a4, c4, rfl⟩ := hC.rg.slice
  obtain ⟨a5, c5, rfl⟩ := hR.slice
  exact ⟨_, _, _, _, _, _, _, _, _, _, rfl, ⟨_, _, _, _, _, _, hC⟩, ⟨_, hR, hlo⟩, hb⟩
/-- a store into a new block -/
theorem new_row_bel (w : World) (zs cs : Array Value) (T : TypeId) : Below w.heap.size w ((w.alloc (.cells zs T)).setRow w.heap.size cs) :=
  ((Below.refl _ _).alloc (Nat.le_refl _) _).trans ((Upd.row _ _ _).below (by simp) (fun k hk => by omega))
def AwP (w : World) (e : Ending) (w' : World) : Prop := e = .returned (.bool true) ∧ Below w.heap.size w w'
theorem aw_cells (W : World) (b : Nat) (hb : W.heap.size = b) : RdC (W.alloc (.cells #[.int .i64 5, .int .i64 (-1), .int .i64 1] 58)) (some ⟨b, 0, none⟩) (vCells [⟨5, -1, 1⟩]) := fun k v hk => by
  subst hb
  refine ⟨_, 0, rfl, ?_⟩
  rw [(Blk.new W _ _).rd, Nat.zero_add]
  exact List.getElem?_toArray.trans hk
set_option maxRecDepth 100000 in
set_option maxHeartbeats 2000000 in
theorem awake_is (w : World) (hE : Env w) : Calls Tryz.prog 9 #[] w (AwP w) := by
  have ho := op_is (opCall 1 1 0 [47, 97] []) w hE
  rw [awo, awe] at ho
  have hp1 : ∀ w0, Env w0 → Calls Tryz.prog 14 #[.string ⟨#[102, 114, 97, 109, 101, 115, 32, 56, 10, 98, 101, 115, 116, 32, 51, 10, 111, 112, 32, 49, 32, 50, 32, 48, 32, 48, 10, 97, 116, 32, 53, 32, 48, 32, 49, 10]⟩] w0 (ParV aw1 w0) := fun w0 h0 => parse_is aw1 w0 h0
  have hp2 : ∀ w0, Env w0 → Calls Tryz.prog 14 #[.string ⟨#[102, 114, 97, 109, 101, 115, 32, 56, 10, 111, 112, 32, 48, 32, 48, 32, 48, 32, 48]⟩] w0 (ParV aw2 w0) := fun w0 h0 => parse_is aw2 w0 h0
  have HE := Lib.hid hE
  clear hE
  go_enter Tryz.func9, Tryz.ntmps9
  go_wp2_with (first
    | (go_at_call 10; refine ho.mono ?_; rintro e w1 ⟨rfl, hb1⟩; have H1 := Lib.hid hb1; clear hb1 ho)
    | (go_at_call 14; (with_reducible refine (hp1 _ ?_).mono ?_); exact HE.out.bel H1.out; intro e w2 hP; obtain ⟨a1, c1, a2, c2, a3, c3, a4, c4, a5, c5, rfl, hC, hR, hb2⟩ := hP.op awp1; have H2 := Lib.hid (H1.out.trans (hb2.mono H1.out.size)); obtain ⟨eb, hR, _⟩ := hR; obtain ⟨a0, c0, hv0, hRd⟩ := hR.rdc; simp only [Value.slice.injEq, true_and] at hv0; obtain ⟨rfl, rfl⟩ := hv0; have HR := Lib.hid hRd; have hrd := (Blk.row (Blk.new w2 zCfg 41) #[.slice a1 0 c1, .slice a2 1 c2, .slice a3 0 c3, .slice a4 0 c4, .int .i64 8, .int .i64 0]).rd; simp only [List.length_nil, List.length_cons, Nat.zero_add]; clear hP hC hR hb2 hp1 hRd)
    | (refine wpList_store_row rfl 41 (.tmp 3) (.tmp 19) rfl w2.heap.size #[.slice a1 0 c1, .slice a2 1 c2, .slice a3 0 c3, .slice a4 0 c4, .int .i64 8, .int .i64 0] rfl rfl 41 zCfg (Blk.new w2 _ _) infoCfg rfl (by simp [Value.oneCell']) ?_)
    | (go_at_call 14; (with_reducible refine (hp2 _ ?_).mono ?_); exact HE.out.bel (H2.out.trans ((new_row_bel w2 _ _ _).mono H2.out.size)); intro e w3 hP; obtain ⟨a6, c6, a7, c7, a8, c8, a9, c9, a10, c10, rfl, hC, hR, hb3⟩ := hP.op awp2; have hW3 := hb3.trans ((new_row_bel w3 zCfg #[.slice a6 0 c6, .slice a7 0 c7, .slice a8 0 c8, .slice a9 0 c9, .int .i64 0, .int .i64 0] 41).mono hb3.size); have r1 := (hW3.cell (p := ⟨w2.heap.size, 1, none⟩) (by simp)).trans (hrd 1); have r4 := (hW3.cell (p := ⟨w2.heap.size, 4, none⟩) (by simp)).trans (hrd 4); have H3 := Lib.hid ((new_row_bel w2 zCfg #[.slice a1 0 c1, .slice a2 1 c2, .slice a3 0 c3, .slice a4 0 c4, .int .i64 8, .int .i64 0] 41).trans (hW3.mono (by simp))); simp only [List.length_nil, List.length_cons, Nat.zero_add]; clear hP hC hR hb3 hp2 hrd hW3)
    | (refine wpList_store_row rfl 41 (.tmp 7) (.tmp 25) rfl w3.heap.size #[.slice a6 0 c6, .slice a7 0 c7, .slice a8 0 c8, .slice a9 0 c9, .int .i64 0, .int .i64 0] rfl rfl 41 zCfg (Blk.new w3 _ _) infoCfg rfl (by simp [Value.oneCell']) ?_)
    | (go_at_call 17; refine (sameE_is (es := [⟨5, -1, 1⟩]) 1 c5 1 (HR.out.below (H3.out.trans (((Below.refl _ _).alloc (Nat.le_refl _) _).mono H3.out.size))) (aw_cells _ _ (by simp)) rfl (by unfold maxLen; omega)).mono ?_; rintro e w4 ⟨rfl, q, rfl⟩))
  go_ret
  refine ⟨rfl, ?_⟩
  have h1 := H2.out.trans (H3.out.mono H2.out.size)
  exact (h1.trans (((Below.refl _ _).alloc (Nat.le_refl _) _).mono h1.size)).trans ((((Upd.refl (fun _ => False) _).drewN q).below (Nat.le_refl _) (fun _ h => h.elim)).mono (by have := h1.size; simp at this ⊢; omega))
end Go.Proofs.YtefaaginedideaaGreatDoor
