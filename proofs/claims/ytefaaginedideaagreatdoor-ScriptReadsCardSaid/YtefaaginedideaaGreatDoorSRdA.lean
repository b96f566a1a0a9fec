/-
  Script: the lines, read by the document: plain facts, and the loop taken out of the function.
-/
import Derived.Test.YtefaaginedideaaGreatDoorSRst
import Derived.Test.YtefaaginedideaaGreatDoorSDs
import Derived.Deep.CutRange
namespace Go.Proofs.YtefaaginedideaaGreatDoor
set_option linter.unusedSimpArgs false
set_option linter.unusedVariables false
open Go.RowKit Own RegJ
open Go.Lib hiding intOf

theorem results_cell3 {P : Program} {fn : Func} {p s u : Tmp} {ty : TypeId} (h : fn.results = #[.cell p ty, .tmp s, .tmp u]) (tmps : Array Value) (w : World) (g : Nat) (t : TypeId) (cs : Array Value) (d : TypeDesc)
    (hp : tmps.getD p undef = .pointer (some ⟨g, 0, none⟩)) (hg : Blk w g cs t)
    (hu : P.underlying ty = some d) (hd : (match d with | .struct _ | .array _ _ => true | _ => false) = true) (hi : (P.info? ty).map (·.size) = some cs.size) :
    (results fn tmps).run P w = .ok (.tuple #[.agg cs, tmps.getD s undef, tmps.getD u undef]) w := by
  have hp' : tmps[p]?.getD undef = .pointer (some ⟨g, 0, none⟩) := by simpa using hp
  simp [results, h, hp', asAddr, run_loadVar_row w g t ty cs _ d hg hu hd hi]
theorem rsplit_ev (l : Txt) (w : World) (hl : l.length ≤ 100000) (xs : List Txt) (hx : spc 32 l = xs) (n : Nat) (hn : xs.length = n) : Calls Tryz.prog 70 #[.string (B l), .int .u8 32] w fun e w' => ∃ g c, e = .returned (.slice (some ⟨g, 0, none⟩) n c) ∧ RdT w' (some ⟨g, 0, none⟩) xs ∧ n ≤ c ∧ Below w.heap.size w w' := by
  have h := rsplit_is 32 l w hl
  have hne := spc_ne 32 l
  have c32 : (((32 : UInt8).toNat : Nat) : Int) = 32 := rfl
  rw [c32] at h
  subst hx hn
  refine h.mono ?_
  rintro e w' ⟨a, c, b, rfl, hT, hb, hB⟩
  obtain ⟨g, hg⟩ := hT.has (List.length_pos_iff.2 hne)
  obtain ⟨cap, rest, hv, _, _, hcap, _⟩ := hT.blk g hg
  simp only [Value.slice.injEq] at hv
  obtain ⟨rfl, _, rfl⟩ := hv
  exact ⟨g, c, rfl, hT.rd, hcap, hB⟩
theorem rstep_none {w : World} {a : Option Addr} {x : Txt} {r : List Txt} (n c : Nat) (hr : RdT w a (x :: r)) (hn : (x :: r).length = n) (hn5 : n ≤ 100000) (hc : n ≤ c) (hl : ∀ y ∈ x :: r, y.length ≤ 100000) (hx : x = opW ∨ x = callW) (hs : stepF (x :: r) = none) :
    Calls Tryz.prog 71 #[.slice a n c] w fun e w' => ∃ o : OpV, e = .returned (.tuple #[opV o, .bool false]) ∧ Below w.heap.size w w' := (rstep_is n c hr hn hn5 hc hl hx).mono fun e w' ⟨o, he, _, hb⟩ => ⟨o, by rw [he, hs]; rfl, hb⟩
theorem rstep_some {w : World} {a : Option Addr} {x : Txt} {r : List Txt} (n c : Nat) (hr : RdT w a (x :: r)) (hn : (x :: r).length = n) (hn5 : n ≤ 100000) (hc : n ≤ c) (hl : ∀ y ∈ x :: r, y.length ≤ 100000) (hx : x = opW ∨ x = callW) {o : OpV} (hs : stepF (x :: r) = some o) :
    Calls Tryz.prog 71 #[.slice a n c] w fun e w' => e = .returned (.tuple #[opV o, .bool true]) ∧ Below w.heap.size w w' := (rstep_is n c hr hn hn5 hc hl hx).mono fun e w' ⟨o', he, ho, hb⟩ => ⟨by rw [he, hs, ho o hs]; rfl, hb⟩
/-- what all lines say, as it is handed back -/
def readR (ls : List Txt) : CfgV × List EvV × Int := match readF pst0 1 ls with
  | .ok st => (st.c, st.es, 0)
  | .error k => (cfg0, [], k)
def ReadV (ls : List Txt) (w : World) (e : Ending) (w' : World) : Prop := ∃ tv bv mv gv ev tq eq tb bb mb gb eb, e = .returned (.tuple #[.agg #[tv, bv, mv, gv, .int .i64 (readR ls).1.frames, .int .i64 (readR ls).1.dog], ev, .int .i64 (readR ls).2.2]) ∧
  Core w' w.heap.size (readR ls).1 tv bv mv gv tq eq tb bb mb gb ∧ Rw w' 58 3 ev (readR ls).2.1.length (vCells (readR ls).2.1) eb ∧ (∀ g, eb = some g → w.heap.size ≤ g) ∧ Below w.heap.size w w'
theorem ReadV.err {ls : List Txt} {w w' : World} {k : Nat} {v : Value} (hv : v = .int .i64 k) (h : readF pst0 1 ls = .error k) (hb : Below w.heap.size w w') : ReadV ls w (.returned (.tuple #[.agg zCfg, .slice none 0 0, v])) w' := by
  have e : readR ls = (cfg0, [], (k : Int)) := by unfold readR; rw [h]
  subst hv
  exact ⟨_, _, _, _, _, _, _, _, _, _, _, none, by rw [e]; rfl, by rw [e]; exact Core.nil _ _, by rw [e]; exact Rw.nil _ _ _, fun g hg => (by cases hg), hb⟩
/-- how far the reading is -/
def RdL (ls : List Txt) (w : World) (i : Nat) (st : PSt) (ev : Value) (wr : World) : Prop := readF pst0 1 ls = readF st (i + 1) (ls.drop i) ∧ DS wr (w.heap.size + 1) st (w.heap.size + 1) ev ∧ Blk wr w.heap.size zCfg 41 ∧ Below w.heap.size w wr ∧ Sz st i
theorem rd_end {w wr w2 : World} {zs cs zc : Array Value} {T : TypeId} (h1 : Below w.heap.size w wr) (h2 : Below wr.heap.size wr w2) : Below w.heap.size w (((w2.alloc (.cells zs T)).setRow w2.heap.size cs).setRow w.heap.size zc) := by
  have h := h1.trans (h2.mono h1.size)
  have hA : Below w2.heap.size w2 ((w2.alloc (.cells zs T)).setRow w2.heap.size cs) := ((Below.refl _ _).alloc (Nat.le_refl _) _).trans ((Upd.row _ _ _).below (by simp) (fun k hk => by omega))
  have h3 := h.trans (hA.mono h.size)
  exact h3.trans ((Upd.row _ _ _).below h3.size (fun k hk => by omega))
theorem addOp_act (st : PSt) (o : OpV) : (addOp st o).act = st.act := by unfold addOp; split <;> rfl
theorem addOp_es (st : PSt) (o : OpV) : (addOp st o).es = st.es := by unfold addOp; split <;> rfl
theorem drop_at {ls : List Txt} {i : Nat} {l : Txt} (h : ls[i]? = some l) : ls.drop i = l :: ls.drop (i + 1) := by
  have hi : i < ls.length := (List.getElem?_eq_some_iff.1 h).1
  rw [List.drop_eq_getElem_cons hi]
  rw [List.getElem?_eq_getElem hi] at h
  rw [Option.some.inj h]
theorem RdL.bad {ls : List Txt} {w wr : World} {i : Nat} {st : PSt} {ev : Value} {l : Txt} (h : RdL ls w i st ev wr) (hl : ls[i]? = some l) (hn : lineF st l = none) : readF pst0 1 ls = .error (i + 1) := by
  rw [h.1, drop_at hl, readF, hn]
theorem RdL.next {ls : List Txt} {w wr w' : World} {i : Nat} {st st' : PSt} {ev ev' : Value} {l : Txt} (h : RdL ls w i st ev wr) (hl : ls[i]? = some l) (hn : lineF st l = some st') (hd : DS w' (w.heap.size + 1) st' (w.heap.size + 1) ev') (hb : Below (w.heap.size + 1) wr w') : RdL ls w (i + 1) st' ev' w' := by
  refine ⟨?_, hd, Blk.below hb h.2.2.1 (Nat.lt_succ_self _), h.2.2.2.1.trans (hb.mono (Nat.le_succ _)), h.2.2.2.2.line hn⟩
  rw [h.1, drop_at hl, readF, hn]
theorem no_frames {x : Txt} {ns : List Int} {cnt : Nat} (h : ¬ (x = framesW ∧ ∃ a, ns = [a])) (hc : ns.length = cnt) : ((x == ([102, 114, 97, 109, 101, 115] : Txt)) = false) ∨ ((x == ([102, 114, 97, 109, 101, 115] : Txt)) = true ∧ ((cnt : Int) == 1) = false ∧ decide ((cnt : Int) = 1) = false) := by
  subst hc
  by_cases he : x = framesW
  · have hn : ns.length ≠ 1 := fun e1 => match ns, e1, h with
      | [a], _, h => h ⟨he, a, rfl⟩
    refine .inr ⟨(beq_dec x framesW).trans (decide_eq_true he), ?_, ?_⟩
    all_goals (simp; omega)
  · exact .inl ((beq_dec x framesW).trans (decide_eq_false he))
theorem no_dog {x : Txt} {ns : List Int} {cnt : Nat} (h : ¬ (x = dogW ∧ ∃ a, ns = [a])) (hc : ns.length = cnt) : ((x == ([100, 111, 103] : Txt)) = false) ∨ ((x == ([100, 111, 103] : Txt)) = true ∧ ((cnt : Int) == 1) = false ∧ decide ((cnt : Int) = 1) = false) := by
  subst hc
  by_cases he : x = dogW
  · have hn : ns.length ≠ 1 := fun e1 => match ns, e1, h with
      | [a], _, h => h ⟨he, a, rfl⟩
    refine .inr ⟨(beq_dec x dogW).trans (decide_eq_true he), ?_, ?_⟩
    all_goals (simp; omega)
  · exact .inl ((beq_dec x dogW).trans (decide_eq_false he))
theorem no_mutex {x : Txt} {ns : List Int} {cnt : Nat} (h : ¬ (x = mutexW ∧ ∃ a b, ns = [a, b])) (hc : ns.length = cnt) : ((x == ([109, 117, 116, 101, 120] : Txt)) = false) ∨ ((x == ([109, 117, 116, 101, 120] : Txt)) = true ∧ ((cnt : Int) == 2) = false ∧ decide ((cnt : Int) = 2) = false) := by
  subst hc
  by_cases he : x = mutexW
  · have hn : ns.length ≠ 2 := fun e1 => match ns, e1, h with
      | [a, b], _, h => h ⟨he, a, b, rfl⟩
    refine .inr ⟨(beq_dec x mutexW).trans (decide_eq_true he), ?_, ?_⟩
    all_goals (simp; omega)
  · exact .inl ((beq_dec x mutexW).trans (decide_eq_false he))
theorem no_gap {x : Txt} {ns : List Int} {cnt : Nat} (h : ¬ (x = gapW ∧ ∃ a, ns = [a])) (hc : ns.length = cnt) : ((x == ([103, 97, 112] : Txt)) = false) ∨ ((x == ([103, 97, 112] : Txt)) = true ∧ ((cnt : Int) == 1) = false ∧ decide ((cnt : Int) = 1) = false) := by
  subst hc
  by_cases he : x = gapW
  · have hn : ns.length ≠ 1 := fun e1 => match ns, e1, h with
      | [a], _, h => h ⟨he, a, rfl⟩
    refine .inr ⟨(beq_dec x gapW).trans (decide_eq_true he), ?_, ?_⟩
    all_goals (simp; omega)
  · exact .inl ((beq_dec x gapW).trans (decide_eq_false he))
theorem no_task {x : Txt} {ns : List Int} {cnt : Nat} (h : ¬ (x = taskW ∧ ∃ a b c d e f us, ns = a :: b :: c :: d :: e :: f :: us)) (hc : ns.length = cnt) : ((x == ([116, 97, 115, 107] : Txt)) = false) ∨ ((x == ([116, 97, 115, 107] : Txt)) = true ∧ ¬ ((6 : Int) ≤ (cnt : Int)) ∧ decide ((6 : Int) ≤ (cnt : Int)) = false) := by
  subst hc
  by_cases he : x = taskW
  · have hn : ¬ 6 ≤ ns.length := fun e1 => match ns, e1, h with
      | a :: b :: c :: d :: e :: f :: us, _, h => h ⟨he, a, b, c, d, e, f, us, rfl⟩
    refine .inr ⟨(beq_dec x taskW).trans (decide_eq_true he), ?_, ?_⟩
    all_goals (simp; omega)
  · exact .inl ((beq_dec x taskW).trans (decide_eq_false he))
theorem no_best {x : Txt} {ns : List Int} {cnt : Nat} (h : ¬ (x = bestW ∧ ∃ a, ns = [a])) (hc : ns.length = cnt) : ((x == ([98, 101, 115, 116] : Txt)) = false) ∨ ((x == ([98, 101, 115, 116] : Txt)) = true ∧ ((cnt : Int) == 1) = false ∧ decide ((cnt : Int) = 1) = false) := by
  subst hc
  by_cases he : x = bestW
  · have hn : ns.length ≠ 1 := fun e1 => match ns, e1, h with
      | [a], _, h => h ⟨he, a, rfl⟩
    refine .inr ⟨(beq_dec x bestW).trans (decide_eq_true he), ?_, ?_⟩
    all_goals (simp; omega)
  · exact .inl ((beq_dec x bestW).trans (decide_eq_false he))
theorem no_at {x : Txt} {ns : List Int} {cnt : Nat} (h : ¬ (x = atW ∧ ∃ a b c, ns = [a, b, c])) (hc : ns.length = cnt) : ((x == ([97, 116] : Txt)) = false) ∨ ((x == ([97, 116] : Txt)) = true ∧ ((cnt : Int) == 3) = false ∧ decide ((cnt : Int) = 3) = false) := by
  subst hc
  by_cases he : x = atW
  · have hn : ns.length ≠ 3 := fun e1 => match ns, e1, h with
      | [a, b, c], _, h => h ⟨he, a, b, c, rfl⟩
    refine .inr ⟨(beq_dec x atW).trans (decide_eq_true he), ?_, ?_⟩
    all_goals (simp; omega)
  · exact .inl ((beq_dec x atW).trans (decide_eq_false he))
theorem do_no {st : PSt} {x : Txt} {ns : List Int} (h0 : ¬ (x = framesW ∧ ∃ a, ns = [a])) (h1 : ¬ (x = dogW ∧ ∃ a, ns = [a])) (h2 : ¬ (x = mutexW ∧ ∃ a b, ns = [a, b])) (h3 : ¬ (x = gapW ∧ ∃ a, ns = [a])) (h4 : ¬ (x = taskW ∧ ∃ a b c d e f us, ns = a :: b :: c :: d :: e :: f :: us)) (h5 : ¬ (x = bestW ∧ ∃ a, ns = [a])) (h6 : ¬ (x = atW ∧ ∃ a b c, ns = [a, b, c])) : doF st x ns = none := by
  unfold doF
  by_cases e0 : x = framesW
  · rw [if_pos e0]
    split
    · exact absurd ⟨e0, _, rfl⟩ h0
    · rfl
  rw [if_neg e0]
  by_cases e1 : x = dogW
  · rw [if_pos e1]
    split
    · exact absurd ⟨e1, _, rfl⟩ h1
    · rfl
  rw [if_neg e1]
  by_cases e2 : x = mutexW
  · rw [if_pos e2]
    split
    · exact absurd ⟨e2, _, _, rfl⟩ h2
    · rfl
  rw [if_neg e2]
  by_cases e3 : x = gapW
  · rw [if_pos e3]
    split
    · exact absurd ⟨e3, _, rfl⟩ h3
    · rfl
  rw [if_neg e3]
  by_cases e4 : x = taskW
  · rw [if_pos e4]
    split
    · exact absurd ⟨e4, _, _, _, _, _, _, _, rfl⟩ h4
    · rfl
  rw [if_neg e4]
  by_cases e5 : x = bestW
  · rw [if_pos e5]
    split
    · exact absurd ⟨e5, _, rfl⟩ h5
    · rfl
  rw [if_neg e5]
  by_cases e6 : x = atW
  · rw [if_pos e6]
    split
    · exact absurd ⟨e6, _, _, _, rfl⟩ h6
    · rfl
  rw [if_neg e6]
theorem rnums_none {w : World} {a : Option Addr} {ws : List Txt} (n c : Nat) (hr : RdT w a ws) (hn : ws.length = n) (hm : n ≤ 100000) (hl : ∀ x ∈ ws, x.length ≤ 10000000) (h : numsF ws = none) :
    Calls Tryz.prog 72 #[.slice a n c] w fun e w' => e = .returned (.tuple #[.slice none 0 0, .bool false]) ∧ Below w.heap.size w w' := (rnumbers_is n c hr hn hm hl).mono fun e w' hh => by
  unfold NumsV at hh
  rw [h] at hh
  exact ⟨hh.2, hh.1⟩
theorem rnums_some {w : World} {a : Option Addr} {ws : List Txt} (n c : Nat) (hr : RdT w a ws) (hn : ws.length = n) (hm : n ≤ 100000) (hl : ∀ x ∈ ws, x.length ≤ 10000000) {ns : List Int} (h : numsF ws = some ns) :
    Calls Tryz.prog 72 #[.slice a n c] w fun e w' => ∃ a' c' b, e = .returned (.tuple #[.slice a' ns.length c', .bool true]) ∧ IRow w' (.slice a' ns.length c') ns b ∧ (∀ g, b = some g → w.heap.size ≤ g) ∧ Below w.heap.size w w' := (rnumbers_is n c hr hn hm hl).mono fun e w' hh => by
  unfold NumsV at hh
  rw [h] at hh
  obtain ⟨hb, v, b, he, hI, hnb⟩ := hh
  obtain ⟨a', c', rfl⟩ := hI.slice
  exact ⟨a', c', b, he, hI, hnb, hb⟩
theorem slice_at {T E : TypeId} (hu : Tryz.prog.underlying T = some (.slice E)) {sz : Nat} (hi : (Tryz.prog.info? E).map (·.size) = some sz) (g n c k : Nat) (hk : k ≤ n) (hc : n ≤ c) (wx : World) :
    (Instr.slice T (.slice (some ⟨g, 0, none⟩) n c) (some (.int .i64 (k : Int))) none none).run Tryz.prog wx = .ok (.slice (some ⟨g, if c = k then 0 else k * sz, none⟩) (n - k) (c - k)) wx ∧
    (Instr.sliceAt T (.slice (some ⟨g, 0, none⟩) n c) (some (.int .i64 (k : Int))) none none).run Tryz.prog wx = .ok (.slice (some ⟨g, if c = k then 0 else k * sz, none⟩) (n - k) (c - k)) wx := by
  have ht : Tryz.prog.underlying T = some (.slice (Tryz.prog.elem T)) := by rw [hu]; simp [Program.elem, hu]
  have he : Tryz.prog.elem T = E := by simp [Program.elem, hu]
  have hs : (sizeOf (Tryz.prog.elem T)).run Tryz.prog wx = .ok sz wx := by
    rw [he]
    cases h : Tryz.prog.info? E with
    | none => rw [h] at hi; cases hi
    | some inf =>
      rw [h] at hi
      simp at hi
      simp [sizeOf, run_typeInfo wx h, Result.andThen, hi]
  have h1 : (Instr.slice T (.slice (some ⟨g, 0, none⟩) n c) (some (.int .i64 (k : Int))) none none).run Tryz.prog wx = .ok (.slice (some ⟨g, if c = k then 0 else k * sz, none⟩) (n - k) (c - k)) wx := by
    rw [run_slice_l wx T _ n c ht .i64 (k : Int) (by omega) (by omega), hs]
    simp only [Result.andThen, sliced, Int.toNat_natCast, Option.map_some]
    by_cases h : c = k
    · rw [if_pos h, if_pos h]
    · rw [if_neg h, if_neg h]
      have ea : (⟨g, 0, none⟩ : Addr).add (k * sz) = ⟨g, k * sz, none⟩ := by
        unfold Addr.add
        by_cases h0 : k * sz = 0
        · rw [h0]; rfl
        · rw [if_neg h0]; simp
      rw [ea]
  exact ⟨h1, by rw [run_sliceAt_slice wx T _ _ _ _ ht]; exact h1⟩
theorem slice_tl {w : World} {T E : TypeId} (hu : Tryz.prog.underlying T = some (.slice E)) (hi : (Tryz.prog.info? E).map (·.size) = some 1) {g n c : Nat} {x : Txt} {r : List Txt} (hT : RdT w (some ⟨g, 0, none⟩) (x :: r)) (hn : (x :: r).length = n) (hc : n ≤ c) :
    ∃ a', (∀ wx, (Instr.slice T (.slice (some ⟨g, 0, none⟩) n c) (some (.int .i64 1)) none none).run Tryz.prog wx = .ok (.slice a' (n - 1) (c - 1)) wx) ∧ (∀ wx, (Instr.sliceAt T (.slice (some ⟨g, 0, none⟩) n c) (some (.int .i64 1)) none none).run Tryz.prog wx = .ok (.slice a' (n - 1) (c - 1)) wx) ∧ RdT w a' r := by
  have h1 : 1 ≤ n := by simp at hn; omega
  refine ⟨_, fun wx => (slice_at hu hi g n c 1 h1 hc wx).1, fun wx => (slice_at hu hi g n c 1 h1 hc wx).2, ?_⟩
  by_cases h : c = 1
  · have hr : r = [] := List.eq_nil_of_length_eq_zero (by simp at hn; omega)
    subst hr
    intro k y hy
    cases hy
  · rw [if_neg h]; exact hT.tl
theorem slice_six {w w1 : World} {T E : TypeId} (hu : Tryz.prog.underlying T = some (.slice E)) (hi : (Tryz.prog.info? E).map (·.size) = some 1) {g n m c : Nat} {x0 x1 x2 x3 x4 x5 : Int} {us : List Int} {b : Option Nat} (hI : IRow w (.slice (some ⟨g, 0, none⟩) m c) (x0 :: x1 :: x2 :: x3 :: x4 :: x5 :: us) b) (hnb : ∀ g, b = some g → w1.heap.size ≤ g) (hn : (x0 :: x1 :: x2 :: x3 :: x4 :: x5 :: us).length = n) (hc : n ≤ c) :
    ∃ o, (∀ wx, (Instr.slice T (.slice (some ⟨g, 0, none⟩) n c) (some (.int .i64 6)) none none).run Tryz.prog wx = .ok (.slice (some ⟨g, o, none⟩) us.length (c - 6)) wx) ∧ (∀ wx, (Instr.sliceAt T (.slice (some ⟨g, 0, none⟩) n c) (some (.int .i64 6)) none none).run Tryz.prog wx = .ok (.slice (some ⟨g, o, none⟩) us.length (c - 6)) wx) ∧
      ∀ gb, (∀ k, gb = some k → k < w1.heap.size) → UsesOk w (.slice (some ⟨g, o, none⟩) us.length (c - 6)) us gb := by
  have hl : us.length = n - 6 := by simp at hn; omega
  have h1 : 6 ≤ n := by simp at hn; omega
  rw [hl]
  refine ⟨_, fun wx => (slice_at hu hi g n c 6 h1 hc wx).1, fun wx => (slice_at hu hi g n c 6 h1 hc wx).2, ?_⟩
  intro gb hgb
  rw [← hl]
  refine ⟨_, _, rfl, ?_⟩
  by_cases h : c = 6
  · exact .inl (List.eq_nil_of_length_eq_zero (by omega))
  · obtain ⟨g', hg⟩ := hI.has (by simp)
    obtain ⟨cap, rest, hv, hB, hc', hcn, hm⟩ := hI.blk g' hg
    simp only [Value.slice.injEq, Option.some.injEq, Addr.mk.injEq, true_and, and_true] at hv
    obtain ⟨rfl, _⟩ := hv
    rw [if_neg h]
    refine .inr ⟨g, 6 * 1, _, rfl, fun e => ?_, hB, fun k n hk => ?_⟩
    · have := hgb g e
      have := hnb g hg
      omega
    · have hl : k < us.length := (List.getElem?_eq_some_iff.1 hk).1
      rw [List.getElem?_toArray, List.getElem?_append_left (by simp; omega), List.getElem?_map]
      have : (x0 :: x1 :: x2 :: x3 :: x4 :: x5 :: us)[6 * 1 + k]? = us[k]? := by rw [Nat.add_comm]; rfl
      rw [this, hk]; rfl
theorem rd_end0 {w wr w2 : World} {zc : Array Value} (h1 : Below w.heap.size w wr) (h2 : Below wr.heap.size wr w2) : Below w.heap.size w (w2.setRow w.heap.size zc) := by
  have h := h1.trans (h2.mono h1.size)
  exact h.trans ((Upd.row _ _ _).below h.size (fun k hk => by omega))
theorem rd_exit {ls : List Txt} {w wr : World} {i : Nat} {st : PSt} {ev tv bv mv gv : Value} {tq : List TQ} {eq : List EQ} {tb bb mb gb eb : Option Nat} (h : RdL ls w i st ev wr) (hn : ls.length = i) (hd : DSC wr (w.heap.size + 1) st (w.heap.size + 1) ev tv bv mv gv tq eq tb bb mb gb eb) (cs : Array Value) :
    ReadV ls w (.returned (.tuple #[.agg (dsCs tv bv mv gv st.c.frames st.c.dog), ev, .int .i64 0])) (wr.setRow w.heap.size cs) := by
  have hr : readR ls = (st.c, st.es, 0) := by
    unfold readR
    rw [h.1, List.drop_eq_nil_of_le (by omega)]
    rfl
  have hu := Upd.row wr w.heap.size cs
  have hT : ∀ g cs T, Blk wr g cs T → g = w.heap.size → T = 41 := fun g cs T hB e => by
    subst e
    have h1 := h.2.2.1
    unfold Blk at hB h1
    rw [hB] at h1
    cases h1
    rfl
  refine ⟨tv, bv, mv, gv, ev, tq, eq, tb, bb, mb, gb, eb, ?_, ?_, ?_, ?_, ?_⟩
  · rw [hr]
  · rw [hr]
    exact (hd.2.2.2.1.keep hu (fun g cs T hB hf => by rw [hT g cs T hB hf]; exact cT)).weak (Nat.le_succ _)
  · rw [hr]
    refine hd.2.2.2.2.1.upd hu (fun g hg e => ?_)
    obtain ⟨_, _, _, hB, _⟩ := hd.2.2.2.2.1.blk g hg
    exact absurd (hT _ _ _ hB e) (by decide)
  · intro g hg
    have := hd.2.2.2.2.2.1 g hg
    omega
  · exact h.2.2.2.1.trans (hu.below h.2.2.2.1.size (fun k hk => by omega))

/-! ### the loop's body, taken out of the function -/
def firstLoop : Code → Option Code
  | .loop c => some c
  | .seq a b => match firstLoop a with
    | some c => some c
    | none => firstLoop b
  | .block _ c => firstLoop c
  | .scope c => firstLoop c
  | .cond _ a b => match firstLoop a with
    | some c => some c
    | none => firstLoop b
  | _ => none
noncomputable def rdBody : Code := ((Tryz.f32.body.bind firstLoop).getD .skip)
/-- what a round leaves -/
def RdNext (ls : List Txt) (w : World) (a : Option Addr) (n c i : Nat) (Q : Exit → Act → World → Prop) : Prop := ∀ (u3 u4 u9 u10 u11 u12 u13 u14 u15 u16 u17 u18 u19 u20 u21 u22 u23 u24 u25 u26 u27 u28 u29 u30 u31 u32 u33 u34 u35 u36 u37 u38 u39 u40 u41 u42 u43 u44 u45 u46 u47 u48 u49 u50 u51 u52 u53 u54 u55 u56 u57 u58 u59 u60 u61 u62 u63 u64 u65 u66 u67 u68 u69 u70 u71 u72 u73 u74 u75 u76 u77 u78 u79 u80 u81 u82 u83 u84 u85 u86 u87 u88 u89 u90 u91 u92 u93 u94 u95 u96 u97 u98 u99 u100 u101 u102 u103 u104 u105 u106 u107 u108 u109 u110 u111 u112 u113 u114 u115 u116 u117 u118 u119 u120 u121 u122 u123 u124 u125 u126 u127 u128 u129 u130 u131 u132 u133 u134 u135 u136 u137 u138 u139 u140 u141 u142 u143 u144 u145 u146 u147 u148 u149 u150 u151 u152 u153 u154 u155 u156 u157 u158 u159 u160 u161 u162 u163 u164 u165 u166 u167 u168 u169 u170 u171 u172 u173 u174 u175 u176 u177 u178 u179 u180 u181 u182 u183 u184 u185 u186 u187 u188 u189 u190 u191 u192 u193 u194 u195 u196 u197 u198 u199 u200 u201 u202 u203 u204 u205 u206 u207 u208 u209 u210 u211 u212 u213 u214 u215 u216 u217 u218 u219 u220 u221 u222 u223 u224 u225 u226 u227 u228 u229 u230 u231 u232 u233 u234 u235 u236 u237 u238 u239 u240 u241 u242 u243 u244 u245 u246 u247 u248 u249 u250 u251 u252 v6 v7 v8 : Value) (st' : PSt) (w' : World), v7 = .int .i64 st'.act → v8 = .int .i64 ((i + 1 : Nat) : Int) → Hid (RdL ls w (i + 1) st' v6 w') → Q .normal ⟨#[.slice a n c, undef, .pointer (some ⟨w.heap.size, 0, none⟩), u3, u4, .pointer (some ⟨w.heap.size + 1, 0, none⟩), v6, v7, v8, u9, u10, u11, u12, u13, u14, u15, u16, u17, u18, u19, u20, u21, u22, u23, u24, u25, u26, u27, u28, u29, u30, u31, u32, u33, u34, u35, u36, u37, u38, u39, u40, u41, u42, u43, u44, u45, u46, u47, u48, u49, u50, u51, u52, u53, u54, u55, u56, u57, u58, u59, u60, u61, u62, u63, u64, u65, u66, u67, u68, u69, u70, u71, u72, u73, u74, u75, u76, u77, u78, u79, u80, u81, u82, u83, u84, u85, u86, u87, u88, u89, u90, u91, u92, u93, u94, u95, u96, u97, u98, u99, u100, u101, u102, u103, u104, u105, u106, u107, u108, u109, u110, u111, u112, u113, u114, u115, u116, u117, u118, u119, u120, u121, u122, u123, u124, u125, u126, u127, u128, u129, u130, u131, u132, u133, u134, u135, u136, u137, u138, u139, u140, u141, u142, u143, u144, u145, u146, u147, u148, u149, u150, u151, u152, u153, u154, u155, u156, u157, u158, u159, u160, u161, u162, u163, u164, u165, u166, u167, u168, u169, u170, u171, u172, u173, u174, u175, u176, u177, u178, u179, u180, u181, u182, u183, u184, u185, u186, u187, u188, u189, u190, u191, u192, u193, u194, u195, u196, u197, u198, u199, u200, u201, u202, u203, u204, u205, u206, u207, u208, u209, u210, u211, u212, u213, u214, u215, u216, u217, u218, u219, u220, u221, u222, u223, u224, u225, u226, u227, u228, u229, u230, u231, u232, u233, u234, u235, u236, u237, u238, u239, u240, u241, u242, u243, u244, u245, u246, u247, u248, u249, u250, u251, u252, undef, undef], []⟩ w'
def RdRet (ls : List Txt) (w : World) (Q : Exit → Act → World → Prop) : Prop := ∀ a' w', bodyPost Tryz.prog Tryz.f32 (ReadV ls w) .ret a' w' → Q .ret a' w'
theorem RdNext.go {ls : List Txt} {w : World} {a : Option Addr} {n c i : Nat} {Q : Exit → Act → World → Prop} (h : RdNext ls w a n c i Q) {u3 u4 u9 u10 u11 u12 u13 u14 u15 u16 u17 u18 u19 u20 u21 u22 u23 u24 u25 u26 u27 u28 u29 u30 u31 u32 u33 u34 u35 u36 u37 u38 u39 u40 u41 u42 u43 u44 u45 u46 u47 u48 u49 u50 u51 u52 u53 u54 u55 u56 u57 u58 u59 u60 u61 u62 u63 u64 u65 u66 u67 u68 u69 u70 u71 u72 u73 u74 u75 u76 u77 u78 u79 u80 u81 u82 u83 u84 u85 u86 u87 u88 u89 u90 u91 u92 u93 u94 u95 u96 u97 u98 u99 u100 u101 u102 u103 u104 u105 u106 u107 u108 u109 u110 u111 u112 u113 u114 u115 u116 u117 u118 u119 u120 u121 u122 u123 u124 u125 u126 u127 u128 u129 u130 u131 u132 u133 u134 u135 u136 u137 u138 u139 u140 u141 u142 u143 u144 u145 u146 u147 u148 u149 u150 u151 u152 u153 u154 u155 u156 u157 u158 u159 u160 u161 u162 u163 u164 u165 u166 u167 u168 u169 u170 u171 u172 u173 u174 u175 u176 u177 u178 u179 u180 u181 u182 u183 u184 u185 u186 u187 u188 u189 u190 u191 u192 u193 u194 u195 u196 u197 u198 u199 u200 u201 u202 u203 u204 u205 u206 u207 u208 u209 u210 u211 u212 u213 u214 u215 u216 u217 u218 u219 u220 u221 u222 u223 u224 u225 u226 u227 u228 u229 u230 u231 u232 u233 u234 u235 u236 u237 u238 u239 u240 u241 u242 u243 u244 u245 u246 u247 u248 u249 u250 u251 u252 v6 v7 v8 : Value} (st' : PSt) {w' : World} (h7 : v7 = .int .i64 st'.act) (h8 : v8 = .int .i64 ((i + 1 : Nat) : Int)) (H : Hid (RdL ls w (i + 1) st' v6 w')) : Q .normal ⟨#[.slice a n c, undef, .pointer (some ⟨w.heap.size, 0, none⟩), u3, u4, .pointer (some ⟨w.heap.size + 1, 0, none⟩), v6, v7, v8, u9, u10, u11, u12, u13, u14, u15, u16, u17, u18, u19, u20, u21, u22, u23, u24, u25, u26, u27, u28, u29, u30, u31, u32, u33, u34, u35, u36, u37, u38, u39, u40, u41, u42, u43, u44, u45, u46, u47, u48, u49, u50, u51, u52, u53, u54, u55, u56, u57, u58, u59, u60, u61, u62, u63, u64, u65, u66, u67, u68, u69, u70, u71, u72, u73, u74, u75, u76, u77, u78, u79, u80, u81, u82, u83, u84, u85, u86, u87, u88, u89, u90, u91, u92, u93, u94, u95, u96, u97, u98, u99, u100, u101, u102, u103, u104, u105, u106, u107, u108, u109, u110, u111, u112, u113, u114, u115, u116, u117, u118, u119, u120, u121, u122, u123, u124, u125, u126, u127, u128, u129, u130, u131, u132, u133, u134, u135, u136, u137, u138, u139, u140, u141, u142, u143, u144, u145, u146, u147, u148, u149, u150, u151, u152, u153, u154, u155, u156, u157, u158, u159, u160, u161, u162, u163, u164, u165, u166, u167, u168, u169, u170, u171, u172, u173, u174, u175, u176, u177, u178, u179, u180, u181, u182, u183, u184, u185, u186, u187, u188, u189, u190, u191, u192, u193, u194, u195, u196, u197, u198, u199, u200, u201, u202, u203, u204, u205, u206, u207, u208, u209, u210, u211, u212, u213, u214, u215, u216, u217, u218, u219, u220, u221, u222, u223, u224, u225, u226, u227, u228, u229, u230, u231, u232, u233, u234, u235, u236, u237, u238, u239, u240, u241, u242, u243, u244, u245, u246, u247, u248, u249, u250, u251, u252, undef, undef], []⟩ w' :=
  h u3 u4 u9 u10 u11 u12 u13 u14 u15 u16 u17 u18 u19 u20 u21 u22 u23 u24 u25 u26 u27 u28 u29 u30 u31 u32 u33 u34 u35 u36 u37 u38 u39 u40 u41 u42 u43 u44 u45 u46 u47 u48 u49 u50 u51 u52 u53 u54 u55 u56 u57 u58 u59 u60 u61 u62 u63 u64 u65 u66 u67 u68 u69 u70 u71 u72 u73 u74 u75 u76 u77 u78 u79 u80 u81 u82 u83 u84 u85 u86 u87 u88 u89 u90 u91 u92 u93 u94 u95 u96 u97 u98 u99 u100 u101 u102 u103 u104 u105 u106 u107 u108 u109 u110 u111 u112 u113 u114 u115 u116 u117 u118 u119 u120 u121 u122 u123 u124 u125 u126 u127 u128 u129 u130 u131 u132 u133 u134 u135 u136 u137 u138 u139 u140 u141 u142 u143 u144 u145 u146 u147 u148 u149 u150 u151 u152 u153 u154 u155 u156 u157 u158 u159 u160 u161 u162 u163 u164 u165 u166 u167 u168 u169 u170 u171 u172 u173 u174 u175 u176 u177 u178 u179 u180 u181 u182 u183 u184 u185 u186 u187 u188 u189 u190 u191 u192 u193 u194 u195 u196 u197 u198 u199 u200 u201 u202 u203 u204 u205 u206 u207 u208 u209 u210 u211 u212 u213 u214 u215 u216 u217 u218 u219 u220 u221 u222 u223 u224 u225 u226 u227 u228 u229 u230 u231 u232 u233 u234 u235 u236 u237 u238 u239 u240 u241 u242 u243 u244 u245 u246 u247 u248 u249 u250 u251 u252 v6 v7 v8 st' w' h7 h8 H
end Go.Proofs.YtefaaginedideaaGreatDoor
