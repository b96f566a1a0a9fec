/-
  Scripts, plain: what is printed is read again.
-/
import Derived.Test.YtefaaginedideaaGreatDoorSBk
import Derived.Test.YtefaaginedideaaGreatDoorPrP
namespace Go.Proofs.YtefaaginedideaaGreatDoor
set_option linter.unusedSimpArgs false
set_option linter.unusedVariables false
open Go.RowKit Own RegJ
open Go.Lib hiding intOf

/-! ### lines -/
def joinL (ls : List Txt) : Txt := ls.flatMap fun l => l ++ [10]
theorem joinL_cons (l : Txt) (r : List Txt) : joinL (l :: r) = l ++ 10 :: joinL r := by unfold joinL; rw [List.flatMap_cons]; simp
theorem joinL_app (a b : List Txt) : joinL (a ++ b) = joinL a ++ joinL b := by unfold joinL; rw [List.flatMap_append]
theorem joinL_map {α : Type} (f : α → Txt) (l : List α) : joinL (l.map f) = l.flatMap fun x => f x ++ [10] := by unfold joinL; rw [List.flatMap_map]
theorem spc_join : ∀ ls : List Txt, (∀ l ∈ ls, (10 : UInt8) ∉ l) → spc 10 (joinL ls) = ls ++ [[]]
  | [], _ => rfl
  | l :: r, h => by
    rw [joinL_cons, spc_app 10 l _ (h l (by simp)), spc_join r (fun x hx => h x (by simp [hx]))]; rfl
theorem lines_join (ls : List Txt) (h : ∀ l ∈ ls, (10 : UInt8) ∉ l) : linesF (joinL ls) = ls := by
  cases ls with
  | nil => rfl
  | cons l r =>
    unfold linesF
    rw [if_neg (by rw [joinL_cons]; simp), spc_join _ h, if_pos List.getLast?_concat, List.dropLast_concat]
/-! ### a line of numbers -/
theorem spc_nums : ∀ (ns : List Int) (word : Txt), (32 : UInt8) ∉ word → (∀ n ∈ ns, goodB n = true) → spc 32 (lineT word ns) = word :: ns.map itoa
  | [], word, hw, _ => by unfold lineT numsT; simp; exact spc_no 32 word hw
  | n :: r, word, hw, hg => by
    have h0 := hg n (by simp)
    unfold goodB at h0
    simp only [Bool.and_eq_true, decide_eq_true_eq] at h0
    have ih := spc_nums r (itoa n) (itoa_no h0.1).1 (fun x hx => hg x (by simp [hx]))
    unfold lineT numsT at ih ⊢
    rw [List.flatMap_cons, List.cons_append, spc_app 32 word _ hw, ih]
    rfl
theorem nums_back : ∀ (ns : List Int), (∀ n ∈ ns, goodB n = true) → numsF (ns.map itoa) = some ns
  | [], _ => rfl
  | n :: r, hg => by
    have h0 := hg n (by simp)
    unfold goodB at h0
    simp only [Bool.and_eq_true, decide_eq_true_eq] at h0
    rw [List.map_cons, numsF, num_itoa h0.1 h0.2, nums_back r (fun x hx => hg x (by simp [hx]))]
    rfl
theorem nums_no : ∀ (ns : List Int) (word : Txt), (10 : UInt8) ∉ word → (∀ n ∈ ns, goodB n = true) → (10 : UInt8) ∉ lineT word ns := by
  intro ns word hw hg h
  unfold lineT numsT at h
  rw [List.mem_append, List.mem_flatMap] at h
  rcases h with h | ⟨n, hn, h⟩
  · exact hw h
  · have h0 := hg n hn
    unfold goodB at h0
    simp only [Bool.and_eq_true, decide_eq_true_eq] at h0
    rw [List.mem_cons] at h
    rcases h with h | h
    · cases h
    · exact (itoa_no h0.1).2 h
theorem line_back (st : PSt) (word : Txt) (ns : List Int) (hw : (32 : UInt8) ∉ word) (h1 : word ≠ opW) (h2 : word ≠ callW) (hg : ∀ n ∈ ns, goodB n = true) : lineF st (lineT word ns) = doF st word ns := by
  unfold lineF
  rw [spc_nums ns word hw hg]
  simp only
  rw [if_neg (by intro h; rcases h with h | h; exact h1 h; exact h2 h), nums_back ns hg]
/-! ### a step's line -/
theorem goods_may {o : OpV} (h : mayO o = true) : ∀ n ∈ [o.k, o.a, o.b, o.c], goodB n = true := by
  have := mayO_le h
  intro n hn
  simp at hn
  rcases hn with rfl | rfl | rfl | rfl <;> exact good_small (by omega) (by omega)
theorem goods_call {o : OpV} (h : mayO o = true) : ∀ n ∈ [o.y, o.p, o.q], goodB n = true := by
  have := mayO_le h
  intro n hn
  simp at hn
  rcases hn with rfl | rfl | rfl <;> exact good_small (by omega) (by omega)
theorem op_back (st : PSt) (o : OpV) (h : mayO o = true) (ha : st.act ≠ 0) : lineF st (opT o) = some (addOp st o) := by
  by_cases hk : o.k = 10
  · obtain ⟨e1, e2, e3⟩ := mayO_call h hk
    have eo : opCall o.y o.p o.q o.s o.t = o := OpV.ext' hk.symm e1.symm e2.symm e3.symm rfl rfl rfl rfl rfl
    have hs : spc 32 (opT o) = callW :: [itoa o.y, itoa o.p, itoa o.q, quoteT o.s, quoteT o.t] := by
      have e : opT o = lineT callW [o.y, o.p, o.q] ++ 32 :: (quoteT o.s ++ 32 :: quoteT o.t) := by rw [opT_call hk]; simp
      rw [e, spc_cat, spc_cat, spc_nums _ callW (by decide) (goods_call h), spc_no 32 _ (quote_no o.s).1, spc_no 32 _ (quote_no o.t).1]
      rfl
    unfold lineF
    rw [hs]
    simp only
    rw [if_pos (.inr trivial), if_neg ha]
    unfold stepF
    simp only
    rw [if_neg (by decide), show [itoa o.y, itoa o.p, itoa o.q] = [o.y, o.p, o.q].map itoa from rfl, nums_back _ (goods_call h), unquote_quote, unquote_quote]
    simp only
    rw [eo, if_pos h]
    rfl
  · obtain ⟨e1, e2, e3, e4, e5⟩ := mayO_op h hk
    have eo : opNums o.k o.a o.b o.c = o := OpV.ext' rfl rfl rfl rfl e1.symm e2.symm e3.symm e4.symm e5.symm
    have e : opT o = lineT opW [o.k, o.a, o.b, o.c] := by unfold opT; rw [if_neg hk]
    unfold lineF
    rw [e, spc_nums _ opW (by decide) (goods_may h)]
    simp only
    rw [if_pos (.inl trivial), if_neg ha]
    unfold stepF
    simp only
    rw [if_pos trivial, nums_back _ (goods_may h)]
    simp only
    rw [eo, if_pos ⟨hk, h⟩]
    rfl
theorem op_no (o : OpV) (h : mayO o = true) : (10 : UInt8) ∉ opT o := by
  by_cases hk : o.k = 10
  · rw [opT_call hk]
    intro hm
    simp only [List.mem_append, List.mem_singleton] at hm
    rcases hm with (((hm | hm) | hm) | hm) | hm
    · exact nums_no _ callW (by decide) (goods_call h) hm
    · cases hm
    · exact (quote_no o.s).2 hm
    · cases hm
    · exact (quote_no o.t).2 hm
  · unfold opT
    rw [if_neg hk]
    exact nums_no _ opW (by decide) (goods_may h)
/-! ### many lines -/
def Rds (st : PSt) (ls : List Txt) (st' : PSt) : Prop := ∀ i, readF st i ls = .ok st'
theorem Rds.nil (st : PSt) : Rds st [] st := fun i => rfl
theorem Rds.cons {st s1 st' : PSt} {l : Txt} {r : List Txt} (h : lineF st l = some s1) (h2 : Rds s1 r st') : Rds st (l :: r) st' := fun i => by rw [readF, h]; exact h2 _
theorem Rds.app {st s1 st' : PSt} {a b : List Txt} (h1 : Rds st a s1) (h2 : Rds s1 b st') : Rds st (a ++ b) st' := fun i => by rw [read_cat, h1 i]; exact h2 _
theorem rds_mtx : ∀ (ms : List (Int × Int)) (st : PSt), (∀ m ∈ ms, goodB m.1 = true ∧ goodB m.2 = true) → Rds st (ms.map fun m => lineT mutexW [m.1, m.2]) { st with c := { st.c with mtx := st.c.mtx ++ ms } }
  | [], st, _ => by rw [List.append_nil]; exact Rds.nil st
  | m :: r, st, h => by
    have h0 := h m (by simp)
    refine Rds.cons (s1 := { st with c := { st.c with mtx := st.c.mtx ++ [m] } }) ?_ ?_
    · rw [line_back _ _ _ (by decide) (by decide) (by decide) (by intro n hn; simp at hn; rcases hn with rfl | rfl; exact h0.1; exact h0.2)]; rfl
    · have := rds_mtx r { st with c := { st.c with mtx := st.c.mtx ++ [m] } } (fun x hx => h x (by simp [hx]))
      simpa using this
theorem rds_gap : ∀ (ms : List Int) (st : PSt), (∀ m ∈ ms, goodB m = true) → Rds st (ms.map fun m => lineT gapW [m]) { st with c := { st.c with gaps := st.c.gaps ++ ms } }
  | [], st, _ => by rw [List.append_nil]; exact Rds.nil st
  | m :: r, st, h => by
    have h0 := h m (by simp)
    refine Rds.cons (s1 := { st with c := { st.c with gaps := st.c.gaps ++ [m] } }) ?_ ?_
    · rw [line_back _ _ _ (by decide) (by decide) (by decide) (by intro n hn; simp at hn; subst hn; exact h0)]; rfl
    · have := rds_gap r { st with c := { st.c with gaps := st.c.gaps ++ [m] } } (fun x hx => h x (by simp [hx]))
      simpa using this
theorem modLast_snoc {α : Type} (f : α → α) (l : List α) (x : α) : modLast f (l ++ [x]) = l ++ [f x] := by unfold modLast; simp
theorem rds_tops : ∀ (os : List OpV) (L : List TaskV) (t : TaskV) (b : List EffV) (m : List (Int × Int)) (g : List Int) (f d : Int) (es : List EvV), (∀ o ∈ os, mayO o = true) → Rds ⟨⟨L ++ [t], b, m, g, f, d⟩, es, 1⟩ (os.map opT) ⟨⟨L ++ [{ t with prog := t.prog ++ os }], b, m, g, f, d⟩, es, 1⟩
  | [], L, t, b, m, g, f, d, es, _ => by rw [List.append_nil]; exact Rds.nil _
  | o :: r, L, t, b, m, g, f, d, es, h => by
    refine Rds.cons (op_back _ o (h o (by simp)) (by show (1 : Nat) ≠ 0; decide)) ?_
    have := rds_tops r L { t with prog := t.prog ++ [o] } b m g f d es (fun x hx => h x (by simp [hx]))
    unfold addOp
    rw [if_pos rfl, modLast_snoc]
    simpa using this
theorem rds_bops : ∀ (os : List OpV) (L : List EffV) (t : EffV) (b : List TaskV) (m : List (Int × Int)) (g : List Int) (f d : Int) (es : List EvV), (∀ o ∈ os, mayO o = true) → Rds ⟨⟨b, L ++ [t], m, g, f, d⟩, es, 2⟩ (os.map opT) ⟨⟨b, L ++ [{ t with prog := t.prog ++ os }], m, g, f, d⟩, es, 2⟩
  | [], L, t, b, m, g, f, d, es, _ => by rw [List.append_nil]; exact Rds.nil _
  | o :: r, L, t, b, m, g, f, d, es, h => by
    refine Rds.cons (op_back _ o (h o (by simp)) (by show (2 : Nat) ≠ 0; decide)) ?_
    have := rds_bops r L { t with prog := t.prog ++ [o] } b m g f d es (fun x hx => h x (by simp [hx]))
    unfold addOp
    rw [if_neg (by show ¬ (2 : Nat) = 1; decide), modLast_snoc]
    simpa using this
def taskL (t : TaskV) : List Txt := lineT taskW (taskNs t) :: t.prog.map opT
def effL (b : EffV) : List Txt := lineT bestW [b.lv] :: b.prog.map opT
theorem task_goods {t : TaskV} (h : okTask t = true) : (∀ n ∈ taskNs t, goodB n = true) ∧ ∀ o ∈ t.prog, mayO o = true := by
  unfold okTask okOps at h
  rw [Bool.and_eq_true, List.all_eq_true, List.all_eq_true] at h
  exact h
theorem eff_goods {t : EffV} (h : okEff t = true) : (∀ n ∈ [t.lv], goodB n = true) ∧ ∀ o ∈ t.prog, mayO o = true := by
  unfold okEff okOps at h
  rw [Bool.and_eq_true, List.all_eq_true] at h
  exact ⟨by intro n hn; simp at hn; subst hn; exact h.1, h.2⟩
theorem ev_goods {e : EvV} (h : okEv e = true) : ∀ n ∈ [e.tick, e.line + 1, e.task], goodB n = true := by
  unfold okEv at h
  rw [Bool.and_eq_true, Bool.and_eq_true] at h
  intro n hn; simp at hn
  rcases hn with rfl | rfl | rfl
  · exact h.1.1
  · exact h.1.2
  · exact h.2
theorem rds_task : ∀ (ts L : List TaskV) (b : List EffV) (m : List (Int × Int)) (g : List Int) (f d : Int) (es : List EvV) (a : Nat), (∀ t ∈ ts, okTask t = true) → ∃ a', Rds ⟨⟨L, b, m, g, f, d⟩, es, a⟩ (ts.flatMap taskL) ⟨⟨L ++ ts, b, m, g, f, d⟩, es, a'⟩
  | [], L, b, m, g, f, d, es, a, _ => ⟨a, by rw [List.append_nil]; exact Rds.nil _⟩
  | t :: r, L, b, m, g, f, d, es, a, h => by
    obtain ⟨h1, h2⟩ := task_goods (h t (by simp))
    obtain ⟨a', ih⟩ := rds_task r (L ++ [t]) b m g f d es 1 (fun x hx => h x (by simp [hx]))
    refine ⟨a', ?_⟩
    rw [List.flatMap_cons]
    have hl : lineF ⟨⟨L, b, m, g, f, d⟩, es, a⟩ (lineT taskW (taskNs t)) = some ⟨⟨L ++ [{ t with prog := [] }], b, m, g, f, d⟩, es, 1⟩ := by
      rw [line_back _ _ _ (by decide) (by decide) (by decide) h1]
      unfold taskNs doF
      rw [if_neg (by decide), if_neg (by decide), if_neg (by decide), if_neg (by decide), if_pos rfl]
      simp only [List.cons_append, List.nil_append]
      rw [show t.li + 1 - 1 = t.li by omega]
    have ho := rds_tops t.prog L { t with prog := [] } b m g f d es h2
    simp only [List.nil_append] at ho
    refine Rds.app (Rds.cons hl ho) ?_
    simpa using ih
theorem rds_eff : ∀ (ts L : List EffV) (b : List TaskV) (m : List (Int × Int)) (g : List Int) (f d : Int) (es : List EvV) (a : Nat), (∀ t ∈ ts, okEff t = true) → ∃ a', Rds ⟨⟨b, L, m, g, f, d⟩, es, a⟩ (ts.flatMap effL) ⟨⟨b, L ++ ts, m, g, f, d⟩, es, a'⟩
  | [], L, b, m, g, f, d, es, a, _ => ⟨a, by rw [List.append_nil]; exact Rds.nil _⟩
  | t :: r, L, b, m, g, f, d, es, a, h => by
    obtain ⟨h1, h2⟩ := eff_goods (h t (by simp))
    obtain ⟨a', ih⟩ := rds_eff r (L ++ [t]) b m g f d es 2 (fun x hx => h x (by simp [hx]))
    refine ⟨a', ?_⟩
    rw [List.flatMap_cons]
    have hl : lineF ⟨⟨b, L, m, g, f, d⟩, es, a⟩ (lineT bestW [t.lv]) = some ⟨⟨b, L ++ [{ t with prog := [] }], m, g, f, d⟩, es, 2⟩ := by
      rw [line_back _ _ _ (by decide) (by decide) (by decide) h1]
      rfl
    have ho := rds_bops t.prog L { t with prog := [] } b m g f d es h2
    simp only [List.nil_append] at ho
    refine Rds.app (Rds.cons hl ho) ?_
    simpa using ih
theorem rds_ev : ∀ (es E : List EvV) (c : CfgV) (a : Nat), (∀ e ∈ es, okEv e = true) → Rds ⟨c, E, a⟩ (es.map fun e => lineT atW [e.tick, e.line + 1, e.task]) ⟨c, E ++ es, a⟩
  | [], E, c, a, _ => by rw [List.append_nil]; exact Rds.nil _
  | e :: r, E, c, a, h => by
    have hl : lineF ⟨c, E, a⟩ (lineT atW [e.tick, e.line + 1, e.task]) = some ⟨c, E ++ [e], a⟩ := by
      rw [line_back _ _ _ (by decide) (by decide) (by decide) (ev_goods (h e (by simp)))]
      show some (⟨c, E ++ [⟨e.tick, e.line + 1 - 1, e.task⟩], a⟩ : PSt) = _
      rw [show e.line + 1 - 1 = e.line by omega]
    have ih := rds_ev r (E ++ [e]) c a (fun x hx => h x (by simp [hx]))
    refine Rds.cons hl ?_
    simpa using ih
def cfgL (c : CfgV) (es : List EvV) : List Txt :=
  [lineT framesW [c.frames], lineT dogW [c.dog]] ++ c.mtx.map (fun m => lineT mutexW [m.1, m.2]) ++ c.gaps.map (fun m => lineT gapW [m]) ++ c.tasks.flatMap taskL ++ c.best.flatMap effL ++ es.map (fun e => lineT atW [e.tick, e.line + 1, e.task])
theorem joinL_fm {α : Type} (f : α → List Txt) : ∀ l : List α, joinL (l.flatMap f) = l.flatMap fun x => joinL (f x)
  | [] => rfl
  | x :: r => by rw [List.flatMap_cons, List.flatMap_cons, joinL_app, joinL_fm f r]
theorem joinL_task (t : TaskV) : joinL (taskL t) = taskT t := by
  unfold taskL taskT opsT
  rw [joinL_cons, joinL_map]; simp
theorem joinL_eff (t : EffV) : joinL (effL t) = effT t := by
  unfold effL effT opsT
  rw [joinL_cons, joinL_map]; simp
theorem cfg_join (c : CfgV) (es : List EvV) : joinL (cfgL c es) = cfgT c es := by
  unfold cfgL cfgT
  rw [joinL_app, joinL_app, joinL_app, joinL_app, joinL_app, joinL_map, joinL_map, joinL_map, joinL_fm, joinL_fm]
  rw [show (fun x => joinL (taskL x)) = taskT from funext joinL_task, show (fun x => joinL (effL x)) = effT from funext joinL_eff]
  rw [joinL_cons, joinL_cons]
  unfold evT joinL
  simp
theorem cfg_no {c : CfgV} {es : List EvV} (h : okCfg c es = true) : ∀ l ∈ cfgL c es, (10 : UInt8) ∉ l := by
  obtain ⟨h1, h2, h3, h4, h5, h6, h7⟩ := okCfg_parts h
  intro l hl
  unfold cfgL at hl
  simp only [List.mem_append, List.mem_map, List.mem_flatMap, List.mem_cons, List.not_mem_nil, or_false] at hl
  rcases hl with ((((((rfl | rfl) | ⟨m, hm, rfl⟩) | ⟨m, hm, rfl⟩) | ⟨t, ht, hl⟩) | ⟨t, ht, hl⟩) | ⟨e, he, rfl⟩)
  · exact nums_no _ _ (by decide) (by intro n hn; simp at hn; subst hn; exact h1)
  · exact nums_no _ _ (by decide) (by intro n hn; simp at hn; subst hn; exact h2)
  · exact nums_no _ _ (by decide) (by intro n hn; simp at hn; rcases hn with rfl | rfl; exact (h3 m hm).1; exact (h3 m hm).2)
  · exact nums_no _ _ (by decide) (by intro n hn; simp at hn; subst hn; exact h4 _ hm)
  · obtain ⟨g1, g2⟩ := task_goods (h5 t ht)
    unfold taskL at hl
    rw [List.mem_cons, List.mem_map] at hl
    rcases hl with rfl | ⟨o, ho, rfl⟩
    · exact nums_no _ _ (by decide) g1
    · exact op_no o (g2 o ho)
  · obtain ⟨g1, g2⟩ := eff_goods (h6 t ht)
    unfold effL at hl
    rw [List.mem_cons, List.mem_map] at hl
    rcases hl with rfl | ⟨o, ho, rfl⟩
    · exact nums_no _ _ (by decide) g1
    · exact op_no o (g2 o ho)
  · exact nums_no _ _ (by decide) (ev_goods (h7 e he))
theorem cfg_reads {c : CfgV} {es : List EvV} (h : okCfg c es = true) : ∃ a, Rds pst0 (cfgL c es) ⟨c, es, a⟩ := by
  obtain ⟨h1, h2, h3, h4, h5, h6, h7⟩ := okCfg_parts h
  obtain ⟨a1, r1⟩ := rds_task c.tasks [] [] c.mtx c.gaps c.frames c.dog [] 0 h5
  obtain ⟨a2, r2⟩ := rds_eff c.best [] c.tasks c.mtx c.gaps c.frames c.dog [] a1 h6
  have r3 := rds_ev es [] c a2 h7
  have r4 := rds_mtx c.mtx ⟨⟨[], [], [], [], c.frames, c.dog⟩, [], 0⟩ h3
  have r5 := rds_gap c.gaps ⟨⟨[], [], c.mtx, [], c.frames, c.dog⟩, [], 0⟩ h4
  refine ⟨a2, ?_⟩
  unfold cfgL
  refine Rds.app (Rds.app (Rds.app (Rds.app (Rds.app ?_ r4) r5) r1) r2) r3
  refine Rds.cons (s1 := ⟨⟨[], [], [], [], c.frames, 0⟩, [], 0⟩) ?_ (Rds.cons (s1 := ⟨⟨[], [], [], [], c.frames, c.dog⟩, [], 0⟩) ?_ (Rds.nil _))
  · rw [line_back _ _ _ (by decide) (by decide) (by decide) (by intro n hn; simp at hn; subst hn; exact h1)]; rfl
  · rw [line_back _ _ _ (by decide) (by decide) (by decide) (by intro n hn; simp at hn; subst hn; exact h2)]; rfl
/-- what is printed is read again -/
theorem print_back {c : CfgV} {es : List EvV} (h : printE c es = 0) : parseF (printT c es) = (c, es, 0, 0) := by
  unfold printT
  rw [if_pos h]
  unfold printE at h
  split at h
  · cases h
  · rename_i hok
    have hok : okCfg c es = true := by simpa using hok
    split at h
    · cases h
    · rename_i hl
      obtain ⟨a, hr⟩ := cfg_reads hok
      unfold parseF
      rw [if_neg hl, ← cfg_join, lines_join _ (cfg_no hok), hr 1]
end Go.Proofs.YtefaaginedideaaGreatDoor
