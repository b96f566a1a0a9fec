/-
  A file of the store's is looked up, made; a node is made.
-/
import Derived.Deep.CutRange
import Derived.Test.YtchnjfmimpikcaaDoorINew
namespace Go.Proofs.YtchnjfmimpikcaaDoor
set_option linter.unusedSimpArgs false
set_option linter.unusedVariables false
open Go.RowKit Own RegJ Two
open Go.Lib hiding intOf

/-! ### a node more -/
def loAdd (lo : Lo) (i kn : Nat) : Lo := fun r => match r with
  | .node j => if j = i then some kn else lo (.node j)
  | .ents j => if j = i then none else lo (.ents j)
  | .tab => lo .tab
  | .st q => lo (.st q)
/-- the store's blocks turned -/
def loSt (lo : Lo) (so : SRl → Option Nat) : Lo := fun r => match r with
  | .node j => lo (.node j)
  | .ents j => lo (.ents j)
  | .tab => lo .tab
  | .st q => so q
theorem loSt_old {lo : Lo} {so : SRl → Option Nat} {r : Rl} {k : Nat} (h : loSt lo so r = some k) : (∃ q, r = .st q ∧ so q = some k) ∨ (lo r = some k ∧ ∀ q, r ≠ .st q) := by
  cases r <;> simp only [loSt] at h
  · exact Or.inr ⟨h, by simp⟩
  · exact Or.inr ⟨h, by simp⟩
  · exact Or.inr ⟨h, by simp⟩
  · exact Or.inl ⟨_, rfl, h⟩
def nsPut (ns : Nat → Option Nd) (i : Nat) (nd : Option Nd) : Nat → Option Nd := fun j => if j = i then nd else ns j
theorem loAdd_old {lo : Lo} {i kn : Nat} {r : Rl} {k : Nat} (h : loAdd lo i kn r = some k) : lo r = some k ∨ (r = .node i ∧ k = kn) := by
  cases r <;> simp only [loAdd] at h
  · exact Or.inl h
  · split at h
    · rename_i e; subst e; cases h; exact Or.inr ⟨rfl, rfl⟩
    · exact Or.inl h
  · split at h
    · cases h
    · exact Or.inl h
  · exact Or.inl h
/-- the store's blocks turned, the table's own as they were -/
theorem TB.store [Inhabited CapT] {w w' : World} {tb : Nat} {ns ns' : Nat → Option Nd} {lo : Lo} {N N' : Nat} {so : SRl → Option Nat} (h : TB w tb ns lo N) (hS : St w' so (filesOf ns') capN N') (hF : OFr (soOf lo) so w w') (hs : so .sto = soOf lo .sto)
    (hn : ∀ i, (ns' i).isSome = (ns i).isSome) (hnd : ∀ i nd, ns' i = some nd → ∃ nd0, ns i = some nd0 ∧ nd.dir = nd0.dir ∧ nd.links = nd0.links ∧ nd.opens = nd0.opens ∧ nd.es = nd0.es) : TB w' tb ns' (loSt lo so) N' := by
  have hoth : ∀ r k, lo r = some k → (∀ q, r ≠ .st q) → ¬ ∃ q, soOf lo q = some k := fun r k hk h1 ⟨q, hq⟩ => h1 q (h.inj r (.st q) k hk hq)
  have hnew : ∀ q k, so q = some k → (∃ q', lo (.st q') = some k) ∨ w.heap.size ≤ k := fun q k hk => hF.2 q k hk
  obtain ⟨f, ls, hI⟩ := hS
  have hsz := hF.1.size
  refine ⟨fun r r' k h1 h2 => ?_, fun r k h1 => ?_, h.at', ⟨f, ls, hI⟩, ?_, fun j hj => ?_, fun j hj => ?_, fun j nd hj => ?_⟩
  · rcases loSt_old h1 with ⟨q, rfl, g1⟩ | ⟨g1, e1⟩
    · rcases loSt_old h2 with ⟨q', rfl, g2⟩ | ⟨g2, e2⟩
      · rw [hI.inj q q' k g1 g2]
      · rcases hnew q k g1 with ⟨q', e⟩ | e
        · exact absurd (h.inj _ _ _ g2 e) (e2 q')
        · have := h.lt _ _ g2; omega
    · rcases loSt_old h2 with ⟨q', rfl, g2⟩ | ⟨g2, e2⟩
      · rcases hnew q' k g2 with ⟨q, e⟩ | e
        · exact absurd (h.inj _ _ _ g1 e) (e1 q)
        · have := h.lt _ _ g1; omega
      · exact h.inj r r' k g1 g2
  · rcases loSt_old h1 with ⟨q, rfl, g1⟩ | ⟨g1, e1⟩
    · exact hI.lt q k g1
    · have := h.lt r k g1; omega
  · have e : tabCells (loSt lo so) = tabCells lo := by
      unfold tabCells loSt
      simp only
      rw [hs]; rfl
    rw [e]
    exact Blk.upd hF.1 h.tab (hoth _ _ h.at' (by simp))
  · have := hn j
    rw [hj] at this
    cases h1 : ns j with
    | none => exact h.none' j h1
    | some x => rw [h1] at this; cases this
  · have := hn j
    rw [h.far j hj] at this
    cases h1 : ns' j with
    | none => rfl
    | some x => rw [h1] at this; cases this
  · obtain ⟨nd0, h0, e1, e2, e3, e4⟩ := hnd j nd hj
    obtain ⟨k, v, k1, k2, k3, k4⟩ := h.node j nd0 h0
    rw [e1, e2, e3, e4]
    exact ⟨k, v, k1, Blk.upd hF.1 k2 (hoth _ _ k1 (by simp)), k3.upd hF.1 (fun g hg => hoth _ _ hg (by simp)), k4⟩
theorem TB.add [Inhabited CapT] {w w' : World} {tb : Nat} {ns : Nat → Option Nd} {lo : Lo} {N N' : Nat} {so : SRl → Option Nat} (h : TB w tb ns lo N) {i : Nat} (hi : i < 16) (hn : ns i = none) (dir : Bool) (kn : Nat)
    (hkn : w.heap.size ≤ kn) (hkn' : kn < w'.heap.size) (hu : Upd (fun k => k = tb ∨ ∃ q, soOf lo q = some k) w w') (hb : Blk w' kn #[.bool dir, .int .i64 0, .int .i64 1, .slice none 0 0] 73) (ht : Blk w' tb (tabCells (loAdd lo i kn)) 96)
    (hS : St w' so (filesOf (nsPut ns i (some ⟨dir, 0, 1, [], []⟩))) capN N') (hs : so .sto = soOf lo .sto) (hso : ∀ q k, so q = some k → (∃ q', lo (.st q') = some k) ∨ (w.heap.size ≤ k ∧ k ≠ kn)) : TB w' tb (nsPut ns i (some ⟨dir, 0, 1, [], []⟩)) (loSt (loAdd lo i kn) so) N' := by
  have hoth : ∀ r k, lo r = some k → r ≠ .tab → (∀ q, r ≠ .st q) → ¬ (k = tb ∨ ∃ q, soOf lo q = some k) := fun r k hk h1 h2 hh => by
    rcases hh with hh | ⟨q, hh⟩
    · exact h1 (h.inj r .tab k hk (by rw [hh]; exact h.at'))
    · exact h2 q (h.inj r (.st q) k hk hh)
  obtain ⟨f, ls, hI⟩ := hS
  have hsz := hu.size
  refine ⟨fun r r' k h1 h2 => ?_, fun r k h1 => ?_, h.at', ⟨f, ls, hI⟩, ?_, fun j hj => ?_, fun j hj => ?_, fun j nd hj => ?_⟩
  · rcases loSt_old h1 with ⟨q, rfl, g1⟩ | ⟨g1, e1⟩
    · rcases loSt_old h2 with ⟨q', rfl, g2⟩ | ⟨g2, e2⟩
      · rw [hI.inj q q' k g1 g2]
      · rcases loAdd_old g2 with g3 | ⟨e3, g3⟩
        · rcases hso q k g1 with ⟨q', e⟩ | e
          · exact absurd (h.inj _ _ _ g3 e) (e2 q')
          · have := h.lt _ _ g3; omega
        · rcases hso q k g1 with ⟨q', e⟩ | e
          · have := h.lt _ _ e; omega
          · exact absurd g3 e.2
    · rcases loSt_old h2 with ⟨q', rfl, g2⟩ | ⟨g2, e2⟩
      · rcases loAdd_old g1 with g3 | ⟨e3, g3⟩
        · rcases hso q' k g2 with ⟨q, e⟩ | e
          · exact absurd (h.inj _ _ _ g3 e) (e1 q)
          · have := h.lt _ _ g3; omega
        · rcases hso q' k g2 with ⟨q, e⟩ | e
          · have := h.lt _ _ e; omega
          · exact absurd g3 e.2
      · rcases loAdd_old g1 with g3 | ⟨e3, g3⟩
        · have hl1 := h.lt r k g3
          rcases loAdd_old g2 with g4 | ⟨e4, g4⟩
          · exact h.inj r r' k g3 g4
          · omega
        · rcases loAdd_old g2 with g4 | ⟨e4, g4⟩
          · have := h.lt r' k g4; omega
          · rw [e3, e4]
  · rcases loSt_old h1 with ⟨q, rfl, g1⟩ | ⟨g1, e1⟩
    · exact hI.lt q k g1
    · rcases loAdd_old g1 with g3 | ⟨e3, g3⟩
      · have := h.lt r k g3; omega
      · omega
  · have e : tabCells (loSt (loAdd lo i kn) so) = tabCells (loAdd lo i kn) := by
      unfold tabCells loSt
      simp only
      rw [hs]; rfl
    rw [e]; exact ht
  · unfold nsPut at hj
    split at hj
    · cases hj
    · rename_i e; simp only [loSt, loAdd]; rw [if_neg e]; exact h.none' j hj
  · unfold nsPut
    rw [if_neg (by omega)]; exact h.far j hj
  · unfold nsPut at hj
    split at hj
    · rename_i e; subst e; cases hj
      exact ⟨kn, _, by simp [loSt, loAdd], hb, by simp only [loSt, loAdd, if_pos rfl]; exact Or.inl ⟨rfl, rfl, rfl⟩, by simp, List.Pairwise.nil⟩
    · rename_i e
      obtain ⟨k, v, k1, k2, k3, k4⟩ := h.node j nd hj
      refine ⟨k, v, by simp only [loSt, loAdd]; rw [if_neg e]; exact k1, Blk.upd hu k2 (hoth _ _ k1 (by simp) (by simp)), ?_, k4⟩
      simp only [loSt, loAdd]
      rw [if_neg e]
      exact k3.upd hu (fun g hg => hoth _ _ hg (by simp) (by simp))
theorem files_dir {ns : Nat → Option Nd} {i : Nat} (hn : ns i = none) : filesOf (nsPut ns i (some ⟨true, 0, 1, [], []⟩)) = filesOf ns := by
  funext j
  unfold filesOf nsPut
  by_cases h : j = i
  · rw [if_pos h, h, hn]; rfl
  · rw [if_neg h]
theorem files_new (ns : Nat → Option Nd) (i : Nat) : filesOf (nsPut ns i (some ⟨false, 0, 1, [], []⟩)) = fsPut (filesOf ns) i (some []) := by
  funext j
  unfold filesOf nsPut fsPut
  by_cases h : j = i
  · rw [if_pos h, if_pos h]; rfl
  · rw [if_neg h, if_neg h]
theorem blk_tab {w : World} {tb : Nat} {lo : Lo} {T : TypeId} (h : Blk w tb (tabCells lo) T) (i : Nat) (hi : i < 16) : w.cell? ⟨tb, 1 + i, none⟩ = some (ptr (lo (.node i))) := by rw [h.rd, Nat.add_comm]; exact tab_at lo i hi
theorem tabCells_set (lo : Lo) (i kn : Nat) (hi : i < 16) : (tabCells lo).setIfInBounds (i + 1) (.pointer (some ⟨kn, 0, none⟩)) = tabCells (loAdd lo i kn) := by
  apply Array.ext_getElem?
  intro j
  rw [Array.getElem?_setIfInBounds]
  unfold tabCells
  by_cases hj : i + 1 = j
  · subst hj
    simp [hi, loAdd, ptr]
  · rw [if_neg hj]
    cases j with
    | zero => simp [loAdd]
    | succ j =>
      have hji : j ≠ i := fun e => hj (by omega)
      simp only [List.getElem?_toArray, List.getElem?_cons_succ, List.getElem?_map]
      by_cases h16 : j < 16
      · simp [h16, loAdd, hji]
      · simp [h16]
/-- what a step of the table's turns, and which blocks it owns behind it -/
def TFr (lo lo' : Lo) (w w' : World) : Prop := Upd (fun k => ∃ r, lo r = some k) w w' ∧ (∀ r k, lo' r = some k → (∃ r', lo r' = some k) ∨ w.heap.size ≤ k) ∧ lo' (.st .sto) = lo (.st .sto) ∧ lo' (.st .frm) = lo (.st .frm)
def MakeP [Inhabited CapT] (w : World) (tb : Nat) (ns : Nat → Option Nd) (lo : Lo) (N : Nat) (dir : Bool) (r : Int) (e : Ending) (w' : World) : Prop :=
  (r = -1 ∧ e = .returned (.tuple #[.int .i64 0, .int .i64 15]) ∧ TB w' tb ns lo N ∧ Below w.heap.size w w') ∨
  ∃ i : Nat, r = i ∧ e = .returned (.tuple #[.int .i64 i, .int .i64 0]) ∧ ∃ lo', TB w' tb (nsPut ns i (some ⟨dir, 0, 1, [], []⟩)) lo' (N + 1) ∧ TFr lo lo' w w'
set_option maxRecDepth 100000 in
set_option maxHeartbeats 1000000 in
theorem make_is [Inhabited CapT] {w : World} {tb : Nat} {ns : Nat → Option Nd} {lo : Lo} {N : Nat} (h : TB w tb ns lo N) (hN : N ≤ 10000) (dir : Bool) :
    Calls Tryd.prog 54 #[.pointer (some ⟨tb, 0, none⟩), .bool dir] w fun e w' => ∃ r, freeI ns r ∧ MakeP w tb ns lo N dir r e w' := by
  have hix := index_is h
  have H := Lib.hid h
  clear h
  go_enter Tryd.func54, Tryd.ntmps54
  go_upto_region 4 with (go_at_call 67; refine hix.mono ?_; rintro e w1 ⟨⟨r, rfl, hf⟩, hB⟩; have HF := Lib.hid (And.intro hf hB); clear hix hf hB)
  have HT := Lib.hid (H.out.below HF.out.2)
  rcases HF.out.1 with ⟨rfl, hno⟩ | ⟨i, rfl, hi, hn, hall⟩
  · clear hno
    go_wp2_with (fail)
    go_returns
    exact ⟨-1, HF.out.1, Or.inl ⟨rfl, rfl, HT.out, HF.out.2⟩⟩
  · have HI := Lib.hid (And.intro hi (And.intro hn hall))
    have htb := HT.out.tab.alloc (.cells #[.bool dir, .int .i64 0, .int .i64 1, .slice none 0 0] 73)
    have k0 := blk_tab htb i hi
    have nf := htb.nf
    clear htb
    have d1 : decide ((i : Int) < 0) = false := by simp
    have i1 : (i : Int) < 16 := by omega
    have i2 : (0 : Int) ≤ i := by omega
    rw [HT.out.none' i hn] at k0
    unfold ptr at k0
    clear hall hn hi
    go_upto_region 7 with (fail)
    obtain ⟨sb, s1, hsbl⟩ := HT.out.sto.sto
    have hlt := HT.out.lt
    have htbl := hlt _ _ HT.out.at'
    have hst : sb ≠ tb := fun e => by have := HT.out.inj _ _ _ s1 (e ▸ HT.out.at'); cases this
    have htb2 : Blk ((w1.alloc (.cells #[.bool dir, .int .i64 0, .int .i64 1, .slice none 0 0] 73)).setCell ⟨tb, 1 + i, none⟩ (.pointer (some ⟨w1.heap.size, 0, none⟩))) tb ((tabCells lo).setIfInBounds (i + 1) (.pointer (some ⟨w1.heap.size, 0, none⟩))) 96 := by
      rw [Nat.add_comm i 1]; exact (HT.out.tab.alloc _).set _ _
    have hnd2 : Blk ((w1.alloc (.cells #[.bool dir, .int .i64 0, .int .i64 1, .slice none 0 0] 73)).setCell ⟨tb, 1 + i, none⟩ (.pointer (some ⟨w1.heap.size, 0, none⟩))) w1.heap.size #[.bool dir, .int .i64 0, .int .i64 1, .slice none 0 0] 73 := (Blk.new _ _ _).set_ne (by show w1.heap.size ≠ tb; omega) _
    have hu2 : Upd (fun k => k = tb) w1 ((w1.alloc (.cells #[.bool dir, .int .i64 0, .int .i64 1, .slice none 0 0] 73)).setCell ⟨tb, 1 + i, none⟩ (.pointer (some ⟨w1.heap.size, 0, none⟩))) := ((Upd.refl (fun k => k = tb) w1).alloc _).setCell (p := ⟨tb, 1 + i, none⟩) (fun _ => rfl) _
    generalize (w1.alloc (.cells #[.bool dir, .int .i64 0, .int .i64 1, .slice none 0 0] 73)).setCell ⟨tb, 1 + i, none⟩ (.pointer (some ⟨w1.heap.size, 0, none⟩)) = w2 at htb2 hnd2 hu2 ⊢
    have hkn2 := hnd2.lt
    have c0 : w2.cell? ⟨tb, 0, none⟩ = some (.pointer (some ⟨sb, 0, none⟩)) := by
      have s1' : lo (.st .sto) = some sb := s1
      rw [htb2.rd]; simp [tabCells, s1', ptr]
    have hS2 : St w2 (soOf lo) (filesOf ns) capN N := HT.out.sto.upd hu2 (fun r k hk e => by have := HT.out.inj _ _ _ hk (e ▸ HT.out.at'); cases this)
    have htf0 : ∀ so w3, OFr (soOf lo) so w2 w3 → (∀ q k, so q = some k → (∃ q', lo (.st q') = some k) ∨ w2.heap.size ≤ k) → so .sto = soOf lo .sto → so .frm = soOf lo .frm → TFr lo (loSt (loAdd lo i w1.heap.size) so) w w3 := fun so w3 hF hq hs1 hs2 => by
      refine ⟨((Upd.of_below (F := fun k => ∃ r, lo r = some k) HF.out.2).trans (hu2.mono (fun k _ (e : k = tb) => ⟨Rl.tab, by rw [e]; exact HT.out.at'⟩)) (fun _ _ h => h)).trans (hF.1.mono (fun k _ ⟨q, hq⟩ => ⟨.st q, hq⟩)) (fun _ _ h => h), fun r k hr => ?_, hs1, hs2⟩
      have z1 := HF.out.2.size
      have z2 := hu2.size
      rcases loSt_old hr with ⟨q, _, g⟩ | ⟨g, _⟩
      · rcases hq q k g with ⟨q', e⟩ | e
        · exact Or.inl ⟨_, e⟩
        · exact Or.inr (by omega)
      · rcases loAdd_old g with g | ⟨_, g⟩
        · exact Or.inl ⟨r, g⟩
        · exact Or.inr (by omega)
    have z2 := hu2.size
    cases dir with
    | true =>
      have HG : Hid (∃ lo', TB w2 tb (nsPut ns i (some ⟨true, 0, 1, [], []⟩)) lo' (N + 1) ∧ TFr lo lo' w w2) := Lib.hid ⟨_, HT.out.add HI.out.1 HI.out.2.1 true w1.heap.size (Nat.le_refl _) hkn2 (hu2.mono (fun k _ e => Or.inl e)) hnd2 (by rw [← tabCells_set lo i _ HI.out.1]; exact htb2) (by rw [files_dir HI.out.2.1]; exact hS2.le (by omega)) rfl (fun q k hk => Or.inl ⟨q, hk⟩), htf0 (soOf lo) w2 (OFr.refl _ _) (fun q k hk => Or.inl ⟨q, hk⟩) rfl rfl⟩
      clear htb2 hnd2 hu2 hS2 htf0
      go_wp2_with (fail)
      go_returns
      exact ⟨i, HF.out.1, Or.inr ⟨i, rfl, rfl, HG.out⟩⟩
    | false =>
      have hmi : filesOf ns i = none := by unfold filesOf; rw [HI.out.2.1]
      have hmk := s_make hS2 sb s1 i HI.out.1 hmi (by omega)
      have HK := Lib.hid (And.intro htb2 (And.intro hnd2 (And.intro hu2 htf0)))
      clear htb2 hnd2 hu2 hS2 htf0 hmi
      go_wp2_with (go_at_call 68; (with_reducible refine hmk.mono ?_); rintro e w3 ⟨rfl, so, hS3, hF3, hs3, hs4⟩; have H3 := Lib.hid (And.intro hS3 (And.intro hF3 (And.intro hs3 hs4))); clear hmk hS3 hF3 hs3 hs4)
      go_returns
      obtain ⟨htb2, hnd2, hu2, htf0⟩ := HK.out
      obtain ⟨hS3, hF3, hs3, hs4⟩ := H3.out
      have z3 := hF3.1.size
      have hq : ∀ q k, so q = some k → (∃ q', lo (.st q') = some k) ∨ w2.heap.size ≤ k := fun q k hk => hF3.2 q k hk
      have hnk : ∀ k, (∃ q, soOf lo q = some k) → k < w1.heap.size := fun k ⟨q, hk⟩ => hlt _ _ hk
      refine ⟨i, HF.out.1, Or.inr ⟨i, rfl, rfl, _, HT.out.add (so := so) HI.out.1 HI.out.2.1 false w1.heap.size (Nat.le_refl _) (by omega) ((hu2.mono (fun k _ e => Or.inl e)).trans (hF3.1.mono (fun k _ e => Or.inr e)) (fun _ _ h => h)) (Blk.upd hF3.1 hnd2 (fun e => by have := hnk _ e; omega)) ?_ (by rw [files_new]; exact hS3) hs3 (fun q k hk => ?_), htf0 so w3 hF3 hq hs3 hs4⟩⟩
      · rw [← tabCells_set lo i _ HI.out.1]
        exact Blk.upd hF3.1 htb2 (fun ⟨q, e⟩ => by have := HT.out.inj _ _ _ e HT.out.at'; cases this)
      · rcases hq q k hk with e | e
        · exact Or.inl e
        · exact Or.inr (by omega)
end Go.Proofs.YtchnjfmimpikcaaDoor
