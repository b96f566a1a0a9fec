/-
  A file of the store's is looked up, made; a node is made.
-/
import Derived.Deep.CutRange
import Derived.Test.YtchnjfmimpikcaaDoorINew
namespace Go.Proofs.YtchnjfmimpikcaaDoor
set_option linter.unusedSimpArgs false
set_option linter.unusedVariables false
open Go.RowKit Own RegJ Two
open Go.Lib hiding intOf

theorem zero_file (w : World) : (zeroValue 83).run Tryd.prog w = .ok (.pointer none) w := by kernel_rfl
theorem wf_i (i : Nat) (h : i < 16) : (Lit.int .i64 (i : Int)).wf = true := by
  simp [Lit.wf, IntKind.min, IntKind.max, IntKind.signed, IntKind.bits]; omega
/-- a store as it lies -/
def SB (w : World) (sb mb n s : Nat) (m : Int → Option Value) : Prop := (∃ fp, Blk w sb #[fp, .map (some mb)] 90) ∧ MapI w Tryd.prog 3 mb n s m
section
variable {w : World} {sb mb n s : Nat} {m : Int → Option Value}
theorem sget_no (h : SB w sb mb n s m) (i : Nat) (hi : i < 16) (hm : m i = none) : Calls Tryd.prog 46 #[.pointer (some ⟨sb, 0, none⟩), .int .i64 i] w fun e w' => e = .returned (.tuple #[.pointer none, .int .i64 4]) ∧ w = w' := by
  obtain ⟨⟨fp, hb⟩, hM⟩ := h
  have c1 := hb.rd
  have hl := hM.look Tryd.underlying3 Tryd.underlying88 (zero_file w) i (wf_i i hi)
  rw [hm] at hl
  clear hM hb hm hi
  go_enter Tryd.func46, Tryd.ntmps46
  go_wp2
  go_returns
  exact ⟨rfl, rfl⟩
theorem sget_yes (h : SB w sb mb n s m) (i : Nat) (hi : i < 16) (kf : Nat) (hm : m i = some (.pointer (some ⟨kf, 0, none⟩))) : Calls Tryd.prog 46 #[.pointer (some ⟨sb, 0, none⟩), .int .i64 i] w fun e w' => e = .returned (.tuple #[.pointer (some ⟨kf, 0, none⟩), .int .i64 0]) ∧ w = w' := by
  obtain ⟨⟨fp, hb⟩, hM⟩ := h
  have c1 := hb.rd
  have hl := hM.look Tryd.underlying3 Tryd.underlying88 (zero_file w) i (wf_i i hi)
  rw [hm] at hl
  clear hM hb hm hi
  go_enter Tryd.func46, Tryd.ntmps46
  go_wp2
  go_returns
  exact ⟨rfl, rfl⟩
abbrev fileC : Array Value := #[.int .i64 0, .slice none 0 0]
def SmakeP (sb mb n s : Nat) (m : Int → Option Value) (i : Nat) (w : World) (e : Ending) (w' : World) : Prop := e = .returned (.int .i64 0) ∧ ∃ s', SB w' sb mb (n + 1) s' (mput m i (.pointer (some ⟨w.heap.size, 0, none⟩))) ∧ Blk w' w.heap.size fileC 87 ∧ Upd (fun k => k = mb) w w'
set_option maxRecDepth 100000 in
theorem smake_is (h : SB w sb mb n s m) (hne : sb ≠ mb) (i : Nat) (hi : i < 16) (hm : m i = none) (hn : n < maxLen) : Calls Tryd.prog 68 #[.pointer (some ⟨sb, 0, none⟩), .int .i64 i] w (SmakeP sb mb n s m i w) := by
  have hg := sget_no h i hi hm
  obtain ⟨⟨fp, hb⟩, hM⟩ := h
  have c1 := hb.rd
  have d1 : decide ((i : Int) < 0) = false := by simp
  have hmt := hM.lt
  have H := Lib.hid (And.intro hb (And.intro hM (And.intro hm hi)))
  clear hb hM hm hi
  go_enter Tryd.func68, Tryd.ntmps68
  go_wp2_with (first
    | (go_at_call 46; refine hg.mono ?_; rintro e w' ⟨rfl, rfl⟩)
    | (at_mapUpdate; refine wp_mapput _ rfl _ _ _ 88 rfl 3 83 Tryd.underlying3 Tryd.underlying88 mb n s m rfl (H.out.2.1.upd ((Upd.refl (fun _ => False) w).alloc _) (fun h => h)) hn i (wf_i i H.out.2.2.2) _ rfl rfl ?_; intro w1 hM1 hu1; have H1 := Lib.hid (And.intro hM1 hu1); clear hM1 hu1))
  go_ret
  have hu : Upd (fun k => k = mb) w w1 := ((Upd.refl (fun k => k = mb) w).alloc _).trans H1.out.2 (fun _ _ h => h)
  have hbf := Blk.upd H1.out.2 (Blk.new w fileC 87) (by omega)
  refine ⟨rfl, _, ⟨⟨fp, Blk.upd hu H.out.1 hne⟩, H1.out.1⟩, hbf, hu⟩
end
/-! ### a node more -/
def loAdd (lo : Lo) (i kn : Nat) (kf : Option Nat) : Lo := fun r => match r with
  | .node j => if j = i then some kn else lo (.node j)
  | .ents j => if j = i then none else lo (.ents j)
  | .file j => if j = i then kf else lo (.file j)
  | .tab => lo .tab
  | .sto => lo .sto
  | .mp => lo .mp
def nsPut (ns : Nat → Option Nd) (i : Nat) (nd : Option Nd) : Nat → Option Nd := fun j => if j = i then nd else ns j
theorem loAdd_old {lo : Lo} {i kn : Nat} {kf : Option Nat} {r : Rl} {k : Nat} (h : loAdd lo i kn kf r = some k) : lo r = some k ∨ (r = .node i ∧ k = kn) ∨ (r = .file i ∧ kf = some k) := by
  cases r <;> simp only [loAdd] at h
  · exact Or.inl h
  · exact Or.inl h
  · exact Or.inl h
  · split at h
    · rename_i e; subst e; cases h; exact Or.inr (Or.inl ⟨rfl, rfl⟩)
    · exact Or.inl h
  · split at h
    · cases h
    · exact Or.inl h
  · split at h
    · rename_i e; subst e; exact Or.inr (Or.inr ⟨rfl, h⟩)
    · exact Or.inl h
theorem TB.add {w w' : World} {tb : Nat} {ns : Nat → Option Nd} {lo : Lo} {N N' : Nat} (h : TB w tb ns lo N) {i : Nat} (hi : i < 16) (hn : ns i = none) (dir : Bool) (kn : Nat) (kf : Option Nat)
    (hkn : w.heap.size ≤ kn) (hkn' : kn < w'.heap.size) (hkf : ∀ k, kf = some k → w.heap.size ≤ k ∧ k < w'.heap.size ∧ k ≠ kn) (hkd : dir = false → ∃ k, kf = some k ∧ Blk w' k fileC 87)
    (hu : Upd (fun k => k = tb ∨ lo .mp = some k) w w') (hb : Blk w' kn #[.bool dir, .int .i64 0, .int .i64 1, .slice none 0 0] 73) (ht : Blk w' tb (tabCells (loAdd lo i kn kf)) 96)
    (hm : ∀ mb, lo .mp = some mb → ∃ n s, MapI w' Tryd.prog 3 mb n s (fileM (nsPut ns i (some ⟨dir, 0, 1, []⟩)) (loAdd lo i kn kf)) ∧ n ≤ N') : TB w' tb (nsPut ns i (some ⟨dir, 0, 1, []⟩)) (loAdd lo i kn kf) N' := by
  obtain ⟨sb, mb, fp, n, s, s1, s2, s3, s4, s5⟩ := h.sto
  have hoth : ∀ r k, lo r = some k → r ≠ .tab → r ≠ .mp → ¬ (k = tb ∨ lo .mp = some k) := fun r k hk h1 h2 hh => by
    rcases hh with hh | hh
    · exact h1 (h.inj r .tab k hk (by rw [hh]; exact h.at'))
    · exact h2 (h.inj r .mp k hk hh)
  have hsz := hu.size
  refine ⟨fun r r' k h1 h2 => ?_, fun r k h1 => ?_, h.at', ?_, ht, fun j hj => ?_, fun j hj => ?_, fun j nd hj => ?_, fun j nd hj hd => ?_⟩
  · rcases loAdd_old h1 with g1 | ⟨e1, g1⟩ | ⟨e1, g1⟩
    · have hl1 := h.lt r k g1
      rcases loAdd_old h2 with g2 | ⟨e2, g2⟩ | ⟨e2, g2⟩
      · exact h.inj r r' k g1 g2
      · omega
      · have := hkf k g2; omega
    · rcases loAdd_old h2 with g2 | ⟨e2, g2⟩ | ⟨e2, g2⟩
      · have := h.lt r' k g2; omega
      · rw [e1, e2]
      · exact absurd g1 (hkf k g2).2.2
    · have hk := hkf k g1
      rcases loAdd_old h2 with g2 | ⟨e2, g2⟩ | ⟨e2, g2⟩
      · have := h.lt r' k g2; omega
      · exact absurd g2 hk.2.2
      · rw [e1, e2]
  · rcases loAdd_old h1 with h1 | ⟨_, h1⟩ | ⟨_, h1⟩
    · have := h.lt r k h1; omega
    · omega
    · exact (hkf k h1).2.1
  · obtain ⟨n', s', hM, hn'⟩ := hm mb s2
    exact ⟨sb, mb, fp, n', s', s1, s2, Blk.upd hu s3 (hoth .sto sb s1 (by simp) (by simp)), hM, hn'⟩
  · unfold nsPut at hj
    split at hj
    · cases hj
    · rename_i e; simp only [loAdd]; rw [if_neg e]; exact h.none' j hj
  · unfold nsPut
    rw [if_neg (by omega)]; exact h.far j hj
  · unfold nsPut at hj
    split at hj
    · rename_i e; subst e; cases hj
      exact ⟨kn, _, by simp [loAdd], hb, by simp only [loAdd, if_pos rfl]; exact Or.inl ⟨rfl, rfl, rfl⟩, by simp, List.Pairwise.nil⟩
    · rename_i e
      obtain ⟨k, v, k1, k2, k3, k4⟩ := h.node j nd hj
      refine ⟨k, v, by simp only [loAdd]; rw [if_neg e]; exact k1, Blk.upd hu k2 (hoth _ _ k1 (by simp) (by simp)), ?_, k4⟩
      simp only [loAdd]
      rw [if_neg e]
      exact k3.upd hu (fun g hg => hoth _ _ hg (by simp) (by simp))
  · unfold nsPut at hj
    split at hj
    · rename_i e; subst e; cases hj
      obtain ⟨k, h1, h2⟩ := hkd hd
      exact ⟨k, by simp [loAdd, h1], h2⟩
    · rename_i e
      obtain ⟨k, k1, k2⟩ := h.file j nd hj hd
      exact ⟨k, by simp only [loAdd]; rw [if_neg e]; exact k1, Blk.upd hu k2 (hoth _ _ k1 (by simp) (by simp))⟩
theorem blk_tab {w : World} {tb : Nat} {lo : Lo} {T : TypeId} (h : Blk w tb (tabCells lo) T) (i : Nat) (hi : i < 16) : w.cell? ⟨tb, 1 + i, none⟩ = some (ptr (lo (.node i))) := by rw [h.rd, Nat.add_comm]; exact tab_at lo i hi
theorem tabCells_set (lo : Lo) (i kn : Nat) (kf : Option Nat) (hi : i < 16) : (tabCells lo).setIfInBounds (i + 1) (.pointer (some ⟨kn, 0, none⟩)) = tabCells (loAdd lo i kn kf) := by
  apply Array.ext_getElem?
  intro j
  rw [Array.getElem?_setIfInBounds]
  unfold tabCells
  by_cases hj : i + 1 = j
  · subst hj
    simp [hi, loAdd, ptr]
  · rw [if_neg hj]
    cases j with
    | zero => simp [loAdd]
    | succ j =>
      have hji : j ≠ i := fun e => hj (by omega)
      simp only [List.getElem?_toArray, List.getElem?_cons_succ, List.getElem?_map]
      by_cases h16 : j < 16
      · simp [h16, loAdd, hji]
      · simp [h16]
theorem fileM_add (ns : Nat → Option Nd) (lo : Lo) (i kn kf : Nat) (hi : i < 16) : mput (fileM ns lo) i (.pointer (some ⟨kf, 0, none⟩)) = fileM (nsPut ns i (some ⟨false, 0, 1, []⟩)) (loAdd lo i kn (some kf)) := by
  funext j
  unfold mput fileM nsPut
  by_cases hj : j = i
  · subst hj
    rw [if_pos rfl, if_pos (by omega)]
    simp [loAdd, ptr]
  · rw [if_neg hj]
    by_cases h16 : 0 ≤ j ∧ j < 16
    · rw [if_pos h16, if_pos h16]
      have : j.toNat ≠ i := by omega
      rw [if_neg this]
      simp [loAdd, this]
    · rw [if_neg h16, if_neg h16]
theorem fileM_dir (ns : Nat → Option Nd) (lo : Lo) (i kn : Nat) (kf : Option Nat) (hn : ns i = none) : fileM ns lo = fileM (nsPut ns i (some ⟨true, 0, 1, []⟩)) (loAdd lo i kn kf) := by
  funext j
  unfold fileM nsPut
  by_cases h16 : 0 ≤ j ∧ j < 16
  · rw [if_pos h16, if_pos h16]
    by_cases hji : j.toNat = i
    · rw [if_pos hji, hji, hn]; rfl
    · rw [if_neg hji]
      simp [loAdd, hji]
  · rw [if_neg h16, if_neg h16]
/-- what a step of the table's turns, and which blocks it owns behind it -/
def TFr (lo lo' : Lo) (w w' : World) : Prop := Upd (fun k => ∃ r, lo r = some k) w w' ∧ ∀ r k, lo' r = some k → (∃ r', lo r' = some k) ∨ w.heap.size ≤ k
def MakeP (w : World) (tb : Nat) (ns : Nat → Option Nd) (lo : Lo) (N : Nat) (dir : Bool) (r : Int) (e : Ending) (w' : World) : Prop :=
  (r = -1 ∧ e = .returned (.tuple #[.int .i64 0, .int .i64 15]) ∧ TB w' tb ns lo N ∧ Below w.heap.size w w') ∨
  ∃ i : Nat, r = i ∧ e = .returned (.tuple #[.int .i64 i, .int .i64 0]) ∧ ∃ lo', TB w' tb (nsPut ns i (some ⟨dir, 0, 1, []⟩)) lo' (N + 1) ∧ TFr lo lo' w w'
set_option maxRecDepth 100000 in
set_option maxHeartbeats 1000000 in
theorem make_is {w : World} {tb : Nat} {ns : Nat → Option Nd} {lo : Lo} {N : Nat} (h : TB w tb ns lo N) (hN : N ≤ 10000) (dir : Bool) :
    Calls Tryd.prog 54 #[.pointer (some ⟨tb, 0, none⟩), .bool dir] w fun e w' => ∃ r, freeI ns r ∧ MakeP w tb ns lo N dir r e w' := by
  have hix := index_is h
  have H := Lib.hid h
  clear h
  go_enter Tryd.func54, Tryd.ntmps54
  go_upto_region 4 with (go_at_call 67; refine hix.mono ?_; rintro e w1 ⟨⟨r, rfl, hf⟩, hB⟩; have HF := Lib.hid (And.intro hf hB); clear hix hf hB)
  have HT := Lib.hid (H.out.below HF.out.2)
  rcases HF.out.1 with ⟨rfl, hno⟩ | ⟨i, rfl, hi, hn, hall⟩
  · clear hno
    go_wp2_with (fail)
    go_returns
    exact ⟨-1, HF.out.1, Or.inl ⟨rfl, rfl, HT.out, HF.out.2⟩⟩
  · have HI := Lib.hid (And.intro hi (And.intro hn hall))
    have htb := HT.out.tab.alloc (.cells #[.bool dir, .int .i64 0, .int .i64 1, .slice none 0 0] 73)
    have k0 := blk_tab htb i hi
    have nf := htb.nf
    clear htb
    have d1 : decide ((i : Int) < 0) = false := by simp
    have i1 : (i : Int) < 16 := by omega
    have i2 : (0 : Int) ≤ i := by omega
    rw [HT.out.none' i hn] at k0
    unfold ptr at k0
    clear hall hn hi
    go_upto_region 7 with (fail)
    obtain ⟨sb, mb, fp, n, s, s1, s2, s3, s4, s5⟩ := HT.out.sto
    have hlt := HT.out.lt
    have htbl := hlt _ _ HT.out.at'
    have hmbl := hlt _ _ s2
    have hsbl := hlt _ _ s1
    have hsm : sb ≠ mb := fun e => by have := HT.out.inj _ _ _ s1 (e ▸ s2); cases this
    have hst : sb ≠ tb := fun e => by have := HT.out.inj _ _ _ s1 (e ▸ HT.out.at'); cases this
    have hmt : mb ≠ tb := fun e => by have := HT.out.inj _ _ _ s2 (e ▸ HT.out.at'); cases this
    have htb2 : Blk ((w1.alloc (.cells #[.bool dir, .int .i64 0, .int .i64 1, .slice none 0 0] 73)).setCell ⟨tb, 1 + i, none⟩ (.pointer (some ⟨w1.heap.size, 0, none⟩))) tb ((tabCells lo).setIfInBounds (i + 1) (.pointer (some ⟨w1.heap.size, 0, none⟩))) 96 := by
      rw [Nat.add_comm i 1]; exact (HT.out.tab.alloc _).set _ _
    have hnd2 : Blk ((w1.alloc (.cells #[.bool dir, .int .i64 0, .int .i64 1, .slice none 0 0] 73)).setCell ⟨tb, 1 + i, none⟩ (.pointer (some ⟨w1.heap.size, 0, none⟩))) w1.heap.size #[.bool dir, .int .i64 0, .int .i64 1, .slice none 0 0] 73 := (Blk.new _ _ _).set_ne (by show w1.heap.size ≠ tb; omega) _
    have hu2 : Upd (fun k => k = tb) w1 ((w1.alloc (.cells #[.bool dir, .int .i64 0, .int .i64 1, .slice none 0 0] 73)).setCell ⟨tb, 1 + i, none⟩ (.pointer (some ⟨w1.heap.size, 0, none⟩))) := ((Upd.refl (fun k => k = tb) w1).alloc _).setCell (p := ⟨tb, 1 + i, none⟩) (fun _ => rfl) _
    generalize (w1.alloc (.cells #[.bool dir, .int .i64 0, .int .i64 1, .slice none 0 0] 73)).setCell ⟨tb, 1 + i, none⟩ (.pointer (some ⟨w1.heap.size, 0, none⟩)) = w2 at htb2 hnd2 hu2 ⊢
    have hkn2 := hnd2.lt
    have c0 : w2.cell? ⟨tb, 0, none⟩ = some (.pointer (some ⟨sb, 0, none⟩)) := by rw [htb2.rd]; simp [tabCells, s1, ptr]
    have hfr : ∀ (w3 : World) (kf : Option Nat), Upd (fun k => k = mb) w2 w3 → (∀ k, kf = some k → w2.heap.size ≤ k) → TFr lo (loAdd lo i w1.heap.size kf) w w3 := fun w3 kf h3 hk => by
      refine ⟨(((Upd.of_below (F := fun k => ∃ r, lo r = some k) HF.out.2).trans (hu2.mono (fun k _ (e : k = tb) => ⟨Rl.tab, by rw [e]; exact HT.out.at'⟩)) (fun _ _ h => h)).trans (h3.mono (fun k _ (e : k = mb) => ⟨Rl.mp, by rw [e]; exact s2⟩)) (fun _ _ h => h)), fun r k hr => ?_⟩
      have z1 := HF.out.2.size
      have z2 := hu2.size
      rcases loAdd_old hr with g | ⟨_, g⟩ | ⟨_, g⟩
      · exact Or.inl ⟨r, g⟩
      · exact Or.inr (by omega)
      · exact Or.inr (by have := hk k g; omega)
    have z2 := hu2.size
    cases dir with
    | true =>
      have HG : Hid (∃ lo', TB w2 tb (nsPut ns i (some ⟨true, 0, 1, []⟩)) lo' (N + 1) ∧ TFr lo lo' w w2) := Lib.hid ⟨_, HT.out.add HI.out.1 HI.out.2.1 true w1.heap.size none (Nat.le_refl _) hkn2 (fun k hk => by cases hk) (fun h => by cases h) (hu2.mono (fun k _ e => Or.inl e)) hnd2 (by rw [← tabCells_set lo i _ none HI.out.1]; exact htb2) (fun mb' hmb' => by
        rw [s2] at hmb'; cases hmb'
        refine ⟨n, s, ?_, by omega⟩
        rw [← fileM_dir ns lo i w1.heap.size none HI.out.2.1]
        exact s4.upd hu2 hmt), hfr w2 none (Upd.refl _ _) (fun k hk => by cases hk)⟩
      clear htb2 hnd2 hu2 s4 s3 hfr
      go_wp2_with (fail)
      go_returns
      exact ⟨i, HF.out.1, Or.inr ⟨i, rfl, rfl, HG.out⟩⟩
    | false =>
      have hsb2 : SB w2 sb mb n s (fileM ns lo) := ⟨⟨fp, Blk.upd hu2 s3 hst⟩, s4.upd hu2 hmt⟩
      have hmi : fileM ns lo i = none := by
        unfold fileM
        rw [if_pos (by have := HI.out.1; omega)]
        simp only [Int.toNat_natCast]
        rw [HI.out.2.1]
      have hmk := smake_is hsb2 hsm i HI.out.1 hmi (by unfold maxLen; omega)
      have HK := Lib.hid (And.intro htb2 (And.intro hnd2 (And.intro hu2 hfr)))
      clear htb2 hnd2 hu2 s4 s3 hfr hsb2 hmi
      go_wp2_with (go_at_call 68; refine hmk.mono ?_; rintro e w3 ⟨rfl, s', hS3, hf3, hu3⟩; have H3 := Lib.hid (And.intro hS3 (And.intro hf3 hu3)); clear hmk hS3 hf3 hu3)
      go_returns
      obtain ⟨htb2, hnd2, hu2, hfr⟩ := HK.out
      obtain ⟨hS3, hf3, hu3⟩ := H3.out
      have z3 := hu3.size
      have hkf := hf3.lt
      refine ⟨i, HF.out.1, Or.inr ⟨i, rfl, rfl, loAdd lo i w1.heap.size (some w2.heap.size), ?_, hfr w3 _ hu3 (fun k hk => by cases hk; exact Nat.le_refl _)⟩⟩
      refine HT.out.add HI.out.1 HI.out.2.1 false w1.heap.size (some w2.heap.size) (Nat.le_refl _) (by omega) (fun k hk => by cases hk; exact ⟨by omega, hkf, by omega⟩) (fun _ => ⟨_, rfl, hf3⟩) ((hu2.mono (fun k _ e => Or.inl e)).trans (hu3.mono (fun k _ (e : k = mb) => Or.inr (by rw [e]; exact s2))) (fun _ _ h => h)) (Blk.upd hu3 hnd2 (by omega)) ?_ (fun mb' hmb' => ?_)
      · rw [← tabCells_set lo i _ _ HI.out.1]
        exact Blk.upd hu3 htb2 (fun e => hmt e.symm)
      · rw [s2] at hmb'; cases hmb'
        refine ⟨n + 1, s', ?_, by omega⟩
        rw [← fileM_add ns lo i w1.heap.size w2.heap.size HI.out.1]
        exact hS3.2
end Go.Proofs.YtchnjfmimpikcaaDoor
