/-
  settle: a node goes, and what only it named.
-/
import Derived.Test.YtchnjfmimpikcaaDoorIGone
import Derived.Test.YtchnjfmimpikcaaDoorIMake
import Derived.BigQuiet
import Derived.Deep.CutRange
namespace Go.Proofs.YtchnjfmimpikcaaDoor
set_option linter.unusedSimpArgs false
set_option linter.unusedVariables false
open Go.RowKit Own RegJ Two
open Go.Lib hiding intOf

def loDel (lo : Lo) (i : Nat) : Lo := fun r => match r with
  | .node j => if j = i then none else lo (.node j)
  | .ents j => if j = i then none else lo (.ents j)
  | .tab => lo .tab
  | .st q => lo (.st q)
theorem loDel_old {lo : Lo} {i : Nat} {r : Rl} {k : Nat} (h : loDel lo i r = some k) : lo r = some k ∧ r ≠ .node i ∧ r ≠ .ents i := by
  cases r <;> simp only [loDel] at h
  · exact ⟨h, by simp, by simp⟩
  · split at h
    · cases h
    · rename_i e; exact ⟨h, by simpa using e, by simp⟩
  · split at h
    · cases h
    · rename_i e; exact ⟨h, by simp, by simpa using e⟩
  · exact ⟨h, by simp, by simp⟩
section
variable {w w' : World} {tb : Nat} {ns : NSt} {lo : Lo} {N : Nat}
theorem TB.kill [Inhabited CapT] (h : TB w tb ns lo N) {i : Nat} {nd : Nd} {so : SRl → Option Nat} (hi : ns i = some nd) (hu : Upd (fun k => k = tb ∨ ∃ q, soOf lo q = some k) w w') (ht : Blk w' tb (tabCells (loDel lo i)) 96)
    (hS : St w' so (filesOf (nsPut ns i none)) capN N) (hs : so .sto = soOf lo .sto) (hso : ∀ q k, so q = some k → (∃ q', lo (.st q') = some k) ∨ w.heap.size ≤ k) : TB w' tb (nsPut ns i none) (loSt (loDel lo i) so) N := by
  have hoth : ∀ r k, lo r = some k → r ≠ .tab → (∀ q, r ≠ .st q) → ¬ (k = tb ∨ ∃ q, soOf lo q = some k) := fun r k hk h1 h2 hh => by
    rcases hh with hh | ⟨q, hh⟩
    · exact h1 (h.inj r .tab k hk (by rw [hh]; exact h.at'))
    · exact h2 q (h.inj r (.st q) k hk hh)
  obtain ⟨f, ls, hI⟩ := hS
  have hsz := hu.size
  refine ⟨fun r r' k h1 h2 => ?_, fun r k h1 => ?_, h.at', ⟨f, ls, hI⟩, ?_, fun j hj => ?_, fun j hj => ?_, fun j nd' hj => ?_⟩
  · rcases loSt_old h1 with ⟨q, rfl, g1⟩ | ⟨g1, e1⟩
    · rcases loSt_old h2 with ⟨q', rfl, g2⟩ | ⟨g2, e2⟩
      · rw [hI.inj q q' k g1 g2]
      · have g3 := (loDel_old g2).1
        rcases hso q k g1 with ⟨q', e⟩ | e
        · exact absurd (h.inj _ _ _ g3 e) (e2 q')
        · have := h.lt _ _ g3; omega
    · have g3 := (loDel_old g1).1
      rcases loSt_old h2 with ⟨q', rfl, g2⟩ | ⟨g2, e2⟩
      · rcases hso q' k g2 with ⟨q, e⟩ | e
        · exact absurd (h.inj _ _ _ g3 e) (e1 q)
        · have := h.lt _ _ g3; omega
      · exact h.inj r r' k g3 (loDel_old g2).1
  · rcases loSt_old h1 with ⟨q, rfl, g1⟩ | ⟨g1, e1⟩
    · exact hI.lt q k g1
    · have := h.lt r k (loDel_old g1).1; omega
  · have e : tabCells (loSt (loDel lo i) so) = tabCells (loDel lo i) := by
      unfold tabCells loSt
      simp only
      rw [hs]; rfl
    rw [e]; exact ht
  · simp only [loSt, loDel]
    split
    · rfl
    · rename_i e; rw [put_ne _ _ _ e] at hj; exact h.none' j hj
  · by_cases e : j = i
    · subst e; rw [put_eq]
    · rw [put_ne _ _ _ e]; exact h.far j hj
  · by_cases e : j = i
    · subst e; rw [put_eq] at hj; cases hj
    · rw [put_ne _ _ _ e] at hj
      obtain ⟨k, v, k1, k2, k3, k4⟩ := h.node j nd' hj
      refine ⟨k, v, by simp only [loSt, loDel]; rw [if_neg e]; exact k1, Blk.upd hu k2 (hoth _ _ k1 (by simp) (by simp)), ?_, k4⟩
      simp only [loSt, loDel]
      rw [if_neg e]
      exact k3.upd hu (fun g hg => hoth _ _ hg (by simp) (by simp))
theorem tabCells_del (lo : Lo) (i : Nat) (hi : i < 16) : (tabCells lo).setIfInBounds (1 + i) (.pointer none) = tabCells (loDel lo i) := by
  apply Array.ext_getElem?
  intro j
  rw [Array.getElem?_setIfInBounds]
  unfold tabCells
  by_cases hj : 1 + i = j
  · subst hj
    rw [Nat.add_comm]
    simp [hi, loDel, ptr]
  · rw [if_neg hj]
    cases j with
    | zero => simp [loDel]
    | succ j =>
      have hji : j ≠ i := fun e => hj (by omega)
      simp only [List.getElem?_toArray, List.getElem?_cons_succ, List.getElem?_map]
      by_cases h16 : j < 16
      · simp [h16, loDel, hji]
      · simp [h16]
theorem files_del (ns : NSt) (i : Nat) : filesOf (nsPut ns i none) = fsPut (filesOf ns) i none := by
  funext j
  unfold filesOf nsPut fsPut
  by_cases h : j = i
  · rw [if_pos h, if_pos h]
  · rw [if_neg h, if_neg h]
theorem files_deld {ns : NSt} {i : Nat} {nd : Nd} (hn : ns i = some nd) (hd : nd.dir = true) : filesOf (nsPut ns i none) = filesOf ns := by
  funext j
  unfold filesOf nsPut
  by_cases h : j = i
  · rw [if_pos h, h, hn]; simp only [hd, if_pos]
  · rw [if_neg h]
theorem files_at {ns : NSt} {i : Nat} {nd : Nd} (hn : ns i = some nd) (hd : nd.dir = false) : filesOf ns i = some nd.bs := by
  unfold filesOf; rw [hn]; simp [hd]
theorem TFr.refl (lo : Lo) (w : World) : TFr lo lo w w := ⟨Upd.refl _ _, fun r k h => Or.inl ⟨r, h⟩, rfl, rfl⟩
theorem TFr.trans {lo1 lo2 lo3 : Lo} {w1 w2 w3 : World} (h : TFr lo1 lo2 w1 w2) (g : TFr lo2 lo3 w2 w3) : TFr lo1 lo3 w1 w3 := by
  have hs := h.1.size
  refine ⟨h.1.trans g.1 (fun k hk ⟨r, hr⟩ => ?_), fun r k hk => ?_, g.2.2.1.trans h.2.2.1, g.2.2.2.trans h.2.2.2⟩
  · rcases h.2.1 r k hr with h1 | h1
    · exact h1
    · omega
  · rcases g.2.1 r k hk with ⟨r', h1⟩ | h1
    · exact h.2.1 r' k h1
    · exact Or.inr (by omega)
theorem TFr.of_below {lo : Lo} {w w' : World} (h : Below w.heap.size w w') : TFr lo lo w w' := ⟨Upd.of_below h, fun r k h => Or.inl ⟨r, h⟩, rfl, rfl⟩
end
def SetP [Inhabited CapT] (w : World) (tb : Nat) (ns' : NSt) (lo : Lo) (N : Nat) (e : Ending) (w' : World) : Prop := (∃ v, e = .returned v) ∧ ∃ lo', TB w' tb ns' lo' N ∧ TFr lo lo' w w'
/-- one round of settle's loop -/
structure Rnd [Inhabited CapT] (tb : Nat) (lo : Lo) (N f : Nat) (i : Nat) (es : List En) (v : Value) (s0 : NSt) (pend : List Int) (w : World) (k : Nat) (wr : World) : Prop where
  tab : ∃ lo', TB wr tb (goneL f (es.take k) s0) lo' N ∧ TFr lo lo' w wr ∧ ∀ r g, lo' r = some g → lo (.ents i) ≠ some g
  row : Row2 wr 101 v (es.map enV) (lo (.ents i))
  inv : Inv (goneL f (es.take k) s0) ((es.drop k).map Prod.snd ++ pend)
  len : lenN (goneL f (es.take k) s0) 16 < f
  lt : w.heap.size ≤ wr.heap.size
  rlt : ∀ g, lo (.ents i) = some g → g < w.heap.size
set_option maxRecDepth 100000 in
set_option maxHeartbeats 2000000 in
theorem settle_is [Inhabited CapT] (tb N : Nat) : ∀ (f : Nat) (w : World) (ns : NSt) (lo : Lo) (i : Nat) (nd : Nd) (pend : List Int), TB w tb ns lo N → ns i = some nd → Inv ns pend → lenN ns 16 < f →
    Calls Tryd.prog 37 #[.pointer (some ⟨tb, 0, none⟩), .int .i64 i] w (SetP w tb (gone f ns i) lo N)
  | 0, _, _, _, _, _, _, _, _, _, hf => by omega
  | f + 1, w, ns, lo, i, nd, pend, h, hi, hV, hf => by
    by_cases hs : i = 0 ∨ 0 < nd.links ∨ 0 < nd.opens
    · rw [gone_stay hi hs]
      refine (settle_stay h i nd hi hs).mono ?_
      rintro e w' ⟨hv, rfl⟩
      exact ⟨hv, lo, h, TFr.refl _ _⟩
    · rw [gone_go hi hs]
      obtain ⟨h16, _⟩ := h.is hi
      have ct := h.cell i h16
      obtain ⟨k, v, k1, k2, k3, k4, _⟩ := h.node _ _ hi
      rw [k1] at ct
      unfold ptr at ct
      have c1 := k2.rd
      obtain ⟨a, c, rfl⟩ := k3.slice
      rw [List.length_map] at c1 k2
      have i1 : (i : Int) < 16 := by omega
      have i2 : (0 : Int) ≤ i := by omega
      have ft := h.tab.nf
      have d0 : ((i : Int) == 0) = false := by simp; omega
      have d1 : decide (nd.links > 0) = false := by simp; omega
      have d2 : decide (nd.opens > 0) = false := by simp; omega
      -- the table without the node
      have hkt : k ≠ tb := fun e => by have := h.inj _ _ _ k1 (e ▸ h.at'); cases this
      have hu1 : Upd (fun j => j = tb) w (w.setCell ⟨tb, 1 + i, none⟩ (.pointer none)) := (Upd.refl (fun j => j = tb) w).setCell (p := ⟨tb, 1 + i, none⟩) (fun _ => rfl) _
      have ht1 : Blk (w.setCell ⟨tb, 1 + i, none⟩ (.pointer none)) tb (tabCells (loDel lo i)) 96 := Blk.of (h.tab.set (1 + i) (.pointer none)) (tabCells_del lo i h16)
      have hkill : ∀ w2, ((∃ lo', TB w2 tb (nsPut ns i none) lo' N ∧ TFr lo lo' w w2 ∧ (∀ r g, lo' r = some g → lo (.ents i) ≠ some g)) ∧ Row2 w2 101 (.slice a nd.es.length c) (nd.es.map enV) (lo (.ents i)) ∧ w.heap.size ≤ w2.heap.size) → Rnd tb lo N f i nd.es (.slice a nd.es.length c) (nsPut ns i none) pend w 0 w2 := fun w2 ⟨q1, q2, q3⟩ =>
        ⟨q1, q2, hV.kill hi (fun e => hs (Or.inr (Or.inl e))), by have := kill_len hi h16; show lenN (nsPut ns i none) 16 < f; omega, q3, fun g hg => h.lt _ _ hg⟩
      have hdR : nd.dir = true → Rnd tb lo N f i nd.es (.slice a nd.es.length c) (nsPut ns i none) pend w 0 (w.setCell ⟨tb, 1 + i, none⟩ (.pointer none)) := fun hd =>
        hkill (w.setCell ⟨tb, 1 + i, none⟩ (.pointer none)) ⟨⟨loSt (loDel lo i) (soOf lo), h.kill hi (hu1.mono (fun _ _ e => Or.inl e)) ht1 (by
            rw [files_deld hi hd]
            exact h.sto.upd hu1 (fun r k hk e => by have := h.inj _ _ _ hk (e ▸ h.at'); cases this)) rfl (fun q k hk => Or.inl ⟨q, hk⟩),
          ⟨hu1.mono (fun _ _ e => ⟨.tab, e ▸ h.at'⟩), fun r k hk => by
            rcases loSt_old hk with ⟨q, rfl, g⟩ | ⟨g, _⟩
            · exact Or.inl ⟨_, g⟩
            · exact Or.inl ⟨r, (loDel_old g).1⟩, rfl, rfl⟩, fun r g hr hg => by
            rcases loSt_old hr with ⟨q, rfl, g1⟩ | ⟨g1, _⟩
            · have := h.inj _ _ _ g1 hg; cases this
            · have := loDel_old g1
              exact this.2.2 (h.inj _ _ _ this.1 hg)⟩, by rw [List.length_map] at k3; exact k3.upd hu1 (fun g hg e => by have := h.inj _ _ _ hg (e ▸ h.at'); cases this), hu1.size⟩
      have k2' : Blk (w.setCell ⟨tb, 1 + i, none⟩ (.pointer none)) k #[.bool nd.dir, .int .i64 nd.links, .int .i64 nd.opens, .slice a nd.es.length c] 73 := k2.set_ne (by show k ≠ tb; exact hkt) _
      obtain ⟨sb, s1, hsbl⟩ := h.sto.sto
      have s1' : lo (.st .sto) = some sb := s1
      have hSB : St (w.setCell ⟨tb, 1 + i, none⟩ (.pointer none)) (soOf lo) (filesOf ns) capN N := h.sto.upd hu1 (fun r k hk e => by have := h.inj _ _ _ hk (e ▸ h.at'); cases this)
      have cs : (w.setCell ⟨tb, 1 + i, none⟩ (.pointer none)).cell? ⟨tb, 0, none⟩ = some (.pointer (some ⟨sb, 0, none⟩)) := by rw [ht1.rd]; simp [tabCells, loDel, s1', ptr]
      have hfR : nd.dir = false → Calls Tryd.prog 56 #[.pointer (some ⟨sb, 0, none⟩), .int .i64 i] (w.setCell ⟨tb, 1 + i, none⟩ (.pointer none)) (StP (w.setCell ⟨tb, 1 + i, none⟩ (.pointer none)) (soOf lo) (fsPut (filesOf ns) i none) capN N (.int .i64 0)) ∧
          ∀ w2 so, St w2 so (fsPut (filesOf ns) i none) capN N → OFr (soOf lo) so (w.setCell ⟨tb, 1 + i, none⟩ (.pointer none)) w2 → so .sto = soOf lo .sto → so .frm = soOf lo .frm → Rnd tb lo N f i nd.es (.slice a nd.es.length c) (nsPut ns i none) pend w 0 w2 ∧ Blk w2 k #[.bool nd.dir, .int .i64 nd.links, .int .i64 nd.opens, .slice a nd.es.length c] 73 := fun hd => by
        refine ⟨s_drop hSB sb s1 i nd.bs (files_at hi hd), fun w2 so hS hF hs4 hs5 => ?_⟩
        have hz1 : (w.setCell ⟨tb, 1 + i, none⟩ (.pointer none)).heap.size = w.heap.size := by simp
        have hu12 : Upd (fun j => j = tb ∨ ∃ q, soOf lo q = some j) w w2 := (hu1.mono (fun _ _ e => Or.inl e)).trans (hF.1.mono (fun j _ e => Or.inr e)) (fun _ _ e => e)
        have hq : ∀ q k, so q = some k → (∃ q', lo (.st q') = some k) ∨ w.heap.size ≤ k := fun q k hk => by
          rcases hF.2 q k hk with e | e
          · exact Or.inl e
          · exact Or.inr (by omega)
        refine ⟨hkill w2 ⟨⟨loSt (loDel lo i) so, h.kill hi hu12 (Blk.upd hF.1 ht1 (fun ⟨q, e⟩ => by have := h.inj _ _ _ e h.at'; cases this)) (by rw [files_del]; exact hS) hs4 hq,
          ⟨hu12.mono (fun j _ e => by rcases e with e | ⟨q, e⟩; exact ⟨.tab, e ▸ h.at'⟩; exact ⟨_, e⟩), fun r k hk => by
            rcases loSt_old hk with ⟨q, rfl, g⟩ | ⟨g, _⟩
            · rcases hq q k g with ⟨q', e⟩ | e
              · exact Or.inl ⟨_, e⟩
              · exact Or.inr e
            · exact Or.inl ⟨r, (loDel_old g).1⟩, hs4, hs5⟩, fun r g hr hg => by
            rcases loSt_old hr with ⟨q, rfl, g1⟩ | ⟨g1, _⟩
            · rcases hq q g g1 with ⟨q', e⟩ | e
              · have := h.inj _ _ _ e hg; cases this
              · have := h.lt _ _ hg; omega
            · have := loDel_old g1
              exact this.2.2 (h.inj _ _ _ this.1 hg)⟩, by
            rw [List.length_map] at k3
            exact k3.upd hu12 (fun g hg e => by
              rcases e with e | ⟨q, e⟩
              · have := h.inj _ _ _ hg (e ▸ h.at'); cases this
              · have := h.inj _ _ _ hg e; cases this), hu12.size⟩, Blk.upd hF.1 k2' (fun ⟨q, e⟩ => by have := h.inj _ _ _ k1 e; cases this)⟩
      have HR := Lib.hid (And.intro hdR (And.intro hfR k2'))
      have H := Lib.hid (And.intro h (And.intro hi (And.intro hV hf)))
      have hlen := k4
      have cd := k2'.rd
      clear hdR hfR hkill k2' hSB ht1 hu1 hi hV hf k3 k2 h hs
      go_enter Tryd.func37, Tryd.ntmps37
      go_upto_if 39 with (fail)
      go_cut [4] from 38 to 45 (fun s4 wx => s4 = .pointer (some ⟨k, 0, none⟩) ∧ Hid (Rnd tb lo N f i nd.es (.slice a nd.es.length c) (nsPut ns i none) pend w 0 wx ∧ Blk wx k #[.bool nd.dir, .int .i64 nd.links, .int .i64 nd.opens, .slice a nd.es.length c] 73))
      case first =>
        cases hd : nd.dir with
        | true =>
          have X := And.intro (HR.out.1 hd) HR.out.2.2
          have HX := Lib.hid X
          clear X hd
          go_wp2_with (fail)
          go_meet
          exact ⟨rfl, HX⟩
        | false =>
          obtain ⟨hdr, hnx⟩ := HR.out.2.1 hd
          have HX := Lib.hid hnx
          clear hnx hd
          go_wp2_with (go_at_call 56; (with_reducible refine hdr.mono ?_); rintro e w2 ⟨rfl, so, hS, hF2, hs4, hs5⟩; have HY := Lib.hid (HX.out w2 so hS hF2 hs4 hs5); clear hdr hS hF2 hs4 hs5)
          go_meet
          exact ⟨rfl, HY⟩
      case rest =>
        obtain ⟨rfl, HC⟩ := hcut
        have cw := HC.out.2.rd
        clear cd c1 ct cs
        go_wp2_with (fail)
        generalize hnn : nd.es.length = n at *
        go_loopw [51] (fun v51 wr => ∃ j : Nat, j ≤ n ∧ v51 = .int .i64 j ∧ Hid (Rnd tb lo N f i nd.es (.slice a n c) (nsPut ns i none) pend w j wr)) (fun v51 _ => n - (intOf v51).toNat)
        case atStart => exact ⟨0, by omega, rfl, Lib.hid HC.out.1⟩
        case round =>
          obtain ⟨j, hjn, rfl, HJ⟩ := hrel
          by_cases hjl : j < n
          · have d5 : decide ((j : Int) < (n : Int)) = true := by simp; omega
            have d5n : decide (j < n) = true := by simp; omega
            have i5 : (j : Int) < (n : Int) := by omega
            have i6 : (0 : Int) ≤ j := by omega
            obtain ⟨⟨nm, x⟩, hx⟩ : ∃ x, nd.es[j]? = some x := ⟨_, List.getElem?_eq_getElem (by omega)⟩
            obtain ⟨g, rfl, r1, r2⟩ := HJ.out.row.rd j (enV (nm, x)) (by rw [List.getElem?_map, hx]; rfl)
            have hdrop : nd.es.drop j = (nm, x) :: nd.es.drop (j + 1) := by
              rw [List.drop_eq_getElem_cons (by omega)]
              congr 1
              exact (List.getElem?_eq_some_iff.1 hx).2
            have hinv := HJ.out.inv
            rw [hdrop, List.map_cons, List.cons_append] at hinv
            have hxb := hinv.pids x (List.mem_cons_self ..)
            obtain ⟨m, rfl⟩ : ∃ m : Nat, x = m := ⟨x.toNat, by omega⟩
            obtain ⟨hdec, ndm, hm, hde⟩ := hinv.dec
            simp only [Int.toNat_natCast] at hdec hm hde
            obtain ⟨lo', hT, hF, hD⟩ := HJ.out.tab
            obtain ⟨km, vm, q1, q2, _⟩ := hT.node m ndm hm
            have hm16 := hinv.lt hm
            have hl0 := hinv.links hm
            have hl1 := hinv.bnd m ndm hm
            have ctm := (hT.below ((Below.refl wr.heap.size wr).alloc (Nat.le_refl _) (.cells #[.string (B nm), .int .i64 m] 101))).cell m hm16
            rw [q1] at ctm
            unfold ptr at ctm
            have i7 : (m : Int) < 16 := by omega
            have i8 : (0 : Int) ≤ m := by omega
            have r1' : wr.cell? ⟨g, j * 2, none⟩ = some (.string (B nm)) := r1
            have r2' : wr.cell? ⟨g, j * 2 + 1, none⟩ = some (.int .i64 m) := r2
            have HQ := Lib.hid (And.intro hx (And.intro hdec (And.intro hde (And.intro hm (And.intro hT (And.intro hF (And.intro hD (And.intro q1 (And.intro q2 hm16)))))))))
            clear r1 r2 hinv hdec hde hT hF hD q2 hdrop hm q1 hx hxb
            generalize hBB : B nm = bs at *
            clear hBB
            go_upto_region 8 with (fail)
            go_quiet (fail)
            obtain ⟨wd, hwd⟩ : ∃ wd, (wr.alloc (.cells #[.string bs, .int .i64 m] 101)).drewN nq = wd := ⟨_, rfl⟩
            rw [hwd]
            obtain ⟨hx, hdec, hde, hm, hT, hF, hD, q1, q2, hm16⟩ := HQ.out
            have hA : Below wr.heap.size wr wd := by
              rw [← hwd]
              exact (Upd.drewN ((Upd.refl (fun _ => False) wr).alloc _) nq).below (Nat.le_refl _) (fun _ h => h.elim)
            have hEn : Blk wd wr.heap.size #[.string bs, .int .i64 m] 101 := by rw [← hwd]; exact (Blk.new _ _ _).drewN nq
            have hTA := hT.below hA
            have q2A := Blk.below hA q2 q2.lt
            have cm := q2A.rd
            have fm := q2A.nf
            have hne : wr.heap.size ≠ km := by have := q2.lt; omega
            have hu5 : Upd (fun k => k = km) wd (wd.setCell ⟨km, 1, none⟩ (.int .i64 (ndm.links - 1))) := (Upd.refl (fun k => k = km) _).setCell (p := ⟨km, 1, none⟩) (fun _ => rfl) _
            have hT5 := hTA.num (nd' := addL ndm (-1)) hm q1 rfl rfl rfl hu5 (fun v hv => Blk.of (hv.set 1 (.int .i64 (ndm.links - 1))) rfl)
            have hE5 := Blk.upd hu5 hEn hne
            rw [hde] at hdec
            have hIH := settle_is tb N f _ _ lo' m (addL ndm (-1)) _ hT5 (put_eq _ _ _) hdec (by rw [← hde, lenN_dec _ hm16]; exact HJ.out.len)
            have HA := Lib.hid (And.intro hdec (And.intro hA (And.intro hu5 hE5)))
            clear hdec hde hm hx hT hF hD q1 q2 q2A hT5 hu5 hTA hwd hA hEn hE5
            generalize ndm.links = L at *
            go_upto_region 11 with (fail)
            have c5 := HA.out.2.2.2.rd
            have HU := Lib.hid HA.out.2.2.1
            generalize wd.setCell ⟨km, 1, none⟩ (.int .i64 (L - 1)) = w5 at *
            go_wp2_with (go_at_call 37; (with_reducible refine hIH.mono ?_); rintro e w6 ⟨⟨v6, rfl⟩, lo6, hT6, hF6⟩; have H6 := Lib.hid (And.intro hT6 hF6); clear hIH hT6 hF6)
            go_roundw
            case rel =>
              refine ⟨j + 1, by omega, by go_num, Lib.hid ?_⟩
              obtain ⟨hx, _, hde, hm, hT, hF, hD, q1, q2, hm16⟩ := HQ.out
              obtain ⟨hdec, hA, hu5, _⟩ := HA.out
              have htk : nd.es.take (j + 1) = nd.es.take j ++ [(nm, (m : Int))] := by
                rw [List.take_add_one, hx]; rfl
              have hgo : goneL f (nd.es.take (j + 1)) (nsPut ns i none) = gone f (nsPut (goneL f (nd.es.take j) (nsPut ns i none)) m (some (addL ndm (-1)))) m := by
                rw [htk, goneL_snoc]
                simp only [Int.toNat_natCast]
                rw [if_pos (by rw [hm]; rfl), hde]
              have z1 := hA.size
              have z2 := hu5.size
              have z3 := HJ.out.lt
              have hF5 : TFr lo' lo' wr w5 := (TFr.of_below hA).trans ⟨hu5.mono (fun k' _ (e : k' = km) => ⟨_, e ▸ q1⟩), fun r k h => Or.inl ⟨r, h⟩, rfl, rfl⟩
              have hF56 := hF5.trans H6.out.2
              refine ⟨⟨lo6, by rw [hgo]; exact H6.out.1, hF.trans hF56, fun r g' hg' e => ?_⟩, HJ.out.row.upd hF56.1 (fun g' hg' ⟨r, hr⟩ => hD r g' hr hg'), ?_, ?_, ?_, HJ.out.rlt⟩
              · rcases hF56.2.1 r g' hg' with ⟨r', h1⟩ | h1
                · exact hD r' g' h1 e
                · have := HJ.out.rlt g' e; omega
              · rw [hgo]; exact gone_inv f _ _ _ hdec
              · rw [hgo]
                refine Nat.lt_of_le_of_lt (gone_len f _ _ _ hdec) ?_
                rw [← hde, lenN_dec _ hm16]; exact HJ.out.len
              · have := hF56.1.size; omega
            case measure => simp [intOf]; omega
          · have hje : j = n := by omega
            subst hje
            go_wp2_with (fail)
            go_returns
            obtain ⟨lo', hT, hF, _⟩ := HJ.out.tab
            rw [List.take_of_length_le (by omega)] at hT
            exact ⟨⟨_, rfl⟩, lo', hT, hF⟩
end Go.Proofs.YtchnjfmimpikcaaDoor
