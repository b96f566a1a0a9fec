/-
  The document's store as it lies, within a set of blocks that its side may turn; at, Size, Make, Cut.
-/
import Derived.Test.YtchnjfmimpikcaaGreatDoorQFs
import Derived.Test.YtchnjfmimpikcaaGreatDoorQPl
import Derived.Test.YtchnjfmimpikcaaGreatDoorThree
import Derived.Test.YtchnjfmimpikcaaGreatDoorTwoC
import Derived.StillTailTactics
namespace Go.Proofs.YtchnjfmimpikcaaGreatDoor
set_option linter.unusedSimpArgs false
set_option linter.unusedVariables false
open Go.RowKit Own RegC Three Two
open RegJ hiding Up
open RegF hiding put_size

theorem infoFile : (Tryz.prog.info? 163).map (fun i => (i.zero, i.size, i.bytes)) = some (some (.agg #[.int .i64 0, .slice none 0 0, .slice none 0 0]), 3, 56) := by kernel_rfl
theorem underF : Tryz.prog.underlying 144 = some (.slice 163) := Tryz.underlying144
/-- a file's three cells -/
def FilIs (w : World) (O : Nat → Prop) (x : V3) (f : Fil) : Prop := x.1 = .int .i64 f.id ∧ (∃ b, RowV w 5 x.2.1 (ucells f.bs) b ∧ inO O b) ∧ ∃ b, RowV w 3 x.2.2 (icells f.fr) b ∧ inO O b
/-- blocks that are neither rows of bytes nor of numbers -/
def NoRow (w : World) (F : Nat → Prop) : Prop := ∀ k, F k → ∃ cs T, Blk w k cs T ∧ 5 ≠ T ∧ 3 ≠ T
theorem FilIs.one {w : World} {O : Nat → Prop} {x : V3} {f : Fil} (h : FilIs w O x f) : x.1.oneCell' = true ∧ x.2.1.oneCell' = true ∧ x.2.2.oneCell' = true := by
  obtain ⟨h1, ⟨b, h2, _⟩, b', h3, _⟩ := h
  obtain ⟨a, c, e, _⟩ := h2.slice
  obtain ⟨a', c', e', _⟩ := h3.slice
  rw [h1, e, e']
  exact ⟨rfl, rfl, rfl⟩
theorem FilIs.turn {w w' : World} {O O' F : Nat → Prop} {x : V3} {f : Fil} (h : FilIs w O x f) (hu : Upd F w w') (hF : NoRow w F) (ho : ∀ k, O k → k < w.heap.size → O' k) : FilIs w' O' x f := by
  obtain ⟨h1, ⟨b, h2, h4⟩, b', h3, h5⟩ := h
  refine ⟨h1, ⟨b, h2.upd hu (fun g hg e => ?_), fun g hg => ho g (h4 g hg) (h2.lt g hg)⟩, b', h3.upd hu (fun g hg e => ?_), fun g hg => ho g (h5 g hg) (h3.lt g hg)⟩
  · obtain ⟨cs, T, q1, q2, _⟩ := hF g e
    exact h2.neT q1 q2 g hg rfl
  · obtain ⟨cs, T, q1, _, q2⟩ := hF g e
    exact h3.neT q1 q2 g hg rfl
theorem FilIs.upd {w w' : World} {O F : Nat → Prop} {x : V3} {f : Fil} (h : FilIs w O x f) (hu : Upd F w w') (hF : ∀ k, O k → ¬ F k) : FilIs w' O x f := by
  obtain ⟨h1, ⟨b, h2, h4⟩, b', h3, h5⟩ := h
  exact ⟨h1, ⟨b, h2.upd hu (fun g hg => hF _ (h4 g hg)), h4⟩, b', h3.upd hu (fun g hg => hF _ (h5 g hg)), h5⟩
theorem FilIs.mono {w : World} {O O' : Nat → Prop} {x : V3} {f : Fil} (h : FilIs w O x f) (ho : ∀ k, O k → k < w.heap.size → O' k) : FilIs w O' x f :=
  h.turn (Upd.refl (fun _ => False) w) (fun k h => h.elim) ho
/-- the rows of a store -/
structure LD (w : World) (O : Nat → Prop) (v : Value) (g : Option Nat) (vals : List V3) (fls : List Fil) : Prop where
  row : Row3 w 163 v vals g
  og : inO O g
  len : vals.length = fls.length
  is : ∀ (j : Nat) x f, vals[j]? = some x → fls[j]? = some f → FilIs w O x f
theorem LD.one {w : World} {O : Nat → Prop} {v : Value} {g : Option Nat} {vals : List V3} {fls : List Fil} (h : LD w O v g vals fls) : One3 vals := by
  intro x hx
  obtain ⟨j, hj, rfl⟩ := List.getElem_of_mem hx
  obtain ⟨f, hf⟩ : ∃ f, fls[j]? = some f := ⟨_, List.getElem?_eq_getElem (by rw [← h.len]; exact hj)⟩
  exact (h.is j _ _ (List.getElem?_eq_getElem hj) hf).one
structure SD (w : World) (O : Nat → Prop) (sb fb tb bb n : Nat) (fls : List Fil) (tk : List Bool) (back : List Int) (fr : Nat) : Prop where
  blk : ∃ v g vals, Blk w sb #[.pointer (some ⟨fb, 0, none⟩), v] 146 ∧ LD w O v g vals fls
  osb : O sb
  frm : FD w O fb tb bb n tk back fr
/-- the store: these files, n frames -/
def SS (w : World) (O : Nat → Prop) (sb n N : Nat) (fs : Sfs) : Prop := ∃ fb tb bb fls tk back fr, SD w O sb fb tb bb n fls tk back fr ∧ SOk n N fs fls tk back fr
section
variable {w w' : World} {O O' F : Nat → Prop} {sb fb tb bb n N fr : Nat} {fls : List Fil} {tk : List Bool} {back : List Int} {fs : Sfs} {v : Value} {g : Option Nat} {vals : List V3}
theorem LD.upd (h : LD w O v g vals fls) (hu : Upd F w w') (hF : ∀ k, O k → ¬ F k) : LD w' O v g vals fls :=
  ⟨h.row.upd hu (fun k hk => hF _ (h.og k hk)), h.og, h.len, fun j x f hx hf => (h.is j x f hx hf).upd hu hF⟩
theorem LD.mono (h : LD w O v g vals fls) (ho : ∀ k, O k → k < w.heap.size → O' k) : LD w O' v g vals fls :=
  ⟨h.row, fun k hk => ho k (h.og k hk) (h.row.lt k hk), h.len, fun j x f hx hf => (h.is j x f hx hf).mono ho⟩
theorem LD.turn (h : LD w O v g vals fls) (hu : Upd F w w') (hF : NoRow w F) (hg : ∀ k, g = some k → ¬ F k) (ho : ∀ k, O k → k < w.heap.size → O' k) : LD w' O' v g vals fls :=
  ⟨h.row.upd hu hg, fun k hk => ho k (h.og k hk) (h.row.lt k hk), h.len, fun j x f hx hf => (h.is j x f hx hf).turn hu hF ho⟩
theorem LD.below (h : LD w O v g vals fls) (hB : Below w.heap.size w w') : LD w' O v g vals fls :=
  h.turn (Upd.of_below (F := fun _ => False) hB) (fun k h => h.elim) (fun _ _ h => h) (fun _ h _ => h)
theorem FD.mono2 (h : FD w O fb tb bb n tk back fr) (ho : ∀ k, O k → k < w.heap.size → O' k) : FD w O' fb tb bb n tk back fr := h.tight.mono (fun k hk => ho k hk.1 hk.2)
theorem SD.upd (h : SD w O sb fb tb bb n fls tk back fr) (hu : Upd F w w') (hF : ∀ k, O k → ¬ F k) : SD w' O sb fb tb bb n fls tk back fr := by
  obtain ⟨v, g, vals, h1, h2⟩ := h.blk
  exact ⟨⟨v, g, vals, Blk.upd hu h1 (hF _ h.osb), h2.upd hu hF⟩, h.osb, h.frm.upd hu hF⟩
theorem SD.mono (h : SD w O sb fb tb bb n fls tk back fr) (ho : ∀ k, O k → k < w.heap.size → O' k) : SD w O' sb fb tb bb n fls tk back fr := by
  obtain ⟨v, g, vals, h1, h2⟩ := h.blk
  exact ⟨⟨v, g, vals, h1, h2.mono ho⟩, ho _ h.osb h1.lt, h.frm.mono2 ho⟩
theorem SD.below (h : SD w O sb fb tb bb n fls tk back fr) (hB : Below w.heap.size w w') : SD w' O sb fb tb bb n fls tk back fr := by
  obtain ⟨v, g, vals, h1, h2⟩ := h.blk
  exact ⟨⟨v, g, vals, Blk.below hB h1 h1.lt, h2.below hB⟩, h.osb, h.frm.below hB⟩
theorem SS.upd (h : SS w O sb n N fs) (hu : Upd F w w') (hF : ∀ k, O k → ¬ F k) : SS w' O sb n N fs := by
  obtain ⟨fb, tb, bb, fls, tk, back, fr, h1, h2⟩ := h
  exact ⟨fb, tb, bb, fls, tk, back, fr, h1.upd hu hF, h2⟩
theorem SS.mono (h : SS w O sb n N fs) (ho : ∀ k, O k → k < w.heap.size → O' k) : SS w O' sb n N fs := by
  obtain ⟨fb, tb, bb, fls, tk, back, fr, h1, h2⟩ := h
  exact ⟨fb, tb, bb, fls, tk, back, fr, h1.mono ho, h2⟩
theorem SS.below (h : SS w O sb n N fs) (hB : Below w.heap.size w w') : SS w' O sb n N fs := by
  obtain ⟨fb, tb, bb, fls, tk, back, fr, h1, h2⟩ := h
  exact ⟨fb, tb, bb, fls, tk, back, fr, h1.below hB, h2⟩
theorem SOk.more {N' : Nat} (h : SOk n N fs fls tk back fr) (hN : N ≤ N') : SOk n N' fs fls tk back fr :=
  ⟨⟨h.core.r1, h.core.r2, h.core.r3, h.core.cnt, h.core.rng, h.core.own, h.core.tot, h.core.frn, h.core.tkn, Nat.le_trans h.core.most hN, h.core.far, h.core.b512⟩, h.len, h.use⟩
theorem SS.le {N' : Nat} (h : SS w O sb n N fs) (hN : N ≤ N') : SS w O sb n N' fs := by
  obtain ⟨fb, tb, bb, fls, tk, back, fr, h1, h2⟩ := h
  exact ⟨fb, tb, bb, fls, tk, back, fr, h1, h2.more hN⟩
theorem nx_keep (hs : w.heap.size ≤ w'.heap.size) : ∀ k, O k → k < w.heap.size → nx w w' O k := fun k h hl => ⟨Or.inl h, by omega⟩
/-- behind a step of the store's -/
def SQ (w : World) (O : Nat → Prop) (sb n N : Nat) (fs : Sfs) (v : Value) (e : Ending) (w' : World) : Prop := e = .returned v ∧ SS w' (nx w w' O) sb n N fs ∧ Upd O w w'
def atF (fls : List Fil) (id r : Int) : Prop := (r = -1 ∧ ∀ (j : Nat) f, fls[j]? = some f → f.id ≠ id) ∨ ∃ (j : Nat) (f : Fil), r = j ∧ fls[j]? = some f ∧ f.id = id
set_option maxRecDepth 100000 in
theorem qat_is (h : SD w O sb fb tb bb n fls tk back fr) (hl : fls.length ≤ 2000) (id : Int) : Calls Tryz.prog 98 #[.pointer (some ⟨sb, 0, none⟩), .int .i64 id] w fun e w' => (∃ r, e = .returned (.int .i64 r) ∧ atF fls id r) ∧ w = w' := by
  obtain ⟨v, g, vals, hb, hL⟩ := h.blk
  obtain ⟨a, c, rfl⟩ := hL.row.slice
  rw [hL.len] at hb
  have c1 := hb.rd
  have H := Lib.hid hL
  clear h hb hL
  generalize hnn : fls.length = m at *
  have HN := Lib.hid hnn
  clear hnn
  go_enter Tryz.func98, Tryz.ntmps98
  go_wp2_with (fail)
  go_loopw [5] (fun v5 wr => ∃ i : Nat, i ≤ m ∧ v5 = .int .i64 i ∧ Hid (∀ (j : Nat) f, j < i → fls[j]? = some f → f.id ≠ id) ∧ wr = w) (fun v5 _ => m - (intOf v5).toNat)
  case atStart => exact ⟨0, Nat.zero_le _, rfl, Lib.hid (fun j f hj => by omega), rfl⟩
  case round =>
    obtain ⟨i, hi, rfl, HA, rfl⟩ := hrel
    by_cases hil : i < m
    · have d1 : decide ((i : Int) < (m : Int)) = true := by simp; omega
      have d1n : decide (i < m) = true := by simp; omega
      have i1 : (i : Int) < (m : Int) := by omega
      have i2 : (0 : Int) ≤ i := by omega
      obtain ⟨f, hf⟩ : ∃ f, fls[i]? = some f := ⟨_, List.getElem?_eq_getElem (by rw [HN.out]; exact hil)⟩
      obtain ⟨x, hx⟩ : ∃ x, vals[i]? = some x := ⟨_, List.getElem?_eq_getElem (by rw [H.out.len, HN.out]; exact hil)⟩
      have hrr := H.out.row
      rcases hrr with ⟨_, hnil, _⟩ | ⟨g', cap, rest, hv, hb', hB, hc, hm⟩
      · rw [hnil] at hx; cases hx
      simp only [Value.slice.injEq] at hv
      obtain ⟨rfl, -, -⟩ := hv
      obtain ⟨r1, _, _⟩ := Three.blk_row hB i x hx
      rw [(H.out.is i x f hx hf).1] at r1
      clear hB hc hm hb'
      obtain ⟨fid, hfid⟩ : ∃ fid, f.id = fid := ⟨_, rfl⟩
      rw [hfid] at r1
      by_cases hxi : fid = id
      · subst hxi
        have HX := Lib.hid (And.intro hf hfid)
        clear hf hx hfid
        go_wp2_with (fail)
        go_ret
        exact ⟨⟨_, rfl, Or.inr ⟨i, f, rfl, HX.out.1, HX.out.2⟩⟩, rfl⟩
      · have d2 : (fid == id) = false := by simpa using hxi
        have HX := Lib.hid (And.intro hf (And.intro hfid hxi))
        clear hf hx hxi hfid
        go_wp2_with (fail)
        go_roundw
        case rel => exact ⟨i + 1, by omega, by go_num, Lib.hid (fun j f' hj hf' => by
          by_cases hji : j < i
          · exact HA.out j f' hji hf'
          · have : j = i := by omega
            subst this; rw [HX.out.1] at hf'; cases hf'; rw [HX.out.2.1]; exact HX.out.2.2), by trivial⟩
        case measure => simp [intOf]; omega
    · have d1 : decide ((i : Int) < (m : Int)) = false := by simp; omega
      have d1n : decide (i < m) = false := by simp; omega
      have HM := Lib.hid (show m ≤ i by omega)
      clear hil hi
      go_wp2_with (fail)
      go_ret
      refine ⟨⟨_, rfl, Or.inl ⟨rfl, fun j f hf => ?_⟩⟩, rfl⟩
      have hj := (List.getElem?_eq_some_iff.1 hf).1
      exact HA.out j f (by have := HM.out; rw [HN.out] at hj; omega) hf
set_option maxRecDepth 100000 in
theorem qsize_is (h : SS w O sb n N fs) (hN : N ≤ 1000) (id r1 r2 : Int) (hr : sizeV fs id = (r1, r2)) : Calls Tryz.prog 122 #[.pointer (some ⟨sb, 0, none⟩), .int .i64 id] w fun e w' => e = .returned (.tuple #[.int .i64 r1, .int .i64 r2]) ∧ w = w' := by
  obtain ⟨fb, tb, bb, fls, tk, back, fr, h, hk⟩ := h
  have hl := hk.core.most
  have ha := qat_is h (by omega) id
  obtain ⟨v, g, vals, hb, hL⟩ := h.blk
  obtain ⟨a, c, rfl⟩ := hL.row.slice
  rw [hL.len] at hb
  have c1 := hb.rd
  have H := Lib.hid (And.intro hL (And.intro hk hr))
  clear h hb hL hk hr
  generalize hnn : fls.length = m at *
  have HN := Lib.hid hnn
  clear hnn
  go_enter Tryz.func122, Tryz.ntmps122
  go_upto_region 2 with (go_at_call 98; refine ha.mono ?_; rintro e w' ⟨⟨r, rfl, hq⟩, rfl⟩; clear ha; have HQ := Lib.hid hq; clear hq)
  rcases HQ.out with ⟨rfl, hno⟩ | ⟨j, f, rfl, hx, hid⟩
  · have HO := Lib.hid hno
    clear hno
    go_wp2_with (fail)
    go_returns
    have h2 := H.out.2.2
    unfold sizeV at h2
    rw [H.out.2.1.core.none' HO.out] at h2
    cases h2
    exact ⟨rfl, rfl⟩
  · have hjl := (List.getElem?_eq_some_iff.1 hx).1
    rw [HN.out] at hjl
    obtain ⟨x, hxv⟩ : ∃ x, vals[j]? = some x := ⟨_, List.getElem?_eq_getElem (by rw [H.out.1.len, HN.out]; exact hjl)⟩
    have hrr := H.out.1.row
    rcases hrr with ⟨_, hnil, _⟩ | ⟨g', cap, rest, hv, hb', hB, hc, hm⟩
    · rw [hnil] at hxv; cases hxv
    simp only [Value.slice.injEq] at hv
    obtain ⟨rfl, -, -⟩ := hv
    obtain ⟨_, r1', _⟩ := Three.blk_row hB j x hxv
    obtain ⟨_, ⟨b1, hb1, _⟩, _⟩ := H.out.1.is j x f hxv hx
    obtain ⟨a1, k1, e1, _⟩ := hb1.slice
    rw [e1, List.length_map] at r1'
    have hsz := H.out.2.2
    unfold sizeV at hsz
    rw [← hid, H.out.2.1.core.some' hx] at hsz
    obtain ⟨rfl, rfl⟩ : (f.bs.length : Int) = r1 ∧ 0 = r2 := by cases hsz; exact ⟨rfl, rfl⟩
    obtain ⟨bl, hbl⟩ : ∃ bl, f.bs.length = bl := ⟨_, rfl⟩
    rw [hbl] at r1'
    have HBL := Lib.hid hbl
    have i1 : (j : Int) < (m : Int) := by omega
    have i2 : (0 : Int) ≤ j := by omega
    have d1 : decide ((j : Int) < 0) = false := by simp
    clear hB hc hm hb' hx hxv hb1 e1 hid hsz hbl
    go_wp2_with (fail)
    go_returns
    exact ⟨by rw [HBL.out]; rfl, rfl⟩
theorem Row3.news {w : World} {T : TypeId} {a : Option Addr} {n c : Nat} {xs : List V3} {b : Option Nat} (h : Row3 w T (.slice a n c) xs b) : 0 < n → ∃ A, a = some A ∧ ∀ (j : Nat) (u : Value), (cells3 xs)[j]? = some u → w.cell? (A.add j) = some u := by
  intro hn
  rcases h with ⟨h, _⟩ | ⟨g, cap, rest, hv, hb, hB, hc, hm⟩
  · cases h; omega
  · simp only [Value.slice.injEq] at hv
    obtain ⟨rfl, -, -⟩ := hv
    refine ⟨_, rfl, fun j u hj => ?_⟩
    have hjl := (List.getElem?_eq_some_iff.1 hj).1
    rw [Two.add0, Nat.zero_add, hB.rd, List.getElem?_toArray, List.getElem?_append_left hjl]
    exact hj
set_option maxRecDepth 100000 in
set_option maxHeartbeats 1000000 in
theorem qmake_is (h : SS w O sb n N fs) (hN : N ≤ 900) (i : Nat) (h16 : i < 16) (hi : fs i = none) : Calls Tryz.prog 117 #[.pointer (some ⟨sb, 0, none⟩), .int .i64 i] w (SQ w O sb n (N + 1) (fsPut fs i (some [])) (.int .i64 0)) := by
  obtain ⟨fb, tb, bb, fls, tk, back, fr, h, hk⟩ := h
  have hl := hk.core.most
  have ha := qat_is h (by omega) i
  have h0 := h
  obtain ⟨v, g, vals, hb, hL⟩ := h.blk
  obtain ⟨a, c, rfl⟩ := hL.row.slice
  rw [hL.len] at hb
  have hL' := hL
  have hrow := hL.row
  rw [hL.len] at hrow
  have c1 := hb.rd
  have f1 := hb.nf
  have d0 : decide ((i : Int) < 0) = false := by simp
  have H := Lib.hid (And.intro h0 (And.intro hk (And.intro hb (And.intro hL (And.intro hi (And.intro hN h16))))))
  have HR := Lib.hid (And.intro hrow hl)
  clear h hb hL hL' hl h0 hk hi hN hrow
  generalize hnn : fls.length = m at *
  have HN := Lib.hid hnn
  clear hnn
  go_enter Tryz.func117, Tryz.ntmps117
  go_upto_if 10 with (go_at_call 98; refine ha.mono ?_; rintro e w' ⟨⟨r, rfl, hq⟩, rfl⟩; clear ha; have HQ := Lib.hid hq; clear hq)
  rcases HQ.out with ⟨rfl, hno⟩ | ⟨j, f, rfl, hx, hid⟩
  · have d1 : decide ((-1 : Int) ≥ 0) = false := by decide
    clear hno
    have E3 : Hid ((vals ++ [(⟨.int .i64 i, .slice none 0 0, .slice none 0 0⟩ : V3)]).length = m + 1) := Lib.hid (by simp [H.out.2.2.2.1.len, HN.out])
    go_wp2_with (first
      | (at_builtin; refine wp_app3 rfl _ _ 144 163 _ 56 infoFile rfl (by decide) underF rfl _ [] none rfl (Or.inl ⟨rfl, rfl, rfl⟩) a m c vals (by rw [H.out.2.2.2.1.len]; exact HN.out) rfl (Row3.news HR.out.1) H.out.2.2.2.1.one (by have := HR.out.2; have := H.out.2.2.2.2.2.1; rw [H.out.2.2.2.1.len, HN.out]; simp; omega) ?_; intro v1 w1 b1 hr1 hb1 hu1; have H1 := Lib.hid (And.intro hr1 (And.intro hb1 hu1)); clear hr1 hb1 hu1)
      | (at_builtin; refine wp_app3 rfl _ _ 144 163 _ 56 infoFile rfl (by decide) underF rfl v1 vals b1 rfl (H1.out.1.below ((Below.refl _ _).alloc (Nat.le_refl _) _)) (some ⟨w1.heap.size, 0, none⟩) 1 1 [(⟨.int .i64 i, .slice none 0 0, .slice none 0 0⟩ : V3)] rfl rfl (fun _ => ⟨_, rfl, fun j u hj => by rw [Two.add0, (Blk.new w1 #[.int .i64 i, .slice none 0 0, .slice none 0 0] 163).rd, Nat.zero_add]; exact List.getElem?_toArray.trans hj⟩) (fun x hx => by rw [List.mem_singleton] at hx; subst hx; exact ⟨rfl, rfl, rfl⟩) (by have := HR.out.2; have := H.out.2.2.2.2.2.1; rw [H.out.2.2.2.1.len, HN.out]; simp; omega) ?_; intro v2 w2 b2 hr2 hb2 hu2; obtain ⟨a2, q2, hv2⟩ := hr2.slice; rw [E3.out] at hv2; subst hv2; have hne1 : ∀ g, b1 = some g → w.heap.size ≤ g := (fun g hg => by rcases H1.out.2.1 g hg with h | h; cases h; exact h); have hz1 := H1.out.2.2.size; have hu12 : Upd (fun _ => False) w w2 := ((H1.out.2.2.mono (fun _ _ e => by cases e)).alloc _).trans hu2 (fun k hk e => by have := hne1 k e; omega); have hb2' := Blk.upd hu12 H.out.2.2.1 (fun h => h); have f2 := hb2'.nf; have c2 := hb2'.rd; have H2 := Lib.hid (And.intro hr2 (And.intro hb2 (And.intro hu12 (And.intro hne1 (And.intro hz1 hb2'))))); clear hr2 hb2 hu2 hb2' hu12 hne1 hz1))
    go_ret
    obtain ⟨hr2, hb2, hu12, hne1, hz1, hB2⟩ := H2.out
    obtain ⟨h0, hk, hb, hL, hi, hN, h16⟩ := H.out
    have hz2 := hu12.size
    have hb2f : ∀ g, b2 = some g → w.heap.size ≤ g := fun g hg => by
      rcases hb2 g hg with h | h
      · exact hne1 g h
      · have : w1.heap.size ≤ g := by simp at h; omega
        omega
    have hu3 : Upd (fun k => k = sb) w2 (w2.setCell ⟨sb, 1, none⟩ (.slice a2 (m + 1) q2)) := (Upd.refl (fun k => k = sb) w2).setCell (p := ⟨sb, 1, none⟩) (fun _ => rfl) _
    have hus : Upd (fun k => k = sb) w (w2.setCell ⟨sb, 1, none⟩ (.slice a2 (m + 1) q2)) := (hu12.mono (fun _ _ h => h.elim)).trans hu3 (fun k _ e => e)
    have hnr : NoRow w (fun k => k = sb) := fun k e => ⟨_, _, e ▸ hb, by decide, by decide⟩
    have q1 : Blk (w2.setCell ⟨sb, 1, none⟩ (.slice a2 (m + 1) q2)) sb #[.pointer (some ⟨fb, 0, none⟩), .slice a2 (m + 1) q2] 146 := Blk.of (hB2.set 1 _) rfl
    have hr3 := hr2.upd hu3 (fun g hg e => by have := hb2f g hg; have := hb.lt; omega)
    have hs3 := hus.size
    refine ⟨rfl, ⟨fb, tb, bb, _, tk, back, fr, ⟨⟨_, b2, _, q1, ⟨hr3, fun g hg => ⟨Or.inr (hb2f g hg), hr3.lt g hg⟩, by simp [hL.len], fun j x f hx hf => ?_⟩⟩, ⟨Or.inl h0.osb, q1.lt⟩, ?_⟩, hk.make hi h16⟩, hus.mono (fun k _ e => e ▸ h0.osb)⟩
    · rcases Nat.lt_or_ge j fls.length with h1 | h1
      · rw [List.getElem?_append_left (by rw [hL.len]; exact h1)] at hx
        rw [List.getElem?_append_left h1] at hf
        exact (hL.is j x f hx hf).turn hus hnr (nx_keep hs3)
      · rw [List.getElem?_append_right (by rw [hL.len]; exact h1), hL.len] at hx
        rw [List.getElem?_append_right h1] at hf
        have hz : j - fls.length = 0 := by
          have := (List.getElem?_eq_some_iff.1 hf).1
          simp at this; omega
        rw [hz] at hx hf
        simp at hx hf
        subst hx hf
        exact ⟨rfl, ⟨none, Or.inl ⟨rfl, rfl, rfl⟩, fun g hg => by cases hg⟩, none, Or.inl ⟨rfl, rfl, rfl⟩, fun g hg => by cases hg⟩
    · have h5 := h0.frm
      have ne := h5.of
      obtain ⟨vb, bk, k1, k2, k3⟩ := h5.blk
      obtain ⟨cs, k4, k5⟩ := h5.row
      exact FD.mono2 (O := O) ⟨⟨vb, bk, Blk.upd hus k1 (fun e => k1.neT hb (by decide) e), k2.upd hus (fun g hg e => k2.neT hb (by decide) g hg e), k3⟩, Blk.upd hus h5.tak (fun e => h5.tak.neT hb (by decide) e), ⟨cs, Blk.upd hus k4 (fun e => k4.neT hb (by decide) e), k5⟩, h5.len, h5.n64, h5.frn, h5.bkn, h5.bkr, h5.of⟩ (fun k hk hl => ⟨Or.inl hk, hl⟩)
  · exfalso
    obtain ⟨h1, h2⟩ := H.out.2.1.core.r1 j f hx
    rw [hid, Int.toNat_natCast, H.out.2.2.2.2.1] at h2
    cases h2
end
end Go.Proofs.YtchnjfmimpikcaaGreatDoor
