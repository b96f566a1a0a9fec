/-
  Remove.
-/
import Derived.Test.YtchnjfmimpikcaaDoorIAct
import Derived.Deep.CutRange
namespace Go.Proofs.YtchnjfmimpikcaaDoor
set_option linter.unusedSimpArgs false
set_option linter.unusedVariables false
open Go.RowKit Own RegJ Two
open Go.Lib hiding intOf

def delE (es : List En) (j : Nat) : List En := es.take j ++ es.drop (j + 1)
theorem split_at {es : List En} {j : Nat} {x : En} (hx : es[j]? = some x) : es = es.take j ++ x :: es.drop (j + 1) := by
  obtain ⟨hl, he⟩ := List.getElem?_eq_some_iff.1 hx
  have h1 := List.take_append_drop j es
  rw [List.drop_eq_getElem_cons hl, he] at h1
  exact h1.symm
theorem delE_len {es : List En} {j : Nat} (h : j < es.length) : (delE es j).length = es.length - 1 := by
  unfold delE; rw [List.length_append, List.length_take, List.length_drop]; omega
theorem delE_srt {es : List En} {j : Nat} (h : Srt es) : Srt (delE es j) := by
  by_cases hj : j < es.length
  · have hs := split_at (List.getElem?_eq_getElem hj)
    have hsub : (es.take j ++ es.drop (j + 1)).Sublist (es.take j ++ es[j] :: es.drop (j + 1)) := List.Sublist.append (List.Sublist.refl _) (List.sublist_cons_self _ _)
    rw [← hs] at hsub
    exact h.sublist hsub
  · unfold delE
    rw [List.take_of_length_le (by omega), List.drop_eq_nil_of_le (by omega), List.append_nil]; exact h
theorem delE_map (es : List En) (j : Nat) : (delE es j).map enV = (es.map enV).take j ++ (es.map enV).drop (j + 1) := by
  unfold delE
  rw [List.map_append, List.map_take, List.map_drop]
theorem cnt_del {es : List En} {j : Nat} {x : En} (hx : es[j]? = some x) (m : Nat) : cntE es m = cntE (delE es j) m + [x.2].count (m : Int) := by
  unfold cntE
  have hs := congrArg (List.map Prod.snd) (split_at hx)
  rw [hs]
  unfold delE
  rw [List.map_append, List.map_append, List.map_cons, List.count_append, List.count_append, List.count_cons, List.count_cons, List.count_nil]
  omega
theorem Inv.del {ns : NSt} (h : Inv ns []) {i : Nat} {nd : Nd} (hi : ns i = some nd) {j : Nat} {x : En} (hx : nd.es[j]? = some x) : Inv (nsPut ns i (some (setEs nd (delE nd.es j)))) [x.2] := by
  have h16 := h.lt hi
  have hxm : x ∈ nd.es := List.mem_of_getElem? hx
  refine ⟨fun k nd' hk => ?_, fun y hy => ?_, fun m => ?_, fun k hk => ?_, fun k nd' hk => ?_, fun k nd' hk => ?_⟩
  · by_cases e : k = i
    · subst e; rw [put_eq] at hk; cases hk
      intro y hy
      refine h.ids _ nd hi y ?_
      unfold setEs delE at hy
      simp only [List.mem_append] at hy
      rcases hy with hy | hy
      · exact List.mem_of_mem_take hy
      · exact List.mem_of_mem_drop hy
    · rw [put_ne _ _ _ e] at hk; exact h.ids k nd' hk
  · rw [List.mem_singleton] at hy
    subst hy; exact h.ids i nd hi x hxm
  · have hc := h.cnt m
    have hr := refs_put ns i (some (setEs nd (delE nd.es j))) m 16 h16
    rw [hi] at hr
    have h0 : cntO (some (setEs nd (delE nd.es j))) m = cntE (delE nd.es j) m := rfl
    have h1 : cntO (some nd) m = cntE nd.es m := rfl
    rw [h0, h1, cnt_del hx m] at hr
    rw [List.count_nil] at hc
    have hlk : lnk (nsPut ns i (some (setEs nd (delE nd.es j)))) m = lnk ns m := by
      unfold lnk
      by_cases e : m = i
      · subst e; rw [put_eq, hi]; rfl
      · rw [put_ne _ _ _ e]
    rw [hlk]; omega
  · rw [put_ne _ _ _ (by omega)]; exact h.far k hk
  · by_cases e : k = i
    · subst e; rw [put_eq] at hk; cases hk; exact h.opn _ nd hi
    · rw [put_ne _ _ _ e] at hk; exact h.opn k nd' hk
  · by_cases e : k = i
    · subst e; rw [put_eq] at hk; cases hk; exact h.bnd _ nd hi
    · rw [put_ne _ _ _ e] at hk; exact h.bnd k nd' hk
section
variable {w : World} {tb : Nat} {ns : NSt} {lo : Lo} {N : Nat}
set_option maxRecDepth 100000 in
theorem remove_no [Inhabited CapT] (h : TB w tb ns lo N) (dir : Int) (nm : Txt) (hd : dirAt ns dir = none) : Calls Tryd.prog 70 #[.pointer (some ⟨tb, 0, none⟩), .int .i64 dir, .string (B nm)] w fun e w' => e = .returned (.int .i64 11) ∧ w = w' := by
  have hf := find_no h dir nm hd
  clear h hd
  generalize B nm = s at *
  go_enter Tryd.func70, Tryd.ntmps70
  go_wp2_with (go_at_call 61; refine hf.mono ?_; rintro e w' ⟨rfl, rfl⟩)
  go_ret
  exact ⟨rfl, rfl⟩
def nsRem (ns : NSt) (i : Nat) (nd : Nd) (j m : Nat) : NSt := decL (nsPut ns i (some (setEs nd (delE nd.es j)))) m
def RemP [Inhabited CapT] (w : World) (tb : Nat) (ns : NSt) (lo : Lo) (N : Nat) (i : Nat) (nd : Nd) (nm : Txt) (e : Ending) (w' : World) : Prop :=
  ∃ j : Nat, At nd.es nm j ∧ ((isAt nd.es nm j = false ∧ e = .returned (.int .i64 9) ∧ Below w.heap.size w w') ∨ ∃ (m : Nat) (ndm : Nd), nd.es[j]? = some (nm, (m : Int)) ∧ ns m = some ndm ∧
    ((ndm.dir = true ∧ ndm.es ≠ [] ∧ e = .returned (.int .i64 13) ∧ Below w.heap.size w w') ∨
     (¬ (ndm.dir = true ∧ ndm.es ≠ []) ∧ e = .returned (.int .i64 0) ∧ ∃ lo', TB w' tb (gone 17 (nsRem ns i nd j m) m) lo' N ∧ TFr lo lo' w w')))
set_option maxRecDepth 100000 in
set_option maxHeartbeats 2000000 in
theorem remove_any [Inhabited CapT] (h : TB w tb ns lo N) (hV : Inv ns []) (i : Nat) (nm : Txt) (nd : Nd) (hi : ns i = some nd) (hd : nd.dir = true) :
    Calls Tryd.prog 70 #[.pointer (some ⟨tb, 0, none⟩), .int .i64 i, .string (B nm)] w (RemP w tb ns lo N i nd nm) := by
  have hf := find_yes h i nm nd hi hd
  have H := Lib.hid (And.intro h (And.intro hi (And.intro hd hV)))
  clear h hi hd hV
  generalize B nm = s at *
  go_enter Tryd.func70, Tryd.ntmps70
  go_upto_region 2 with (go_at_call 61; refine hf.mono ?_; rintro e w1 ⟨j, rfl, hA, hB⟩; have HA := Lib.hid (And.intro hA hB); clear hA hB hf)
  cases hia : isAt nd.es nm j with
  | false =>
    have HI := Lib.hid hia
    clear hia
    go_wp2_with (fail)
    go_ret
    exact ⟨j, HA.out.1, Or.inl ⟨HI.out, rfl, HA.out.2⟩⟩
  | true =>
    obtain ⟨x, hx, hxn⟩ : ∃ x, nd.es[j]? = some x ∧ x.1 = nm := by
      unfold isAt at hia
      split at hia
      · rename_i x hx; exact ⟨x, hx, by simpa using hia⟩
      · cases hia
    obtain ⟨nm', x⟩ := x
    have hxn' : nm' = nm := hxn
    subst hxn'
    clear hxn
    have hV := H.out.2.2.2
    have hxb := hV.ids i nd H.out.2.1 _ (List.mem_of_getElem? hx)
    simp only at hxb
    obtain ⟨m, rfl⟩ : ∃ m : Nat, x = m := ⟨x.toNat, by omega⟩
    obtain ⟨hdec, ndm', hm', hde⟩ := (hV.del H.out.2.1 hx).dec
    simp only [Int.toNat_natCast] at hdec hm' hde
    obtain ⟨ndm, hm⟩ : ∃ ndm, ns m = some ndm := by
      by_cases e : m = i
      · subst e; exact ⟨nd, H.out.2.1⟩
      · rw [put_ne _ _ _ e] at hm'; exact ⟨ndm', hm'⟩
    have hT := H.out.1.below HA.out.2
    obtain ⟨k, v, k1, k2, k3, k4, k5⟩ := hT.node _ _ H.out.2.1
    obtain ⟨a, c, rfl⟩ := k3.slice
    have hg := get_nd hT i nd H.out.2.1 k k1
    obtain ⟨km, vm, q1, q2, q3, q4, _⟩ := hT.node _ _ hm
    obtain ⟨am, cm, rfl⟩ := q3.slice
    rw [List.length_map] at q2 q3
    have hgm := get_nd hT m ndm hm km q1
    obtain ⟨g, rfl, r1, r2⟩ := k3.rd j (enV (nm', (m : Int))) (by rw [List.getElem?_map, hx]; rfl)
    have r2' : w1.cell? ⟨g, j * 2 + 1, none⟩ = some (.int .i64 m) := r2
    have hjl : j < nd.es.length := (List.getElem?_eq_some_iff.1 hx).1
    rw [List.length_map] at k2 k3
    have hdl := delete_one k3 (by omega) j hjl (one_en nd.es)
    rw [← delE_map] at hdl
    have c1 := k2.rd
    have nf1 := k2.nf
    have c2 := q2.rd
    have HK := Lib.hid (And.intro hT (And.intro k1 (And.intro k2 (And.intro k3 (And.intro q1 (And.intro q2 (And.intro hm (And.intro hx (And.intro hdec (And.intro hde (And.intro hm' (And.intro k4 k5))))))))))))
    have hl0 := hV.links hm
    have hl1 := hV.bnd m ndm hm
    have hnn : 0 < nd.es.length := by omega
    clear hia hT k1 k2 k3 k5 q1 q2 q3 hm hx hxb hdec hde hm' hV r1 r2
    by_cases hne : ndm.dir = true ∧ ndm.es ≠ []
    · have hd1 := hne.1
      have hle : 0 < ndm.es.length := List.length_pos_iff.2 hne.2
      rw [hd1] at c2
      have d1 : decide ((ndm.es.length : Int) > 0) = true := by simp; omega
      have d1n : decide (ndm.es.length > 0) = true := by simp; omega
      have HN := Lib.hid hne
      clear hne hd1
      generalize hnn1 : nd.es.length = n at *
      generalize ndm.es.length = nm2 at *
      clear hnn1
      have i1 : (j : Int) < (n : Int) := by omega
      have i2 : (0 : Int) ≤ j := by omega
      go_wp2_with (first
        | (go_at_call 36; (with_reducible refine hg.mono ?_); rintro e w' ⟨rfl, rfl⟩)
        | (go_at_call 36; (with_reducible refine hgm.mono ?_); rintro e w' ⟨rfl, rfl⟩))
      go_ret
      obtain ⟨_, _, _, _, _, _, hm, hx, _⟩ := HK.out
      exact ⟨j, HA.out.1, Or.inr ⟨m, ndm, hx, hm, Or.inl ⟨HN.out.1, HN.out.2, rfl, HA.out.2⟩⟩⟩
    · have hcase : ndm.dir = false ∨ (ndm.dir = true ∧ ndm.es.length = 0) := by
        cases hD : ndm.dir with
        | false => exact Or.inl rfl
        | true =>
          refine Or.inr ⟨rfl, ?_⟩
          by_cases he : ndm.es = []
          · rw [he]; rfl
          · exact absurd ⟨hD, he⟩ hne
      have HN := Lib.hid hne
      clear hne
      generalize hnn1 : nd.es.length = n at *
      have i1 : (j : Int) < (n : Int) := by omega
      have i2 : (0 : Int) ≤ j := by omega
      have i3 : (j : Int) + 1 ≤ (n : Int) := by omega
      have hn8 : n ≤ 8 := k4
      have HL := Lib.hid hnn1
      clear hnn1
      go_upto_region 9 with (first
        | (go_at_call 36; (with_reducible refine hg.mono ?_); rintro e w' ⟨rfl, rfl⟩)
        | (go_at_call 36; (with_reducible refine hgm.mono ?_); rintro e w' ⟨rfl, rfl⟩))
      go_cut [53] from 42 to 52 (fun s53 wx => s53 = .bool false ∧ wx = w1)
      case first =>
        rcases hcase with hD | ⟨hD, hE⟩
        · rw [hD] at c2
          clear hD
          go_wp2_with (fail)
          go_meet
          exact ⟨rfl, rfl⟩
        · rw [hD, hE] at c2
          clear hD hE
          go_wp2_with (fail)
          go_meet
          exact ⟨rfl, rfl⟩
      case rest =>
        obtain ⟨rfl, rfl⟩ := hcut
        clear hcase
        go_upto_region 12 with (go_at_call 78; (with_reducible refine hdl.mono ?_); rintro e w2 ⟨a', c', rfl, hr, hu⟩; clear hdl; have hkb : ¬ (lo (.ents i) = some k) := (fun e => by have := HK.out.1.inj _ _ _ e HK.out.2.1; cases this); have hk2 := Blk.upd hu HK.out.2.2.1 hkb; have HX := Lib.hid (And.intro hr (And.intro hu hk2)); have c3 := hk2.rd; have nf3 := hk2.nf; clear hr hu hk2 hkb)
        obtain ⟨hT, k1, k2, k3, q1, q2, hm, hx, hdec, hde, hm', h4, h5⟩ := HK.out
        obtain ⟨hr, hu, hk2⟩ := HX.out
        have hmi : m ≠ i := fun e => by
          subst e
          have := H.out.2.1
          rw [hm] at this; cases this
          refine HN.out ⟨H.out.2.2.1, fun e => ?_⟩
          rw [e] at hx; cases hx
        have hndm : ndm' = ndm := by rw [put_ne _ _ _ hmi, hm] at hm'; exact (Option.some.inj hm').symm
        subst hndm
        have hkk : km ≠ k := fun e => by have := hT.inj _ _ _ q1 (e ▸ k1); cases this; exact hmi rfl
        have hk3 : Blk (w2.setCell ⟨k, 3, none⟩ (.slice a' (n - 1) c')) k #[.bool nd.dir, .int .i64 nd.links, .int .i64 nd.opens, .slice a' (n - 1) c'] 73 := Blk.of (hk2.set 3 (.slice a' (n - 1) c')) rfl
        have hu3 : Upd (fun j => j = k ∨ lo (.ents i) = some j) wc (w2.setCell ⟨k, 3, none⟩ (.slice a' (n - 1) c')) := (hu.mono (G := fun j => j = k ∨ lo (.ents i) = some j) (fun j _ e => Or.inr e)).setCell (p := ⟨k, 3, none⟩) (fun _ => Or.inl rfl) _
        have hr3 : Row2 (w2.setCell ⟨k, 3, none⟩ (.slice a' (n - 1) c')) 101 (.slice a' (n - 1) c') ((delE nd.es j).map enV) (lo (.ents i)) := hr.upd ((Upd.refl (fun j => j = k) w2).setCell (p := ⟨k, 3, none⟩) (fun _ => rfl) _) (fun g' hg' e => by have := hT.inj _ _ _ hg' (e ▸ k1); cases this)
        have hT3 := hT.ents (v := .slice a' (n - 1) c') (es := delE nd.es j) (b := lo (.ents i)) H.out.2.1 k1 hu3 hk3 hr3 (fun g' hg' => Or.inl hg') (by rw [delE_len (by rw [HL.out]; exact hjl), HL.out]; omega) (delE_srt h5)
        have hfr3 : TFr lo (loEnt lo i (lo (.ents i))) w (w2.setCell ⟨k, 3, none⟩ (.slice a' (n - 1) c')) := by
          refine ⟨(Upd.of_below (F := fun k => ∃ r, lo r = some k) HA.out.2).trans (hu3.mono (fun j _ e => ?_)) (fun _ _ h => h), fun r j' hj' => ?_, rfl, rfl⟩
          · rcases e with e | e
            · exact ⟨_, by rw [e]; exact k1⟩
            · exact ⟨_, e⟩
          · rcases loEnt_old hj' with ⟨g1, _⟩ | ⟨_, g1⟩
            · exact Or.inl ⟨r, g1⟩
            · exact Or.inl ⟨_, g1⟩
        obtain ⟨km2, v3, p1, p2, _⟩ := hT3.node m ndm' (by rw [put_ne _ _ _ hmi]; exact hm)
        have hkm2 : km2 = km := by
          have p1' : lo (.node m) = some km2 := p1
          rw [q1] at p1'; cases p1'; rfl
        subst hkm2
        have c5 := p2.rd
        have nf5 := p2.nf
        have HT3 := Lib.hid (And.intro hT3 (And.intro hfr3 (And.intro p1 (And.intro p2 (And.intro hde (And.intro hdec (And.intro hm (And.intro hx (And.intro hmi hm')))))))))
        clear hT k1 k2 k3 q1 q2 hm hx hdec hde h4 h5 hr hu hk2 hk3 hu3 hr3 hT3 hfr3 p1 p2 c3 nf3 c1 nf1 c2 r2' hkk hmi hm'
        generalize w2.setCell ⟨k, 3, none⟩ (.slice a' (n - 1) c') = w3 at *
        obtain ⟨hT3, hfr3, p1, p2, hde, hdec, hm, hx, hmi, hm'⟩ := HT3.out
        have hu4 : Upd (fun j => j = km2) w3 (w3.setCell ⟨km2, 1, none⟩ (.int .i64 (ndm'.links - 1))) := (Upd.refl (fun j => j = km2) w3).setCell (p := ⟨km2, 1, none⟩) (fun _ => rfl) _
        have hT4 := hT3.num (nd := ndm') (nd' := addL ndm' (-1)) (by rw [put_ne _ _ _ hmi]; exact hm) p1 rfl rfl rfl hu4 (fun v hv => Blk.of (hv.set 1 (.int .i64 (ndm'.links - 1))) rfl)
        rw [← hde] at hT4
        have hst := settle_is tb N 17 _ _ _ m (addL ndm' (-1)) [] hT4 (by rw [hde, put_eq]) hdec (by have := lenN_le (decL (nsPut ns i (some (setEs nd (delE nd.es j)))) m) 16; omega)
        have H4 := Lib.hid (And.intro hu4 p1)
        clear hT3 hfr3 p1 p2 hde hdec hm hx hmi hu4 hT4 hm'
        generalize ndm'.links = L at *
        go_wp2_with (go_at_call 37; (with_reducible refine hst.mono ?_); rintro e w5 ⟨⟨v5, rfl⟩, lo5, hT5, hF5⟩; have H5 := Lib.hid (And.intro hT5 hF5); clear hst hT5 hF5)
        go_ret
        obtain ⟨_, hfr3, _, _, _, _, hm, hx, _, _⟩ := HT3.out
        have hF4 : TFr (loEnt lo i (lo (.ents i))) (loEnt lo i (lo (.ents i))) w3 _ := ⟨H4.out.1.mono (fun j' _ e => ⟨_, e ▸ H4.out.2⟩), fun r k hk => Or.inl ⟨r, hk⟩, rfl, rfl⟩
        exact ⟨j, HA.out.1, Or.inr ⟨m, ndm', hx, hm, Or.inr ⟨HN.out, rfl, lo5, H5.out.1, (hfr3.trans hF4).trans H5.out.2⟩⟩⟩
end
end Go.Proofs.YtchnjfmimpikcaaDoor
