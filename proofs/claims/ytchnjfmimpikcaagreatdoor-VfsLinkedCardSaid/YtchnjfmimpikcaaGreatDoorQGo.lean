/-
  The document's table: what a step turns; gone.
-/
import Derived.Test.YtchnjfmimpikcaaGreatDoorQTb
import Derived.Deep.CutRange
import Derived.BigQuiet
namespace Go.Proofs.YtchnjfmimpikcaaGreatDoor
set_option linter.unusedSimpArgs false
set_option linter.unusedVariables false
open Go.RowKit Own RegC Three Two
open RegJ hiding Up
open RegF hiding put_size
open Go.Lib hiding intOf

/-- the document's table: these nodes, the bytes that they have -/
def QO (w : World) (O : Nat → Prop) (rb sb n N : Nat) (ns : NSt) : Prop := ∃ vs, QV w O rb sb n N ns vs (filesOf ns)
/-- behind a step of it -/
def QP (w : World) (O : Nat → Prop) (rb sb n N : Nat) (ns' : NSt) (w' : World) : Prop := QO w' (nx w w' O) rb sb n N ns' ∧ Upd O w w'
section
variable {w w' w1 w2 : World} {O O' F : Nat → Prop} {rb sb n N N' : Nat} {ns ns' ns2 : NSt} {vs : Nat → Value} {fs fs' : Sfs}
theorem QO.upd (h : QO w O rb sb n N ns) (hu : Upd F w w') (hF : ∀ k, O k → ¬ F k) : QO w' O rb sb n N ns := by
  obtain ⟨vs, h⟩ := h; exact ⟨vs, h.upd hu hF⟩
theorem QO.mono (h : QO w O rb sb n N ns) (ho : ∀ k, O k → k < w.heap.size → O' k) : QO w O' rb sb n N ns := by
  obtain ⟨vs, h⟩ := h; exact ⟨vs, h.mono ho⟩
theorem QO.below (h : QO w O rb sb n N ns) (hB : Below w.heap.size w w') : QO w' O rb sb n N ns := by
  obtain ⟨vs, h⟩ := h; exact ⟨vs, h.below hB⟩
theorem QO.le (h : QO w O rb sb n N ns) (hN : N ≤ N') : QO w O rb sb n N' ns := by
  obtain ⟨vs, h⟩ := h; exact ⟨vs, h.le hN⟩
theorem QP.le (h : QP w O rb sb n N ns w') (hN : N ≤ N') : QP w O rb sb n N' ns w' := ⟨h.1.le hN, h.2⟩
theorem QO.refl (h : QO w O rb sb n N ns) : QP w O rb sb n N ns w := ⟨h.mono (nx_keep (Nat.le_refl _)), Upd.refl _ _⟩
theorem QO.refl' (h : QO w O rb sb n N ns) (hB : Below w.heap.size w w') : QP w O rb sb n N ns w' := ⟨(h.below hB).mono (fun k hk hl => ⟨Or.inl hk, hl⟩), (Upd.of_below (F := fun _ => False) hB).mono (fun _ _ h => h.elim)⟩
theorem QP.trans (hu : Upd O w w1) (h : QP w1 (nx w w1 O) rb sb n N ns w2) : QP w O rb sb n N ns w2 :=
  ⟨h.1.mono (fun k hk _ => nx_trans hu.size k hk), hu.trans h.2 (fun k hk h => h.1.elim (fun h => h) (fun h => by omega))⟩
theorem QP.ahead (hB : Below w.heap.size w w1) (h : QP w1 O rb sb n N ns w2) : QP w O rb sb n N ns w2 :=
  ⟨h.1.mono (fun k hk _ => ⟨hk.1.imp (fun h => h) (fun h => by have := hB.size; omega), hk.2⟩), (Upd.of_below (F := O) hB).trans h.2 (fun _ _ h => h)⟩
theorem QV.turn (h : QV w O rb sb n N ns vs fs) {vs' : Nat → Value} (hu : Upd (fun k => k = rb) w w') (hb : Blk w' rb (refC sb ns' vs') 161)
    (hr : ∀ i nd, ns' i = some nd → (∃ b, Row2 w 118 (vs' i) (nd.es.map enV) b ∧ inO O b) ∧ nd.es.length ≤ 8) (hn : ∀ i, ns' i = none → vs' i = .slice none 0 0) (hf : ∀ i, 16 ≤ i → ns' i = none) : QV w' O rb sb n N ns' vs' fs :=
  ⟨hb, h.sto.turn1 h.tab hu (by decide), fun i nd hi => by
    obtain ⟨⟨b, h1, h2⟩, h3⟩ := hr i nd hi
    exact ⟨⟨b, h1.upd hu (fun g hg e => by obtain ⟨cs, q⟩ := h1.blk g hg; exact q.neT h.tab (by decide) e), h2⟩, h3⟩, hn, hf, h.orb⟩
/-- one number of one node -/
theorem QV.num (h : QV w O rb sb n N ns vs fs) {i f : Nat} {nd nd' : Nd} (hi : ns i = some nd) (hf : f < 5) (v : Value) (he : nodeC (some nd') (vs i) = (nodeC (some nd) (vs i)).set f v) (hes : nd'.es = nd.es) : QV (w.setCell ⟨rb, 1 + i * 5 + f, none⟩ v) O rb sb n N (nsPut ns i (some nd')) vs fs := by
  have h16 := (h.cells hi).1
  refine h.turn ((Upd.refl (fun k => k = rb) w).setCell (p := ⟨rb, _, none⟩) (fun _ => rfl) _) (Blk.of (h.tab.set _ v) (refC_set sb ns _ vs vs i f h16 hf v (fun k hk => ⟨put_ne _ _ _ hk, rfl⟩) (by rw [put_eq, hi]; exact he))) (fun j nd2 hj => ?_) (fun j hj => ?_) (fun j hj => ?_)
  · by_cases e : j = i
    · subst e; rw [put_eq] at hj; cases hj; rw [hes]; exact h.row _ nd hi
    · rw [put_ne _ _ _ e] at hj; exact h.row j nd2 hj
  · by_cases e : j = i
    · subst e; rw [put_eq] at hj; cases hj
    · rw [put_ne _ _ _ e] at hj; exact h.nil' j hj
  · rw [put_ne _ _ _ (by omega)]; exact h.far j hj
/-- the node is gone -/
theorem QV.kill (h : QV w O rb sb n N ns vs fs) {i : Nat} {nd : Nd} (hi : ns i = some nd) : QV (((((w.setCell ⟨rb, 1 + i * 5, none⟩ (.bool false)).setCell ⟨rb, 1 + i * 5 + 1, none⟩ (.bool false)).setCell ⟨rb, 1 + i * 5 + 2, none⟩ (.int .i64 0)).setCell ⟨rb, 1 + i * 5 + 3, none⟩ (.int .i64 0)).setCell ⟨rb, 1 + i * 5 + 4, none⟩ (.slice none 0 0)) O rb sb n N (nsPut ns i none) (fun j => if j = i then .slice none 0 0 else vs j) fs := by
  have h16 := (h.cells hi).1
  refine h.turn (((((((Upd.refl (fun k => k = rb) w).setCell (p := ⟨rb, _, none⟩) (fun _ => rfl) _).setCell (p := ⟨rb, _, none⟩) (fun _ => rfl) _).setCell (p := ⟨rb, _, none⟩) (fun _ => rfl) _).setCell (p := ⟨rb, _, none⟩) (fun _ => rfl) _).setCell (p := ⟨rb, _, none⟩) (fun _ => rfl) _)) (Blk.of (((((h.tab.set _ _).set _ _).set _ _).set _ _).set _ _) (refC_node sb ns _ vs _ i h16 _ _ _ _ _ (fun k hk => ⟨put_ne _ _ _ hk, by rw [if_neg hk]⟩) (by rw [put_eq, if_pos rfl]; rfl))) (fun j nd2 hj => ?_) (fun j hj => ?_) (fun j hj => ?_)
  · by_cases e : j = i
    · subst e; rw [put_eq] at hj; cases hj
    · rw [put_ne _ _ _ e] at hj; rw [if_neg e]; exact h.row j nd2 hj
  · by_cases e : j = i
    · rw [if_pos e]
    · rw [put_ne _ _ _ e] at hj; rw [if_neg e]; exact h.nil' j hj
  · by_cases e : j = i
    · subst e; rw [put_eq]
    · rw [put_ne _ _ _ e]; exact h.far j hj
/-- a new node -/
theorem QV.add (h : QV w O rb sb n N ns vs fs) {i : Nat} (h16 : i < 16) (hi : ns i = none) (dir : Bool) : QV (((((w.setCell ⟨rb, 1 + i * 5, none⟩ (.bool true)).setCell ⟨rb, 1 + i * 5 + 1, none⟩ (.bool dir)).setCell ⟨rb, 1 + i * 5 + 2, none⟩ (.int .i64 0)).setCell ⟨rb, 1 + i * 5 + 3, none⟩ (.int .i64 1)).setCell ⟨rb, 1 + i * 5 + 4, none⟩ (.slice none 0 0)) O rb sb n N (nsPut ns i (some ⟨dir, 0, 1, [], []⟩)) vs fs := by
  have hv := h.nil' i hi
  refine h.turn (((((((Upd.refl (fun k => k = rb) w).setCell (p := ⟨rb, _, none⟩) (fun _ => rfl) _).setCell (p := ⟨rb, _, none⟩) (fun _ => rfl) _).setCell (p := ⟨rb, _, none⟩) (fun _ => rfl) _).setCell (p := ⟨rb, _, none⟩) (fun _ => rfl) _).setCell (p := ⟨rb, _, none⟩) (fun _ => rfl) _)) (Blk.of (((((h.tab.set _ _).set _ _).set _ _).set _ _).set _ _) (refC_node sb ns _ vs _ i h16 _ _ _ _ _ (fun k hk => ⟨put_ne _ _ _ hk, rfl⟩) (by rw [put_eq, hv]; rfl))) (fun j nd2 hj => ?_) (fun j hj => ?_) (fun j hj => ?_)
  · by_cases e : j = i
    · subst e; rw [put_eq] at hj; cases hj; rw [hv]; exact ⟨⟨none, Or.inl ⟨rfl, rfl, rfl⟩, fun g hg => by cases hg⟩, Nat.zero_le _⟩
    · rw [put_ne _ _ _ e] at hj; exact h.row j nd2 hj
  · by_cases e : j = i
    · rw [e]; exact hv
    · rw [put_ne _ _ _ e] at hj; exact h.nil' j hj
  · rw [put_ne _ _ _ (by omega)]; exact h.far j hj
end
def RndR (O : Nat → Prop) (rb sb n N f : Nat) (es : List En) (v : Value) (s0 : NSt) (pend : List Int) (w : World) (k : Nat) (wr : World) : Prop :=
  QP w O rb sb n N (goneL f (es.take k) s0) wr ∧ (∃ b, Row2 wr 118 v (es.map enV) b) ∧ Inv (goneL f (es.take k) s0) ((es.drop k).map Prod.snd ++ pend) ∧ lenN (goneL f (es.take k) s0) 16 < f
def GoneP (w : World) (O : Nat → Prop) (rb sb n N : Nat) (ns' : NSt) (e : Ending) (w' : World) : Prop := (∃ v, e = .returned v) ∧ QP w O rb sb n N ns' w' ∧ ∀ k cs, Blk w k cs 118 → Blk w' k cs 118
/-- rows of entries stay -/
def EnK (w w' : World) : Prop := ∀ k cs, Blk w k cs 118 → Blk w' k cs 118
theorem EnK.refl (w : World) : EnK w w := fun _ _ h => h
theorem EnK.trans {a b c : World} (h : EnK a b) (k : EnK b c) : EnK a c := fun q cs hb => k q cs (h q cs hb)
theorem EnK.of_upd {w w' : World} {F : Nat → Prop} (hu : Upd F w w') (hF : ∀ k, F k → ∀ cs, ¬ Blk w k cs 118) : EnK w w' := fun k cs hb => Blk.upd hu hb (fun e => hF k e cs hb)
theorem EnK.row {w w' : World} (h : EnK w w') {v : Value} {xs : List V2} {b : Option Nat} (hr : Row2 w 118 v xs b) : Row2 w' 118 v xs b := by
  rcases hr with h0 | ⟨g, cap, rest, hv, hb, hB, hc, hm⟩
  · exact Or.inl h0
  · exact Or.inr ⟨g, cap, rest, hv, hb, h g _ hB, hc, hm⟩
theorem EnK.rb {w w' : World} {rb : Nat} {cs : Array Value} (hb : Blk w rb cs 161) (hu : Upd (fun k => k = rb) w w') : EnK w w' := EnK.of_upd hu (fun k e cs' hb' => by subst e; exact hb'.neT hb (by decide) rfl)
theorem EnK.os {w w' : World} {O : Nat → Prop} (hu : Upd (Os w O) w w') : EnK w w' := EnK.of_upd hu (fun k e cs' hb' => hb'.sty (by decide) e.2)
theorem nx_same {w a b : World} {O : Nat → Prop} (h : a.heap.size = b.heap.size) : nx w a O = nx w b O := by
  funext k; unfold nx; rw [h]
set_option maxRecDepth 100000 in
set_option maxHeartbeats 4000000 in
theorem qgone_is (rb sb n N : Nat) (hN : N ≤ 900) : ∀ (f : Nat) (w : World) (ns : NSt) (O : Nat → Prop) (i : Nat) (nd : Nd) (pend : List Int), QO w O rb sb n N ns → ns i = some nd → Inv ns pend → lenN ns 16 < f →
    Calls Tryz.prog 97 #[.pointer (some ⟨rb, 0, none⟩), .int .i64 i] w (GoneP w O rb sb n N (gone f ns i))
  | 0, _, _, _, _, _, _, _, _, _, hf => by omega
  | f + 1, w, ns, O, i, nd, pend, h, hi, hV, hf => by
    have hO := h
    obtain ⟨vs, hT⟩ := h
    obtain ⟨h16, c0, c1, c2, c3, c4⟩ := hT.cells hi
    have i1 : (i : Int) < 16 := by omega
    have i2 : (0 : Int) ≤ i := by omega
    by_cases hs : i = 0 ∨ 0 < nd.links ∨ 0 < nd.opens
    · rw [gone_stay hi hs]
      have HO := Lib.hid hO
      by_cases h0 : i = 0
      · subst h0
        clear hO hT hi hV hf hs
        go_enter Tryz.func97, Tryz.ntmps97
        go_wp2_with (fail)
        go_returns
        exact ⟨⟨_, rfl⟩, HO.out.refl, EnK.refl _⟩
      · have d0 : ((i : Int) == 0) = false := by simp; omega
        by_cases hl : 0 < nd.links
        · have d1 : decide (nd.links > 0) = true := by simpa using hl
          clear hO hT hi hV hf hs h0 hl
          generalize nd.links = L at *
          go_enter Tryz.func97, Tryz.ntmps97
          go_wp2_with (fail)
          go_returns
          exact ⟨⟨_, rfl⟩, HO.out.refl, EnK.refl _⟩
        · have ho : 0 < nd.opens := by omega
          have d1 : decide (nd.links > 0) = false := by simpa using hl
          have d2 : decide (nd.opens > 0) = true := by simpa using ho
          clear hO hT hi hV hf hs h0 hl ho
          generalize nd.links = L at *
          generalize nd.opens = OO at *
          go_enter Tryz.func97, Tryz.ntmps97
          go_wp2_with (fail)
          go_returns
          exact ⟨⟨_, rfl⟩, HO.out.refl, EnK.refl _⟩
    · rw [gone_go hi hs]
      have d0 : ((i : Int) == 0) = false := by simp; omega
      have d1 : decide (nd.links > 0) = false := by simp; omega
      have d2 : decide (nd.opens > 0) = false := by simp; omega
      have cs : w.cell? ⟨rb, 0, none⟩ = some (.pointer (some ⟨sb, 0, none⟩)) := by rw [hT.tab.rd]; exact refC_0 sb ns vs
      have hdr := qdrop_is hT.sto.only hN (i : Int) _ _ rfl rfl
      have H := Lib.hid (And.intro hT (And.intro hi (And.intro hV (And.intro hf hs))))
      clear hO hT hi hV hf hs
      go_enter Tryz.func97, Tryz.ntmps97
      go_upto_if 35 with (fail)
      go_cut [] from 34 to 41 (fun wx => Hid (QV wx (nx w wx O) rb sb n N ns vs (filesOf (nsPut ns i none)) ∧ Upd O w wx ∧ EnK w wx))
      case first =>
        cases hd : nd.dir with
        | true =>
          have HD := Lib.hid hd
          clear hd
          go_wp2_with (fail)
          go_meet
          exact Lib.hid ⟨by rw [files_deld H.out.2.1 HD.out]; exact H.out.1.mono (nx_keep (Nat.le_refl _)), Upd.refl _ _, EnK.refl _⟩
        | false =>
          have HD := Lib.hid hd
          clear hd
          go_wp2_with (go_at_call 121; (with_reducible refine hdr.mono ?_); rintro e w2 ⟨rfl, hS, hu⟩; have HY := Lib.hid (And.intro hS hu); clear hdr hS hu)
          go_meet
          have hfs : dropS (filesOf ns) (i : Int) = filesOf (nsPut ns i none) := by
            unfold dropS
            rw [fsAt_filesI H.out.2.1 HD.out, files_del]
            rfl
          have hS := HY.out.1
          rw [hfs] at hS
          exact Lib.hid ⟨H.out.1.store hS HY.out.2, HY.out.2.mono (fun k _ h => h.1), EnK.os HY.out.2⟩
      case rest =>
        obtain ⟨hT2, hu2, hE2⟩ := hcut.out
        obtain ⟨_, e0, e1, e2, e3, e4⟩ := hT2.cells H.out.2.1
        have nf := hT2.tab.nf
        obtain ⟨⟨br, hrow, hob⟩, h8⟩ := hT2.row i nd H.out.2.1
        obtain ⟨a, c, hv⟩ := hrow.slice
        rw [List.length_map] at hv
        rw [hv] at e4 hrow
        have HT2 := Lib.hid (And.intro hT2 (And.intro hu2 (And.intro hE2 (And.intro hrow h8))))
        clear hT2 hu2 hE2 hrow hob hv c0 c1 c2 c3 c4 cs hdr hcut
        go_wp2_with (fail)
        have hTk := HT2.out.1.kill H.out.2.1
        have huk : Upd (fun k => k = rb) wc (((((wc.setCell ⟨rb, 1 + i * 5, none⟩ (.bool false)).setCell ⟨rb, 1 + i * 5 + 1, none⟩ (.bool false)).setCell ⟨rb, 1 + i * 5 + 2, none⟩ (.int .i64 0)).setCell ⟨rb, 1 + i * 5 + 3, none⟩ (.int .i64 0)).setCell ⟨rb, 1 + i * 5 + 4, none⟩ (.slice none 0 0)) :=
          ((((((Upd.refl (fun k => k = rb) wc).setCell (p := ⟨rb, _, none⟩) (fun _ => rfl) _).setCell (p := ⟨rb, _, none⟩) (fun _ => rfl) _).setCell (p := ⟨rb, _, none⟩) (fun _ => rfl) _).setCell (p := ⟨rb, _, none⟩) (fun _ => rfl) _).setCell (p := ⟨rb, _, none⟩) (fun _ => rfl) _)
        have hzk : (((((wc.setCell ⟨rb, 1 + i * 5, none⟩ (.bool false)).setCell ⟨rb, 1 + i * 5 + 1, none⟩ (.bool false)).setCell ⟨rb, 1 + i * 5 + 2, none⟩ (.int .i64 0)).setCell ⟨rb, 1 + i * 5 + 3, none⟩ (.int .i64 0)).setCell ⟨rb, 1 + i * 5 + 4, none⟩ (.slice none 0 0)).heap.size = wc.heap.size := by simp [World.setCell]
        have HK := Lib.hid (And.intro hTk (And.intro huk hzk))
        clear hTk huk hzk e0 e1 e2 e3 e4 nf
        generalize (((((wc.setCell ⟨rb, 1 + i * 5, none⟩ (.bool false)).setCell ⟨rb, 1 + i * 5 + 1, none⟩ (.bool false)).setCell ⟨rb, 1 + i * 5 + 2, none⟩ (.int .i64 0)).setCell ⟨rb, 1 + i * 5 + 3, none⟩ (.int .i64 0)).setCell ⟨rb, 1 + i * 5 + 4, none⟩ (.slice none 0 0)) = wk at *
        have HS0 : Hid (RndR O rb sb n N f nd.es (.slice a nd.es.length c) (nsPut ns i none) pend w 0 wk) := Lib.hid (by
          obtain ⟨hT2, hu2, hE2, hrow, _⟩ := HT2.out
          obtain ⟨hT, hi, hV, hf, hs⟩ := H.out
          have hq : QO wk (nx w wk O) rb sb n N (nsPut ns i none) := ⟨_, by rw [show nx w wk O = nx w wc O from nx_same HK.out.2.2]; exact HK.out.1⟩
          have hu0 : Upd O w wk := hu2.trans HK.out.2.1 (fun k _ e => e ▸ hT.orb)
          have hr0 := EnK.row (EnK.rb hT2.tab HK.out.2.1) hrow
          exact ⟨⟨hq, hu0⟩, ⟨_, hr0⟩, hV.kill hi (fun e => hs (Or.inr (Or.inl e))), by have := kill_len hi h16; show lenN (nsPut ns i none) 16 < f; omega⟩)
        have HE0 : Hid (EnK w wk) := Lib.hid (HT2.out.2.2.1.trans (EnK.rb HT2.out.1.tab HK.out.2.1))
        generalize hnn : nd.es.length = nn at *
        have HNN := Lib.hid hnn
        clear hnn
        go_loopw [5] (fun v5 wr => ∃ j : Nat, j ≤ nn ∧ v5 = .int .i64 j ∧ Hid (RndR O rb sb n N f nd.es (.slice a nn c) (nsPut ns i none) pend w j wr ∧ EnK w wr)) (fun v5 _ => nn - (intOf v5).toNat)
        case atStart => exact ⟨0, by omega, rfl, Lib.hid ⟨HS0.out, HE0.out⟩⟩
        case round =>
          obtain ⟨j, hjn, rfl, HJ⟩ := hrel
          by_cases hjl : j < nn
          · have d5 : decide ((j : Int) < (nn : Int)) = true := by simp; omega
            have d5n : decide (j < nn) = true := by simp; omega
            have i5 : (j : Int) < (nn : Int) := by omega
            have i6 : (0 : Int) ≤ j := by omega
            obtain ⟨⟨nm, x⟩, hx⟩ : ∃ x, nd.es[j]? = some x := ⟨_, List.getElem?_eq_getElem (by rw [HNN.out]; omega)⟩
            obtain ⟨⟨⟨⟨vs3, hT3⟩, hu3⟩, ⟨b3, hrow3⟩, hinv, hlen3⟩, hE3⟩ := HJ.out
            obtain ⟨g, rfl, r1, r2⟩ := hrow3.rd j (enV (nm, x)) (by rw [List.getElem?_map, hx]; rfl)
            have hdrop : nd.es.drop j = (nm, x) :: nd.es.drop (j + 1) := by
              rw [List.drop_eq_getElem_cons (by rw [HNN.out]; omega)]
              congr 1
              exact (List.getElem?_eq_some_iff.1 hx).2
            rw [hdrop, List.map_cons, List.cons_append] at hinv
            have hxb := hinv.pids x (List.mem_cons_self ..)
            obtain ⟨mm, rfl⟩ : ∃ mm : Nat, x = mm := ⟨x.toNat, by omega⟩
            obtain ⟨hdec, ndm, hmm, hde⟩ := hinv.dec
            simp only [Int.toNat_natCast] at hdec hmm hde
            have hm16 := hinv.lt hmm
            have hl0 := hinv.links hmm
            have hl1 := hinv.bnd mm ndm hmm
            obtain ⟨_, _, _, q2, _, _⟩ := hT3.cells hmm
            have nf3 := hT3.tab.nf
            have i7 : (mm : Int) < 16 := by omega
            have i8 : (0 : Int) ≤ mm := by omega
            have r2' : wr.cell? ⟨g, j * 2 + 1, none⟩ = some (.int .i64 mm) := r2
            have hgne : g ≠ rb := by
              rcases hrow3 with ⟨h, _⟩ | ⟨g2, cap2, rest2, hv2, hb2, hB2, _⟩
              · cases h
              · simp only [Value.slice.injEq, Option.some.injEq, Addr.mk.injEq] at hv2
                rw [hv2.1.1]; exact hB2.neT hT3.tab (by decide)
            have hTd := hT3.num (f := 2) (nd' := addL ndm (-1)) hmm (by omega) (.int .i64 (ndm.links - 1)) rfl rfl
            have hT5 := hTd.upd ((Upd.refl (fun _ => False) (wr.setCell ⟨rb, 1 + mm * 5 + 2, none⟩ (.int .i64 (ndm.links - 1)))).drew) (fun _ _ h => h)
            have hu5 : Upd (fun k => k = rb) wr (wr.setCell ⟨rb, 1 + mm * 5 + 2, none⟩ (.int .i64 (ndm.links - 1))).drew := ((Upd.refl (fun k => k = rb) wr).setCell (p := ⟨rb, _, none⟩) (fun _ => rfl) _).drew
            have hz5 : wr.heap.size = (wr.setCell ⟨rb, 1 + mm * 5 + 2, none⟩ (.int .i64 (ndm.links - 1))).drew.heap.size := by simp [World.setCell]
            have hE5 := EnK.rb hT3.tab hu5
            rw [hde] at hdec
            rw [nx_same hz5] at hT5
            have hfs : filesOf (goneL f (nd.es.take j) (nsPut ns i none)) = filesOf (nsPut (goneL f (nd.es.take j) (nsPut ns i none)) mm (some (addL ndm (-1)))) := (files_same (nd' := addL ndm (-1)) hmm rfl rfl).symm
            rw [hfs] at hT5
            have hIH := qgone_is rb sb n N hN f _ _ _ mm (addL ndm (-1)) _ ⟨vs3, hT5⟩ (put_eq _ _ _) hdec (by rw [← hde, lenN_dec _ hm16]; exact hlen3)
            have hrow5 := hE5.row hrow3
            obtain ⟨g5, hg5, _, r5'⟩ := (hrow5.rd j (enV (nm, (mm : Int))) (by rw [List.getElem?_map, hx]; rfl))
            cases hg5
            have HQ := Lib.hid (And.intro hx (And.intro hdec (And.intro hde (And.intro hmm (And.intro (hu3.trans hu5 (fun k _ e => e ▸ H.out.1.orb)) (And.intro hrow5 (And.intro hlen3 (And.intro hm16 (hE3.trans hE5)))))))))
            have mixed : Tryz.prog.follows .mixedOrders = true := by kernel_rfl
            clear r1 r2 hinv hdec hde hT5 hu5 hT3 hTd hdrop hmm hx hxb hrow5 hrow3 hu3 hlen3 hz5 hE5 hE3 hfs
            generalize ndm.links = L at *
            go_upto_region 8 with (fail)
            go_region
            generalize (wr.setCell ⟨rb, 1 + mm * 5 + 2, none⟩ (.int .i64 (L - 1))).drew = w5 at *
            go_wp2_with (go_at_call 97; (with_reducible refine hIH.mono ?_); rintro e w6 ⟨⟨v6, rfl⟩, hP6, hE6⟩; have H6 := Lib.hid (And.intro hP6 hE6); clear hIH hP6 hE6)
            go_roundw
            case rel =>
              refine ⟨j + 1, by omega, by go_num, Lib.hid ?_⟩
              obtain ⟨hx, hdec, hde, hmm, hu5, hrow5, hlen3, hm16, hE5⟩ := HQ.out
              have htk : nd.es.take (j + 1) = nd.es.take j ++ [(nm, (mm : Int))] := by
                rw [List.take_add_one, hx]; rfl
              have hgo : goneL f (nd.es.take (j + 1)) (nsPut ns i none) = gone f (nsPut (goneL f (nd.es.take j) (nsPut ns i none)) mm (some (addL ndm (-1)))) mm := by
                rw [htk, goneL_snoc]
                simp only [Int.toNat_natCast]
                rw [if_pos (by rw [hmm]; rfl), hde]
              refine ⟨⟨?_, ⟨_, EnK.row H6.out.2 hrow5⟩, ?_, ?_⟩, hE5.trans H6.out.2⟩
              · rw [hgo]
                exact QP.trans hu5 H6.out.1
              · rw [hgo]; exact gone_inv f _ _ _ hdec
              · rw [hgo]
                refine Nat.lt_of_le_of_lt (gone_len f _ _ _ hdec) ?_
                rw [← hde, lenN_dec _ hm16]; exact hlen3
            case measure => simp [intOf]; omega
          · have hje : j = nn := by omega
            subst hje
            have d5 : decide ((j : Int) < (j : Int)) = false := by simp
            go_wp2_with (fail)
            go_returns
            obtain ⟨⟨hP, _⟩, hE⟩ := HJ.out
            rw [List.take_of_length_le (by rw [HNN.out]; omega)] at hP
            exact ⟨⟨_, rfl⟩, hP, hE⟩
end Go.Proofs.YtchnjfmimpikcaaGreatDoor
