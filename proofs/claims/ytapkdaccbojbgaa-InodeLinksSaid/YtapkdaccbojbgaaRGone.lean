/-
  The document's table: what a step turns; gone.
-/
import Derived.Test.YtapkdaccbojbgaaRGet
import Derived.Deep.CutRange
import Derived.BigQuiet
namespace Go.Proofs.Ytapkdaccbojbgaa
set_option linter.unusedSimpArgs false
set_option linter.unusedVariables false
open Go.RowKit Own RegJ Two
open Go.Lib hiding intOf

/-- the blocks that are written -/
def wrS (rb sb : Nat) (fb : Option Nat) (k : Nat) : Prop := k = rb ∨ k = sb ∨ fb = some k
def RO (w : World) (rb : Nat) (ns : NSt) (m : Nat) (W A : Nat → Prop) : Prop := ∃ sb vs rw fl fb, RT w rb sb ns vs rw fl fb ∧ fl.length ≤ m ∧ (∀ k, wrS rb sb fb k → W k) ∧ ∀ i k, rw i = some k → A k
def RP (w : World) (rb : Nat) (W A : Nat → Prop) (ns' : NSt) (m : Nat) (w' : World) : Prop := ∃ W' A', RO w' rb ns' m W' A' ∧ (∀ k, W' k → W k ∨ w.heap.size ≤ k) ∧ (∀ k, A' k → A k ∨ w.heap.size ≤ k) ∧ Upd W w w'
theorem RP.trans {w w1 w2 : World} {rb : Nat} {W A W1 A1 : Nat → Prop} {ns2 : NSt} {m : Nat} (hW : ∀ k, W1 k → W k ∨ w.heap.size ≤ k) (hA : ∀ k, A1 k → A k ∨ w.heap.size ≤ k) (hu : Upd W w w1) (h : RP w1 rb W1 A1 ns2 m w2) : RP w rb W A ns2 m w2 := by
  obtain ⟨W2, A2, h1, h2, h3, h4⟩ := h
  have hs := hu.size
  refine ⟨W2, A2, h1, fun k hk => ?_, fun k hk => ?_, hu.trans h4 (fun k hk h => (hW k h).elim id (fun h => by omega))⟩
  · rcases h2 k hk with h | h
    · exact hW k h
    · exact Or.inr (by omega)
  · rcases h3 k hk with h | h
    · exact hA k h
    · exact Or.inr (by omega)
theorem RP.mono {w w1 : World} {rb : Nat} {W A W1 A1 : Nat → Prop} {ns : NSt} {m : Nat} (hW : ∀ k, W1 k → W k) (hA : ∀ k, A1 k → A k) (h : RP w rb W1 A1 ns m w1) : RP w rb W A ns m w1 := by
  obtain ⟨W2, A2, h1, h2, h3, h4⟩ := h
  exact ⟨W2, A2, h1, fun k hk => (h2 k hk).imp (hW k) id, fun k hk => (h3 k hk).imp (hA k) id, h4.mono (fun k _ h => hW k h)⟩
theorem RO.refl {w : World} {rb : Nat} {W A : Nat → Prop} {ns : NSt} {m : Nat} (h : RO w rb ns m W A) : RP w rb W A ns m w := ⟨W, A, h, fun k h => Or.inl h, fun k h => Or.inl h, Upd.refl _ _⟩
section
variable {w : World} {rb sb : Nat} {ns : NSt} {vs : Nat → Value} {rw' : Nat → Option Nat} {fl : List Int} {fb : Option Nat}
theorem RT.turn (h : RT w rb sb ns vs rw' fl fb) {w' : World} {ns' : NSt} {vs' : Nat → Value} {rw2 : Nat → Option Nat} (hu : Upd (fun k => k = rb) w w') (hb : Blk w' rb (refC sb ns' vs') 100)
    (hr : ∀ i nd, ns' i = some nd → Row2 w 37 (vs' i) (nd.es.map enV) (rw2 i) ∧ nd.es.length ≤ 8) (hn : ∀ i, ns' i = none → vs' i = .slice none 0 0) (hf : ∀ i, 16 ≤ i → ns' i = none) (h3 : ∀ i g, rw2 i = some g → g ≠ rb ∧ g ≠ sb ∧ fb ≠ some g) (h4 : ∀ i g, rw2 i = some g → g < w.heap.size) : RT w' rb sb ns' vs' rw2 fl fb :=
  ⟨hb, h.sto.upd hu h.n1 h.n2, fun i nd hi => ⟨(hr i nd hi).1.upd hu (fun g hg => (h3 i g hg).1), (hr i nd hi).2⟩, hn, hf, h.n1, h.n2, h3, h.len, fun i g hg => Nat.lt_of_lt_of_le (h4 i g hg) hu.size⟩
/-- one number of one node -/
theorem RT.num (h : RT w rb sb ns vs rw' fl fb) {i f : Nat} {nd nd' : Nd} (hi : ns i = some nd) (hf : f < 5) (v : Value) (he : nodeC (some nd') (vs i) = (nodeC (some nd) (vs i)).set f v) (hes : nd'.es = nd.es) : RT (w.setCell ⟨rb, 1 + i * 5 + f, none⟩ v) rb sb (nsPut ns i (some nd')) vs rw' fl fb := by
  have h16 := (h.cells hi).1
  refine h.turn ((Upd.refl (fun k => k = rb) w).setCell (p := ⟨rb, _, none⟩) (fun _ => rfl) _) (Blk.of (h.tab.set _ v) (refC_set sb ns _ vs vs i f h16 hf v (fun k hk => ⟨put_ne _ _ _ hk, rfl⟩) (by rw [put_eq, hi]; exact he))) (fun j nd2 hj => ?_) (fun j hj => ?_) (fun j hj => ?_) h.n3 h.n4
  · by_cases e : j = i
    · subst e; rw [put_eq] at hj; cases hj; rw [hes]; exact h.row _ nd hi
    · rw [put_ne _ _ _ e] at hj; exact h.row j nd2 hj
  · by_cases e : j = i
    · subst e; rw [put_eq] at hj; cases hj
    · rw [put_ne _ _ _ e] at hj; exact h.nil' j hj
  · rw [put_ne _ _ _ (by omega)]; exact h.far j hj
/-- the node is gone -/
theorem RT.kill (h : RT w rb sb ns vs rw' fl fb) {i : Nat} {nd : Nd} (hi : ns i = some nd) : RT (((((w.setCell ⟨rb, 1 + i * 5, none⟩ (.bool false)).setCell ⟨rb, 1 + i * 5 + 1, none⟩ (.bool false)).setCell ⟨rb, 1 + i * 5 + 2, none⟩ (.int .i64 0)).setCell ⟨rb, 1 + i * 5 + 3, none⟩ (.int .i64 0)).setCell ⟨rb, 1 + i * 5 + 4, none⟩ (.slice none 0 0)) rb sb (nsPut ns i none) (fun j => if j = i then .slice none 0 0 else vs j) (fun j => if j = i then none else rw' j) fl fb := by
  have h16 := (h.cells hi).1
  refine h.turn (((((((Upd.refl (fun k => k = rb) w).setCell (p := ⟨rb, _, none⟩) (fun _ => rfl) _).setCell (p := ⟨rb, _, none⟩) (fun _ => rfl) _).setCell (p := ⟨rb, _, none⟩) (fun _ => rfl) _).setCell (p := ⟨rb, _, none⟩) (fun _ => rfl) _).setCell (p := ⟨rb, _, none⟩) (fun _ => rfl) _)) (Blk.of (((((h.tab.set _ _).set _ _).set _ _).set _ _).set _ _) (refC_node sb ns _ vs _ i h16 _ _ _ _ _ (fun k hk => ⟨put_ne _ _ _ hk, by rw [if_neg hk]⟩) (by rw [put_eq, if_pos rfl]; rfl))) (fun j nd2 hj => ?_) (fun j hj => ?_) (fun j hj => ?_) (fun j g hg => ?_) (fun j g hg => ?_)
  · by_cases e : j = i
    · subst e; rw [put_eq] at hj; cases hj
    · rw [put_ne _ _ _ e] at hj; rw [if_neg e, if_neg e]; exact h.row j nd2 hj
  · by_cases e : j = i
    · rw [if_pos e]
    · rw [put_ne _ _ _ e] at hj; rw [if_neg e]; exact h.nil' j hj
  · by_cases e : j = i
    · subst e; rw [put_eq]
    · rw [put_ne _ _ _ e]; exact h.far j hj
  · by_cases e : j = i
    · simp only [if_pos e] at hg; cases hg
    · simp only [if_neg e] at hg; exact h.n3 j g hg
  · by_cases e : j = i
    · simp only [if_pos e] at hg; cases hg
    · simp only [if_neg e] at hg; exact h.n4 j g hg
/-- another store -/
theorem RT.store (h : RT w rb sb ns vs rw' fl fb) {w' : World} {m : Nat} (hs : SP w sb fb m w') (hm : m ≤ 500) : ∃ fl' fb', RT w' rb sb ns vs rw' fl' fb' ∧ fl'.length ≤ m ∧ (∀ g, fb' = some g → fb = some g ∨ w.heap.size ≤ g) ∧ Upd (fun k => k = sb ∨ fb = some k) w w' := by
  obtain ⟨fl', fb', hS, hl, hb, hu⟩ := hs
  have hrl := h.tab.lt
  refine ⟨fl', fb', ⟨Blk.upd hu h.tab (fun e => by rcases e with e | e; exact h.n1 e.symm; exact h.n2 _ e rfl), hS, fun i nd hi => ⟨(h.row i nd hi).1.upd hu (fun g hg e => by
      have := h.n3 i g hg
      rcases e with e | e
      · exact this.2.1 e
      · exact this.2.2 e), (h.row i nd hi).2⟩, h.nil', h.far, h.n1, fun g hg e => ?_, fun i g hg => ⟨(h.n3 i g hg).1, (h.n3 i g hg).2.1, fun e => ?_⟩, by omega, fun i g hg => Nat.lt_of_lt_of_le (h.n4 i g hg) hu.size⟩, hl, hb, hu⟩
  · rcases hb g hg with h1 | h1
    · exact h.n2 g h1 e
    · omega
  · rcases hb g e with h1 | h1
    · exact (h.n3 i g hg).2.2 h1
    · have := h.n4 i g hg; omega
end
def RndR (rb : Nat) (W A : Nat → Prop) (m f : Nat) (es : List En) (v : Value) (b : Option Nat) (s0 : NSt) (pend : List Int) (w : World) (k : Nat) (wr : World) : Prop :=
  RP w rb W A (goneL f (es.take k) s0) m wr ∧ Row2 wr 37 v (es.map enV) b ∧ (∀ g, b = some g → ¬ W g ∧ g < w.heap.size) ∧ Inv (goneL f (es.take k) s0) ((es.drop k).map Prod.snd ++ pend) ∧ lenN (goneL f (es.take k) s0) 16 < f
def GoneP (w : World) (rb : Nat) (W A : Nat → Prop) (ns' : NSt) (m : Nat) (e : Ending) (w' : World) : Prop := (∃ v, e = .returned v) ∧ RP w rb W A ns' m w'
set_option maxRecDepth 100000 in
set_option maxHeartbeats 4000000 in
theorem rgone_is (rb m : Nat) (hm5 : m ≤ 500) : ∀ (f : Nat) (w : World) (ns : NSt) (W A : Nat → Prop) (i : Nat) (nd : Nd) (pend : List Int), RO w rb ns m W A → ns i = some nd → Inv ns pend → lenN ns 16 < f →
    Calls Try.prog 59 #[.pointer (some ⟨rb, 0, none⟩), .int .i64 i] w (GoneP w rb W A (gone f ns i) m)
  | 0, _, _, _, _, _, _, _, _, _, _, hf => by omega
  | f + 1, w, ns, W, A, i, nd, pend, h, hi, hV, hf => by
    have hO := h
    obtain ⟨sb, vs, rw', fl, fb, hT, hml, hW, hA⟩ := h
    obtain ⟨h16, c0, c1, c2, c3, c4⟩ := hT.cells hi
    have i1 : (i : Int) < 16 := by omega
    have i2 : (0 : Int) ≤ i := by omega
    by_cases hs : i = 0 ∨ 0 < nd.links ∨ 0 < nd.opens
    · rw [gone_stay hi hs]
      have HO := Lib.hid hO
      by_cases h0 : i = 0
      · subst h0
        clear hO hT hi hV hf hs hW hA
        go_enter Try.func59, Try.ntmps59
        go_wp2_with (fail)
        go_returns
        exact ⟨⟨_, rfl⟩, HO.out.refl⟩
      · have d0 : ((i : Int) == 0) = false := by simp; omega
        by_cases hl : 0 < nd.links
        · have d1 : decide (nd.links > 0) = true := by simpa using hl
          clear hO hT hi hV hf hs hW hA h0 hl
          generalize nd.links = L at *
          go_enter Try.func59, Try.ntmps59
          go_wp2_with (fail)
          go_returns
          exact ⟨⟨_, rfl⟩, HO.out.refl⟩
        · have ho : 0 < nd.opens := by omega
          have d1 : decide (nd.links > 0) = false := by simpa using hl
          have d2 : decide (nd.opens > 0) = true := by simpa using ho
          clear hO hT hi hV hf hs hW hA h0 hl ho
          generalize nd.links = L at *
          generalize nd.opens = O at *
          go_enter Try.func59, Try.ntmps59
          go_wp2_with (fail)
          go_returns
          exact ⟨⟨_, rfl⟩, HO.out.refl⟩
    · rw [gone_go hi hs]
      have d0 : ((i : Int) == 0) = false := by simp; omega
      have d1 : decide (nd.links > 0) = false := by simp; omega
      have d2 : decide (nd.opens > 0) = false := by simp; omega
      have cs : w.cell? ⟨rb, 0, none⟩ = some (.pointer (some ⟨sb, 0, none⟩)) := by rw [hT.tab.rd]; exact refC_0 sb ns vs
      have hdr := sdrop2_is hT.sto (by have := hT.len; omega) (i : Int)
      have H := Lib.hid (And.intro hT (And.intro hi (And.intro hV (And.intro hf (And.intro hs (And.intro hW (And.intro hA hml)))))))
      clear hO hT hi hV hf hs hW hA hml
      go_enter Try.func59, Try.ntmps59
      go_upto_if 35 with (fail)
      go_cut [] from 34 to 41 (fun wx => Hid (∃ fl' fb', RT wx rb sb ns vs rw' fl' fb' ∧ fl'.length ≤ m ∧ (∀ g, fb' = some g → fb = some g ∨ w.heap.size ≤ g) ∧ Upd (fun k => k = sb ∨ fb = some k) w wx))
      case first =>
        have HD : Hid (fl.length ≤ m) := Lib.hid H.out.2.2.2.2.2.2.2
        cases hd : nd.dir with
        | true =>
          clear hd
          go_wp2_with (fail)
          go_meet
          exact Lib.hid ⟨fl, fb, H.out.1, HD.out, fun g hg => Or.inl hg, Upd.refl _ _⟩
        | false =>
          clear hd
          go_wp2_with (go_at_call 67; refine hdr.mono ?_; rintro e w2 ⟨⟨r, rfl⟩, hS⟩; have HY := Lib.hid (H.out.1.store hS (by have := H.out.1.len; omega)); clear hdr hS)
          go_meet
          obtain ⟨fl', fb', q1, q2, q3, q4⟩ := HY.out
          exact Lib.hid ⟨fl', fb', q1, by have := HD.out; omega, q3, q4⟩
      case rest =>
        obtain ⟨fl', fb', hT2, hl2, hfb2, hu2⟩ := hcut.out
        obtain ⟨_, e0, e1, e2, e3, e4⟩ := hT2.cells H.out.2.1
        have nf := hT2.tab.nf
        obtain ⟨hrow, h8⟩ := hT2.row i nd H.out.2.1
        obtain ⟨a, c, hv⟩ := hrow.slice
        rw [List.length_map] at hv
        rw [hv] at e4 hrow
        have HT2 := Lib.hid (And.intro hT2 (And.intro hl2 (And.intro hfb2 (And.intro hu2 (And.intro hrow h8)))))
        clear hT2 hl2 hfb2 hu2 hrow hv c0 c1 c2 c3 c4 cs hdr hcut
        go_wp2_with (fail)
        obtain ⟨hT2, hl2, hfb2, hu2, hrow, h8'⟩ := HT2.out
        obtain ⟨hT, hi, hV, hf, hs, hW, hA, hml⟩ := H.out
        have hTk := hT2.kill hi
        have huk : Upd (fun k => k = rb) wc (((((wc.setCell ⟨rb, 1 + i * 5, none⟩ (.bool false)).setCell ⟨rb, 1 + i * 5 + 1, none⟩ (.bool false)).setCell ⟨rb, 1 + i * 5 + 2, none⟩ (.int .i64 0)).setCell ⟨rb, 1 + i * 5 + 3, none⟩ (.int .i64 0)).setCell ⟨rb, 1 + i * 5 + 4, none⟩ (.slice none 0 0)) :=
          ((((((Upd.refl (fun k => k = rb) wc).setCell (p := ⟨rb, _, none⟩) (fun _ => rfl) _).setCell (p := ⟨rb, _, none⟩) (fun _ => rfl) _).setCell (p := ⟨rb, _, none⟩) (fun _ => rfl) _).setCell (p := ⟨rb, _, none⟩) (fun _ => rfl) _).setCell (p := ⟨rb, _, none⟩) (fun _ => rfl) _)
        have HK := Lib.hid (And.intro hTk huk)
        clear hTk huk hT2 hl2 hfb2 hu2 hrow hT hi hV hf hs hW hA hml e0 e1 e2 e3 e4 nf
        generalize (((((wc.setCell ⟨rb, 1 + i * 5, none⟩ (.bool false)).setCell ⟨rb, 1 + i * 5 + 1, none⟩ (.bool false)).setCell ⟨rb, 1 + i * 5 + 2, none⟩ (.int .i64 0)).setCell ⟨rb, 1 + i * 5 + 3, none⟩ (.int .i64 0)).setCell ⟨rb, 1 + i * 5 + 4, none⟩ (.slice none 0 0)) = wk at *
        have HS0 : Hid (RndR rb (wrS rb sb fb) (fun k => ∃ i, rw' i = some k) m f nd.es (.slice a nd.es.length c) (rw' i) (nsPut ns i none) pend w 0 wk) := Lib.hid (by
          obtain ⟨hT2, hl2, hfb2, hu2, hrow, _⟩ := HT2.out
          obtain ⟨hT, hi, hV, hf, hs, hW, hA, hml⟩ := H.out
          refine ⟨⟨wrS rb sb fb', fun k => ∃ j, (if j = i then none else rw' j) = some k, ⟨sb, _, _, fl', fb', HK.out.1, hl2, fun k h => h, fun j k h => ⟨j, h⟩⟩, fun k hk => ?_, fun k ⟨j, hj⟩ => ?_, ?_⟩, hrow.upd HK.out.2 (fun g hg e => (hT.n3 i g hg).1 e), fun g hg => ⟨fun e => ?_, hT.n4 i g hg⟩, hV.kill hi (fun e => hs (Or.inr (Or.inl e))), ?_⟩
          · rcases hk with h | h | h
            · exact Or.inl (Or.inl h)
            · exact Or.inl (Or.inr (Or.inl h))
            · exact (hfb2 k h).imp (fun h => Or.inr (Or.inr h)) id
          · split at hj
            · cases hj
            · exact Or.inl ⟨j, hj⟩
          · exact (hu2.mono (fun k _ e => Or.inr e)).trans HK.out.2 (fun k _ e => Or.inl e)
          · rcases e with e | e | e
            · exact (hT.n3 i g hg).1 e
            · exact (hT.n3 i g hg).2.1 e
            · exact (hT.n3 i g hg).2.2 e
          · have := kill_len hi h16; show lenN (nsPut ns i none) 16 < f; omega)
        generalize hnn : nd.es.length = n at *
        have HNN := Lib.hid hnn
        clear hnn
        go_loopw [5] (fun v5 wr => ∃ j : Nat, j ≤ n ∧ v5 = .int .i64 j ∧ Hid (RndR rb (wrS rb sb fb) (fun k => ∃ i, rw' i = some k) m f nd.es (.slice a n c) (rw' i) (nsPut ns i none) pend w j wr)) (fun v5 _ => n - (intOf v5).toNat)
        case atStart => exact ⟨0, by omega, rfl, HS0⟩
        case round =>
          obtain ⟨j, hjn, rfl, HJ⟩ := hrel
          by_cases hjl : j < n
          · have d5 : decide ((j : Int) < (n : Int)) = true := by simp; omega
            have d5n : decide (j < n) = true := by simp; omega
            have i5 : (j : Int) < (n : Int) := by omega
            have i6 : (0 : Int) ≤ j := by omega
            obtain ⟨⟨nm, x⟩, hx⟩ : ∃ x, nd.es[j]? = some x := ⟨_, List.getElem?_eq_getElem (by rw [HNN.out]; omega)⟩
            obtain ⟨⟨W3, A3, ⟨sb3, vs3, rw3, fl3, fb3, hT3, hl3, hW3, hA3⟩, hW3', hA3', hu3⟩, hrow3, hb3, hinv, hlen3⟩ := HJ.out
            obtain ⟨g, rfl, r1, r2⟩ := hrow3.rd j (enV (nm, x)) (by rw [List.getElem?_map, hx]; rfl)
            have hdrop : nd.es.drop j = (nm, x) :: nd.es.drop (j + 1) := by
              rw [List.drop_eq_getElem_cons (by rw [HNN.out]; omega)]
              congr 1
              exact (List.getElem?_eq_some_iff.1 hx).2
            rw [hdrop, List.map_cons, List.cons_append] at hinv
            have hxb := hinv.pids x (List.mem_cons_self ..)
            obtain ⟨mm, rfl⟩ : ∃ mm : Nat, x = mm := ⟨x.toNat, by omega⟩
            obtain ⟨hdec, ndm, hmm, hde⟩ := hinv.dec
            simp only [Int.toNat_natCast] at hdec hmm hde
            have hm16 := hinv.lt hmm
            have hl0 := hinv.links hmm
            have hl1 := hinv.bnd mm ndm hmm
            obtain ⟨_, _, _, q2, _, _⟩ := hT3.cells hmm
            have nf3 := hT3.tab.nf
            have i7 : (mm : Int) < 16 := by omega
            have i8 : (0 : Int) ≤ mm := by omega
            have r2' : wr.cell? ⟨g, j * 2 + 1, none⟩ = some (.int .i64 mm) := r2
            have hgb : rw' i = some g := by
              rcases hrow3 with ⟨h, _⟩ | ⟨g2, _, _, hv2, hb2, _⟩
              · cases h
              · simp only [Value.slice.injEq, Option.some.injEq, Addr.mk.injEq] at hv2
                rw [hv2.1.1]; exact hb2
            have hgne : g ≠ rb := fun e => (hb3 g hgb).1 (Or.inl e)
            have hTd := hT3.num (f := 2) (nd' := addL ndm (-1)) hmm (by omega) (.int .i64 (ndm.links - 1)) rfl rfl
            have hT5 := hTd.upd ((Upd.refl (fun _ => False) (wr.setCell ⟨rb, 1 + mm * 5 + 2, none⟩ (.int .i64 (ndm.links - 1)))).drew) (fun _ _ h => h)
            have hu5 : Upd (fun k => k = rb) wr (wr.setCell ⟨rb, 1 + mm * 5 + 2, none⟩ (.int .i64 (ndm.links - 1))).drew := ((Upd.refl (fun k => k = rb) wr).setCell (p := ⟨rb, _, none⟩) (fun _ => rfl) _).drew
            rw [hde] at hdec
            have hIH := rgone_is rb m hm5 f _ _ (wrS rb sb3 fb3) (fun k => ∃ i, rw3 i = some k) mm (addL ndm (-1)) _ ⟨sb3, vs3, rw3, fl3, fb3, hT5, hl3, fun k h => h, fun i k h => ⟨i, h⟩⟩ (put_eq _ _ _) hdec (by rw [← hde, lenN_dec _ hm16]; exact hlen3)
            have hrow5 := hrow3.upd hu5 (fun g' hg' e => (hb3 g' hg').1 (Or.inl e))
            have r5 := (hrow5.rd j (enV (nm, (mm : Int))) (by rw [List.getElem?_map, hx]; rfl))
            obtain ⟨g5, hg5, _, r5'⟩ := r5
            cases hg5
            have HQ := Lib.hid (And.intro hx (And.intro hdec (And.intro hde (And.intro hmm (And.intro hu5 (And.intro hrow5 (And.intro hb3 (And.intro hW3 (And.intro hA3 (And.intro hW3' (And.intro hA3' (And.intro hu3 (And.intro hlen3 hm16)))))))))))))
            have mixed : Try.prog.follows .mixedOrders = true := by kernel_rfl
            clear r1 r2 hinv hdec hde hT5 hu5 hT3 hTd hdrop hmm hx hxb hrow5 hrow3 hb3 hW3 hA3 hW3' hA3' hu3 hlen3 hgb
            generalize ndm.links = L at *
            go_upto_region 8 with (fail)
            go_region
            generalize (wr.setCell ⟨rb, 1 + mm * 5 + 2, none⟩ (.int .i64 (L - 1))).drew = w5 at *
            go_wp2_with (go_at_call 59; (with_reducible refine hIH.mono ?_); rintro e w6 ⟨⟨v6, rfl⟩, hP6⟩; have H6 := Lib.hid hP6; clear hIH hP6)
            go_roundw
            case rel =>
              refine ⟨j + 1, by omega, by go_num, Lib.hid ?_⟩
              obtain ⟨hx, hdec, hde, hmm, hu5, hrow5, hb3, hW3, hA3, hW3', hA3', hu3, hlen3, hm16⟩ := HQ.out
              have htk : nd.es.take (j + 1) = nd.es.take j ++ [(nm, (mm : Int))] := by
                rw [List.take_add_one, hx]; rfl
              have hgo : goneL f (nd.es.take (j + 1)) (nsPut ns i none) = gone f (nsPut (goneL f (nd.es.take j) (nsPut ns i none)) mm (some (addL ndm (-1)))) mm := by
                rw [htk, goneL_snoc]
                simp only [Int.toNat_natCast]
                rw [if_pos (by rw [hmm]; rfl), hde]
              have z3 := hu3.size
              have z5 := hu5.size
              obtain ⟨W6, A6, p1, p2, p3, p4⟩ := H6.out
              have hwrb : ∀ k, k = rb → wrS rb sb fb k := fun k e => Or.inl e
              refine ⟨?_, hrow5.upd p4 (fun g' hg' e => ?_), hb3, ?_, ?_⟩
              · rw [hgo]
                refine RP.trans (w1 := w5) (fun k hk => hW3' k (hW3 k hk)) (fun k ⟨i', hk⟩ => hA3' k (hA3 i' k hk)) (hu3.trans hu5 (fun k _ e => hwrb k e)) H6.out
              · rcases hW3' g' (hW3 g' e) with h1 | h1
                · exact (hb3 g' hg').1 h1
                · have := (hb3 g' hg').2; omega
              · rw [hgo]; exact gone_inv f _ _ _ hdec
              · rw [hgo]
                refine Nat.lt_of_le_of_lt (gone_len f _ _ _ hdec) ?_
                rw [← hde, lenN_dec _ hm16]; exact hlen3
            case measure => simp [intOf]; omega
          · have hje : j = n := by omega
            subst hje
            have d5 : decide ((j : Int) < (j : Int)) = false := by simp
            go_wp2_with (fail)
            go_returns
            obtain ⟨hP, _⟩ := HJ.out
            rw [List.take_of_length_le (by rw [HNN.out]; omega)] at hP
            exact ⟨⟨_, rfl⟩, hP.mono H.out.2.2.2.2.2.1 (fun k ⟨i, hi⟩ => H.out.2.2.2.2.2.2.1 i k hi)⟩
end Go.Proofs.Ytapkdaccbojbgaa
