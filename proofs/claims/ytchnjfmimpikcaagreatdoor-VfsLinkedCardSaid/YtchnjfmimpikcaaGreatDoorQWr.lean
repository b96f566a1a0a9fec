/-
  The document's store: Write, where something is written.
-/
import Derived.Test.YtchnjfmimpikcaaGreatDoorQWa
namespace Go.Proofs.YtchnjfmimpikcaaGreatDoor
set_option linter.unusedSimpArgs false
set_option linter.unusedVariables false
open Go.RowKit Own RegC Three Two
open RegJ hiding Up
open RegF hiding put_size

section
variable {w w' : World} {O O' F : Nat → Prop} {sb fb tb bb n N fr : Nat} {fls : List Fil} {tk : List Bool} {back : List Int} {fs : Sfs} {v : Value} {vals : List V3}
theorem rtake_is (h : FD w O fb tb bb n tk back fr) (hr : back ≠ [] ∨ fr < n) : ∃ b0 fr' i, ((back = b0 ++ [((i : Nat) : Int)] ∧ fr' = fr) ∨ (back = [] ∧ b0 = [] ∧ i = fr ∧ fr' = fr + 1 ∧ fr < n)) ∧ Calls Tryz.prog 100 #[.pointer (some ⟨fb, 0, none⟩)] w (RTakeP w O fb tb bb n tk b0 fr' i) := by
  by_cases hb : back = []
  · subst hb
    have hlt : fr < n := hr.elim (fun h => absurd rfl h) (fun h => h)
    exact ⟨[], fr + 1, fr, Or.inr ⟨rfl, rfl, rfl, rfl, hlt⟩, rtake_new h hlt⟩
  · have e := List.dropLast_concat_getLast hb
    have hx := h.bkr (back.getLast hb) (List.getLast_mem hb)
    obtain ⟨i, hi⟩ : ∃ i : Nat, back.getLast hb = i := ⟨(back.getLast hb).toNat, by omega⟩
    rw [hi] at e
    refine ⟨back.dropLast, fr, i, Or.inl ⟨e.symm, rfl⟩, ?_⟩
    rw [← e] at h
    exact rtake_back h
/-- the rounds that take frames -/
def RW (w : World) (O : Nat → Prop) (fb tb bb n N : Nat) (fs : Sfs) (fls : List Fil) (vals : List V3) (j : Nat) (f : Fil) (x : V3) (g : Nat) (rest : List Value) (k : Nat) (wr : World) : Prop :=
  ∃ tk back fr news vF bF, news.length = k ∧ FD wr (nx w wr O) fb tb bb n tk back fr ∧ SCore n N fs (fls.set j ⟨f.id, f.bs, f.fr ++ news⟩) tk back fr ∧ Blk wr g (cells3 (vals.set j (x.1, x.2.1, vF)) ++ rest).toArray 163 ∧ RowV wr 3 vF (icells (f.fr ++ news)) bF ∧ inO (nx w wr O) bF ∧ Upd (fun q => FF fb tb bb q ∨ q = g) w wr
theorem made_row8 (n : Nat) : madeCells (Value.int .u8 0).cells (n * 1) = (ucells (List.replicate n 0)).toArray := by
  rw [made_same _ (.int .u8 0) (by simp [Value.cells]) (fun i hi => by simp [Value.cells])]
  simp [ucells]
theorem FD.turn1 (h : FD w O fb tb bb n tk back fr) {b : Nat} {cs : Array Value} {T : TypeId} (hb : Blk w b cs T) (hu : Upd (fun k => k = b) w w') (t1 : T ≠ 143) (t2 : T ≠ 4) (t3 : T ≠ 23) (t4 : T ≠ 3) : FD w' O fb tb bb n tk back fr := by
  obtain ⟨vb, bk, k1, k2, k3⟩ := h.blk
  obtain ⟨cs, k4, k5⟩ := h.row
  exact ⟨⟨vb, bk, Blk.upd hu k1 (fun e => k1.neT hb (Ne.symm t1) e), k2.upd hu (fun g hg e => k2.neT hb (Ne.symm t4) g hg e), k3⟩, Blk.upd hu h.tak (fun e => h.tak.neT hb (Ne.symm t2) e), ⟨cs, Blk.upd hu k4 (fun e => k4.neT hb (Ne.symm t3) e), k5⟩, h.len, h.n64, h.frn, h.bkn, h.bkr, h.of⟩
theorem writeB_len (bs : List Int) (o : Nat) (b : List Int) : (writeB bs o b).length = max bs.length (o + b.length) := by
  unfold writeB extB spl
  simp only [List.length_append, List.length_take, List.length_drop, List.length_replicate]
  omega
theorem splice_writeB (bs : List Int) (o : Nat) (b : List Int) : splice (splice (ucells (List.replicate (max bs.length (o + b.length)) 0)) 0 (ucells bs)) o (ucells b) = ucells (writeB bs o b) := by
  unfold splice writeB extB spl
  simp [List.map_take, List.map_drop]
theorem write_fin {wr w5 : World} {j s0 S cap g : Nat} {f : Fil} {x : V3} {rest : List Value} {news : List Int} {vF : Value} {bF : Option Nat} {tk' : List Bool} {back' : List Int} {fr' : Nat} {bs' : List Int} (h : SD w O sb fb tb bb n fls tk back fr) (hk : SOk n N fs fls tk back fr) (hb : Blk w sb #[.pointer (some ⟨fb, 0, none⟩), .slice (some ⟨g, 0, none⟩) fls.length cap] 146)
    (hB : Blk w g (cells3 vals ++ rest).toArray 163) (hcap : cap * 3 = (cells3 vals ++ rest).length) (hcm : cap ≤ maxLen) (hL : LD w O (.slice (some ⟨g, 0, none⟩) fls.length cap) (some g) vals fls) (hj : fls[j]? = some f) (hxv : vals[j]? = some x) (hog : O g)
    (hF : FD wr (nx w wr O) fb tb bb n tk' back' fr') (hC : SCore n N fs (fls.set j ⟨f.id, f.bs, f.fr ++ news⟩) tk' back' fr') (hBr : Blk wr g (cells3 (vals.set j (x.1, x.2.1, vF)) ++ rest).toArray 163) (hRF : RowV wr 3 vF (icells (f.fr ++ news)) bF) (hoF : inO (nx w wr O) bF) (hU : Upd (fun q => FF fb tb bb q ∨ q = g) w wr)
    (hB5 : Below wr.heap.size wr w5) (hs0 : wr.heap.size ≤ s0) (hG : w5.heap[s0]? = some (.cells (ucells bs').toArray 5 (0, 0))) (hl : (f.fr ++ news).length = (bs'.length + 63) / 64) (hS : bs'.length = S) (h5 : S ≤ 512) :
    SQ w O sb n N (fsPut fs f.id.toNat (some bs')) (.int .i64 0) (.returned (.int .i64 0)) (w5.setCell ⟨g, j * 3 + 1, none⟩ (.slice (some ⟨s0, 0, none⟩) S S)) := by
  have hF0 := h.frm
  have hgs : sb ≠ g := hb.neT hB (by decide)
  have hug : Upd (fun q => q = g) w5 (w5.setCell ⟨g, j * 3 + 1, none⟩ (.slice (some ⟨s0, 0, none⟩) S S)) := (Upd.refl (fun q => q = g) w5).setCell (p := ⟨g, _, none⟩) (fun _ => rfl) _
  have hB5' := Blk.below hB5 hBr hBr.lt
  have hx' : (vals.set j (x.1, x.2.1, vF))[j]? = some (x.1, x.2.1, vF) := List.getElem?_set_self (List.getElem?_eq_some_iff.1 hxv).1
  have hbk := blk3_set1 hB5' hx' (.slice (some ⟨s0, 0, none⟩) S S)
  rw [List.set_set] at hbk
  simp only at hbk
  have s1 := hU.size
  have s2 := hB5.size
  have s3 := hug.size
  have hUt : Upd (fun q => FF fb tb bb q ∨ q = g) w (w5.setCell ⟨g, j * 3 + 1, none⟩ (.slice (some ⟨s0, 0, none⟩) S S)) := (hU.trans (Upd.of_below (F := fun _ => False) hB5) (fun _ _ h => h.elim)).trans hug (fun _ _ e => Or.inr e)
  have hnr : NoRow w (fun q => FF fb tb bb q ∨ q = g) := fun q e => by
    rcases e with e | e
    · exact hF0.noRow q e
    · exact ⟨_, _, e ▸ hB, by decide, by decide⟩
  have qb := Blk.upd hUt hb (fun e => e.elim (hF0.off hb (by decide) (by decide) (by decide)) hgs)
  have hFf := (hF.below hB5).turn1 hB5' hug (by decide) (by decide) (by decide) (by decide)
  have hRf := (hRF.below hB5).upd hug (fun q hq e => (hRF.below hB5).neT hB5' (by decide) q hq e)
  have hs0g : s0 ≠ g := by have := hBr.lt; omega
  have hGf : Blk (w5.setCell ⟨g, j * 3 + 1, none⟩ (.slice (some ⟨s0, 0, none⟩) S S)) s0 (ucells bs').toArray 5 := Blk.upd hug hG hs0g
  have hX : RowV (w5.setCell ⟨g, j * 3 + 1, none⟩ (.slice (some ⟨s0, 0, none⟩) S S)) 5 (.slice (some ⟨s0, 0, none⟩) S S) (ucells bs') (some s0) := Or.inr ⟨s0, S, [], by rw [List.length_map, hS], rfl, by rw [List.append_nil]; exact hGf, by rw [List.append_nil, List.length_map, hS], by unfold maxLen; omega⟩
  have hl2 : (vals.set j (x.1, .slice (some ⟨s0, 0, none⟩) S S, vF)).length = fls.length := by rw [List.length_set]; exact hL.len
  refine ⟨rfl, ⟨fb, tb, bb, _, _, _, fr', ⟨⟨_, some g, _, qb, ⟨Or.inr ⟨g, cap, rest, by rw [hl2], rfl, hbk, ?_, hcm⟩, fun k hk' => by cases hk'; exact ⟨Or.inl hog, hbk.lt⟩, by rw [hl2, List.length_set], fun k y f' hy hf' => ?_⟩⟩, ⟨Or.inl h.osb, qb.lt⟩, hFf.mono2 (fun q hq hlt => ⟨hq.1, hlt⟩)⟩, hk.write hj hC bs' hl (by omega)⟩, hUt.mono (fun q _ e => e.elim (hF0.ff q) (fun e => e ▸ hog))⟩
  · have h1 := cells3_len vals
    have h2 := cells3_len (vals.set j (x.1, .slice (some ⟨s0, 0, none⟩) S S, vF))
    rw [List.length_set] at h2
    rw [List.length_append] at hcap ⊢
    omega
  · rcases set_get hj k f' hf' with ⟨rfl, rfl⟩ | ⟨hne, hf'⟩
    · rw [List.getElem?_set_self (List.getElem?_eq_some_iff.1 hxv).1] at hy
      cases hy
      exact ⟨(hL.is k x f hxv hj).1, ⟨some s0, hX, fun q hq => by cases hq; exact ⟨Or.inr (by omega), hGf.lt⟩⟩, bF, hRf, fun q hq => ⟨(hoF q hq).1, hRf.lt q hq⟩⟩
    · rw [List.getElem?_set_ne (fun e => hne e.symm)] at hy
      exact (hL.is k y f' hy hf').turn hUt hnr (nx_keep hUt.size)
theorem rw_step {wr w2 W w3 : World} {j k i fr2 vl vc g : Nat} {f : Fil} {x : V3} {rest : List Value} {news b0 : List Int} {vF : Value} {B3 : Option Nat} {va : Option Addr} (hj : fls[j]? = some f) (hxv : vals[j]? = some x) (hnl : news.length = k) (hF : FD wr (nx w wr O) fb tb bb n tk back fr) (hC : SCore n N fs (fls.set j ⟨f.id, f.bs, f.fr ++ news⟩) tk back fr)
    (hBr : Blk wr g (cells3 (vals.set j (x.1, x.2.1, vF)) ++ rest).toArray 163) (hU : Upd (fun q => FF fb tb bb q ∨ q = g) w wr) (hbi : (back = b0 ++ [(i : Int)] ∧ fr2 = fr) ∨ (back = [] ∧ b0 = [] ∧ i = fr ∧ fr2 = fr + 1 ∧ fr < n)) (hF2 : FD w2 (nx wr w2 (nx w wr O)) fb tb bb n (tk.set i true) b0 fr2) (hu2 : Upd (FF fb tb bb) wr w2) (hW : Upd (fun _ => False) w2 W)
    (hb3 : Below W.heap.size W w3) (hI3 : RowV w3 3 (.slice va vl vc) (icells (f.fr ++ news) ++ icells [(i : Int)]) B3) (hB3 : ∀ q, B3 = some q → W.heap.size ≤ q) : RW w O fb tb bb n N fs fls vals j f x g rest (k + 1) (w3.setCell ⟨g, j * 3 + 2, none⟩ (.slice va vl vc)) := by
  have hw3 : Upd (fun _ => False) w2 w3 := hW.trans (Upd.of_below hb3) (fun _ _ h => h)
  have hB2 := Blk.upd hu2 hBr (hF.off hBr (by decide) (by decide) (by decide))
  have hB3' := Blk.upd hw3 hB2 (fun h => h)
  have hug : Upd (fun q => q = g) w3 (w3.setCell ⟨g, j * 3 + 2, none⟩ (.slice va vl vc)) := (Upd.refl (fun q => q = g) w3).setCell (p := ⟨g, _, none⟩) (fun _ => rfl) _
  have hx' : (vals.set j (x.1, x.2.1, vF))[j]? = some (x.1, x.2.1, vF) := List.getElem?_set_self (List.getElem?_eq_some_iff.1 hxv).1
  have hbk := blk3_set2 hB3' hx' (.slice va vl vc)
  rw [List.set_set] at hbk
  have s1 := hU.size
  have s2 := hu2.size
  have s3 := hW.size
  have s4 := hb3.size
  have s5 := hug.size
  have hFf := ((hF2.upd hw3 (fun _ _ h => h)).turn1 hB3' hug (by decide) (by decide) (by decide) (by decide))
  have hRf := hI3.upd hug (fun q hq e => hI3.neT hB3' (by decide) q hq e)
  have hCs := hC.take (set_self (f' := ⟨f.id, f.bs, f.fr ++ news⟩) hj) hbi
  rw [List.set_set] at hCs
  simp only at hCs
  rw [List.append_assoc] at hCs
  rw [show icells (f.fr ++ news) ++ icells [(i : Int)] = icells (f.fr ++ (news ++ [(i : Int)])) by simp [icells]] at hRf
  refine ⟨_, _, _, news ++ [(i : Int)], _, B3, by rw [List.length_append, hnl]; rfl, hFf.mono2 (fun q hq hl => ?_), hCs, hbk, hRf, fun q hq => ⟨Or.inr (by have := hB3 q hq; omega), hRf.lt q hq⟩, ?_⟩
  · obtain ⟨hq1, hq2⟩ := nx_trans s1 q hq
    exact ⟨hq1, hl⟩
  · exact ((hU.trans hu2 (fun q _ e => Or.inl e)).trans hw3 (fun _ _ h => h.elim)).trans hug (fun q _ e => Or.inr e)
set_option maxRecDepth 100000 in
set_option maxHeartbeats 2000000 in
theorem qwrite_main (h : SS w O sb n N fs) (hN : N ≤ 1000) (id : Int) (o : Nat) (a : Option Addr) (b : List Int) (c : Nat) (bs : List Int) (hn : fsAt fs id = some bs) (hb0 : b.length ≠ 0) (hob : o + b.length ≤ 512) (hsrc : SrcD w O (.slice a b.length c) b) (r : Int) (fs' : Sfs) (hr : writeR fs n id o b = (r, fs')) : Calls Tryz.prog 62 #[.pointer (some ⟨sb, 0, none⟩), .int .i64 id, .int .i64 o, .slice a b.length c] w (SQ w O sb n N fs' (.int .i64 r)) := by
  have h0 := h
  obtain ⟨fb, tb, bb, fls, tk, back, fr, h, hk⟩ := h
  obtain ⟨j, f, hj, rfl, rfl⟩ := hk.core.find hn
  have ha := qat_yes h hk.core hN hj
  obtain ⟨v, gg, vals, hb, hL⟩ := h.blk
  obtain ⟨g, cap, rest, x, rfl, rfl, hB, hcap, hcm, hxv, hfi, hog⟩ := hL.atf hj
  have hfi0 := hfi
  obtain ⟨x1, ⟨b1, hb1, ho1⟩, b2, hb2, ho2⟩ := hfi
  obtain ⟨aB, cB, hvB, hcB, -⟩ := hb1.slice
  obtain ⟨aF, cF, hvF, hcF, -⟩ := hb2.slice
  rw [List.length_map] at hvB hvF hcB hcF
  have hlen := hk.len j f hj
  have h512 := hk.core.b512 j f hj
  have hfree : (back.length : Int) + n - fr = ((n - sumF frL fls : Nat) : Int) := by
    have := hk.core.tot
    have := hk.core.frn
    omega
  have hfr := rfree_is h.frm _ hfree
  obtain ⟨LB, hLB⟩ : ∃ LB, f.bs.length = LB := ⟨_, rfl⟩
  obtain ⟨LF, hLF⟩ : ∃ LF, f.fr.length = LF := ⟨_, rfl⟩
  obtain ⟨bl, hbl⟩ : ∃ bl, b.length = bl := ⟨_, rfl⟩
  obtain ⟨E, hE⟩ : ∃ E, o + bl = E := ⟨_, rfl⟩
  rw [hLB] at hvB hlen h512 hcB
  rw [hLF] at hvF hlen hcF
  rw [hbl] at hb0 hob hsrc ⊢
  have hjl := (List.getElem?_eq_some_iff.1 hj).1
  obtain ⟨m, hm⟩ : ∃ m, fls.length = m := ⟨_, rfl⟩
  rw [hm] at hb hjl
  obtain ⟨_, r1, r2⟩ := Three.blk_row hB j x hxv
  rw [hvB] at r1
  rw [hvF] at r2
  have c1 := hb.rd
  have i1 : (j : Int) < (m : Int) := by omega
  have i2 : (0 : Int) ≤ j := by omega
  have d0 : decide ((j : Int) < 0) = false := by simp
  have d1 : decide ((o : Int) < 0) = false := by simp
  have d2 : ((bl : Int) == 0) = false := by simpa using hb0
  have d2n : (bl == 0) = false := by simpa using hb0
  have d3 : decide ((o : Int) > 512) = false := by simp; omega
  have d3n : decide (o > 512) = false := by simp; omega
  obtain ⟨R, hR⟩ : ∃ R : Nat, (512 : Int) - o = R := ⟨512 - o, by omega⟩
  have d4 : decide ((bl : Int) > (R : Int)) = false := by simp; omega
  have d4n : decide (bl > R) = false := by simp; omega
  have e1 : (o : Int) + (bl : Int) = (E : Int) := by omega
  obtain ⟨S, hS⟩ : ∃ S, max LB E = S := ⟨_, rfl⟩
  have e2 : max (LB : Int) (E : Int) = (S : Int) := by omega
  obtain ⟨Q, hQ⟩ : ∃ Q, (S + 63) / 64 = Q := ⟨_, rfl⟩
  have e3 : ((S : Int) + 63) / 64 = (Q : Int) := by omega
  obtain ⟨K, hK⟩ : ∃ K, Q - LF = K := ⟨_, rfl⟩
  have hQF : LF ≤ Q := by omega
  have e4 : (Q : Int) - (LF : Int) = (K : Int) := by omega
  obtain ⟨G, hG⟩ : ∃ G, n - sumF frL fls = G := ⟨_, rfl⟩
  rw [hG] at hfr hfree
  have hGU : (G : Int) + usedN fs 16 = n := by
    have := hk.core.tot
    have := hk.core.frn
    have := hk.use
    omega
  have hS5 : S ≤ 512 := by omega
  have hKK : K ≤ 8 := by omega
  have hcond : (n + (f.bs.length + 63) / 64 < usedN fs 16 + (max f.bs.length ((o : Int).toNat + b.length) + 63) / 64) ↔ G < K := by
    rw [hLB, hbl, Int.toNat_natCast, hE, hS, hQ, ← hlen]
    omega
  have HE := Lib.hid (And.intro hLB (And.intro hLF (And.intro hbl (And.intro hE (And.intro hS (And.intro hQ (And.intro hK (And.intro hlen (And.intro hGU (And.intro hcond (And.intro hQF (And.intro hG (And.intro hm hob)))))))))))))
  have HX := Lib.hid (And.intro h (And.intro hk (And.intro hb (And.intro hB (And.intro hcap (And.intro hcm (And.intro hxv (And.intro hfi0 (And.intro hog (And.intro hL (And.intro hj (And.intro hb1 (And.intro ho1 (And.intro hb2 (And.intro ho2 (And.intro hvB hvF))))))))))))))))
  have HS := Lib.hid (And.intro h0 (And.intro hr (And.intro hsrc (And.intro hn hb0))))
  clear hfree hLB hLF hbl hE hS hQ hK hlen hGU hcond hQF hG hm h hk hb hB hcap hcm hxv hfi0 hog hL hj hb1 ho1 hb2 ho2 hvB hvF h0 hr hsrc hn hb0 hob h512 hN hcB hcF x1 hjl
  by_cases hGK : G < K
  · have d5 : decide ((K : Int) > (G : Int)) = true := by simp; omega
    have d5n : decide (K > G) = true := by simpa using hGK
    have HG := Lib.hid hGK
    clear hGK
    go_enter Tryz.func62, Tryz.ntmps62
    go_wp2_with (first
      | (go_at_call 98; refine ha.mono ?_; rintro e w' ⟨rfl, rfl⟩; clear ha)
      | (go_at_call 99; (with_reducible refine hfr.mono ?_); rintro e w2 ⟨rfl, hB⟩; have H2 := Lib.hid hB; clear hfr hB))
    go_ret
    obtain ⟨h0, hr, hsrc, hn, hb0⟩ := HS.out
    unfold writeR at hr
    rw [hn] at hr
    simp only at hr
    rw [if_neg (by omega), if_neg (by rw [HE.out.2.2.1]; exact hb0), if_neg (by have := HE.out.2.2.2.2.2.2.2.2.2.2.2.2.2; rw [HE.out.2.2.1]; omega), if_pos (HE.out.2.2.2.2.2.2.2.2.2.1.2 HG.out)] at hr
    cases hr
    exact ⟨rfl, (h0.below H2.out).mono (fun k hk hl => ⟨Or.inl hk, hl⟩), (Upd.of_below (F := fun _ => False) H2.out).mono (fun _ _ h => h.elim)⟩
  · have d5 : decide ((K : Int) > (G : Int)) = false := by simp; omega
    have d5n : decide (K > G) = false := by simpa using hGK
    have HG := Lib.hid hGK
    clear hGK
    go_enter Tryz.func62, Tryz.ntmps62
    go_wp2_with (first
      | (go_at_call 98; refine ha.mono ?_; rintro e w' ⟨rfl, rfl⟩; clear ha)
      | (go_at_call 99; (with_reducible refine hfr.mono ?_); rintro e w2 ⟨rfl, hB⟩; have H2 := Lib.hid hB; clear hfr hB))
    clear c1 r1 r2
    go_loopw [12] (fun v12 wr => ∃ k : Nat, k ≤ K ∧ v12 = .int .i64 k ∧ Hid (RW w O fb tb bb n N fs fls vals j f x g rest k wr)) (fun v12 _ => K - (intOf v12).toNat)
    case atStart =>
      refine ⟨0, Nat.zero_le _, rfl, Lib.hid ?_⟩
      obtain ⟨h, hk, hb, hB, hcap, hcm, hxv, hfi0, hog, hL, hj, hb1, ho1, hb2, ho2, hvB, hvF⟩ := HX.out
      have e : (fls.set j ⟨f.id, f.bs, f.fr ++ []⟩) = fls := by
        rw [List.append_nil]
        apply List.ext_getElem?
        intro q
        rw [List.getElem?_set]
        split
        · rename_i e; subst e; rw [hj]; simp [(List.getElem?_eq_some_iff.1 hj).1]
        · rfl
      have e2 : vals.set j (x.1, x.2.1, x.2.2) = vals := by
        apply List.ext_getElem?
        intro q
        rw [List.getElem?_set]
        split
        · rename_i e; subst e; rw [hxv]; simp [(List.getElem?_eq_some_iff.1 hxv).1]
        · rfl
      exact ⟨tk, back, fr, [], x.2.2, b2, rfl, (h.frm.below H2.out).mono2 (fun k hk hl => ⟨Or.inl hk, hl⟩), by rw [e]; exact hk.core, by rw [e2]; exact Blk.below H2.out hB hB.lt, by rw [List.append_nil]; exact hb2.below H2.out, fun q hq => ⟨Or.inl (ho2 q hq), by have := hb2.lt q hq; have := H2.out.size; omega⟩, (Upd.of_below (F := fun _ => False) H2.out).mono (fun _ _ h => h.elim)⟩
    case round =>
      obtain ⟨k, hk, rfl, HJ⟩ := hrel
      obtain ⟨tk', back', fr', news, vF, bF, hnl, hF, hC, hBr, hRF, hoF, hU⟩ := HJ.out
      by_cases hkl : k < K
      · have d6 : decide ((k : Int) < (K : Int)) = true := by simp; omega
        have d6n : decide (k < K) = true := by simp; omega
        obtain ⟨hfl, hk, hb, hB, hcap, hcm, hxv, hfi0, hog, hL, hj, -⟩ := HX.out
        have htot := hC.tot
        have hset := sumF_set frL fls j f ⟨f.id, f.bs, f.fr ++ news⟩ hj
        have hfl1 : frL ⟨f.id, f.bs, f.fr ++ news⟩ = frL f + k := by show (f.fr ++ news).length = f.fr.length + k; rw [List.length_append, hnl]
        have hroom : back' ≠ [] ∨ fr' < n := by
          by_cases hbn : back' = []
          · right
            subst hbn
            have := HE.out.2.2.2.2.2.2.2.2.2.2.2.1
            have := HG.out
            simp at htot
            omega
          · exact Or.inl hbn
        obtain ⟨b0, fr2, i, hbi, htk⟩ := rtake_is hF hroom
        have hF0 := hfl.frm
        have hgs : sb ≠ g := hb.neT hB (by decide)
        have qb := Blk.upd hU hb (fun e => e.elim (hF0.off hb (by decide) (by decide) (by decide)) hgs)
        obtain ⟨cur, hcur⟩ : ∃ cur, f.fr ++ news = cur := ⟨_, rfl⟩
        have hcl : cur.length ≤ 100 := by
          rw [← hcur, List.length_append, hnl]
          have := sumF_ge frL hj
          have h2 : f.fr.length ≤ sumF frL fls := this
          have := hk.core.tot
          have := hk.core.frn
          have := hF0.n64
          omega
        rw [hcur] at hRF
        have HR := Lib.hid (And.intro hnl (And.intro hF (And.intro hC (And.intro hBr (And.intro hU (And.intro hbi (And.intro (show True from trivial) hcur)))))))
        have HRF := Lib.hid (And.intro hRF (And.intro hcl qb))
        have c1 := qb.rd
        clear hfl hk hb hB hcap hcm hxv hfi0 hog hL hj htot hset hfl1 hroom hF0 hgs hcl hnl hF hC hBr hU hoF hbi hcur hRF
        go_upto_region 18 with (go_at_call 100; (with_reducible refine htk.mono ?_); rintro e w2 ⟨rfl, hF2, hu2⟩; have H2 := Lib.hid (And.intro hF2 hu2); clear htk hF2 hu2)
        clear c1 qb
        have HR := Lib.hid (show news.length = k ∧ _ ∧ _ ∧ _ ∧ _ ∧ _ ∧ _ ∧ _ ∧ f.fr ++ news = cur from ⟨HR.out.1, HR.out.2.1, HR.out.2.2.1, HR.out.2.2.2.1, HR.out.2.2.2.2.1, HR.out.2.2.2.2.2.1, H2.out.1, H2.out.2, HR.out.2.2.2.2.2.2.2⟩)
        obtain ⟨aF, cF, hvF, -, -⟩ := HRF.out.1.slice
        obtain ⟨lF, hlF⟩ : ∃ lF, (icells cur).length = lF := ⟨_, rfl⟩
        rw [hlF] at hvF
        obtain ⟨W, hW⟩ : ∃ W, W = w2.drew := ⟨_, rfl⟩
        have hWu : Upd (fun _ => False) w2 W := by rw [hW]; exact (Upd.refl _ w2).drew
        have hx' : (vals.set j (x.1, x.2.1, vF))[j]? = some (x.1, x.2.1, vF) := List.getElem?_set_self (List.getElem?_eq_some_iff.1 HX.out.2.2.2.2.2.2.1).1
        have hu2 := H2.out.2
        have hFr := HR.out.2.1
        have qb2 := Blk.upd hWu (Blk.upd hu2 HRF.out.2.2 (hFr.off HRF.out.2.2 (by decide) (by decide) (by decide))) (fun h => h)
        have qB2 := Blk.upd hWu (Blk.upd hu2 HR.out.2.2.2.1 (hFr.off HR.out.2.2.2.1 (by decide) (by decide) (by decide))) (fun h => h)
        have qR2 := (HRF.out.1.upd hu2 (fun q hq e => by
          obtain ⟨cs, T, p1, _, p2⟩ := hFr.noRow q e
          exact HRF.out.1.neT p1 p2 q hq rfl)).upd hWu (fun _ _ h => h)
        have hcell : (cells3 (vals.set j (x.1, x.2.1, vF)) ++ rest).toArray[j * 3 + 2]? = some (.slice aF lF cF) := by
          have hl := cells3_len (vals.set j (x.1, x.2.1, vF))
          have := (cells3_at _ _ _ hx').2.2
          have h3 := (List.getElem?_eq_some_iff.1 hx').1
          simp only [List.getElem?_toArray]
          rw [List.getElem?_append_left (by omega), this, hvF]
        have HB := Lib.hid (And.intro qb2 (And.intro qB2 hcell))
        rw [hvF] at qR2
        have HRD := Lib.hid (show ∀ w', Below W.heap.size W w' → 0 < lF → ∃ A, aF = some A ∧ ∀ (q : Nat) (u : Value), (icells cur)[q]? = some u → w'.cell? (A.add q) = some u from fun w' hB hp => by
          have hr := (qR2.below hB).rd
          obtain ⟨A, hA, _⟩ := hr 0 _ (List.getElem?_eq_getElem (by rw [hlF]; exact hp))
          exact ⟨A, hA, fun q u hq => by obtain ⟨A', e, h⟩ := hr q u hq; rw [hA] at e; cases e; exact h⟩)
        have HL := Lib.hid (And.intro hlF HRF.out.2.1)
        have HW := Lib.hid (And.intro hWu hW)
        clear hvF hlF hWu hW hx' hu2 hFr qb2 qB2 qR2 hcell
        have mixed : Tryz.prog.follows .mixedOrders = true := by kernel_rfl
        refine region_E (EvJ W 13 95 (fun v w => ∃ b, RowV w 3 v (icells cur) b ∧ ∀ q, b = some q → W.heap.size ≤ q) 15 97 (fun v w => ∃ h, v = .slice (some ⟨h, 0, none⟩) 1 1 ∧ Blk w h #[.int .i64 (i : Nat)] 3) 16 98 (fun v w => ∃ b, RowV w 3 v (icells cur ++ icells [(i : Int)]) b ∧ ∀ q, b = some q → W.heap.size ≤ q) 19 ⟨g, j * 3 + 2, none⟩) [Is 126 (some 82) (.pointer (some ⟨sb, 0, none⟩)), Is 126 (some 83) (.pointer (some ⟨sb, 0, none⟩)), Is 126 (some 84) (.pointer (some ⟨sb, 1, none⟩)), Is 126 (some 85) (.slice (some ⟨g, 0, none⟩) m cap), Is 126 (some 86) (.int .i64 (j : Nat)), Is 126 (some 87) (.pointer (some ⟨sb, 0, none⟩)), Is 126 (some 88) (.pointer (some ⟨sb, 0, none⟩)), Is 126 (some 89) (.pointer (some ⟨sb, 1, none⟩)), Is 126 (some 90) (.slice (some ⟨g, 0, none⟩) m cap), Is 126 (some 91) (.int .i64 (j : Nat)), Is 126 (some 92) (.pointer (some ⟨g, j * 3, none⟩)), Is 126 (some 93) (.pointer (some ⟨g, j * 3 + 2, none⟩)), Is 126 (some 94) (.slice aF lF cF), (fun u => ∃ a l c, u = .slice a l c), Is 126 (some 96) (.int .i64 (i : Nat)), (fun u => ∃ h : Nat, u = .slice (some ⟨h, 0, none⟩) 1 1), (fun u => ∃ a l c, u = .slice a l c), Is 126 (some 99) (.pointer (some ⟨g, j * 3, none⟩)), Is 126 (some 100) (.pointer (some ⟨g, j * 3 + 2, none⟩)), Is 126 (none) (undef)] (by kernel_rfl) (by kernel_rfl) ?_ ?_
        · exact EvJ.start _ HW.out.2.symm
        · apply wpE_op (by rfl) (by rfl) (by rfl)
          · intro f a' w' ha hf hJ Q1 hQ
            simp only [Act.put, List.setIfInBounds_toArray, List.set_cons_zero, List.set_cons_succ] at hQ
            go_wp2
            exact hQ _ _ rfl (hJ.put rfl rfl rfl rfl (slot_put_ne (a := a') (by decide) _) (slot_put_ne (a := a') (by decide) _) (slot_put_ne (a := a') (by decide) _))
          simp only [Act.put, List.setIfInBounds_toArray, List.set_cons_zero, List.set_cons_succ]
          apply wpE_op (by rfl) (by rfl) (by rfl)
          · intro f a' w' ha hf hJ Q1 hQ
            simp only [Act.put, List.setIfInBounds_toArray, List.set_cons_zero, List.set_cons_succ] at hQ
            go_wp2
            exact hQ _ _ rfl (hJ.put rfl rfl rfl rfl (slot_put_ne (a := a') (by decide) _) (slot_put_ne (a := a') (by decide) _) (slot_put_ne (a := a') (by decide) _))
          simp only [Act.put, List.setIfInBounds_toArray, List.set_cons_zero, List.set_cons_succ]
          apply wpE_op (by rfl) (by rfl) (by rfl)
          · intro f a' w' ha hf hJ Q1 hQ
            simp only [Act.put, List.setIfInBounds_toArray, List.set_cons_zero, List.set_cons_succ] at hQ
            go_wp2
            exact hQ _ _ rfl (hJ.put rfl rfl rfl rfl (slot_put_ne (a := a') (by decide) _) (slot_put_ne (a := a') (by decide) _) (slot_put_ne (a := a') (by decide) _))
          simp only [Act.put, List.setIfInBounds_toArray, List.set_cons_zero, List.set_cons_succ]
          apply wpE_op (by rfl) (by rfl) (by rfl)
          · intro f a' w' ha hf hJ Q1 hQ
            have o17 : f 17 = false := by
              cases h5 : f 17 with
              | false => rfl
              | true => exact absurd ((hf.1.1).symm.trans (hf.2.step 17 3 rfl (by kernel_rfl) h5)) (by decide)
            have o18 : f 18 = false := by
              cases h5 : f 18 with
              | false => rfl
              | true => exact absurd ((o17).symm.trans (hf.2.step 18 17 rfl (by kernel_rfl) h5)) (by decide)
            have o19 : f 19 = false := by
              cases h5 : f 19 with
              | false => rfl
              | true => exact absurd ((o18).symm.trans (hf.2.step 19 18 rfl (by kernel_rfl) h5)) (by decide)
            have hbw := hJ.bel o19
            have c5 := (Blk.below hbw HB.out.1 HB.out.1.lt).rd
            simp only [Act.put, List.setIfInBounds_toArray, List.set_cons_zero, List.set_cons_succ] at hQ
            go_wp2
            exact hQ _ _ rfl (hJ.put rfl rfl rfl rfl (slot_put_ne (a := a') (by decide) _) (slot_put_ne (a := a') (by decide) _) (slot_put_ne (a := a') (by decide) _))
          simp only [Act.put, List.setIfInBounds_toArray, List.set_cons_zero, List.set_cons_succ]
          apply wpE_op (by rfl) (by rfl) (by rfl)
          · intro f a' w' ha hf hJ Q1 hQ
            simp only [Act.put, List.setIfInBounds_toArray, List.set_cons_zero, List.set_cons_succ] at hQ
            go_wp2
            exact hQ _ _ rfl (hJ.put rfl rfl rfl rfl (slot_put_ne (a := a') (by decide) _) (slot_put_ne (a := a') (by decide) _) (slot_put_ne (a := a') (by decide) _))
          simp only [Act.put, List.setIfInBounds_toArray, List.set_cons_zero, List.set_cons_succ]
          apply wpE_op (by rfl) (by rfl) (by rfl)
          · intro f a' w' ha hf hJ Q1 hQ
            simp only [Act.put, List.setIfInBounds_toArray, List.set_cons_zero, List.set_cons_succ] at hQ
            go_wp2
            exact hQ _ _ rfl (hJ.put rfl rfl rfl rfl (slot_put_ne (a := a') (by decide) _) (slot_put_ne (a := a') (by decide) _) (slot_put_ne (a := a') (by decide) _))
          simp only [Act.put, List.setIfInBounds_toArray, List.set_cons_zero, List.set_cons_succ]
          apply wpE_op (by rfl) (by rfl) (by rfl)
          · intro f a' w' ha hf hJ Q1 hQ
            simp only [Act.put, List.setIfInBounds_toArray, List.set_cons_zero, List.set_cons_succ] at hQ
            go_wp2
            exact hQ _ _ rfl (hJ.put rfl rfl rfl rfl (slot_put_ne (a := a') (by decide) _) (slot_put_ne (a := a') (by decide) _) (slot_put_ne (a := a') (by decide) _))
          simp only [Act.put, List.setIfInBounds_toArray, List.set_cons_zero, List.set_cons_succ]
          apply wpE_op (by rfl) (by rfl) (by rfl)
          · intro f a' w' ha hf hJ Q1 hQ
            simp only [Act.put, List.setIfInBounds_toArray, List.set_cons_zero, List.set_cons_succ] at hQ
            go_wp2
            exact hQ _ _ rfl (hJ.put rfl rfl rfl rfl (slot_put_ne (a := a') (by decide) _) (slot_put_ne (a := a') (by decide) _) (slot_put_ne (a := a') (by decide) _))
          simp only [Act.put, List.setIfInBounds_toArray, List.set_cons_zero, List.set_cons_succ]
          apply wpE_op (by rfl) (by rfl) (by rfl)
          · intro f a' w' ha hf hJ Q1 hQ
            have o10 : f 10 = false := by
              cases h5 : f 10 with
              | false => rfl
              | true => exact absurd ((hf.1.1).symm.trans (hf.2.step 10 8 rfl (by kernel_rfl) h5)) (by decide)
            have o11 : f 11 = false := by
              cases h5 : f 11 with
              | false => rfl
              | true => exact absurd ((o10).symm.trans (hf.2.step 11 10 rfl (by kernel_rfl) h5)) (by decide)
            have o12 : f 12 = false := by
              cases h5 : f 12 with
              | false => rfl
              | true => exact absurd ((o11).symm.trans (hf.2.step 12 11 rfl (by kernel_rfl) h5)) (by decide)
            have o13 : f 13 = false := by
              cases h5 : f 13 with
              | false => rfl
              | true => exact absurd ((o12).symm.trans (hf.2.step 13 12 rfl (by kernel_rfl) h5)) (by decide)
            have o16 : f 16 = false := by
              cases h5 : f 16 with
              | false => rfl
              | true => exact absurd ((o13).symm.trans (hf.2.step 16 13 rfl (by kernel_rfl) h5)) (by decide)
            have o19 : f 19 = false := by
              cases h5 : f 19 with
              | false => rfl
              | true => exact absurd ((o16).symm.trans (hf.2.step 19 16 rfl (by kernel_rfl) h5)) (by decide)
            have hbw := hJ.bel o19
            have c5 := (Blk.below hbw HB.out.1 HB.out.1.lt).rd
            simp only [Act.put, List.setIfInBounds_toArray, List.set_cons_zero, List.set_cons_succ] at hQ
            go_wp2
            exact hQ _ _ rfl (hJ.put rfl rfl rfl rfl (slot_put_ne (a := a') (by decide) _) (slot_put_ne (a := a') (by decide) _) (slot_put_ne (a := a') (by decide) _))
          simp only [Act.put, List.setIfInBounds_toArray, List.set_cons_zero, List.set_cons_succ]
          apply wpE_op (by rfl) (by rfl) (by rfl)
          · intro f a' w' ha hf hJ Q1 hQ
            simp only [Act.put, List.setIfInBounds_toArray, List.set_cons_zero, List.set_cons_succ] at hQ
            go_wp2
            exact hQ _ _ rfl (hJ.put rfl rfl rfl rfl (slot_put_ne (a := a') (by decide) _) (slot_put_ne (a := a') (by decide) _) (slot_put_ne (a := a') (by decide) _))
          simp only [Act.put, List.setIfInBounds_toArray, List.set_cons_zero, List.set_cons_succ]
          apply wpE_op (by rfl) (by rfl) (by rfl)
          · intro f a' w' ha hf hJ Q1 hQ
            simp only [Act.put, List.setIfInBounds_toArray, List.set_cons_zero, List.set_cons_succ] at hQ
            go_wp2
            exact hQ _ _ rfl (hJ.put rfl rfl rfl rfl (slot_put_ne (a := a') (by decide) _) (slot_put_ne (a := a') (by decide) _) (slot_put_ne (a := a') (by decide) _))
          simp only [Act.put, List.setIfInBounds_toArray, List.set_cons_zero, List.set_cons_succ]
          apply wpE_op (by rfl) (by rfl) (by rfl)
          · intro f a' w' ha hf hJ Q1 hQ
            simp only [Act.put, List.setIfInBounds_toArray, List.set_cons_zero, List.set_cons_succ] at hQ
            go_wp2
            exact hQ _ _ rfl (hJ.put rfl rfl rfl rfl (slot_put_ne (a := a') (by decide) _) (slot_put_ne (a := a') (by decide) _) (slot_put_ne (a := a') (by decide) _))
          simp only [Act.put, List.setIfInBounds_toArray, List.set_cons_zero, List.set_cons_succ]
          apply wpE_op (by rfl) (by rfl) (by rfl)
          · intro f a' w' ha hf hJ Q1 hQ
            have o13 : f 13 = false := by
              cases h5 : f 13 with
              | false => rfl
              | true => exact absurd ((hf.1.1).symm.trans (hf.2.step 13 12 rfl (by kernel_rfl) h5)) (by decide)
            have o16 : f 16 = false := by
              cases h5 : f 16 with
              | false => rfl
              | true => exact absurd ((o13).symm.trans (hf.2.step 16 13 rfl (by kernel_rfl) h5)) (by decide)
            have o19 : f 19 = false := by
              cases h5 : f 19 with
              | false => rfl
              | true => exact absurd ((o16).symm.trans (hf.2.step 19 16 rfl (by kernel_rfl) h5)) (by decide)
            have hbw := hJ.bel o19
            have c5 : w'.cell? ⟨g, j * 3 + 2, none⟩ = some (.slice aF lF cF) := (Blk.below hbw HB.out.2.1 HB.out.2.1.lt).rd _ |>.trans HB.out.2.2
            simp only [Act.put, List.setIfInBounds_toArray, List.set_cons_zero, List.set_cons_succ] at hQ
            go_wp2
            exact hQ _ _ rfl (hJ.put rfl rfl rfl rfl (slot_put_ne (a := a') (by decide) _) (slot_put_ne (a := a') (by decide) _) (slot_put_ne (a := a') (by decide) _))
          simp only [Act.put, List.setIfInBounds_toArray, List.set_cons_zero, List.set_cons_succ]
          apply wpE_any (d := 95) rfl (by simp) ⟨_, none, 0, 0, rfl⟩ (by rfl)
          · intro f a' w' ha hf hJ Q1 hQ
            have o16 : f 16 = false := by
              cases h5 : f 16 with
              | false => rfl
              | true => exact absurd ((hf.1.1).symm.trans (hf.2.step 16 13 rfl (by kernel_rfl) h5)) (by decide)
            have o19 : f 19 = false := by
              cases h5 : f 19 with
              | false => rfl
              | true => exact absurd ((o16).symm.trans (hf.2.step 19 16 rfl (by kernel_rfl) h5)) (by decide)
            have hbw := hJ.bel o19
            have hsz : 95 < a'.tmps.size := by rw [ha.1]; simp
            simp only [Act.put, List.setIfInBounds_toArray, List.set_cons_zero, List.set_cons_succ] at hQ
            go_wp2_with (at_builtin; refine wp_appV rfl _ _ 79 3 _ 8 infoI rfl (by decide) underI rfl _ [] none rfl (Or.inl ⟨rfl, rfl, rfl⟩) aF lF cF (icells cur) HL.out.1 rfl (HRD.out w' hbw) (one_i _) (by have := HL.out.2; simp; omega) ?_; intro v3 w3 B3 hI3 hB3 hU3; rw [List.nil_append] at hI3)
            have hz : Below w'.heap.size w' w3 := hU3.below (Nat.le_refl _) (fun k hk => by cases hk)
            exact hQ _ _ _ rfl (RowV.sl hI3) (hJ.ev1 o19 o16 (by decide) (by decide) (by decide) (slot_put (a := a') hsz _) (slot_put_ne (a := a') (by decide) _) hz (fun u ⟨h, e, hb⟩ => ⟨h, e, Blk.below hz hb hb.lt⟩) ⟨B3, hI3, fun q hq => (hB3 q hq).elim (fun h => by cases h) (fun h => Nat.le_trans hbw.size h)⟩)
          rintro _ ⟨ua, ul, uc, rfl⟩
          simp only [Act.put, List.setIfInBounds_toArray, List.set_cons_zero, List.set_cons_succ]
          apply wpE_op (by rfl) (by rfl) (by rfl)
          · intro f a' w' ha hf hJ Q1 hQ
            simp only [Act.put, List.setIfInBounds_toArray, List.set_cons_zero, List.set_cons_succ] at hQ
            go_wp2
            exact hQ _ _ rfl (hJ.put rfl rfl rfl rfl (slot_put_ne (a := a') (by decide) _) (slot_put_ne (a := a') (by decide) _) (slot_put_ne (a := a') (by decide) _))
          simp only [Act.put, List.setIfInBounds_toArray, List.set_cons_zero, List.set_cons_succ]
          apply wpE_any (d := 97) rfl (by simp) ⟨_, 0, rfl⟩ (by rfl)
          · intro f a' w' ha hf hJ Q1 hQ
            have o16 : f 16 = false := by
              cases h5 : f 16 with
              | false => rfl
              | true => exact absurd ((hf.1.1).symm.trans (hf.2.step 16 15 rfl (by kernel_rfl) h5)) (by decide)
            have o19 : f 19 = false := by
              cases h5 : f 19 with
              | false => rfl
              | true => exact absurd ((o16).symm.trans (hf.2.step 19 16 rfl (by kernel_rfl) h5)) (by decide)
            have hbw := hJ.bel o19
            have hsz : 97 < a'.tmps.size := by rw [ha.1]; simp
            simp only [Act.put, List.setIfInBounds_toArray, List.set_cons_zero, List.set_cons_succ] at hQ
            go_wp2
            exact hQ _ _ _ rfl ⟨_, rfl⟩ (hJ.ev2 o19 o16 (by decide) (by decide) (by decide) (slot_put_ne (a := a') (by decide) _) (slot_put (a := a') hsz _) ((Below.refl _ _).alloc (Nat.le_refl _) _) (fun u ⟨b, h, hb⟩ => ⟨b, h.below ((Below.refl _ _).alloc (Nat.le_refl _) _), hb⟩) ⟨_, rfl, Blk.new _ _ _⟩)
          rintro _ ⟨ph, rfl⟩
          simp only [Act.put, List.setIfInBounds_toArray, List.set_cons_zero, List.set_cons_succ]
          apply wpE_any (d := 98) rfl (by simp) ⟨_, none, 0, 0, rfl⟩ (by rfl)
          · intro f a' w' ha hf hJ Q1 hQ
            have o19 : f 19 = false := by
              cases h5 : f 19 with
              | false => rfl
              | true => exact absurd ((hf.1.1).symm.trans (hf.2.step 19 16 rfl (by kernel_rfl) h5)) (by decide)
            have hbw := hJ.bel o19
            have on1 : f 13 = true := hf.1.2 ⟨13, .data⟩ (by simp) rfl
            have on2 : f 15 = true := hf.1.2 ⟨15, .data⟩ (by simp) rfl
            have hp1 := (hJ.1 o19).2.2.1 on1 hf.1.1
            have hp2 := (hJ.1 o19).2.2.2.1 on2 hf.1.1
            have hsz : 98 < a'.tmps.size := by rw [ha.1]; simp
            have s1 : slot a' 95 = .slice ua ul uc := by
              have := ha.2 95 (by decide)
              simp only [slot, Array.getD_eq_getD_getElem?, this]; rfl
            have s2 : slot a' 97 = .slice (some ⟨ph, 0, none⟩) 1 1 := by
              have := ha.2 97 (by decide)
              simp only [slot, Array.getD_eq_getD_getElem?, this]; rfl
            rw [s1] at hp1
            rw [s2] at hp2
            obtain ⟨B1, hI1, hB1⟩ := hp1
            obtain ⟨h2, he2, hb2⟩ := hp2
            obtain rfl : ph = h2 := by simpa using he2
            clear he2
            simp only [Act.put, List.setIfInBounds_toArray, List.set_cons_zero, List.set_cons_succ] at hQ
            go_wp2_with (at_builtin; refine wp_appV rfl _ _ 79 3 _ 8 infoI rfl (by decide) underI rfl _ (icells cur) B1 rfl hI1 (some ⟨ph, 0, none⟩) 1 1 (icells [(i : Int)]) rfl rfl (fun _ => ⟨_, rfl, fun q u hq => by rw [add_off, hb2.rd]; exact List.getElem?_toArray.trans hq⟩) (one_i _) (by have := HL.out; simp at this ⊢; omega) ?_; intro v3 w3 B3 hI3 hB3 hU3)
            have hz : Below W.heap.size W w3 := hbw.trans (hU3.below hbw.size (fun k hk => hB1 k hk))
            exact hQ _ _ _ rfl (RowV.sl hI3) (hJ.ev3 o19 (by decide) (slot_put (a := a') hsz _) hz ⟨B3, hI3, fun q hq => (hB3 q hq).elim (hB1 q) (fun h => Nat.le_trans hbw.size h)⟩)
          rintro _ ⟨va, vl, vc, rfl⟩
          simp only [Act.put, List.setIfInBounds_toArray, List.set_cons_zero, List.set_cons_succ]
          apply wpE_op (by rfl) (by rfl) (by rfl)
          · intro f a' w' ha hf hJ Q1 hQ
            simp only [Act.put, List.setIfInBounds_toArray, List.set_cons_zero, List.set_cons_succ] at hQ
            go_wp2
            exact hQ _ _ rfl (hJ.put rfl rfl rfl rfl (slot_put_ne (a := a') (by decide) _) (slot_put_ne (a := a') (by decide) _) (slot_put_ne (a := a') (by decide) _))
          simp only [Act.put, List.setIfInBounds_toArray, List.set_cons_zero, List.set_cons_succ]
          apply wpE_op (by rfl) (by rfl) (by rfl)
          · intro f a' w' ha hf hJ Q1 hQ
            simp only [Act.put, List.setIfInBounds_toArray, List.set_cons_zero, List.set_cons_succ] at hQ
            go_wp2
            exact hQ _ _ rfl (hJ.put rfl rfl rfl rfl (slot_put_ne (a := a') (by decide) _) (slot_put_ne (a := a') (by decide) _) (slot_put_ne (a := a') (by decide) _))
          simp only [Act.put, List.setIfInBounds_toArray, List.set_cons_zero, List.set_cons_succ]
          apply wpE_op (v := undef) (by rfl) (by rfl) (by rfl)
          · intro f a' w' ha hf hJ Q1 hQ
            have hbw := hJ.bel hf.1.1
            have on3 : f 16 = true := hf.1.2 ⟨16, .data⟩ (by simp) rfl
            have e3 : slot a' 98 = .slice va vl vc := by
              have := ha.2 98 (by decide)
              simp only [slot, Array.getD_eq_getD_getElem?, this]; rfl
            have c5 : w'.cell? ⟨g, j * 3 + 2, none⟩ = some (.slice aF lF cF) := (Blk.below hbw HB.out.2.1 HB.out.2.1.lt).rd _ |>.trans HB.out.2.2
            have f5 := (Blk.below hbw HB.out.2.1 HB.out.2.1.lt).nf
            simp only [Act.put, List.setIfInBounds_toArray, List.set_cons_zero, List.set_cons_succ] at hQ
            go_wp2
            exact hQ _ _ rfl (hJ.store hf.1.1 on3 rfl e3)
          simp only [Act.put, List.setIfInBounds_toArray, List.set_cons_zero, List.set_cons_succ]
          refine wpE_nil ?_
          intro w4 hJ
          obtain ⟨w3, hb3, hq3, rfl⟩ := hJ.fin rfl (v := .slice va vl vc) rfl
          obtain ⟨B3, hI3, hB3⟩ := hq3
          have HFin := Lib.hid (And.intro hb3 (And.intro hI3 hB3))
          clear hb3 hI3 hB3
          go_wp2
          go_roundw
          case rel =>
            refine ⟨k + 1, by omega, by go_num, Lib.hid ?_⟩
            obtain ⟨hnl, hF, hC, hBr, hU, hbi, hF2, hu2, hcur⟩ := HR.out
            have hI3 := HFin.out.2.1
            rw [← hcur] at hI3
            exact rw_step HX.out.2.2.2.2.2.2.2.2.2.2.1 HX.out.2.2.2.2.2.2.1 hnl hF hC hBr hU hbi hF2 hu2 HW.out.1 HFin.out.1 hI3 HFin.out.2.2
          case measure => simp [intOf]; omega

      · have hke : k = K := by omega
        subst hke
        have d6 : decide ((k : Int) < (k : Int)) = false := by simp
        obtain ⟨hfl, hk, hb, hB, hcap, hcm, hxv, hfi0, hog, hL, hj, hb1, ho1, hb2, ho2, hvB, hvF⟩ := HX.out
        have hF0 := hfl.frm
        have hgs : sb ≠ g := hb.neT hB (by decide)
        have qb := Blk.upd hU hb (fun e => e.elim (hF0.off hb (by decide) (by decide) (by decide)) hgs)
        have hnr : NoRow w (fun q => FF fb tb bb q ∨ q = g) := fun q e => by
          rcases e with e | e
          · exact hF0.noRow q e
          · exact ⟨_, _, e ▸ hB, by decide, by decide⟩
        have qR := hb1.upd hU (fun q hq e => by
          obtain ⟨cs, T, p1, p2, _⟩ := hnr q e
          exact hb1.neT p1 p2 q hq rfl)
        rw [hvB] at qR
        have hx' : (vals.set j (x.1, x.2.1, vF))[j]? = some (x.1, x.2.1, vF) := List.getElem?_set_self (List.getElem?_eq_some_iff.1 hxv).1
        have c1 := qb.rd
        have c2 : wr.cell? ⟨g, j * 3 + 1, none⟩ = some (.slice aB LB cB) := by rw [(Three.blk_row hBr j _ hx').2.1, hvB]
        obtain ⟨s0, hs0⟩ : ∃ s0, wr.heap.size = s0 := ⟨_, rfl⟩
        obtain ⟨Z0, hZ0⟩ : ∃ Z0, ucells (List.replicate S 0) = Z0 := ⟨_, rfl⟩
        obtain ⟨Z1, hZ1⟩ : ∃ Z1, ucells f.bs = Z1 := ⟨_, rfl⟩
        obtain ⟨Z2, hZ2⟩ : ∃ Z2, ucells b = Z2 := ⟨_, rfl⟩
        have m1 : ∀ w', (Instr.makeSlice 23 (.int .i64 (S : Nat)) (.int .i64 (S : Nat))).run Tryz.prog w' = .ok (.slice (some ⟨w'.heap.size, 0, none⟩) S S) (w'.alloc (.cells Z0.toArray 5)) := by
          intro w'
          rw [← hZ0, ← made_row8 S]
          exact make_of' 23 5 (.int .u8 0) 1 1 S Tryz.underlying23 (by kernel_rfl) (by omega) (by omega) w'
        have hbA := (Below.refl wr.heap.size wr).alloc (Nat.le_refl _) (.cells Z0.toArray 5)
        have hA : (wr.alloc (.cells Z0.toArray 5)).heap[s0]? = some (.cells Z0.toArray 5 (0, 0)) := by rw [← hs0]; exact Blk.new wr _ _
        have hr1 : ∀ w', Below wr.heap.size wr w' → 0 < LB → ∃ A, aB = some A ∧ ∀ (q : Nat) (u : Value), Z1[q]? = some u → w'.cell? (A.add q) = some u := fun w' hB' hp => by
          have hr := (qR.below hB').rd
          rw [hZ1] at hr
          obtain ⟨A, hA, _⟩ := hr 0 _ (List.getElem?_eq_getElem (by rw [← hZ1]; simp [HE.out.1]; exact hp))
          exact ⟨A, hA, fun q u hq => by obtain ⟨A', e, h⟩ := hr q u hq; rw [hA] at e; cases e; exact h⟩
        have hr2 : ∀ w', Below wr.heap.size wr w' → ∃ A, a = some A ∧ ∀ (q : Nat) (u : Value), Z2[q]? = some u → w'.cell? (A.add q) = some u := fun w' hB' => by
          obtain ⟨a', c', e, hc', h3⟩ := HS.out.2.2.1
          cases e
          obtain ⟨q0, o0, rfl, h4, h5, h6⟩ := h3 (by rw [HE.out.2.2.1]; have := HS.out.2.2.2.2; omega)
          refine ⟨_, rfl, fun q u hq => ?_⟩
          rw [← hZ2] at hq
          obtain ⟨A', e, h⟩ := h4 q u hq
          cases e
          rw [← h]
          have h7 : ¬ (FF fb tb bb q0 ∨ q0 = g) := fun e => h5 (e.elim (hF0.ff q0) (fun e => e ▸ hog))
          have h8 := hU.block q0 h6 h7
          have h9 : q0 < wr.heap.size := by have := hU.size; omega
          have h10 := hB'.block q0 h9
          unfold World.cell?
          simp only [Addr.add_mid]
          rw [h10, h8]
        have HT := Lib.hid (And.intro hs0 (And.intro hZ0 (And.intro hZ1 (And.intro hZ2 (And.intro hbA (And.intro hA (And.intro hr1 (And.intro hr2 (And.intro qb (And.intro hBr (And.intro hF (And.intro hC (And.intro hRF (And.intro hoF (And.intro hU (And.intro hnl (And.intro hx' hnr)))))))))))))))))
        have oS : o ≤ S := by have := HE.out; omega
        have oS1 : (o : Int) ≤ S := by omega
        have oS2 : ¬ S = o := by have := HE.out; have := HS.out.2.2.2.2; omega
        have oS0 : (0 : Int) ≤ o := by omega
        have c1a := (qb.alloc (.cells Z0.toArray 5)).rd
        have c2a : (wr.alloc (.cells Z0.toArray 5)).cell? ⟨g, j * 3 + 1, none⟩ = some (.slice aB LB cB) := by rw [(hBr.alloc _).rd, ← hBr.rd]; exact c2
        have HC2 := Lib.hid c2
        have lz0 : Z0.length = S := by rw [← hZ0]; simp
        have lz1 : Z1.length = LB := by rw [← hZ1, List.length_map]; exact HE.out.1
        have lz2 : Z2.length = bl := by rw [← hZ2, List.length_map]; exact HE.out.2.2.1
        have lS : LB ≤ S ∧ o + bl ≤ S := by have := HE.out.2.2.2.1; have := HE.out.2.2.2.2.1; omega
        have HZ := Lib.hid (And.intro lz0 (And.intro lz1 (And.intro lz2 lS)))
        clear lz0 lz1 lz2 lS
        clear hfl hk hb hB hcap hcm hxv hfi0 hog hL hj hb1 ho1 hb2 ho2 hvB hvF hF0 hgs qb hnr qR hx' hZ0 hZ1 hZ2 hbA hA hr1 hr2 hBr hF hC hRF hoF hU hnl
        go_wp2_with (first
          | (refine wpList_copy_splice rfl (.tmp 103) (.tmp 111) 23 23 rfl 5 under8 (by kernel_rfl) (some ⟨s0, 0, none⟩) aB S S LB cB rfl rfl s0 0 Z0 5 HT.out.2.2.2.2.2.1 Z1 (by have := HZ.out; rw [this.2.1]; exact (Nat.min_eq_left this.2.2.2.1).symm) (fun hp => ⟨rfl, HT.out.2.2.2.2.2.2.1 _ HT.out.2.2.2.2.1 (by rw [HZ.out.2.1] at hp; exact hp)⟩) (by have := HZ.out; omega) (by rw [← HT.out.2.2.1]; exact ucells_one _) wr.heap.size wr HT.out.2.2.2.2.1 (by rw [HT.out.1]; exact Nat.le_refl _) ?_; intro w3 HG3 hB3; have c5 := (Blk.below hB3 HT.out.2.2.2.2.2.2.2.2.1 HT.out.2.2.2.2.2.2.2.2.1.lt).rd; have H3 := Lib.hid hB3; clear hB3 c1 c2 c1a c2a)
          | (refine wpList_copy_splice rfl (.tmp 115) (.tmp 116) 23 23 rfl 5 under8 (by kernel_rfl) (some ⟨s0, o, none⟩) a (S - o) (S - o) bl c rfl rfl s0 o (splice Z0 0 Z1) 5 HG3.out Z2 (by have := HZ.out; rw [this.2.2.1]; exact (Nat.min_eq_left (by omega)).symm) (fun hp => ⟨rfl, HT.out.2.2.2.2.2.2.2.1 _ H3.out⟩) (by have := HZ.out; rw [length_splice _ _ _ (by omega)]; omega) (by rw [← HT.out.2.2.2.1]; exact ucells_one _) wr.heap.size wr H3.out (by rw [HT.out.1]; exact Nat.le_refl _) ?_; intro w5 HG5 hB5; have c7 := (Blk.below hB5 HT.out.2.2.2.2.2.2.2.2.1 HT.out.2.2.2.2.2.2.2.2.1.lt).rd; have qG := Blk.below hB5 HT.out.2.2.2.2.2.2.2.2.2.1 HT.out.2.2.2.2.2.2.2.2.2.1.lt; have c8 : w5.cell? ⟨g, j * 3 + 1, none⟩ = some (.slice aB LB cB) := (by rw [qG.rd, ← HT.out.2.2.2.2.2.2.2.2.2.1.rd]; exact HC2.out); have f8 := qG.nf; have H5 := Lib.hid hB5; clear hB5 c5 qG))
        go_ret
        obtain ⟨hfl, hk, hb, hB, hcap, hcm, hxv, hfi0, hog, hL, hj, hb1, ho1, hb2, ho2, hvB, hvF⟩ := HX.out
        obtain ⟨hs0, hZ0, hZ1, hZ2, hbA, hA, hr1, hr2, qb, hBr, hF, hC, hRF, hoF, hU, hnl, hx', hnr⟩ := HT.out
        obtain ⟨h0, hr, hsrc, hn, hb0⟩ := HS.out
        obtain ⟨e01, e02, e03, e04, e05, e06, e07, e08, e09, e10, e11, e12, e13, e14⟩ := HE.out
        have hr' : r = 0 ∧ fs' = fsPut fs f.id.toNat (some (writeB f.bs o b)) := by
          unfold writeR at hr
          rw [hn] at hr
          simp only at hr
          rw [if_neg (by omega), if_neg (by rw [e03]; exact hb0), if_neg (by rw [e03]; omega), if_neg (fun h => HG.out (e10.1 h))] at hr
          cases hr
          exact ⟨rfl, by rw [Int.toNat_natCast]⟩
        obtain ⟨rfl, rfl⟩ := hr'
        have hG5 := HG5.out
        rw [← hZ0, ← hZ1, ← hZ2] at hG5
        have hSmax : S = max f.bs.length (o + b.length) := by rw [e01, e03, e04, e05]
        rw [hSmax, splice_writeB] at hG5
        rw [← e13] at hb
        exact write_fin hfl hk hb hB hcap hcm hL hj hxv hog hF hC hBr hRF hoF hU H5.out (by omega) (by rw [← hs0] at hG5 ⊢; exact hG5) (by rw [List.length_append, e02, hnl, writeB_len, ← hSmax]; omega) (by rw [writeB_len, ← hSmax]) hS5
/-- Write, of whatever it is called with -/
theorem qwrite_is (h : SS w O sb n N fs) (hN : N ≤ 1000) (id off : Int) (b : List Int) (hb6 : b.length ≤ 1000000) (v : Value) (hsrc : SrcD w O v b) (r : Int) (fs' : Sfs) (hr : writeR fs n id off b = (r, fs')) : Calls Tryz.prog 62 #[.pointer (some ⟨sb, 0, none⟩), .int .i64 id, .int .i64 off, v] w (SQ w O sb n N fs' (.int .i64 r)) := by
  have hr0 := hr
  unfold writeR at hr
  cases hn : fsAt fs id with
  | none =>
    rw [hn] at hr; cases hr
    exact qwrite_no h hN id off v hn
  | some bs =>
    rw [hn] at hr
    simp only at hr
    by_cases h1 : off < 0
    · rw [if_pos h1] at hr; cases hr
      exact qwrite_neg h hN id off v bs hn h1
    · rw [if_neg h1] at hr
      have hs0 := hsrc
      obtain ⟨a, c, rfl, hc, h3⟩ := hsrc
      by_cases h2 : b.length = 0
      · rw [if_pos h2] at hr; cases hr
        rw [h2]
        exact qwrite_nil h hN id off a c bs hn h1
      · rw [if_neg h2] at hr
        by_cases h4 : 512 < b.length ∨ 512 - (b.length : Int) < off
        · rw [if_pos h4] at hr; cases hr
          exact qwrite_far h hN id off a b.length c bs hn h1 h2 hb6 h4
        · obtain ⟨o, rfl⟩ : ∃ o : Nat, off = o := ⟨off.toNat, by omega⟩
          exact qwrite_main h hN id o a b c bs hn h2 (by omega) hs0 r fs' hr0
end
end Go.Proofs.YtchnjfmimpikcaaGreatDoor
