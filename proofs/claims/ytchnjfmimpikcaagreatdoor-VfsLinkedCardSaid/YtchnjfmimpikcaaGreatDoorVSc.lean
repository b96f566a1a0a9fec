/-
  Plain: the root stays a directory; a refused call leaves the nodes as they were.
-/
import Derived.Test.YtchnjfmimpikcaaGreatDoorVSta
import Derived.Test.YtchnjfmimpikcaaGreatDoorVOpD
import Derived.Test.YtchnjfmimpikcaaGreatDoorVRen
import Derived.Test.YtchnjfmimpikcaaGreatDoorQVj
import Derived.Test.YtchnjfmimpikcaaGreatDoorJone
import Derived.BigQuiet
import Derived.Test.YtchnjfmimpikcaaGreatDoorVLst
namespace Go.Proofs.YtchnjfmimpikcaaGreatDoor
set_option linter.unusedSimpArgs false
set_option linter.unusedVariables false
open Go.RowKit Own RegJ Two
open Go.Lib hiding intOf

/-- the root is a directory -/
def Rd (ns : NSt) : Prop := ∃ nd, ns 0 = some nd ∧ nd.dir = true
theorem rd0 : Rd ns0 := ⟨_, rfl, rfl⟩
theorem rd_put {ns : NSt} (h : Rd ns) (i : Nat) (x : Option Nd) (hx : i = 0 → ∃ nd, x = some nd ∧ nd.dir = true) : Rd (nsPut ns i x) := by
  by_cases e : i = 0
  · obtain ⟨nd, rfl, hd⟩ := hx e
    subst e
    exact ⟨nd, put_eq _ _ _, hd⟩
  · obtain ⟨nd, h1, h2⟩ := h
    exact ⟨nd, by rw [put_ne _ _ _ (fun h => e h.symm)]; exact h1, h2⟩
theorem rd_same {ns : NSt} (h : Rd ns) {i : Nat} {nd nd' : Nd} (hi : ns i = some nd) (hd : nd'.dir = nd.dir) : Rd (nsPut ns i (some nd')) :=
  rd_put h i _ (fun e => by
    subst e
    obtain ⟨nd0, h1, h2⟩ := h
    rw [hi] at h1; cases h1
    exact ⟨_, rfl, hd.trans h2⟩)
theorem rd_dec {ns : NSt} (h : Rd ns) (m : Nat) : Rd (decL ns m) := by
  unfold decL
  cases hm : ns m with
  | none => exact h
  | some k => exact rd_same h hm rfl
theorem goneL_rd {f : Nat} (ih : ∀ ns i, Rd ns → Rd (gone f ns i)) : ∀ (es : List En) (s : NSt), Rd s → Rd (goneL f es s)
  | [], s, h => h
  | e :: es, s, h => by
    rw [goneL_cons]
    split
    · exact goneL_rd ih es _ (ih _ _ (rd_dec h _))
    · exact goneL_rd ih es s h
theorem gone_rd : ∀ (f : Nat) (ns : NSt) (i : Nat), Rd ns → Rd (gone f ns i)
  | 0, ns, _, h => h
  | f + 1, ns, i, h => by
    cases hn : ns i with
    | none => rw [gone_none hn]; exact h
    | some nd =>
      by_cases hs : i = 0 ∨ 0 < nd.links ∨ 0 < nd.opens
      · rw [gone_stay hn hs]; exact h
      · rw [gone_go hn hs]
        exact goneL_rd (gone_rd f) nd.es _ (rd_put h _ _ (fun e => absurd (Or.inl e) hs))
section
variable {ns : NSt}
theorem nsEnt_rd (h : Rd ns) {i : Nat} {nd : Nd} (hi : ns i = some nd) (es : List En) (id : Int) : Rd (nsEnt ns i nd es id) := by
  unfold nsEnt
  have h1 : Rd (nsPut ns i (some (setEs nd es))) := rd_same h hi rfl
  cases hm : nsPut ns i (some (setEs nd es)) id.toNat with
  | none => exact h1
  | some m => exact rd_same h1 hm rfl
theorem entF_rd (h : Rd ns) {i : Nat} {nd : Nd} (hi : ns i = some nd) (nm : Txt) (id : Int) : Rd (entF ns i nd nm id).2 := by
  unfold entF
  split
  · exact nsEnt_rd h hi _ _
  · exact h
theorem atPar_rd (h : Rd ns) (l : Txt) (k : Int → Txt → Int × NSt) (hk : ∀ d nm, Rd (k d nm).2) : Rd (atPar ns l k).2 := by
  unfold atPar
  split
  · exact hk _ _
  · exact h
theorem linkF_rd (h : Rd ns) (s t : Txt) : Rd (linkF ns s t).2 := by
  unfold linkF
  split
  · exact h
  · split
    · exact h
    · refine atPar_rd h t _ fun d nm => ?_
      unfold linkE
      cases hd : dirAt ns d with
      | none => exact h
      | some nd =>
        obtain ⟨i, rfl, hi, -⟩ := dirAt_some hd
        exact entF_rd h hi _ _
theorem closeF_rd (h : Rd ns) (id : Int) : Rd (closeF ns id).2 := by
  unfold closeF
  cases hn : ndAt ns id with
  | none => exact h
  | some nd =>
    simp only
    split
    · obtain ⟨i, rfl, hi⟩ := ndAt_some hn
      exact gone_rd _ _ _ (rd_same h hi rfl)
    · exact h
theorem madeF_rd (h : Rd ns) (d : Int) (nm : Txt) (isD : Bool) : Rd (madeF ns d nm isD).2.2 := by
  unfold madeF
  cases hd : dirAt ns d with
  | none => exact h
  | some nd =>
    simp only
    cases hf : freeF ns with
    | none => exact h
    | some i =>
      obtain ⟨h16, hn⟩ := freeF_some hf
      obtain ⟨k, rfl, hk, -⟩ := dirAt_some hd
      have h0 : i ≠ 0 := fun e => by obtain ⟨n0, h1, -⟩ := h; rw [e, h1] at hn; cases hn
      have h1 : Rd (nsPut ns i (some ⟨isD, 0, 1, [], []⟩)) := rd_put h i _ (fun e => absurd e h0)
      have hki : k ≠ i := fun e => by rw [e, hn] at hk; cases hk
      have h2 := entF_rd h1 (show nsPut ns i (some ⟨isD, 0, 1, [], []⟩) k = some nd by rw [put_ne _ _ _ hki]; exact hk) nm i
      simp only
      split
      · exact h2
      · exact closeF_rd h2 _
theorem mkdirF_rd (h : Rd ns) (d : Int) (nm : Txt) : Rd (mkdirF ns d nm).2 := by
  unfold mkdirF
  split
  · exact h
  · split
    · exact h
    · split
      · exact closeF_rd (madeF_rd h _ _ _) _
      · exact madeF_rd h _ _ _
theorem rmvF_rd (h : Rd ns) (d : Int) (nm : Txt) : Rd (rmvF ns d nm).2 := by
  unfold rmvF
  cases hd : dirAt ns d with
  | none => exact h
  | some nd =>
    simp only
    obtain ⟨k, rfl, hk, -⟩ := dirAt_some hd
    split
    · exact h
    · split
      · split
        · split
          · exact h
          · exact gone_rd _ _ _ (rd_dec (rd_same (nd' := setEs nd (delE nd.es (plc nd.es nm))) h hk rfl) _)
        · exact h
      · exact h
theorem remF_rd (h : Rd ns) (d : Int) (nm : Txt) (isD : Bool) (o : Int) : Rd (remF ns d nm isD o).2 := by
  unfold remF
  split
  · exact h
  · split
    · exact h
    · exact rmvF_rd h _ _
theorem openF_rd (h : Rd ns) (l : Txt) (n : Int) : Rd (openF ns l n).2.2 := by
  unfold openF
  split
  · exact h
  · split
    · unfold newF
      split
      · exact madeF_rd h _ _ _
      · exact h
    · split
      · exact h
      · cases hn : ndAt ns (walkR ns l).1 with
        | none => exact h
        | some nd =>
          simp only
          split
          · exact h
          · obtain ⟨i, e, hi⟩ := ndAt_some hn
            rw [e]
            refine rd_same h hi ?_
            split <;> rfl
theorem wrF_rd (h : Rd ns) (F : Nat) (id off : Int) (b : List Int) : Rd (wrF ns F id off b).2 := by
  rcases (wrF_is ns F id off b).2 with e | ⟨i, nd, bs, hi, -, e⟩
  · rw [e]; exact h
  · rw [e]; exact rd_same h hi rfl
/-! ### refused -/
theorem entF_ref {i : Nat} {nd : Nd} {nm : Txt} {id : Int} (h : (entF ns i nd nm id).1 ≠ 0) : (entF ns i nd nm id).2 = ns := by
  unfold entF at *
  split at h
  · exact absurd rfl h
  · rename_i h1; rw [if_neg h1]
theorem close_new {i : Nat} (hn : ns i = none) (h0 : i ≠ 0) (isD : Bool) : (closeF (nsPut ns i (some ⟨isD, 0, 1, [], []⟩)) i).2 = ns := by
  have h1 : ndAt (nsPut ns i (some ⟨isD, 0, 1, [], []⟩)) i = some ⟨isD, 0, 1, [], []⟩ := by
    unfold ndAt; rw [if_pos (by omega)]; exact put_eq _ _ _
  unfold closeF
  rw [h1]
  simp only
  rw [if_pos (by decide)]
  simp only [Int.toNat_natCast]
  rw [gone_go (put_eq _ _ _) (by simp [addO]; exact h0)]
  funext j
  show nsPut (nsPut (nsPut ns i _) i _) i none j = ns j
  by_cases e : j = i
  · subst e; rw [put_eq]; exact hn.symm
  · rw [put_ne _ _ _ e, put_ne _ _ _ e, put_ne _ _ _ e]
theorem madeF_ref (hr : Rd ns) {d : Int} {nm : Txt} {isD : Bool} (h : (madeF ns d nm isD).2.1 ≠ 0) : (madeF ns d nm isD).2.2 = ns := by
  unfold madeF at *
  cases hd : dirAt ns d with
  | none => rfl
  | some nd =>
    rw [hd] at h
    simp only at h ⊢
    cases hf : freeF ns with
    | none => rfl
    | some i =>
      rw [hf] at h
      simp only at h ⊢
      obtain ⟨h16, hn⟩ := freeF_some hf
      have h0 : i ≠ 0 := fun e => by obtain ⟨n0, h1, -⟩ := hr; rw [e, h1] at hn; cases hn
      split at h
      · exact absurd rfl h
      · rename_i h1
        rw [if_neg h1, entF_ref h1]
        exact close_new hn h0 isD
theorem mkdirF_ref (hr : Rd ns) {d : Int} {nm : Txt} (h : (mkdirF ns d nm).1 ≠ 0) : (mkdirF ns d nm).2 = ns := by
  unfold mkdirF at *
  split at h
  · rename_i h1; rw [if_pos h1]
  · rename_i h1
    rw [if_neg h1]
    split at h
    · rename_i h2; rw [if_pos h2]
    · rename_i h2
      rw [if_neg h2]
      split at h
      · exact absurd rfl h
      · rename_i h3
        rw [if_neg h3]
        exact madeF_ref hr h3
theorem rmvF_ref {d : Int} {nm : Txt} (h : (rmvF ns d nm).1 ≠ 0) : (rmvF ns d nm).2 = ns := by
  unfold rmvF at *
  cases hd : dirAt ns d with
  | none => rfl
  | some nd =>
    rw [hd] at h
    simp only at h ⊢
    cases hx : nd.es[plc nd.es nm]? with
    | none => rfl
    | some x =>
      rw [hx] at h
      simp only at h ⊢
      by_cases hn : x.1 = nm
      · rw [if_pos hn] at h ⊢
        cases hm : ns x.2.toNat with
        | none => rfl
        | some ndm =>
          rw [hm] at h
          simp only at h ⊢
          split at h
          · rename_i h1; rw [if_pos h1]
          · exact absurd rfl h
      · rw [if_neg hn]
theorem remF_ref {d : Int} {nm : Txt} {isD : Bool} {o : Int} (h : (remF ns d nm isD o).1 ≠ 0) : (remF ns d nm isD o).2 = ns := by
  unfold remF at *
  split at h
  · rename_i h1; rw [if_pos h1]
  · rename_i h1
    rw [if_neg h1]
    split at h
    · rename_i h2; rw [if_pos h2]
    · rename_i h2; rw [if_neg h2]; exact rmvF_ref h
theorem atPar_ref {l : Txt} {k : Int → Txt → Int × NSt} (hk : ∀ d nm, (k d nm).1 ≠ 0 → (k d nm).2 = ns) (h : (atPar ns l k).1 ≠ 0) : (atPar ns l k).2 = ns := by
  unfold atPar at *
  split at h
  · rename_i h1; rw [if_pos h1]; exact hk _ _ h
  · rename_i h1; rw [if_neg h1]
theorem linkF_ref {s t : Txt} (h : (linkF ns s t).1 ≠ 0) : (linkF ns s t).2 = ns := by
  unfold linkF at *
  split at h
  · rename_i h1; rw [if_pos h1]
  · rename_i h1
    rw [if_neg h1]
    split at h
    · rename_i h2; rw [if_pos h2]
    · rename_i h2
      rw [if_neg h2]
      refine atPar_ref (fun d nm hk => ?_) h
      unfold linkE at *
      cases hd : dirAt ns d with
      | none => rfl
      | some nd => rw [hd] at hk; exact entF_ref hk
theorem openF_ref (hr : Rd ns) {l : Txt} {n : Int} (h : (openF ns l n).2.1 ≠ 0) : (openF ns l n).2.2 = ns := by
  unfold openF at *
  split at h
  · rename_i h1; rw [if_pos h1]
  · rename_i h1
    rw [if_neg h1]
    split at h
    · rename_i h2
      rw [if_pos h2]
      unfold newF at *
      split at h
      · rename_i h3; rw [if_pos h3]; exact madeF_ref hr h
      · rename_i h3; rw [if_neg h3]
    · rename_i h2
      rw [if_neg h2]
      split at h
      · rename_i h3; rw [if_pos h3]
      · rename_i h3
        rw [if_neg h3]
        cases hn : ndAt ns (walkR ns l).1 with
        | none => rfl
        | some nd =>
          rw [hn] at h
          simp only at h ⊢
          split at h
          · rename_i h4; rw [if_pos h4]
          · exact absurd rfl h
/-- the root's list -/
theorem root_at (h : Rd ns) : ∃ nd, dirAt ns 0 = some nd ∧ walkR ns [47] = (0, 0) := by
  obtain ⟨nd, h1, h2⟩ := h
  refine ⟨nd, ?_, walkR_root ns⟩
  unfold dirAt ndAt
  simp [h1, h2]
end
end Go.Proofs.YtchnjfmimpikcaaGreatDoor
/-
  Both vfs beside one another: what each owns, what is kept besides; both at the start.
-/
namespace Go.Proofs.YtchnjfmimpikcaaGreatDoor
set_option linter.unusedSimpArgs false
set_option linter.unusedVariables false
open Go.RowKit Own RegC Three Two
open RegJ hiding Up
open RegF hiding put_size
open Go.Lib hiding intOf

/-- the program's vfs and the document's, and blocks that are kept -/
structure PV [Inhabited CapT] (W : World) (E : Nat → Prop) (vb tb fb sb rv rt rs : Nat) (ns1 ns2 : NSt) (c1 c2 : Nat) (w : World) : Prop where
  ex : ∃ lo O, VV w vb tb ns1 lo c1 ∧ lo (.st .frm) = some fb ∧ lo (.st .sto) = some sb ∧ RV w O rv rt rs 8 c2 ns2 ∧ (∀ r k, lo r = some k → W.heap.size ≤ k ∧ ¬ O k ∧ ¬ E k) ∧ (W.heap.size ≤ vb ∧ ¬ O vb ∧ ¬ E vb) ∧ ∀ k, O k → k < w.heap.size ∧ W.heap.size ≤ k ∧ ¬ E k
  e : ∀ k, E k → W.heap.size ≤ k ∧ k < w.heap.size
  bel : Below W.heap.size W w
  ml : 0 < W.heap.size
section
variable [Inhabited CapT] {W w w' : World} {E E' F : Nat → Prop} {vb tb fb sb rv rt rs c1 c2 c1' c2' : Nat} {ns1 ns2 ns1' ns2' : NSt} {f : FuncId} {args : Array Value} {v : Value}
theorem PV.turnl (h : PV W E vb tb fb sb rv rt rs ns1 ns2 c1 c2 w) (hc : ∀ lo, VV w vb tb ns1 lo c1 → lo (.st .frm) = some fb → lo (.st .sto) = some sb → (∀ r k, lo r = some k → W.heap.size ≤ k) → ∃ lo', VV w' vb tb ns1' lo' c1' ∧ TFr lo lo' w w') :
    PV W E vb tb fb sb rv rt rs ns1' ns2 c1' c2 w' ∧ Upd (fun k => ¬ E k) w w' := by
  obtain ⟨lo, O, h1, h2, h2s, h3, h4, h5, h6⟩ := h.ex
  obtain ⟨lo', g1, g2⟩ := hc lo h1 h2 h2s (fun r k hk => (h4 r k hk).1)
  have hz := g2.1.size
  have hb := h.bel.size
  refine ⟨⟨⟨lo', O, g1, g2.2.2.2.trans h2, g2.2.2.1.trans h2s, h3.upd g2.1 (fun k hO ⟨r, hr⟩ => (h4 r k hr).2.1 hO), fun r k hk => ?_, h5, fun k hk => ⟨Nat.lt_of_lt_of_le (h6 k hk).1 hz, (h6 k hk).2⟩⟩, fun k hk => ⟨(h.e k hk).1, Nat.lt_of_lt_of_le (h.e k hk).2 hz⟩, h.bel.trans (g2.1.below hb (fun k ⟨r, hr⟩ => (h4 r k hr).1)), h.ml⟩, g2.1.mono (fun k _ ⟨r, hr⟩ => (h4 r k hr).2.2)⟩
  rcases g2.2.1 r k hk with ⟨r', hr⟩ | hr
  · exact h4 r' k hr
  · exact ⟨by omega, fun hO => by have := (h6 k hO).1; omega, fun he => by have := (h.e k he).2; omega⟩
theorem PV.turnr (h : PV W E vb tb fb sb rv rt rs ns1 ns2 c1 c2 w) (hc : ∀ O, RV w O rv rt rs 8 c2 ns2 → (∀ k, O k → W.heap.size ≤ k) → RV w' (nx w w' O) rv rt rs 8 c2' ns2' ∧ Upd O w w') :
    PV W E vb tb fb sb rv rt rs ns1 ns2' c1 c2' w' ∧ Upd (fun k => ¬ E k) w w' := by
  obtain ⟨lo, O, h1, h2, h2s, h3, h4, h5, h6⟩ := h.ex
  obtain ⟨g1, g2⟩ := hc O h3 (fun k hk => (h6 k hk).2.1)
  have hz := g2.size
  have hb := h.bel.size
  have hl := h1.lts
  refine ⟨⟨⟨lo, nx w w' O, h1.upd g2 h5.2.1 (fun r k hk => (h4 r k hk).2.1) (fun hO => by have := (h6 _ hO).2.1; have := h.ml; omega), h2, h2s, g1, fun r k hk => ⟨(h4 r k hk).1, fun hO => ?_, (h4 r k hk).2.2⟩, ⟨h5.1, fun hO => ?_, h5.2.2⟩, fun k hk => ⟨hk.2, ?_⟩⟩, fun k hk => ⟨(h.e k hk).1, Nat.lt_of_lt_of_le (h.e k hk).2 hz⟩, h.bel.trans (g2.below hb (fun k hk => (h6 k hk).2.1)), h.ml⟩, g2.mono (fun k _ hk => (h6 k hk).2.2)⟩
  · rcases hO.1 with e | e
    · exact (h4 r k hk).2.1 e
    · have := hl.2.1 r k hk; omega
  · rcases hO.1 with e | e
    · exact h5.2.1 e
    · have := hl.1; omega
  · rcases hk.1 with e | e
    · exact (h6 k e).2
    · exact ⟨by omega, fun he => by have := (h.e k he).2; omega⟩
theorem PV.left (h : PV W E vb tb fb sb rv rt rs ns1 ns2 c1 c2 w) (hc : ∀ lo, VV w vb tb ns1 lo c1 → lo (.st .frm) = some fb → lo (.st .sto) = some sb → (∀ r k, lo r = some k → W.heap.size ≤ k) → Calls Tryz.prog f args w (MadP w vb tb ns1' lo c1' v)) :
    Calls Tryz.prog f args w fun e w' => e = .returned v ∧ PV W E vb tb fb sb rv rt rs ns1' ns2 c1' c2 w' ∧ Upd (fun k => ¬ E k) w w' := by
  obtain ⟨lo, O, h1, h2, h2s, h3, h4, h5, h6⟩ := h.ex
  refine (hc lo h1 h2 h2s (fun r k hk => (h4 r k hk).1)).mono ?_
  rintro e w' ⟨he, lo', g1, g2⟩
  refine ⟨he, ?_⟩
  have hz := g2.1.size
  have hb := h.bel.size
  refine ⟨⟨⟨lo', O, g1, g2.2.2.2.trans h2, g2.2.2.1.trans h2s, h3.upd g2.1 (fun k hO ⟨r, hr⟩ => (h4 r k hr).2.1 hO), fun r k hk => ?_, h5, fun k hk => ⟨Nat.lt_of_lt_of_le (h6 k hk).1 hz, (h6 k hk).2⟩⟩, fun k hk => ⟨(h.e k hk).1, Nat.lt_of_lt_of_le (h.e k hk).2 hz⟩, h.bel.trans (g2.1.below hb (fun k ⟨r, hr⟩ => (h4 r k hr).1)), h.ml⟩, g2.1.mono (fun k _ ⟨r, hr⟩ => (h4 r k hr).2.2)⟩
  rcases g2.2.1 r k hk with ⟨r', hr⟩ | hr
  · exact h4 r' k hr
  · exact ⟨by omega, fun hO => by have := (h6 k hO).1; omega, fun he => by have := (h.e k he).2; omega⟩
theorem PV.right (h : PV W E vb tb fb sb rv rt rs ns1 ns2 c1 c2 w) (hc : ∀ O, RV w O rv rt rs 8 c2 ns2 → (∀ k, O k → W.heap.size ≤ k) → Calls Tryz.prog f args w (VP w O rv rt rs 8 c2' ns2' v)) :
    Calls Tryz.prog f args w fun e w' => e = .returned v ∧ PV W E vb tb fb sb rv rt rs ns1 ns2' c1 c2' w' ∧ Upd (fun k => ¬ E k) w w' := by
  obtain ⟨lo, O, h1, h2, h2s, h3, h4, h5, h6⟩ := h.ex
  refine (hc O h3 (fun k hk => (h6 k hk).2.1)).mono ?_
  rintro e w' ⟨he, g1, g2⟩
  refine ⟨he, ?_⟩
  have hz := g2.size
  have hb := h.bel.size
  have hl := h1.lts
  refine ⟨⟨⟨lo, nx w w' O, h1.upd g2 h5.2.1 (fun r k hk => (h4 r k hk).2.1) (fun hO => by have := (h6 _ hO).2.1; have := h.ml; omega), h2, h2s, g1, fun r k hk => ⟨(h4 r k hk).1, fun hO => ?_, (h4 r k hk).2.2⟩, ⟨h5.1, fun hO => ?_, h5.2.2⟩, fun k hk => ⟨hk.2, ?_⟩⟩, fun k hk => ⟨(h.e k hk).1, Nat.lt_of_lt_of_le (h.e k hk).2 hz⟩, h.bel.trans (g2.below hb (fun k hk => (h6 k hk).2.1)), h.ml⟩, g2.mono (fun k _ hk => (h6 k hk).2.2)⟩
  · rcases hO.1 with e | e
    · exact (h4 r k hk).2.1 e
    · have := hl.2.1 r k hk; omega
  · rcases hO.1 with e | e
    · exact h5.2.1 e
    · have := hl.1; omega
  · rcases hk.1 with e | e
    · exact (h6 k e).2
    · exact ⟨by omega, fun he => by have := (h.e k he).2; omega⟩
theorem PV.below (h : PV W E vb tb fb sb rv rt rs ns1 ns2 c1 c2 w) (hB : Below w.heap.size w w') : PV W E vb tb fb sb rv rt rs ns1 ns2 c1 c2 w' := by
  obtain ⟨lo, O, h1, h2, h2s, h3, h4, h5, h6⟩ := h.ex
  have hz := hB.size
  exact ⟨⟨lo, O, h1.below hB, h2, h2s, h3.below hB, h4, h5, fun k hk => ⟨Nat.lt_of_lt_of_le (h6 k hk).1 hz, (h6 k hk).2⟩⟩, fun k hk => ⟨(h.e k hk).1, Nat.lt_of_lt_of_le (h.e k hk).2 hz⟩, h.bel.trans (hB.mono h.bel.size), h.ml⟩
theorem PV.drewN (h : PV W E vb tb fb sb rv rt rs ns1 ns2 c1 c2 w) (n : Nat) : PV W E vb tb fb sb rv rt rs ns1 ns2 c1 c2 (w.drewN n) := h.below (((Upd.refl (fun _ => False) w).drewN n).below (Nat.le_refl _) (fun _ h => h.elim))
theorem PV.new (h : PV W E vb tb fb sb rv rt rs ns1 ns2 c1 c2 w) (o : Obj) : PV W (fun k => E k ∨ k = w.heap.size) vb tb fb sb rv rt rs ns1 ns2 c1 c2 (w.alloc o) := by
  have hB : Below w.heap.size w (w.alloc o) := (Below.refl _ _).alloc (Nat.le_refl _) _
  have h' := h.below hB
  obtain ⟨lo, O, h1, h2, h2s, h3, h4, h5, h6⟩ := h.ex
  have hl := h1.lts
  have hz := hB.size
  have hs : (w.alloc o).heap.size = w.heap.size + 1 := by simp
  have hb := h.bel.size
  refine ⟨⟨lo, O, h1.below hB, h2, h2s, h3.below hB, fun r k hk => ⟨(h4 r k hk).1, (h4 r k hk).2.1, fun he => ?_⟩, ⟨h5.1, h5.2.1, fun he => ?_⟩, fun k hk => ⟨Nat.lt_of_lt_of_le (h6 k hk).1 hz, (h6 k hk).2.1, fun he => ?_⟩⟩, fun k hk => ?_, h'.bel, h.ml⟩
  · rcases he with he | he
    · exact (h4 r k hk).2.2 he
    · have := hl.2.1 r k hk; omega
  · rcases he with he | he
    · exact h5.2.2 he
    · have := hl.1; omega
  · rcases he with he | he
    · exact (h6 k hk).2.2 he
    · have := (h6 k hk).1; omega
  · rcases hk with hk | hk
    · have := h.e k hk; omega
    · omega
theorem PV.less (h : PV W E vb tb fb sb rv rt rs ns1 ns2 c1 c2 w) (hE : ∀ k, E' k → E k) : PV W E' vb tb fb sb rv rt rs ns1 ns2 c1 c2 w := by
  obtain ⟨lo, O, h1, h2, h2s, h3, h4, h5, h6⟩ := h.ex
  exact ⟨⟨lo, O, h1, h2, h2s, h3, fun r k hk => ⟨(h4 r k hk).1, (h4 r k hk).2.1, fun he => (h4 r k hk).2.2 (hE k he)⟩, ⟨h5.1, h5.2.1, fun he => h5.2.2 (hE _ he)⟩, fun k hk => ⟨(h6 k hk).1, (h6 k hk).2.1, fun he => (h6 k hk).2.2 (hE k he)⟩⟩, fun k hk => h.e k (hE k hk), h.bel, h.ml⟩
theorem PV.le (h : PV W E vb tb fb sb rv rt rs ns1 ns2 c1 c2 w) (h1 : c1 ≤ c1') (h2 : c2 ≤ c2') : PV W E vb tb fb sb rv rt rs ns1 ns2 c1' c2' w := by
  obtain ⟨lo, O, k1, k2, k2s, k3, k4, k5, k6⟩ := h.ex
  exact ⟨⟨lo, O, k1.le h1, k2, k2s, k3.le h2, k4, k5, k6⟩, h.e, h.bel, h.ml⟩
theorem PV.iv (h : PV W E vb tb fb sb rv rt rs ns1 ns2 c1 c2 w) : IV ns1 c1 := by
  obtain ⟨lo, O, k1, k2, k2s, k3, k4, k5, k6⟩ := h.ex
  exact k1.2
theorem PV.dv (h : PV W E vb tb fb sb rv rt rs ns1 ns2 c1 c2 w) : DV W vb tb fb sb ns1 c1 w := by
  obtain ⟨lo, O, k1, k2, k2s, k3, k4, k5, k6⟩ := h.ex
  exact ⟨lo, k1, h.bel, fun r k hk => (k4 r k hk).1, k2, k2s⟩
theorem PV.cell (h : PV W E vb tb fb sb rv rt rs ns1 ns2 c1 c2 w) {a : Addr} {u : Value} (hc : W.cell? a = some u) : w.cell? a = some u := by
  rw [h.bel.cell (cell_lt2 hc)]; exact hc
end
/-! ### both at the start -/
theorem files0 (i : Nat) : filesOf ns0 i = none := by
  unfold filesOf ns0
  by_cases h : i = 0
  · rw [if_pos h]; rfl
  · rw [if_neg h]
theorem sok0 : SOk 8 0 (filesOf ns0) [] (List.replicate 8 false) [] 0 where
  core := {
    r1 := fun j f h => by simp at h
    r2 := fun i bs h => by rw [files0] at h; cases h
    r3 := fun j k f g h => by simp at h
    cnt := fun x => by simp [sumF]
    rng := fun x h => by simp [sumF] at h
    own := fun j f x h => by simp at h
    tot := rfl
    frn := by omega
    tkn := rfl
    most := Nat.le_refl _
    far := fun i _ => files0 i
    b512 := fun j f h => by simp at h }
  len := fun j f h => by simp at h
  use := by decide +kernel
def vs0' : Nat → Value := fun _ => .slice none 0 0
set_option maxRecDepth 100000 in
theorem ref21_newv (sb : Nat) (w : World) : Calls Tryz.prog 83 #[.pointer (some ⟨sb, 0, none⟩)] w fun e w' => e = .returned (.pointer (some ⟨w.heap.size, 0, none⟩)) ∧ w' = w.alloc (.cells (refC sb ns0 vs0') 161) := by
  go_enter Tryz.func83, Tryz.ntmps83
  go_wp2
  go_ret
  exact ⟨rfl, rfl⟩
def R22P (w : World) (O : Nat → Prop) (e : Ending) (w' : World) : Prop := ∃ rv rt rs, e = .returned (.pointer (some ⟨rv, 0, none⟩)) ∧ RV w' (fun k => (O k ∨ w.heap.size ≤ k) ∧ k < w'.heap.size) rv rt rs 8 0 ns0 ∧ Below w.heap.size w w'
theorem r22_mk {w : World} {O : Nat → Prop} {mb q1 q2 : Nat} (h : FD w O mb q1 q2 8 (List.replicate 8 false) [] 0) :
    R22P w O (.returned (.pointer (some ⟨w.heap.size + 2, 0, none⟩))) (((w.alloc (.cells #[.pointer (some ⟨mb, 0, none⟩), .slice none 0 0] 146)).alloc (.cells (refC w.heap.size ns0 vs0') 161)).alloc (.cells #[.pointer (some ⟨w.heap.size + 1, 0, none⟩), .pointer (some ⟨w.heap.size, 0, none⟩)] 105)) := by
  have hB1 : Below w.heap.size w (w.alloc (.cells #[.pointer (some ⟨mb, 0, none⟩), .slice none 0 0] 146)) := (Below.refl _ _).alloc (Nat.le_refl _) _
  have b1 := Blk.new w #[.pointer (some ⟨mb, 0, none⟩), .slice none 0 0] 146
  have f1 := h.tight.below hB1
  have s1 : (w.alloc (.cells #[.pointer (some ⟨mb, 0, none⟩), .slice none 0 0] 146)).heap.size = w.heap.size + 1 := by simp
  generalize w.alloc (.cells #[.pointer (some ⟨mb, 0, none⟩), .slice none 0 0] 146) = w1 at *
  have hB2 : Below w1.heap.size w1 (w1.alloc (.cells (refC w.heap.size ns0 vs0') 161)) := (Below.refl _ _).alloc (Nat.le_refl _) _
  have b2 := Blk.new w1 (refC w.heap.size ns0 vs0') 161
  have b1 := Blk.below hB2 b1 b1.lt
  have f2 := f1.below hB2
  have s2 : (w1.alloc (.cells (refC w.heap.size ns0 vs0') 161)).heap.size = w.heap.size + 2 := by simp; omega
  have hB := hB1.trans (hB2.mono hB1.size)
  generalize w1.alloc (.cells (refC w.heap.size ns0 vs0') 161) = w2 at *
  have hB3 : Below w2.heap.size w2 (w2.alloc (.cells #[.pointer (some ⟨w.heap.size + 1, 0, none⟩), .pointer (some ⟨w.heap.size, 0, none⟩)] 105)) := (Below.refl _ _).alloc (Nat.le_refl _) _
  have b3 := Blk.new w2 #[.pointer (some ⟨w.heap.size + 1, 0, none⟩), .pointer (some ⟨w.heap.size, 0, none⟩)] 105
  have b1 := Blk.below hB3 b1 b1.lt
  have b2 := Blk.below hB3 b2 b2.lt
  have f3 := f2.below hB3
  have s3 : (w2.alloc (.cells #[.pointer (some ⟨w.heap.size + 1, 0, none⟩), .pointer (some ⟨w.heap.size, 0, none⟩)] 105)).heap.size = w.heap.size + 3 := by simp; omega
  have hB := hB.trans (hB3.mono hB.size)
  rw [s1] at b2
  rw [s2] at b3
  generalize w2.alloc (.cells #[.pointer (some ⟨w.heap.size + 1, 0, none⟩), .pointer (some ⟨w.heap.size, 0, none⟩)] 105) = w3 at *
  refine ⟨_, w.heap.size + 1, w.heap.size, rfl, ⟨b3, ⟨Or.inr (by omega), by omega⟩, vs0', b2, ⟨mb, q1, q2, [], _, [], 0, ⟨⟨_, none, [], b1, ⟨Or.inl ⟨rfl, rfl, rfl⟩, fun g hg => (by cases hg), rfl, fun j x f hx => (by simp at hx)⟩⟩, ⟨Or.inr (by omega), by omega⟩, f3.mono (fun k hk => ⟨Or.inl hk.1, by have := hk.2; omega⟩)⟩, sok0⟩, fun i nd hi => ?_, fun i hi => rfl, fun i hi => by unfold ns0; rw [if_neg (by omega)], ⟨Or.inr (by omega), by omega⟩⟩, hB⟩
  unfold ns0 at hi
  split at hi
  · cases hi; exact ⟨⟨none, Or.inl ⟨rfl, rfl, rfl⟩, fun g hg => (by cases hg)⟩, Nat.zero_le _⟩
  · cases hi
set_option maxRecDepth 100000 in
theorem r22new_is {w : World} {O : Nat → Prop} {mb q1 q2 : Nat} (h : FD w O mb q1 q2 8 (List.replicate 8 false) [] 0) : Calls Tryz.prog 47 #[.pointer (some ⟨mb, 0, none⟩)] w (R22P w O) := by
  have hf := r22_mk h
  clear h
  go_enter Tryz.func47, Tryz.ntmps47
  go_wp2_with (go_at_call 83; refine (ref21_newv _ _).mono ?_; rintro e w' ⟨rfl, rfl⟩)
  go_ret
  simpa using hf
/-- what a new vfs owns: the frames' blocks and new ones -/
def VnQ [Inhabited CapT] (fb bb kb : Nat) (w : World) (e : Ending) (w' : World) : Prop := ∃ vb tb lo, e = .returned (.pointer (some ⟨vb, 0, none⟩)) ∧ VV w' vb tb ns0 lo 0 ∧ Below w.heap.size w w' ∧ (∀ r k, lo r = some k → (k = fb ∨ k = bb ∨ k = kb) ∨ w.heap.size ≤ k) ∧ lo (.st .frm) = some fb ∧ w.heap.size ≤ vb
set_option maxRecDepth 100000 in
theorem vnew_q [Inhabited CapT] (fb bb kb n : Nat) (w : World) (hF : FrB w fb bb kb none (fs0 n)) (n1 : fb ≠ bb) (n2 : fb ≠ kb) (n3 : bb ≠ kb) (h1n : 1 ≤ n) (hc : capN = n) (hm : MC w) (B0 : Nat) (hb1 : B0 ≤ fb) (hb2 : B0 ≤ bb) (hb3 : B0 ≤ kb) (hbw : B0 ≤ w.heap.size) (hml : 0 < B0) : Calls Tryz.prog 30 #[.pointer (some ⟨fb, 0, none⟩)] w (VnQ fb bb kb w) := by
  have hT := tb0 w fb bb kb n w.heap.size hF n1 n2 n3 h1n hc rfl
  have hl := hF.lts
  have H := Lib.hid (And.intro hT (And.intro hl (And.intro hm (And.intro hml (And.intro hb1 (And.intro hb2 (And.intro hb3 hbw)))))))
  clear hT hl hm hF n1 n2 n3 h1n hc hml hb1 hb2 hb3 hbw
  go_enter Tryz.func30, Tryz.ntmps30
  go_wp2_with (first
    | (go_at_call 72; refine (store_new _ _).mono ?_; rintro e w' ⟨rfl, rfl⟩)
    | (go_at_call 73; refine (inode_new _ _).mono ?_; rintro e w' ⟨rfl, rfl⟩))
  go_ret
  obtain ⟨hT, hl, hm, hml, hb1, hb2, hb3, hbw⟩ := H.out
  have hB : Below w.heap.size w ((((w.alloc (.map #[] 0)).alloc (.cells #[.pointer (some ⟨fb, 0, none⟩), .map (some w.heap.size)] 84)).alloc (.cells (tab0 (w.heap.size + 1) (.pointer (some ⟨w.heap.size + 3, 0, none⟩))) 137)).alloc (.cells #[.bool true, .int .i64 0, .int .i64 0, .slice none 0 0] 129)) := ((((Below.refl _ _).alloc (Nat.le_refl _) _).alloc (by simp) _).alloc (by simp; omega) _).alloc (by simp; omega) _
  have hs4 : ((((w.alloc (.map #[] 0)).alloc (.cells #[.pointer (some ⟨fb, 0, none⟩), .map (some w.heap.size)] 84)).alloc (.cells (tab0 (w.heap.size + 1) (.pointer (some ⟨w.heap.size + 3, 0, none⟩))) 137)).alloc (.cells #[.bool true, .int .i64 0, .int .i64 0, .slice none 0 0] 129)).heap.size = w.heap.size + 4 := by simp
  have hm4 : MC ((((w.alloc (.map #[] 0)).alloc (.cells #[.pointer (some ⟨fb, 0, none⟩), .map (some w.heap.size)] 84)).alloc (.cells (tab0 (w.heap.size + 1) (.pointer (some ⟨w.heap.size + 3, 0, none⟩))) 137)).alloc (.cells #[.bool true, .int .i64 0, .int .i64 0, .slice none 0 0] 129)) := MC.below hm hB
  generalize hw4 : (((w.alloc (.map #[] 0)).alloc (.cells #[.pointer (some ⟨fb, 0, none⟩), .map (some w.heap.size)] 84)).alloc (.cells (tab0 (w.heap.size + 1) (.pointer (some ⟨w.heap.size + 3, 0, none⟩))) 137)).alloc (.cells #[.bool true, .int .i64 0, .int .i64 0, .slice none 0 0] 129) = w4 at *
  have hA : Below w4.heap.size w4 (w4.alloc (.cells #[.pointer (some ⟨w.heap.size + 1, 0, none⟩), .pointer (some ⟨w.heap.size + 2, 0, none⟩)] 69)) := (Below.refl _ _).alloc (Nat.le_refl _) _
  have hlo : ∀ r k, lo0 w.heap.size fb bb kb r = some k → ((k = fb ∨ k = bb ∨ k = kb) ∨ w.heap.size ≤ k) ∧ k < w.heap.size + 4 ∧ B0 ≤ k := fun r k hk => by
    cases r with
    | tab => simp [lo0] at hk; omega
    | node i => simp [lo0] at hk; omega
    | ents i => simp [lo0] at hk
    | st q =>
      have := lo0_st (s := w.heap.size) (fb := fb) (bb := bb) (kb := kb) (r := q) (k := k) hk
      omega
  have hbv := Blk.new w4 #[.pointer (some ⟨w.heap.size + 1, 0, none⟩), .pointer (some ⟨w.heap.size + 2, 0, none⟩)] 69
  rw [hs4] at hbv
  refine ⟨w.heap.size + 4, w.heap.size + 2, lo0 w.heap.size fb bb kb, by first | rfl | (rw [hs4]), ⟨⟨⟨_, rfl, hbv⟩, hT.below hA, fun r hr => ?_, hm4.below hA, fun r hr => ?_⟩, IV.zero⟩, hB.trans (hA.mono hB.size), fun r k hk => (hlo r k hk).1, rfl, by omega⟩
  · have := hlo r _ hr; omega
  · have := hlo r _ hr; omega
def BothV [Inhabited CapT] (w : World) (e : Ending) (w' : World) : Prop := ∃ vb tb fb sb rv rt rs, e = .returned (.tuple #[.pointer (some ⟨vb, 0, none⟩), .pointer (some ⟨rv, 0, none⟩)]) ∧ PV w (fun _ => False) vb tb fb sb rv rt rs ns0 ns0 0 0 w'
set_option maxRecDepth 100000 in
theorem both_v [Inhabited CapT] (w : World) (hm : MC w) (hc : capN = 8) : Calls Tryz.prog 17 #[] w (BothV w) := by
  have hfn : Calls Tryz.prog 29 #[.int .i64 8] w (FNewP w 8) := fnew_is 8 (by omega) (by omega) w
  have hrn := fun w => rnew_is 8 (by omega) (by omega) w
  have HM := Lib.hid (And.intro hm hc)
  clear hm hc
  go_enter Tryz.func17, Tryz.ntmps17
  go_wp2_with (first
    | (go_at_call 29; (with_reducible refine hfn.mono ?_); rintro e w1 ⟨fb, bb, kb, rfl, hFr, hB, g1, g2, g3, g4, g5, g6⟩; have H1 := Lib.hid (And.intro hFr (And.intro hB (And.intro g1 (And.intro g2 (And.intro g3 (And.intro g4 (And.intro g5 g6))))))); clear hB hFr g1 g2 g3 g4 g5 g6 hfn; have hr1 := hrn w1)
    | (go_at_call 46; (refine hr1.mono ?_); rintro e w2 ⟨mb, q1, q2, rfl, hFD, hB⟩; obtain ⟨hFr, hB1, g1, g2, g3, g4, g5, g6⟩ := H1.out; have hBB := hB1.trans (hB.mono hB1.size); have hn := vnew_q fb bb kb 8 w2 (hFr.below hB) g4 g5 g6 (by omega) HM.out.2 (HM.out.1.below hBB) w.heap.size g1 g2 g3 hBB.size HM.out.1.lt; have H2 := Lib.hid (And.intro hFD (And.intro hB hBB)); clear hB hr1 hFr hB1 g1 g2 g3 g4 g5 g6 hFD hBB)
    | (go_at_call 30; (with_reducible refine hn.mono ?_); rintro e w3 ⟨vb, tb, lo, rfl, hD⟩; have H3 := Lib.hid hD; have hq := r22new_is (H2.out.1.below hD.2.1); clear hn hD)
    | (go_at_call 47; (with_reducible refine hq.mono ?_); rintro e w4 ⟨rv, rt, rs, rfl, hR⟩; have H4 := Lib.hid hR; clear hq hR))
  go_returns
  obtain ⟨hFr, hB1, g1, g2, g3, g4, g5, g6⟩ := H1.out
  obtain ⟨hFD, hB2, hBB⟩ := H2.out
  obtain ⟨hV, hB3, hlo, hfr, hvb⟩ := H3.out
  obtain ⟨hR, hB4⟩ := H4.out
  obtain ⟨sb, hsb, -⟩ := hV.1.cell0
  have hl := hFr.lts
  have hlt := hV.lts
  have z1 := hB1.size
  have z2 := hB2.size
  have z3 := hB3.size
  have z4 := hB4.size
  refine ⟨vb, tb, fb, sb, rv, rt, rs, rfl, ⟨lo, _, hV.below hB4, hfr, hsb, hR, fun r k hk => ?_, ⟨by omega, fun hO => ?_, fun h => h⟩, fun k hk => ⟨hk.2, ?_, fun h => h⟩⟩, fun k h => h.elim, (hBB.trans (hB3.mono hBB.size)).trans (hB4.mono (by omega)), HM.out.1.lt⟩
  · have h1 := hlo r k hk
    have h2 := hlt.2.1 r k hk
    refine ⟨by omega, fun hO => ?_, fun h => h⟩
    rcases hO.1 with e | e <;> omega
  · rcases hO.1 with e | e <;> omega
  · rcases hk.1 with e | e <;> omega
end Go.Proofs.YtchnjfmimpikcaaGreatDoor
/-
  An act of both vfs: the walk of 'done'. (Printed by gen_vdn.py.)
-/
namespace Go.Proofs.YtchnjfmimpikcaaGreatDoor
set_option linter.unusedSimpArgs false
set_option linter.unusedVariables false
open Go.RowKit Own RegC Three Two
open RegJ hiding Up
open RegF hiding put_size
open Go.Lib hiding intOf

theorem vnum_is (e : Int) (w : World) : Calls Tryz.prog 55 #[.int .i64 e] w fun r w' => r = .returned (.int .i64 e) ∧ w = w' := by
  go_enter Tryz.func55, Tryz.ntmps55
  go_wp2
  go_ret
  exact ⟨rfl, rfl⟩
theorem MadP.le [Inhabited CapT] {w w' : World} {vb tb c d : Nat} {ns' : NSt} {lo : Lo} {v : Value} {e : Ending} (h : MadP w vb tb ns' lo c v e w') (hcd : c ≤ d) : MadP w vb tb ns' lo d v e w' := by
  obtain ⟨he, lo', g1, g2⟩ := h
  exact ⟨he, lo', g1.le hcd, g2⟩
/-- both vfs, and the act -/
def Dv [Inhabited CapT] (W : World) (vb tb fb sb rv rt rs bx : Nat) (cs : Array Value) (ns1 ns2 : NSt) (c1 c2 : Nat) (w : World) : Prop := PV W (fun k => k = bx) vb tb fb sb rv rt rs ns1 ns2 c1 c2 w ∧ Blk w bx cs 51
def DvP [Inhabited CapT] (v : Value) (W : World) (vb tb fb sb rv rt rs bx : Nat) (cs : Array Value) (ns1 ns2 : NSt) (c1 c2 : Nat) (e : Ending) (w' : World) : Prop := e = .returned v ∧ Dv W vb tb fb sb rv rt rs bx cs ns1 ns2 c1 c2 w'
section
variable [Inhabited CapT] {W w w' : World} {vb tb fb sb rv rt rs bx c1 c2 c1' c2' : Nat} {cs : Array Value} {ns1 ns2 ns1' ns2' : NSt} {f : FuncId} {args : Array Value} {v : Value}
theorem dv_l (h : Dv W vb tb fb sb rv rt rs bx cs ns1 ns2 c1 c2 w) (hc : ∀ lo, VV w vb tb ns1 lo c1 → lo (.st .frm) = some fb → lo (.st .sto) = some sb → (∀ r k, lo r = some k → W.heap.size ≤ k) → Calls Tryz.prog f args w (MadP w vb tb ns1' lo c1' v)) : Calls Tryz.prog f args w (DvP v W vb tb fb sb rv rt rs bx cs ns1' ns2 c1' c2) := by
  refine (h.1.left hc).mono ?_
  rintro e w' ⟨rfl, h2, h3⟩
  exact ⟨rfl, h2, Blk.upd h3 h.2 (fun hn => hn rfl)⟩
theorem dv_r (h : Dv W vb tb fb sb rv rt rs bx cs ns1 ns2 c1 c2 w) (hc : ∀ O, RV w O rv rt rs 8 c2 ns2 → (∀ k, O k → W.heap.size ≤ k) → Calls Tryz.prog f args w (VP w O rv rt rs 8 c2' ns2' v)) : Calls Tryz.prog f args w (DvP v W vb tb fb sb rv rt rs bx cs ns1 ns2' c1 c2') := by
  refine (h.1.right hc).mono ?_
  rintro e w' ⟨rfl, h2, h3⟩
  exact ⟨rfl, h2, Blk.upd h3 h.2 (fun hn => hn rfl)⟩
theorem Dv.below (h : Dv W vb tb fb sb rv rt rs bx cs ns1 ns2 c1 c2 w) (hB : Below w.heap.size w w') : Dv W vb tb fb sb rv rt rs bx cs ns1 ns2 c1 c2 w' := ⟨h.1.below hB, Blk.below hB h.2 h.2.lt⟩
theorem Dv.drewN (h : Dv W vb tb fb sb rv rt rs bx cs ns1 ns2 c1 c2 w) (n : Nat) : Dv W vb tb fb sb rv rt rs bx cs ns1 ns2 c1 c2 (w.drewN n) := ⟨h.1.drewN n, Blk.upd ((Upd.refl (fun _ => False) w).drewN n) h.2 (fun h => h)⟩
theorem Dv.q0 (h : Dv W vb tb fb sb rv rt rs bx cs ns1 ns2 c1 c2 w) : w.cell? ⟨rv, 0, none⟩ = some (.pointer (some ⟨rt, 0, none⟩)) := by
  obtain ⟨lo, O, k1, k2, k2s, k3, k4, k5, k6⟩ := h.1.ex
  exact k3.c0
theorem Dv.q1 (h : Dv W vb tb fb sb rv rt rs bx cs ns1 ns2 c1 c2 w) : w.cell? ⟨rv, 1, none⟩ = some (.pointer (some ⟨rs, 0, none⟩)) := by
  obtain ⟨lo, O, k1, k2, k2s, k3, k4, k5, k6⟩ := h.1.ex
  exact k3.c1
theorem p_cl {lo : Lo} {ns : NSt} {c : Nat} (h1 : VV w vb tb ns lo c) (hc : c ≤ 9000) (id : Int) (r : Int) (ns' : NSt) (hr : closeF ns id = (r, ns')) :
    Calls Tryz.prog 60 #[.pointer (some ⟨tb, 0, none⟩), .int .i64 id] w (MadP w vb tb ns' lo (c + 1) (.int .i64 r)) := by
  have hiv := closeF_iv h1.2 id
  rw [hr] at hiv
  refine (close_f h1.1.2.1 h1.2 (by omega) id r _ hr).mono ?_
  rintro e w' ⟨rfl, lo', hT, hF⟩
  exact ⟨rfl, lo', ⟨(h1.1.step hT hF).le (by omega), hiv⟩, hF⟩
theorem p_wr {lo : Lo} {ns : NSt} {c : Nat} (h1 : VV w vb tb ns lo c) (h2 : Below W.heap.size W w) (h3 : ∀ r k, lo r = some k → W.heap.size ≤ k) (h5 : lo (.st .sto) = some sb) (id : Int) (hw : (Lit.int .i64 id).wf = true) (off : Int) (b : List Int) (hb6 : b.length ≤ 1000000) (v : Value) (hv : ArgB W v b) (r : Int) (ns' : NSt) (hr : wrF ns capN id off b = (r, ns')) :
    Calls Tryz.prog 13 #[.pointer (some ⟨sb, 0, none⟩), .int .i64 id, .int .i64 off, v] w (MadP w vb tb ns' lo c (.int .i64 r)) := by
  obtain ⟨g1, g2⟩ := wrF_is ns capN id off b
  rw [hr] at g1 g2
  have hsrc : SrcB w (soOf lo) v b := by
    obtain ⟨a, cc, rfl, k1, k2⟩ := hv
    refine ⟨a, cc, rfl, k1, fun hp => ?_⟩
    obtain ⟨g, q, rfl, k3, k4⟩ := k2 hp
    refine ⟨g, q, rfl, rdv_far k3 k4 h2, fun r k hk => ?_, Nat.lt_of_lt_of_le k4 h2.size⟩
    have := h3 _ _ hk
    omega
  refine (s_write h1.1.2.1.sto sb h5 id hw off b hb6 v hsrc r _ g1).mono ?_
  rintro e w' ⟨rfl, so, hS, hF, hs1, hs2⟩
  have hT := h1.1.2.1.store hS hF hs1 g2.cond.1 g2.cond.2
  have hTF : TFr lo (loSt lo so) w w' := by
    refine ⟨hF.1.mono (fun k _ ⟨q, hq⟩ => ⟨.st q, hq⟩), fun r k hk => ?_, hs1, hs2⟩
    rcases loSt_old hk with ⟨q, rfl, e⟩ | ⟨e, _⟩
    · rcases hF.2 q k e with ⟨q', e⟩ | e
      · exact Or.inl ⟨.st q', e⟩
      · exact Or.inr e
    · exact Or.inl ⟨r, e⟩
  exact ⟨rfl, _, ⟨h1.1.step hT hTF, g2.iv h1.2⟩, hTF⟩
omit [Inhabited CapT] in
theorem q_src {O : Nat → Prop} (h2 : Below W.heap.size W w) (ho : ∀ k, O k → W.heap.size ≤ k) {b : List Int} {v : Value} (hv : ArgB W v b) : SrcD w O v b := by
  obtain ⟨a, cc, rfl, k1, k2⟩ := hv
  refine ⟨a, cc, rfl, k1, fun hp => ?_⟩
  obtain ⟨g, q, rfl, k3, k4⟩ := k2 hp
  exact ⟨g, q, rfl, rdv_far k3 k4 h2, fun e => by have := ho _ e; omega, Nat.lt_of_lt_of_le k4 h2.size⟩
end
def DoneV [Inhabited CapT] (W : World) (vb tb fb sb rv rt rs c : Nat) (e : Ending) (w' : World) : Prop := e = .returned (.bool true) ∧ ∃ ns', Rd ns' ∧ PV W (fun _ => False) vb tb fb sb rv rt rs ns' ns' (c + 4) (c + 4) w'
theorem Dv.fin [Inhabited CapT] {W w : World} {vb tb fb sb rv rt rs bx c : Nat} {cs : Array Value} {ns' : NSt} (h : Dv W vb tb fb sb rv rt rs bx cs ns' ns' (c + 4) (c + 4) w) (hr : Rd ns') : DoneV W vb tb fb sb rv rt rs c (.returned (.bool true)) w := ⟨rfl, ns', hr, h.1.less (fun k h => h.elim)⟩
section
variable [Inhabited CapT] {W w : World} {vb tb fb sb rv rt rs c : Nat} {ns : NSt}
set_option maxRecDepth 100000 in
set_option maxHeartbeats 4000000 in
theorem done_link (hc : c ≤ 880) (hcap : capN = 8) (hrd : Rd ns) (h : PV W (fun _ => False) vb tb fb sb rv rt rs ns ns c c w) (n : Int) (hn : (Lit.int .i64 n).wf = true) (s t : Txt) (hs : s.length ≤ 100000) (ht : t.length ≤ 100000) (v : Value) (bs : List Int) (hv : ArgB W v bs) (hb6 : bs.length ≤ 1000000) :
    Calls Tryz.prog 21 #[.pointer (some ⟨vb, 0, none⟩), .pointer (some ⟨rv, 0, none⟩), .agg #[.int .i64 1, .int .i64 n, .string (B s), .string (B t), v]] w (DoneV W vb tb fb sb rv rt rs c) := by
  have HM : Hid (Dv W vb tb fb sb rv rt rs w.heap.size #[.int .i64 1, .int .i64 n, .string (B s), .string (B t), v] ns ns c c (w.alloc (.cells #[.int .i64 1, .int .i64 n, .string (B s), .string (B t), v] 51))) := Lib.hid ⟨(h.new _).less (fun k hk => Or.inr hk), Blk.new _ _ _⟩
  have HV := Lib.hid h.iv
  have HRD := Lib.hid hrd
  have HL := Lib.hid (And.intro hs (And.intro ht (And.intro hb6 (And.intro hn hcap))))
  have HA := Lib.hid hv
  obtain ⟨a, cc, rfl, -, -⟩ := hv
  generalize hbl : bs.length = bl at *
  obtain ⟨S, hS⟩ : ∃ S, B s = S := ⟨_, rfl⟩
  obtain ⟨T, hT⟩ : ∃ T, B t = T := ⟨_, rfl⟩
  rw [hS, hT] at HM ⊢
  have HS := Lib.hid (And.intro hS hT)
  have HBL := Lib.hid hbl
  clear hrd h hS hT hs ht hn hb6 hbl
  go_enter Tryz.func21, Tryz.ntmps21
  go_upto_region 1 with (fail)
  have c1 := (HM.out.2).rd
  generalize w.alloc (.cells #[.int .i64 1, .int .i64 n, .string S, .string T, .slice a bl cc] 51) = wx at HM c1 ⊢
  generalize w.heap.size = bx at HM c1 ⊢
  try clear w
  obtain ⟨st, hst⟩ : ∃ st, linkF ns s t = st := ⟨_, rfl⟩
  obtain ⟨r, ns'⟩ := st
  have HST := Lib.hid hst
  clear hst
  go_wp2_with (fail)
  clear c1
  refine region_J (JJ 5 12 (fun x y w1 => Dv W vb tb fb sb rv rt rs bx #[.int .i64 1, .int .i64 n, .string S, .string T, .slice a bl cc] (Sel x ns' ns) (Sel y ns' ns) (Sel x (c + 4) c) (Sel y (c + 4) c) w1)) (by kernel_rfl) (by kernel_rfl) ?_ ?_
  · exact HM.out.drewN 1
  · iterate 15
      apply wpJ_op rfl (by rfl)
      · intro f w1 hf hJ Q1 hQ
        have hD1 := (show Dv W vb tb fb sb rv rt rs bx #[.int .i64 1, .int .i64 n, .string S, .string T, .slice a bl cc] (Sel (f 5) ns' ns) (Sel (f 12) ns' ns) (Sel (f 5) (c + 4) c) (Sel (f 12) (c + 4) c) w1 from hJ)
        have c1 := (hD1.2).rd
        have q0 := hD1.q0
        have q1 := hD1.q1
        clear hD1
        simp only [Act.put, List.setIfInBounds_toArray, List.set_cons_zero, List.set_cons_succ] at hQ
        go_wp2_with (first
          | (go_at_call 10; refine (dv_l (JJ.one hJ hf.1) (fun lo hO hlf hls hlb => (by rw [← HS.out.1, ← HS.out.2]; exact (Link_is hO s t HL.out.1 HL.out.2.1 r _ HST.out).mono fun _ _ hh => MadP.le hh (show c + 1 ≤ c + 4 by omega)))).mono ?_; rintro e w3 ⟨rfl, hM3⟩)
          | (go_at_call 56; refine (dv_r (JJ.two hJ hf.1) (fun O hO hOb => (by rw [← HS.out.1, ← HS.out.2]; exact (vlink_is hO HV.out s t HL.out.1 HL.out.2.1 r _ HST.out).mono fun _ _ hh => VP.le hh (show c + 0 ≤ c + 4 by omega)))).mono ?_; rintro e w3 ⟨rfl, hM3⟩)
          | (go_at_call 55; refine (vnum_is _ _).mono ?_; rintro e w3 ⟨rfl, rfl⟩))
        first
          | exact hQ _ _ rfl (hJ.other (by decide) (by decide))
          | exact hQ _ _ rfl (JJ.fin1 hM3 (by decide))
          | exact hQ _ _ rfl (JJ.fin2 hM3 (by decide))
      simp only [Act.put, List.setIfInBounds_toArray, List.set_cons_zero, List.set_cons_succ]
    refine wpJ_nil ?_
    intro w3 hJ3
    have hM3 : Dv W vb tb fb sb rv rt rs bx #[.int .i64 1, .int .i64 n, .string S, .string T, .slice a bl cc] ns' ns' (c + 4) (c + 4) w3 := hJ3.over rfl rfl
    clear hJ3
    have HM3 := Lib.hid hM3
    clear hM3
    go_wp2_with (fail)
    go_ret
    simpa using Dv.fin HM3.out (by have hrd := linkF_rd HRD.out s t; rw [HST.out] at hrd; exact hrd)
set_option maxRecDepth 100000 in
set_option maxHeartbeats 4000000 in
theorem done_unlink (hc : c ≤ 880) (hcap : capN = 8) (hrd : Rd ns) (h : PV W (fun _ => False) vb tb fb sb rv rt rs ns ns c c w) (n : Int) (hn : (Lit.int .i64 n).wf = true) (s t : Txt) (hs : s.length ≤ 100000) (ht : t.length ≤ 100000) (v : Value) (bs : List Int) (hv : ArgB W v bs) (hb6 : bs.length ≤ 1000000) :
    Calls Tryz.prog 21 #[.pointer (some ⟨vb, 0, none⟩), .pointer (some ⟨rv, 0, none⟩), .agg #[.int .i64 2, .int .i64 n, .string (B s), .string (B t), v]] w (DoneV W vb tb fb sb rv rt rs c) := by
  have HM : Hid (Dv W vb tb fb sb rv rt rs w.heap.size #[.int .i64 2, .int .i64 n, .string (B s), .string (B t), v] ns ns c c (w.alloc (.cells #[.int .i64 2, .int .i64 n, .string (B s), .string (B t), v] 51))) := Lib.hid ⟨(h.new _).less (fun k hk => Or.inr hk), Blk.new _ _ _⟩
  have HV := Lib.hid h.iv
  have HRD := Lib.hid hrd
  have HL := Lib.hid (And.intro hs (And.intro ht (And.intro hb6 (And.intro hn hcap))))
  have HA := Lib.hid hv
  obtain ⟨a, cc, rfl, -, -⟩ := hv
  generalize hbl : bs.length = bl at *
  obtain ⟨S, hS⟩ : ∃ S, B s = S := ⟨_, rfl⟩
  obtain ⟨T, hT⟩ : ∃ T, B t = T := ⟨_, rfl⟩
  rw [hS, hT] at HM ⊢
  have HS := Lib.hid (And.intro hS hT)
  have HBL := Lib.hid hbl
  clear hrd h hS hT hs ht hn hb6 hbl
  go_enter Tryz.func21, Tryz.ntmps21
  go_upto_region 1 with (fail)
  have c1 := (HM.out.2).rd
  generalize w.alloc (.cells #[.int .i64 2, .int .i64 n, .string S, .string T, .slice a bl cc] 51) = wx at HM c1 ⊢
  generalize w.heap.size = bx at HM c1 ⊢
  try clear w
  obtain ⟨st, hst⟩ : ∃ st, atPar ns s (fun d nm => remF ns d nm false 12) = st := ⟨_, rfl⟩
  obtain ⟨r, ns'⟩ := st
  have HST := Lib.hid hst
  clear hst
  go_wp2_with (fail)
  clear c1
  refine region_J (JJ 3 8 (fun x y w1 => Dv W vb tb fb sb rv rt rs bx #[.int .i64 2, .int .i64 n, .string S, .string T, .slice a bl cc] (Sel x ns' ns) (Sel y ns' ns) (Sel x (c + 4) c) (Sel y (c + 4) c) w1)) (by kernel_rfl) (by kernel_rfl) ?_ ?_
  · exact HM.out.drewN 1
  · iterate 11
      apply wpJ_op rfl (by rfl)
      · intro f w1 hf hJ Q1 hQ
        have hD1 := (show Dv W vb tb fb sb rv rt rs bx #[.int .i64 2, .int .i64 n, .string S, .string T, .slice a bl cc] (Sel (f 3) ns' ns) (Sel (f 8) ns' ns) (Sel (f 3) (c + 4) c) (Sel (f 8) (c + 4) c) w1 from hJ)
        have c1 := (hD1.2).rd
        have q0 := hD1.q0
        have q1 := hD1.q1
        clear hD1
        simp only [Act.put, List.setIfInBounds_toArray, List.set_cons_zero, List.set_cons_succ] at hQ
        go_wp2_with (first
          | (go_at_call 15; refine (dv_l (JJ.one hJ hf.1) (fun lo hO hlf hls hlb => (by rw [← HS.out.1]; exact (Unlink_is hO (show c ≤ 9000 by omega) s HL.out.1 r _ HST.out).mono fun _ _ hh => MadP.le hh (show c + 1 ≤ c + 4 by omega)))).mono ?_; rintro e w3 ⟨rfl, hM3⟩)
          | (go_at_call 57; refine (dv_r (JJ.two hJ hf.1) (fun O hO hOb => (by rw [← HS.out.1]; exact (vunlink_is hO HV.out (show c ≤ 890 by omega) s HL.out.1 r _ HST.out).mono fun _ _ hh => VP.le hh (show c + 0 ≤ c + 4 by omega)))).mono ?_; rintro e w3 ⟨rfl, hM3⟩)
          | (go_at_call 55; refine (vnum_is _ _).mono ?_; rintro e w3 ⟨rfl, rfl⟩))
        first
          | exact hQ _ _ rfl (hJ.other (by decide) (by decide))
          | exact hQ _ _ rfl (JJ.fin1 hM3 (by decide))
          | exact hQ _ _ rfl (JJ.fin2 hM3 (by decide))
      simp only [Act.put, List.setIfInBounds_toArray, List.set_cons_zero, List.set_cons_succ]
    refine wpJ_nil ?_
    intro w3 hJ3
    have hM3 : Dv W vb tb fb sb rv rt rs bx #[.int .i64 2, .int .i64 n, .string S, .string T, .slice a bl cc] ns' ns' (c + 4) (c + 4) w3 := hJ3.over rfl rfl
    clear hJ3
    have HM3 := Lib.hid hM3
    clear hM3
    go_wp2_with (fail)
    go_ret
    simpa using Dv.fin HM3.out (by have hrd := atPar_rd HRD.out s _ (fun d nm => remF_rd HRD.out d nm false 12); rw [HST.out] at hrd; exact hrd)
set_option maxRecDepth 100000 in
set_option maxHeartbeats 4000000 in
theorem done_mkdir (hc : c ≤ 880) (hcap : capN = 8) (hrd : Rd ns) (h : PV W (fun _ => False) vb tb fb sb rv rt rs ns ns c c w) (n : Int) (hn : (Lit.int .i64 n).wf = true) (s t : Txt) (hs : s.length ≤ 100000) (ht : t.length ≤ 100000) (v : Value) (bs : List Int) (hv : ArgB W v bs) (hb6 : bs.length ≤ 1000000) :
    Calls Tryz.prog 21 #[.pointer (some ⟨vb, 0, none⟩), .pointer (some ⟨rv, 0, none⟩), .agg #[.int .i64 3, .int .i64 n, .string (B s), .string (B t), v]] w (DoneV W vb tb fb sb rv rt rs c) := by
  have HM : Hid (Dv W vb tb fb sb rv rt rs w.heap.size #[.int .i64 3, .int .i64 n, .string (B s), .string (B t), v] ns ns c c (w.alloc (.cells #[.int .i64 3, .int .i64 n, .string (B s), .string (B t), v] 51))) := Lib.hid ⟨(h.new _).less (fun k hk => Or.inr hk), Blk.new _ _ _⟩
  have HV := Lib.hid h.iv
  have HRD := Lib.hid hrd
  have HL := Lib.hid (And.intro hs (And.intro ht (And.intro hb6 (And.intro hn hcap))))
  have HA := Lib.hid hv
  obtain ⟨a, cc, rfl, -, -⟩ := hv
  generalize hbl : bs.length = bl at *
  obtain ⟨S, hS⟩ : ∃ S, B s = S := ⟨_, rfl⟩
  obtain ⟨T, hT⟩ : ∃ T, B t = T := ⟨_, rfl⟩
  rw [hS, hT] at HM ⊢
  have HS := Lib.hid (And.intro hS hT)
  have HBL := Lib.hid hbl
  clear hrd h hS hT hs ht hn hb6 hbl
  go_enter Tryz.func21, Tryz.ntmps21
  go_upto_region 1 with (fail)
  have c1 := (HM.out.2).rd
  generalize w.alloc (.cells #[.int .i64 3, .int .i64 n, .string S, .string T, .slice a bl cc] 51) = wx at HM c1 ⊢
  generalize w.heap.size = bx at HM c1 ⊢
  try clear w
  obtain ⟨st, hst⟩ : ∃ st, atPar ns s (mkdirF ns) = st := ⟨_, rfl⟩
  obtain ⟨r, ns'⟩ := st
  have HST := Lib.hid hst
  clear hst
  go_wp2_with (fail)
  clear c1
  refine region_J (JJ 3 8 (fun x y w1 => Dv W vb tb fb sb rv rt rs bx #[.int .i64 3, .int .i64 n, .string S, .string T, .slice a bl cc] (Sel x ns' ns) (Sel y ns' ns) (Sel x (c + 4) c) (Sel y (c + 4) c) w1)) (by kernel_rfl) (by kernel_rfl) ?_ ?_
  · exact HM.out.drewN 1
  · iterate 11
      apply wpJ_op rfl (by rfl)
      · intro f w1 hf hJ Q1 hQ
        have hD1 := (show Dv W vb tb fb sb rv rt rs bx #[.int .i64 3, .int .i64 n, .string S, .string T, .slice a bl cc] (Sel (f 3) ns' ns) (Sel (f 8) ns' ns) (Sel (f 3) (c + 4) c) (Sel (f 8) (c + 4) c) w1 from hJ)
        have c1 := (hD1.2).rd
        have q0 := hD1.q0
        have q1 := hD1.q1
        clear hD1
        simp only [Act.put, List.setIfInBounds_toArray, List.set_cons_zero, List.set_cons_succ] at hQ
        go_wp2_with (first
          | (go_at_call 26; refine (dv_l (JJ.one hJ hf.1) (fun lo hO hlf hls hlb => (by rw [← HS.out.1]; exact (Mkdir_is hO (show c ≤ 9000 by omega) s HL.out.1 r _ HST.out).mono fun _ _ hh => MadP.le hh (show c + 4 ≤ c + 4 by omega)))).mono ?_; rintro e w3 ⟨rfl, hM3⟩)
          | (go_at_call 58; refine (dv_r (JJ.two hJ hf.1) (fun O hO hOb => (by rw [← HS.out.1]; exact (vmkdir_is hO HV.out (show c ≤ 9000 by omega) (show c ≤ 890 by omega) s HL.out.1 r _ HST.out).mono fun _ _ hh => VP.le hh (show c + 1 ≤ c + 4 by omega)))).mono ?_; rintro e w3 ⟨rfl, hM3⟩)
          | (go_at_call 55; refine (vnum_is _ _).mono ?_; rintro e w3 ⟨rfl, rfl⟩))
        first
          | exact hQ _ _ rfl (hJ.other (by decide) (by decide))
          | exact hQ _ _ rfl (JJ.fin1 hM3 (by decide))
          | exact hQ _ _ rfl (JJ.fin2 hM3 (by decide))
      simp only [Act.put, List.setIfInBounds_toArray, List.set_cons_zero, List.set_cons_succ]
    refine wpJ_nil ?_
    intro w3 hJ3
    have hM3 : Dv W vb tb fb sb rv rt rs bx #[.int .i64 3, .int .i64 n, .string S, .string T, .slice a bl cc] ns' ns' (c + 4) (c + 4) w3 := hJ3.over rfl rfl
    clear hJ3
    have HM3 := Lib.hid hM3
    clear hM3
    go_wp2_with (fail)
    go_ret
    simpa using Dv.fin HM3.out (by have hrd := atPar_rd HRD.out s _ (fun d nm => mkdirF_rd HRD.out d nm); rw [HST.out] at hrd; exact hrd)
set_option maxRecDepth 100000 in
set_option maxHeartbeats 4000000 in
theorem done_rmdir (hc : c ≤ 880) (hcap : capN = 8) (hrd : Rd ns) (h : PV W (fun _ => False) vb tb fb sb rv rt rs ns ns c c w) (n : Int) (hn : (Lit.int .i64 n).wf = true) (s t : Txt) (hs : s.length ≤ 100000) (ht : t.length ≤ 100000) (v : Value) (bs : List Int) (hv : ArgB W v bs) (hb6 : bs.length ≤ 1000000) :
    Calls Tryz.prog 21 #[.pointer (some ⟨vb, 0, none⟩), .pointer (some ⟨rv, 0, none⟩), .agg #[.int .i64 4, .int .i64 n, .string (B s), .string (B t), v]] w (DoneV W vb tb fb sb rv rt rs c) := by
  have HM : Hid (Dv W vb tb fb sb rv rt rs w.heap.size #[.int .i64 4, .int .i64 n, .string (B s), .string (B t), v] ns ns c c (w.alloc (.cells #[.int .i64 4, .int .i64 n, .string (B s), .string (B t), v] 51))) := Lib.hid ⟨(h.new _).less (fun k hk => Or.inr hk), Blk.new _ _ _⟩
  have HV := Lib.hid h.iv
  have HRD := Lib.hid hrd
  have HL := Lib.hid (And.intro hs (And.intro ht (And.intro hb6 (And.intro hn hcap))))
  have HA := Lib.hid hv
  obtain ⟨a, cc, rfl, -, -⟩ := hv
  generalize hbl : bs.length = bl at *
  obtain ⟨S, hS⟩ : ∃ S, B s = S := ⟨_, rfl⟩
  obtain ⟨T, hT⟩ : ∃ T, B t = T := ⟨_, rfl⟩
  rw [hS, hT] at HM ⊢
  have HS := Lib.hid (And.intro hS hT)
  have HBL := Lib.hid hbl
  clear hrd h hS hT hs ht hn hb6 hbl
  go_enter Tryz.func21, Tryz.ntmps21
  go_upto_region 1 with (fail)
  have c1 := (HM.out.2).rd
  generalize w.alloc (.cells #[.int .i64 4, .int .i64 n, .string S, .string T, .slice a bl cc] 51) = wx at HM c1 ⊢
  generalize w.heap.size = bx at HM c1 ⊢
  try clear w
  obtain ⟨st, hst⟩ : ∃ st, atPar ns s (fun d nm => remF ns d nm true 11) = st := ⟨_, rfl⟩
  obtain ⟨r, ns'⟩ := st
  have HST := Lib.hid hst
  clear hst
  go_wp2_with (fail)
  clear c1
  refine region_J (JJ 3 8 (fun x y w1 => Dv W vb tb fb sb rv rt rs bx #[.int .i64 4, .int .i64 n, .string S, .string T, .slice a bl cc] (Sel x ns' ns) (Sel y ns' ns) (Sel x (c + 4) c) (Sel y (c + 4) c) w1)) (by kernel_rfl) (by kernel_rfl) ?_ ?_
  · exact HM.out.drewN 1
  · iterate 11
      apply wpJ_op rfl (by rfl)
      · intro f w1 hf hJ Q1 hQ
        have hD1 := (show Dv W vb tb fb sb rv rt rs bx #[.int .i64 4, .int .i64 n, .string S, .string T, .slice a bl cc] (Sel (f 3) ns' ns) (Sel (f 8) ns' ns) (Sel (f 3) (c + 4) c) (Sel (f 8) (c + 4) c) w1 from hJ)
        have c1 := (hD1.2).rd
        have q0 := hD1.q0
        have q1 := hD1.q1
        clear hD1
        simp only [Act.put, List.setIfInBounds_toArray, List.set_cons_zero, List.set_cons_succ] at hQ
        go_wp2_with (first
          | (go_at_call 27; refine (dv_l (JJ.one hJ hf.1) (fun lo hO hlf hls hlb => (by rw [← HS.out.1]; exact (Rmdir_is hO (show c ≤ 9000 by omega) s HL.out.1 r _ HST.out).mono fun _ _ hh => MadP.le hh (show c + 1 ≤ c + 4 by omega)))).mono ?_; rintro e w3 ⟨rfl, hM3⟩)
          | (go_at_call 59; refine (dv_r (JJ.two hJ hf.1) (fun O hO hOb => (by rw [← HS.out.1]; exact (vrmdir_is hO HV.out (show c ≤ 890 by omega) s HL.out.1 r _ HST.out).mono fun _ _ hh => VP.le hh (show c + 0 ≤ c + 4 by omega)))).mono ?_; rintro e w3 ⟨rfl, hM3⟩)
          | (go_at_call 55; refine (vnum_is _ _).mono ?_; rintro e w3 ⟨rfl, rfl⟩))
        first
          | exact hQ _ _ rfl (hJ.other (by decide) (by decide))
          | exact hQ _ _ rfl (JJ.fin1 hM3 (by decide))
          | exact hQ _ _ rfl (JJ.fin2 hM3 (by decide))
      simp only [Act.put, List.setIfInBounds_toArray, List.set_cons_zero, List.set_cons_succ]
    refine wpJ_nil ?_
    intro w3 hJ3
    have hM3 : Dv W vb tb fb sb rv rt rs bx #[.int .i64 4, .int .i64 n, .string S, .string T, .slice a bl cc] ns' ns' (c + 4) (c + 4) w3 := hJ3.over rfl rfl
    clear hJ3
    have HM3 := Lib.hid hM3
    clear hM3
    go_wp2_with (fail)
    go_ret
    simpa using Dv.fin HM3.out (by have hrd := atPar_rd HRD.out s _ (fun d nm => remF_rd HRD.out d nm true 11); rw [HST.out] at hrd; exact hrd)
set_option maxRecDepth 100000 in
set_option maxHeartbeats 4000000 in
theorem done_close (hc : c ≤ 880) (hcap : capN = 8) (hrd : Rd ns) (h : PV W (fun _ => False) vb tb fb sb rv rt rs ns ns c c w) (n : Int) (hn : (Lit.int .i64 n).wf = true) (s t : Txt) (hs : s.length ≤ 100000) (ht : t.length ≤ 100000) (v : Value) (bs : List Int) (hv : ArgB W v bs) (hb6 : bs.length ≤ 1000000) :
    Calls Tryz.prog 21 #[.pointer (some ⟨vb, 0, none⟩), .pointer (some ⟨rv, 0, none⟩), .agg #[.int .i64 7, .int .i64 n, .string (B s), .string (B t), v]] w (DoneV W vb tb fb sb rv rt rs c) := by
  have HM : Hid (Dv W vb tb fb sb rv rt rs w.heap.size #[.int .i64 7, .int .i64 n, .string (B s), .string (B t), v] ns ns c c (w.alloc (.cells #[.int .i64 7, .int .i64 n, .string (B s), .string (B t), v] 51))) := Lib.hid ⟨(h.new _).less (fun k hk => Or.inr hk), Blk.new _ _ _⟩
  have HV := Lib.hid h.iv
  have HRD := Lib.hid hrd
  have HL := Lib.hid (And.intro hs (And.intro ht (And.intro hb6 (And.intro hn hcap))))
  have HA := Lib.hid hv
  obtain ⟨a, cc, rfl, -, -⟩ := hv
  generalize hbl : bs.length = bl at *
  obtain ⟨S, hS⟩ : ∃ S, B s = S := ⟨_, rfl⟩
  obtain ⟨T, hT⟩ : ∃ T, B t = T := ⟨_, rfl⟩
  rw [hS, hT] at HM ⊢
  have HS := Lib.hid (And.intro hS hT)
  have HBL := Lib.hid hbl
  clear hrd h hS hT hs ht hn hb6 hbl
  go_enter Tryz.func21, Tryz.ntmps21
  go_upto_region 1 with (fail)
  have c1 := (HM.out.2).rd
  generalize w.alloc (.cells #[.int .i64 7, .int .i64 n, .string S, .string T, .slice a bl cc] 51) = wx at HM c1 ⊢
  generalize w.heap.size = bx at HM c1 ⊢
  try clear w
  obtain ⟨st, hst⟩ : ∃ st, closeF ns n = st := ⟨_, rfl⟩
  obtain ⟨r, ns'⟩ := st
  have HST := Lib.hid hst
  clear hst
  go_wp2_with (fail)
  clear c1
  refine region_J (JJ 4 12 (fun x y w1 => Dv W vb tb fb sb rv rt rs bx #[.int .i64 7, .int .i64 n, .string S, .string T, .slice a bl cc] (Sel x ns' ns) (Sel y ns' ns) (Sel x (c + 4) c) (Sel y (c + 4) c) w1)) (by kernel_rfl) (by kernel_rfl) ?_ ?_
  · exact HM.out.drewN 1
  · iterate 15
      apply wpJ_op rfl (by rfl)
      · intro f w1 hf hJ Q1 hQ
        have hD1 := (show Dv W vb tb fb sb rv rt rs bx #[.int .i64 7, .int .i64 n, .string S, .string T, .slice a bl cc] (Sel (f 4) ns' ns) (Sel (f 12) ns' ns) (Sel (f 4) (c + 4) c) (Sel (f 12) (c + 4) c) w1 from hJ)
        have c1 := (hD1.2).rd
        have q0 := hD1.q0
        have q1 := hD1.q1
        clear hD1
        simp only [Act.put, List.setIfInBounds_toArray, List.set_cons_zero, List.set_cons_succ] at hQ
        go_wp2_with (first
          | (go_at_call 24; refine (d_nodes (PV.dv hJ.1)).mono ?_; rintro e w3 ⟨rfl, rfl⟩)
          | (go_at_call 60; refine (dv_l (JJ.one hJ hf.1) (fun lo hO hlf hls hlb => (by exact (p_cl hO (show c ≤ 9000 by omega) n r _ HST.out).mono fun _ _ hh => MadP.le hh (show c + 1 ≤ c + 4 by omega)))).mono ?_; rintro e w3 ⟨rfl, hM3⟩)
          | (go_at_call 61; refine (dv_r (JJ.two hJ hf.1) (fun O hO hOb => (by exact (vclose_is hO HV.out (show c ≤ 890 by omega) (show c ≤ 9000 by omega) n r _ HST.out).mono fun _ _ hh => VP.le hh (show c + 0 ≤ c + 4 by omega)))).mono ?_; rintro e w3 ⟨rfl, hM3⟩)
          | (go_at_call 55; refine (vnum_is _ _).mono ?_; rintro e w3 ⟨rfl, rfl⟩))
        first
          | exact hQ _ _ rfl (hJ.other (by decide) (by decide))
          | exact hQ _ _ rfl (JJ.fin1 hM3 (by decide))
          | exact hQ _ _ rfl (JJ.fin2 hM3 (by decide))
      simp only [Act.put, List.setIfInBounds_toArray, List.set_cons_zero, List.set_cons_succ]
    refine wpJ_nil ?_
    intro w3 hJ3
    have hM3 : Dv W vb tb fb sb rv rt rs bx #[.int .i64 7, .int .i64 n, .string S, .string T, .slice a bl cc] ns' ns' (c + 4) (c + 4) w3 := hJ3.over rfl rfl
    clear hJ3
    have HM3 := Lib.hid hM3
    clear hM3
    go_wp2_with (fail)
    go_ret
    simpa using Dv.fin HM3.out (by have hrd := closeF_rd HRD.out n; rw [HST.out] at hrd; exact hrd)
set_option maxRecDepth 100000 in
set_option maxHeartbeats 4000000 in
theorem done_write (hc : c ≤ 880) (hcap : capN = 8) (hrd : Rd ns) (h : PV W (fun _ => False) vb tb fb sb rv rt rs ns ns c c w) (n : Int) (hn : (Lit.int .i64 n).wf = true) (s t : Txt) (hs : s.length ≤ 100000) (ht : t.length ≤ 100000) (v : Value) (bs : List Int) (hv : ArgB W v bs) (hb6 : bs.length ≤ 1000000) :
    Calls Tryz.prog 21 #[.pointer (some ⟨vb, 0, none⟩), .pointer (some ⟨rv, 0, none⟩), .agg #[.int .i64 8, .int .i64 n, .string (B s), .string (B t), v]] w (DoneV W vb tb fb sb rv rt rs c) := by
  have HM : Hid (Dv W vb tb fb sb rv rt rs w.heap.size #[.int .i64 8, .int .i64 n, .string (B s), .string (B t), v] ns ns c c (w.alloc (.cells #[.int .i64 8, .int .i64 n, .string (B s), .string (B t), v] 51))) := Lib.hid ⟨(h.new _).less (fun k hk => Or.inr hk), Blk.new _ _ _⟩
  have HV := Lib.hid h.iv
  have HRD := Lib.hid hrd
  have HL := Lib.hid (And.intro hs (And.intro ht (And.intro hb6 (And.intro hn hcap))))
  have HA := Lib.hid hv
  obtain ⟨a, cc, rfl, -, -⟩ := hv
  generalize hbl : bs.length = bl at *
  obtain ⟨S, hS⟩ : ∃ S, B s = S := ⟨_, rfl⟩
  obtain ⟨T, hT⟩ : ∃ T, B t = T := ⟨_, rfl⟩
  rw [hS, hT] at HM ⊢
  have HS := Lib.hid (And.intro hS hT)
  have HBL := Lib.hid hbl
  clear hrd h hS hT hs ht hn hb6 hbl
  go_enter Tryz.func21, Tryz.ntmps21
  go_upto_region 1 with (fail)
  have c1 := (HM.out.2).rd
  generalize w.alloc (.cells #[.int .i64 8, .int .i64 n, .string S, .string T, .slice a bl cc] 51) = wx at HM c1 ⊢
  generalize w.heap.size = bx at HM c1 ⊢
  try clear w
  obtain ⟨st, hst⟩ : ∃ st, wrF ns 8 n 0 bs = st := ⟨_, rfl⟩
  obtain ⟨r, ns'⟩ := st
  have HST := Lib.hid hst
  clear hst
  go_wp2_with (fail)
  clear c1
  refine region_J (JJ 6 16 (fun x y w1 => Dv W vb tb fb sb rv rt rs bx #[.int .i64 8, .int .i64 n, .string S, .string T, .slice a bl cc] (Sel x ns' ns) (Sel y ns' ns) (Sel x (c + 4) c) (Sel y (c + 4) c) w1)) (by kernel_rfl) (by kernel_rfl) ?_ ?_
  · exact HM.out.drewN 1
  · iterate 19
      apply wpJ_op rfl (by rfl)
      · intro f w1 hf hJ Q1 hQ
        have hD1 := (show Dv W vb tb fb sb rv rt rs bx #[.int .i64 8, .int .i64 n, .string S, .string T, .slice a bl cc] (Sel (f 6) ns' ns) (Sel (f 16) ns' ns) (Sel (f 6) (c + 4) c) (Sel (f 16) (c + 4) c) w1 from hJ)
        have c1 := (hD1.2).rd
        have q0 := hD1.q0
        have q1 := hD1.q1
        clear hD1
        simp only [Act.put, List.setIfInBounds_toArray, List.set_cons_zero, List.set_cons_succ] at hQ
        go_wp2_with (first
          | (go_at_call 12; refine (d_store (PV.dv hJ.1)).mono ?_; rintro e w3 ⟨rfl, rfl⟩)
          | (go_at_call 13; refine (dv_l (JJ.one hJ hf.1) (fun lo hO hlf hls hlb => (by exact (p_wr hO hJ.1.bel hlb hls n HL.out.2.2.2.1 0 bs (by have h1 := HL.out.2.2.1; have h2 := HBL.out; omega) _ HA.out r _ (by rw [HL.out.2.2.2.2]; exact HST.out)).mono fun _ _ hh => MadP.le hh (show c + 0 ≤ c + 4 by omega)))).mono ?_; rintro e w3 ⟨rfl, hM3⟩)
          | (go_at_call 62; refine (dv_r (JJ.two hJ hf.1) (fun O hO hOb => (by exact (vwrite_is hO (show c ≤ 1000 by omega) n 0 bs (by have h1 := HL.out.2.2.1; have h2 := HBL.out; omega) _ (q_src hJ.1.bel hOb HA.out) r _ HST.out).mono fun _ _ hh => VP.le hh (show c + 0 ≤ c + 4 by omega)))).mono ?_; rintro e w3 ⟨rfl, hM3⟩)
          | (go_at_call 55; refine (vnum_is _ _).mono ?_; rintro e w3 ⟨rfl, rfl⟩))
        first
          | exact hQ _ _ rfl (hJ.other (by decide) (by decide))
          | exact hQ _ _ rfl (JJ.fin1 hM3 (by decide))
          | exact hQ _ _ rfl (JJ.fin2 hM3 (by decide))
      simp only [Act.put, List.setIfInBounds_toArray, List.set_cons_zero, List.set_cons_succ]
    refine wpJ_nil ?_
    intro w3 hJ3
    have hM3 : Dv W vb tb fb sb rv rt rs bx #[.int .i64 8, .int .i64 n, .string S, .string T, .slice a bl cc] ns' ns' (c + 4) (c + 4) w3 := hJ3.over rfl rfl
    clear hJ3
    have HM3 := Lib.hid hM3
    clear hM3
    go_wp2_with (fail)
    go_ret
    simpa using Dv.fin HM3.out (by have hrd := wrF_rd HRD.out 8 n 0 bs; rw [HST.out] at hrd; exact hrd)
set_option maxRecDepth 100000 in
set_option maxHeartbeats 4000000 in
theorem done_open (hc : c ≤ 880) (hcap : capN = 8) (hrd : Rd ns) (h : PV W (fun _ => False) vb tb fb sb rv rt rs ns ns c c w) (n : Int) (hn : (Lit.int .i64 n).wf = true) (s t : Txt) (hs : s.length ≤ 100000) (ht : t.length ≤ 100000) (v : Value) (bs : List Int) (hv : ArgB W v bs) (hb6 : bs.length ≤ 1000000) :
    Calls Tryz.prog 21 #[.pointer (some ⟨vb, 0, none⟩), .pointer (some ⟨rv, 0, none⟩), .agg #[.int .i64 0, .int .i64 n, .string (B s), .string (B t), v]] w (DoneV W vb tb fb sb rv rt rs c) := by
  have HM : Hid (Dv W vb tb fb sb rv rt rs w.heap.size #[.int .i64 0, .int .i64 n, .string (B s), .string (B t), v] ns ns c c (w.alloc (.cells #[.int .i64 0, .int .i64 n, .string (B s), .string (B t), v] 51))) := Lib.hid ⟨(h.new _).less (fun k hk => Or.inr hk), Blk.new _ _ _⟩
  have HV := Lib.hid h.iv
  have HRD := Lib.hid hrd
  have HL := Lib.hid (And.intro hs (And.intro ht (And.intro hb6 (And.intro hn hcap))))
  have HA := Lib.hid hv
  obtain ⟨a, cc, rfl, -, -⟩ := hv
  generalize hbl : bs.length = bl at *
  obtain ⟨S, hS⟩ : ∃ S, B s = S := ⟨_, rfl⟩
  obtain ⟨T, hT⟩ : ∃ T, B t = T := ⟨_, rfl⟩
  rw [hS, hT] at HM ⊢
  have HS := Lib.hid (And.intro hS hT)
  have HBL := Lib.hid hbl
  clear hrd h hS hT hs ht hn hb6 hbl
  go_enter Tryz.func21, Tryz.ntmps21
  go_upto_region 1 with (fail)
  have c1 := (HM.out.2).rd
  generalize w.alloc (.cells #[.int .i64 0, .int .i64 n, .string S, .string T, .slice a bl cc] 51) = wx at HM c1 ⊢
  generalize w.heap.size = bx at HM c1 ⊢
  try clear w
  obtain ⟨st, hst⟩ : ∃ st, openF ns s n = st := ⟨_, rfl⟩
  obtain ⟨m, r, ns'⟩ := st
  have HST := Lib.hid hst
  clear hst
  have hmk := dv_l HM.out (fun lo hO hlf hls hlb => (Open_is hO (by omega) s HL.out.1 n m r _ HST.out).mono fun _ _ hh => MadP.le hh (show c + 3 ≤ c + 4 by omega))
  rw [HS.out.1] at hmk
  go_upto_region 5 with (first
    | (go_at_call 18; (with_reducible refine hmk.mono ?_); rintro e w2 ⟨rfl, hM2⟩; have hqk := dv_r hM2 (fun O hO hOb => (vopen_is hO HV.out (by omega) (by omega) s HL.out.1 n m r _ HST.out).mono fun _ _ hh => VP.le hh (show c + 1 ≤ c + 4 by omega)); rw [HS.out.1] at hqk; clear hmk c1; have c1 := (hM2.2).rd; clear hM2)
    | (go_at_call 54; (with_reducible refine hqk.mono ?_); rintro e w3 ⟨rfl, hM3⟩; clear hqk; have H3 := Lib.hid hM3; clear hM3))
  go_wp2_with (go_at_call 55; refine (vnum_is _ _).mono ?_; rintro e w3 ⟨rfl, rfl⟩)
  go_ret
  simpa using Dv.fin H3.out (by have hrd := openF_rd HRD.out s n; rw [HST.out] at hrd; exact hrd)
end
end Go.Proofs.YtchnjfmimpikcaaGreatDoor
/-
  Both vfs tell the same of a path: the walks of SameEntries, OverEntries, 'same'.
-/
namespace Go.Proofs.YtchnjfmimpikcaaGreatDoor
set_option linter.unusedSimpArgs false
set_option linter.unusedVariables false
open Go.RowKit Own RegC Three Two
open RegJ hiding Up
open RegF hiding put_size
open Go.Lib hiding intOf

def SmP (w : World) (e : Ending) (w' : World) : Prop := e = .returned (.bool true) ∧ Below w.heap.size w w'
set_option maxRecDepth 100000 in
theorem sameE_is {w : World} {a1 a2 : Option Addr} {es : List En} (n c1 c2 : Nat) (h1 : Rd2 w a1 (es.map enV)) (h2 : Rd2 w a2 (es.map enV)) (hn : es.length = n) (hm : n ≤ 1000) :
    Calls Tryz.prog 28 #[.slice a1 n c1, .slice a2 n c2] w (fun e w' => e = .returned (.bool true) ∧ ∃ q, w' = w.drewN q) := by
  have HR := Lib.hid (And.intro h1 (And.intro h2 hn))
  clear h1 h2 hn
  go_enter Tryz.func28, Tryz.ntmps28
  go_wp2_with (fail)
  go_loopw [5] (fun ix wr => ∃ i q : Nat, i ≤ n ∧ ix = .int .i64 i ∧ wr = w.drewN q) (fun ix _ => n - (intOf ix).toNat)
  case atStart => exact ⟨0, 0, Nat.zero_le _, rfl, rfl⟩
  case round =>
    obtain ⟨i, q, hi, rfl, rfl⟩ := hrel
    by_cases hil : i < n
    · obtain ⟨x, hx⟩ : ∃ x, es[i]? = some x := ⟨es[i]'(by rw [HR.out.2.2]; exact hil), List.getElem?_eq_getElem _⟩
      obtain ⟨g, rfl, k0, k1⟩ := HR.out.1 i (enV x) (by rw [List.getElem?_map, hx]; rfl)
      obtain ⟨g2, rfl, k2, k3⟩ := HR.out.2.1 i (enV x) (by rw [List.getElem?_map, hx]; rfl)
      have k0' : w.cell? ⟨g, i * 2, none⟩ = some (.string (B x.1)) := k0
      have k1' : w.cell? ⟨g, i * 2 + 1, none⟩ = some (.int .i64 x.2) := k1
      have k2' : w.cell? ⟨g2, i * 2, none⟩ = some (.string (B x.1)) := k2
      have k3' : w.cell? ⟨g2, i * 2 + 1, none⟩ = some (.int .i64 x.2) := k3
      clear hx k0 k1 k2 k3
      have d1 : decide ((i : Int) < (n : Int)) = true := by simp; omega
      have i1 : (i : Int) < (n : Int) := by omega
      have i2 : (0 : Int) ≤ i := by omega
      generalize B x.1 = s at *
      generalize x.2 = y at *
      go_wp2_with (fail)
      go_quiet (fail)
      go_wp2_with (fail)
      go_roundw
      case rel => exact ⟨i + 1, q + nq, by omega, by go_num, by first | rfl | rw [World.drewN_drewN]⟩
      case measure => simp [intOf]; omega
    · have d1 : decide ((i : Int) < (n : Int)) = false := by simp; omega
      have d2 : decide (i < n) = false := by simp; omega
      clear hil hi
      go_wp2_with (fail)
      go_ret
      exact ⟨rfl, q, rfl⟩
def ovE : En := ([], -9)
def OvP (b : Option Nat) (w : World) (e : Ending) (w' : World) : Prop := (∃ v, e = .returned v) ∧ Upd (fun k => b = some k) w w'
theorem wp_ovE {ops : Array Oper} {rest : List Oper} {o : Oper} {a : Act} {Q : Exit → Act → World → Prop} {wr : World} (hgd : o.guard = none) (s x : Operand)
    (ho : o.op = .call { callee := .builtin .append, args := #[s, x], argTypes := #[54, 54] }) (v : Value) (l : List V2) (b : Option Nat) (hr : Row2 wr 118 v l b) (hl : l.length ≤ 2000)
    (hs : a.eval s = v) (hx : a.eval x = .slice (some ⟨wr.heap.size, 0, none⟩) 1 1) (h : ∀ v' w', Upd (fun k => b = some k) wr w' → wpList Tryz.prog ops Q rest (a.put o.dst v') w') :
    wpList Tryz.prog ops Q (o :: rest) a (wr.alloc (.cells #[.string ⟨#[]⟩, .int .i64 (-9)] 118)) := by
  refine wp_app2 hgd s x 54 118 _ 24 infoEntry rfl (by decide) Tryz.underlying54 ho v l b hs (hr.below ((Below.refl _ _).alloc (Nat.le_refl _) _)) ⟨wr.heap.size, 0, none⟩ 1 1 [enV ovE] rfl (by decide) hx ?_ (one_en [ovE]) (by rw [List.length_cons, List.length_nil]; omega) ?_
  · intro j u hj
    rw [Two.add0, (Blk.new wr #[.string ⟨#[]⟩, .int .i64 (-9)] 118).rd, Nat.zero_add]
    exact List.getElem?_toArray.trans hj
  · intro v' w' b' hr' hb' hu'
    exact h v' w' (((Upd.refl (fun k => b = some k) wr).alloc _).trans hu' (fun _ _ h => h))
set_option maxRecDepth 100000 in
theorem overE_is {w : World} {a : Option Addr} {n c : Nat} {xs : List V2} {b : Option Nat} (h : Row2 w 118 (.slice a n c) xs b) (hlen : xs.length ≤ 1000) :
    Calls Tryz.prog 67 #[.slice a n c] w (OvP b w) := by
  have h0 := h
  rcases h with ⟨hv, rfl, rfl⟩ | ⟨g, cap, rest, hv, rfl, hB, hc, hm⟩
  · cases hv
    have HR := Lib.hid h0
    clear h0
    go_enter Tryz.func67, Tryz.ntmps67
    go_wp2
    go_loopw [2] (fun ix wr => ix = .int .i64 0 ∧ wr = w) (fun ix _ => 0)
    case atStart => exact ⟨rfl, rfl⟩
    case round =>
      obtain ⟨rfl, rfl⟩ := hrel
      go_wp2_with (at_builtin; refine wp_ovE rfl _ _ rfl _ [] none HR.out (by simp) rfl rfl ?_; intro v' w1 hu1)
      go_returns
      exact ⟨⟨_, rfl⟩, hu1⟩
  · simp only [Value.slice.injEq] at hv
    obtain ⟨rfl, hnl, rfl⟩ := hv
    have HB0 := Lib.hid (And.intro hnl (And.intro hB hc))
    have hgs := hB.lt
    rw [← hnl] at hlen
    clear hB hc hnl h0
    go_enter Tryz.func67, Tryz.ntmps67
    go_wp2
    go_loopw [2] (fun ix wr => ∃ (k : Nat) (ys : List V2), k ≤ n ∧ ix = .int .i64 k ∧ ys.length = n ∧ Blk wr g (cells2 ys ++ rest).toArray 118 ∧ Upd (fun j => some g = some j) w wr) (fun ix _ => n - (intOf ix).toNat)
    case atStart => exact ⟨0, xs, Nat.zero_le _, rfl, HB0.out.1.symm, HB0.out.2.1, Upd.refl _ _⟩
    case round =>
      obtain ⟨k, ys, hk, rfl, hyl, hB, hu⟩ := hrel
      have HY := Lib.hid (And.intro hyl hu)
      by_cases hkl : k < n
      · have d1 : decide ((k : Int) < (n : Int)) = true := by simp; omega
        have i1 : (k : Int) < (n : Int) := by omega
        obtain ⟨c1, c2⟩ := Two.blk_row hB k ys[k] (List.getElem?_eq_getElem (by omega))
        have nf := hB.nf
        have HB := Lib.hid (row2_set hB k (by omega) (enV ovE))
        generalize (ys[k]).1 = p at *
        generalize (ys[k]).2 = q at *
        clear hB hyl hu
        go_wp2_with (fail)
        go_roundw
        case rel => exact ⟨k + 1, ys.set k (enV ovE), by omega, by go_num, by rw [List.length_set, HY.out.1], HB.out, (HY.out.2.setCell (p := ⟨g, _, none⟩) (fun _ => rfl) _).setCell (p := ⟨g, _, none⟩) (fun _ => rfl) _⟩
        case measure => simp [intOf]; omega
      · have hkL : k = n := by omega
        subst hkL
        have d1 : decide ((k : Int) < (k : Int)) = false := by simp
        have hI : Row2 wr 118 (.slice (some ⟨g, 0, none⟩) k c) ys (some g) := Or.inr ⟨g, c, rest, by rw [hyl], rfl, hB, by have := HB0.out.2.2; rw [List.length_append, cells2_len] at this ⊢; rw [hyl, HB0.out.1]; exact this, hm⟩
        have HI := Lib.hid hI
        have HK := Lib.hid hyl
        clear hI hB hyl hu
        go_wp2_with (at_builtin; refine wp_ovE rfl _ _ rfl _ ys (some g) HI.out (by rw [HK.out]; omega) rfl rfl ?_; intro v' w1 hu1)
        go_returns
        exact ⟨⟨_, rfl⟩, HY.out.2.trans hu1 (fun _ _ h => h)⟩
/-- what List answers -/
def lsF (ns : NSt) (l : Txt) : List En × Int := if (walkR ns l).2 ≠ 0 then ([], (walkR ns l).2) else match dirAt ns (walkR ns l).1 with
  | none => ([], 11)
  | some nd => (nd.es, 0)
def LsP (es : List En) (r : Int) (w : World) (e : Ending) (w' : World) : Prop := ∃ a c b, e = .returned (.tuple #[.slice a es.length c, .int .i64 r]) ∧ Row2 w' 118 (.slice a es.length c) (es.map enV) b ∧ (∀ g, b = some g → w.heap.size ≤ g) ∧ Below w.heap.size w w'
theorem LsP.none {r : Int} {w w' : World} (hB : Below w.heap.size w w') : LsP [] r w (.returned (.tuple #[.slice none 0 0, .int .i64 r])) w' := ⟨_, _, _, rfl, Or.inl ⟨rfl, rfl, rfl⟩, fun g hg => (by cases hg), hB⟩
theorem LsP.some {r : Int} {w w' : World} {es : List En} {v : Value} {b : Option Nat} (hR : Row2 w' 118 v (es.map enV) b) (hb : ∀ g, b = Option.some g → w.heap.size ≤ g) (hB : Below w.heap.size w w') : LsP es r w (.returned (.tuple #[v, .int .i64 r])) w' := by
  obtain ⟨a, c, hv⟩ := hR.slice
  rw [List.length_map] at hv
  subst hv
  exact ⟨a, c, b, rfl, hR, hb, hB⟩
theorem dirAt_nat {ns : NSt} {id : Int} {nd : Nd} (h : dirAt ns id = some nd) : ∃ i : Nat, id = i ∧ ns i = Option.some nd ∧ nd.dir = true := dirAt_some h
section
variable {w : World} {vb tb c : Nat} {ns : NSt} {lo : Lo} {O : Nat → Prop} {rv rt rs N : Nat}
theorem pls_is [Inhabited CapT] (h : VV w vb tb ns lo c) (l : Txt) (hl : l.length ≤ 100000) (es : List En) (r : Int) (hr : lsF ns l = (es, r)) :
    Calls Tryz.prog 23 #[.pointer (some ⟨vb, 0, none⟩), .string (B l)] w (LsP es r w) := by
  unfold lsF at hr
  obtain ⟨a, e0, hw⟩ : ∃ a e0, walkR ns l = (a, e0) := ⟨_, _, rfl⟩
  rw [hw] at hr
  simp only at hr
  by_cases he : e0 = 0
  · subst he
    rw [if_neg (by simp)] at hr
    cases hd : dirAt ns a with
    | none =>
      rw [hd] at hr; cases hr
      refine (lst_no h l hl a hw hd).mono ?_
      rintro e w' ⟨rfl, hB⟩
      exact LsP.none hB
    | some nd =>
      rw [hd] at hr; cases hr
      obtain ⟨i, rfl, hi, hdd⟩ := dirAt_nat hd
      refine (lst_yes h l hl i nd hi hdd hw).mono ?_
      rintro e w' ⟨w1, hB, v, b, rfl, h1, h2, h3⟩
      exact LsP.some h1 (fun g hg => by have := h2 g hg; have := hB.size; omega) (hB.trans (h3.mono hB.size))
  · rw [if_pos he] at hr; cases hr
    refine (lst_err h l hl a _ hw he).mono ?_
    rintro e w' ⟨rfl, hB⟩
    exact LsP.none hB
theorem qls_is (h : RV w O rv rt rs 8 N ns) (hV : IV ns c) (l : Txt) (hl : l.length ≤ 100000) (es : List En) (r : Int) (hr : lsF ns l = (es, r)) :
    Calls Tryz.prog 65 #[.pointer (some ⟨rv, 0, none⟩), .string (B l)] w (LsP es r w) := by
  unfold lsF at hr
  obtain ⟨a, e0, hw⟩ : ∃ a e0, walkR ns l = (a, e0) := ⟨_, _, rfl⟩
  rw [hw] at hr
  simp only at hr
  by_cases he : e0 = 0
  · subst he
    rw [if_neg (by simp)] at hr
    cases hd : dirAt ns a with
    | none =>
      rw [hd] at hr; cases hr
      refine (vlist_no h hV l hl a 0 11 hw (Or.inr ⟨rfl, hd, rfl⟩)).mono ?_
      rintro e w' ⟨rfl, hB⟩
      exact LsP.none hB
    | some nd =>
      rw [hd] at hr; cases hr
      obtain ⟨i, rfl, hi, hdd⟩ := dirAt_nat hd
      refine (vlist_yes h hV l hl i nd hi hdd hw).mono ?_
      rintro e w' ⟨v, b, rfl, h1, h2, h3⟩
      exact LsP.some h1 h2 h3
  · rw [if_pos he] at hr; cases hr
    refine (vlist_no h hV l hl a _ _ hw (Or.inl ⟨he, rfl⟩)).mono ?_
    rintro e w' ⟨rfl, hB⟩
    exact LsP.none hB
theorem lsF_le (hV : IV ns c) {l : Txt} {es : List En} {r : Int} (hr : lsF ns l = (es, r)) (h : RV w O rv rt rs 8 N ns) : es.length ≤ 8 := by
  unfold lsF at hr
  split at hr
  · cases hr; exact Nat.zero_le _
  · split at hr
    · cases hr; exact Nat.zero_le _
    · rename_i nd hd
      cases hr
      obtain ⟨i, -, hi, -⟩ := dirAt_nat hd
      obtain ⟨vs, hT⟩ := h.tab
      exact (hT.row i nd hi).2
end
section
variable [Inhabited CapT] {W w : World} {E : Nat → Prop} {vb tb fb sb rv rt rs c : Nat} {ns : NSt}
theorem PV.q0 (h : PV W E vb tb fb sb rv rt rs ns ns c c w) : w.cell? ⟨rv, 0, none⟩ = some (.pointer (some ⟨rt, 0, none⟩)) := by
  obtain ⟨lo, O, k1, k2, k2s, k3, k4, k5, k6⟩ := h.ex
  exact k3.c0
theorem pv_walk (h : PV W E vb tb fb sb rv rt rs ns ns c c w) (l : Txt) (hl : l.length ≤ 100000) (a r : Int) (hr : walkR ns l = (a, r)) : Calls Tryz.prog 11 #[.pointer (some ⟨vb, 0, none⟩), .string (B l)] w fun e w' => e = .returned (.tuple #[.int .i64 a, .int .i64 r]) ∧ Below w.heap.size w w' := by
  obtain ⟨lo, O, k1, k2, k2s, k3, k4, k5, k6⟩ := h.ex
  exact walk_is k1.1 l hl a r hr
theorem qv_walk (h : PV W E vb tb fb sb rv rt rs ns ns c c w) (l : Txt) (hl : l.length ≤ 100000) (a r : Int) (hr : walkR ns l = (a, r)) : Calls Tryz.prog 64 #[.pointer (some ⟨rv, 0, none⟩), .string (B l)] w fun e w' => e = .returned (.tuple #[.int .i64 a, .int .i64 r]) ∧ Below w.heap.size w w' := by
  obtain ⟨lo, O, k1, k2, k2s, k3, k4, k5, k6⟩ := h.ex
  exact vwalk_is k3 k1.2 l hl a r hr
theorem pv_list (h : PV W E vb tb fb sb rv rt rs ns ns c c w) (l : Txt) (hl : l.length ≤ 100000) (es : List En) (r : Int) (hr : lsF ns l = (es, r)) : Calls Tryz.prog 23 #[.pointer (some ⟨vb, 0, none⟩), .string (B l)] w (LsP es r w) := by
  obtain ⟨lo, O, k1, k2, k2s, k3, k4, k5, k6⟩ := h.ex
  exact pls_is k1 l hl es r hr
theorem qv_list (h : PV W E vb tb fb sb rv rt rs ns ns c c w) (l : Txt) (hl : l.length ≤ 100000) (es : List En) (r : Int) (hr : lsF ns l = (es, r)) : Calls Tryz.prog 65 #[.pointer (some ⟨rv, 0, none⟩), .string (B l)] w (LsP es r w) := by
  obtain ⟨lo, O, k1, k2, k2s, k3, k4, k5, k6⟩ := h.ex
  exact qls_is k3 k1.2 l hl es r hr
theorem pv_le (h : PV W E vb tb fb sb rv rt rs ns ns c c w) {l : Txt} {es : List En} {r : Int} (hr : lsF ns l = (es, r)) : es.length ≤ 8 := by
  obtain ⟨lo, O, k1, k2, k2s, k3, k4, k5, k6⟩ := h.ex
  exact lsF_le k1.2 hr k3
theorem qv_len (h : PV W E vb tb fb sb rv rt rs ns ns c c w) : Calls Tryz.prog 66 #[.pointer (some ⟨rt, 0, none⟩)] w fun e w' => e = .returned (.int .i64 (lenN ns 16)) ∧ w = w' := by
  obtain ⟨lo, O, k1, k2, k2s, k3, k4, k5, k6⟩ := h.ex
  exact vlen_is k3
set_option maxRecDepth 100000 in
set_option maxHeartbeats 4000000 in
theorem same_v (h : PV W E vb tb fb sb rv rt rs ns ns c c w) (l : Txt) (hl : l.length ≤ 100000) :
    Calls Tryz.prog 22 #[.pointer (some ⟨vb, 0, none⟩), .pointer (some ⟨rv, 0, none⟩), .string (B l)] w (SmP w) := by
  obtain ⟨a, e0, hw⟩ : ∃ a e0, walkR ns l = (a, e0) := ⟨_, _, rfl⟩
  obtain ⟨es, r, hr⟩ : ∃ es r, lsF ns l = (es, r) := ⟨_, _, rfl⟩
  obtain ⟨L, hL⟩ : ∃ L, es.length = L := ⟨_, rfl⟩
  have H := Lib.hid h
  have k1 := pv_walk h l hl a e0 hw
  have k2 := fun w1 (hB : Below w.heap.size w w1) => qv_walk (H.out.below hB) l hl a e0 hw
  have k3 := fun w1 (hB : Below w.heap.size w w1) => pv_list (H.out.below hB) l hl es r hr
  have k4 := fun w1 (hB : Below w.heap.size w w1) => qv_list (H.out.below hB) l hl es r hr
  have h8 := pv_le h hr
  unfold LsP at k3 k4
  rw [hL] at k3 k4 h8
  have HL := Lib.hid (And.intro hL h8)
  clear h hw hr hL hl h8
  generalize B l = s at *
  obtain ⟨LN, hLN⟩ : ∃ LN, lenN ns 16 = LN := ⟨_, rfl⟩
  have HN := Lib.hid hLN
  clear hLN
  have x1 : (a == a) = true := by simp
  have x2 : (e0 == e0) = true := by simp
  have x3 : (r == r) = true := by simp
  have x4 : (LN == LN) = true := by simp
  go_enter Tryz.func22, Tryz.ntmps22
  go_upto_region 5 with (first
    | (go_at_call 11; (with_reducible refine k1.mono ?_); rintro e w1 ⟨rfl, hB⟩; have k2 := k2 w1 hB; have H1 := Lib.hid hB; clear k1 hB)
    | (go_at_call 64; (with_reducible refine k2.mono ?_); rintro e w2 ⟨rfl, hB⟩; have H2 := Lib.hid (H1.out.trans (hB.mono H1.out.size)); have k3 := k3 w2 H2.out; clear k2 hB)
    | (go_at_call 23; (with_reducible refine k3.mono ?_); rintro e w3 ⟨a3, c3, b3, rfl, hR, hb, hB⟩; have H3 := Lib.hid (And.intro hR (And.intro hb (And.intro hB (H2.out.trans (hB.mono H2.out.size))))); have k4 := k4 w3 H3.out.2.2.2; clear k3 hR hb hB)
    | (go_at_call 65; (with_reducible refine k4.mono ?_); rintro e w4 ⟨a4, c4, b4, rfl, hR, hb, hB⟩; have H4 := Lib.hid (And.intro hR (And.intro hb (And.intro hB (H3.out.2.2.2.trans (hB.mono H3.out.2.2.2.size))))); clear k4 hR hb hB))
  have HP := Lib.hid (H.out.below H4.out.2.2.2)
  have q0 := fun q => (HP.out.drewN q).q0
  have hse := fun q => sameE_is (w := w4.drewN q) (es := es) L c3 c4 (((H3.out.1.below H4.out.2.2.1).below (((Upd.refl (fun _ => False) w4).drewN q).below (Nat.le_refl _) (fun _ h => h.elim))).rd) ((H4.out.1.below (((Upd.refl (fun _ => False) w4).drewN q).below (Nat.le_refl _) (fun _ h => h.elim))).rd) HL.out.1 (by have := HL.out.2; omega)
  have hno := fun q => d_nodes (HP.out.drewN q).dv
  have hl1 := fun q => d_len (HP.out.drewN q).dv LN (by rw [HN.out])
  have hl2 := fun q => qv_len (HP.out.drewN q)
  rw [HN.out] at hl2
  have q00 := q0 0
  go_quiet (first
    | (go_at_call 55; exact Calls.quiet_of_same ((vnum_is _ _).mono fun e w2 ⟨h1, h2⟩ => ⟨h1, h2.symm⟩))
    | (go_at_call 28; exact Calls.quiet_of ((hse _).mono fun e w2 ⟨h1, h2⟩ => ⟨h1, h2⟩))
    | (go_at_call 24; exact Calls.quiet_of_same ((hno _).mono fun e w2 ⟨h1, h2⟩ => ⟨h1, h2.symm⟩))
    | (go_at_call 25; exact Calls.quiet_of_same ((hl1 _).mono fun e w2 ⟨h1, h2⟩ => ⟨h1, h2.symm⟩))
    | (go_at_call 66; exact Calls.quiet_of_same ((hl2 _).mono fun e w2 ⟨h1, h2⟩ => ⟨h1, h2.symm⟩)))
  clear hse hno hl1 hl2 q0 q00
  have hov := overE_is (w := w4.drewN nq) ((H3.out.1.below H4.out.2.2.1).below (((Upd.refl (fun _ => False) w4).drewN nq).below (Nat.le_refl _) (fun _ h => h.elim))) (by rw [List.length_map, HL.out.1]; have := HL.out.2; omega)
  go_wp2_with (go_at_call 67; (with_reducible refine hov.mono ?_); rintro e w7 ⟨⟨v7, rfl⟩, hu⟩; have H7 := Lib.hid hu; clear hu hov)
  go_ret
  refine ⟨rfl, (H4.out.2.2.2.trans ((((Upd.refl (fun _ => False) w4).drewN nq).below (Nat.le_refl _) (fun _ h => h.elim)).mono H4.out.2.2.2.size)).trans (H7.out.below (by have := H4.out.2.2.2.size; simpa using this) (fun k hk => ?_))⟩
  have := H3.out.2.1 k hk; have := H2.out.size; omega
end
end Go.Proofs.YtchnjfmimpikcaaGreatDoor
/-
  An act of both vfs: Stat, and any act.
-/
namespace Go.Proofs.YtchnjfmimpikcaaGreatDoor
set_option linter.unusedSimpArgs false
set_option linter.unusedVariables false
open Go.RowKit Own RegC Three Two
open RegJ hiding Up
open RegF hiding put_size
open Go.Lib hiding intOf

theorem statF_form (ns : NSt) (l : Txt) : ∃ i1 i2 b3 i4 r, statF ns l = (#[.int .i64 i1, .int .i64 i2, .bool b3, .int .i64 i4], r) := by
  unfold statF
  split
  · exact ⟨_, _, _, _, _, rfl⟩
  · unfold getA
    split
    · exact ⟨_, _, _, _, _, rfl⟩
    · exact ⟨_, _, _, _, _, rfl⟩
section
variable [Inhabited CapT] {W w : World} {vb tb fb sb rv rt rs c : Nat} {ns : NSt} {E : Nat → Prop}
theorem pv_stat (h : PV W E vb tb fb sb rv rt rs ns ns c c w) (l : Txt) (hl : l.length ≤ 100000) (A : Array Value) (r : Int) (hr : statF ns l = (A, r)) : Calls Tryz.prog 14 #[.pointer (some ⟨vb, 0, none⟩), .string (B l)] w fun e w' => e = .returned (.tuple #[.agg A, .int .i64 r]) ∧ Below w.heap.size w w' := by
  obtain ⟨lo, O, k1, k2, k2s, k3, k4, k5, k6⟩ := h.ex
  exact Stat_is k1 l hl A r hr
theorem qv_stat (h : PV W E vb tb fb sb rv rt rs ns ns c c w) (hc : c ≤ 1000) (l : Txt) (hl : l.length ≤ 100000) (A : Array Value) (r : Int) (hr : statF ns l = (A, r)) : Calls Tryz.prog 63 #[.pointer (some ⟨rv, 0, none⟩), .string (B l)] w fun e w' => e = .returned (.tuple #[.agg A, .int .i64 r]) ∧ Below w.heap.size w w' := by
  obtain ⟨lo, O, k1, k2, k2s, k3, k4, k5, k6⟩ := h.ex
  exact vstat_is k3 k1.2 hc l hl A r hr
set_option maxRecDepth 100000 in
set_option maxHeartbeats 4000000 in
theorem done_stat (hc : c ≤ 880) (hrd : Rd ns) (h : PV W (fun _ => False) vb tb fb sb rv rt rs ns ns c c w) (d : Int) (hd : ¬ d = 0 ∧ ¬ d = 1 ∧ ¬ d = 2 ∧ ¬ d = 3 ∧ ¬ d = 4 ∧ ¬ d = 7 ∧ ¬ d = 8) (n : Int) (s t : Txt) (hs : s.length ≤ 100000) (v : Value) (bs : List Int) (hv : ArgB W v bs) :
    Calls Tryz.prog 21 #[.pointer (some ⟨vb, 0, none⟩), .pointer (some ⟨rv, 0, none⟩), .agg #[.int .i64 d, .int .i64 n, .string (B s), .string (B t), v]] w (DoneV W vb tb fb sb rv rt rs c) := by
  have HM : Hid (Dv W vb tb fb sb rv rt rs w.heap.size #[.int .i64 d, .int .i64 n, .string (B s), .string (B t), v] ns ns c c (w.alloc (.cells #[.int .i64 d, .int .i64 n, .string (B s), .string (B t), v] 51))) := Lib.hid ⟨(h.new _).less (fun k hk => Or.inr hk), Blk.new _ _ _⟩
  obtain ⟨a, cc, rfl, -, -⟩ := hv
  obtain ⟨i1, i2, b3, i4, r, hr⟩ := statF_form ns s
  have HL := Lib.hid hs
  have HRD := Lib.hid hrd
  have HR := Lib.hid hr
  generalize hbl : bs.length = bl at *
  obtain ⟨S, hS⟩ : ∃ S, B s = S := ⟨_, rfl⟩
  obtain ⟨T, hT⟩ : ∃ T, B t = T := ⟨_, rfl⟩
  rw [hS, hT] at HM ⊢
  have HS := Lib.hid hS
  clear hrd h hS hT hs hbl hr
  go_enter Tryz.func21, Tryz.ntmps21
  go_upto_region 1 with (fail)
  have c1 := (HM.out.2).rd
  generalize w.alloc (.cells #[.int .i64 d, .int .i64 n, .string S, .string T, .slice a bl cc] 51) = wx at HM c1 ⊢
  generalize w.heap.size = bx at HM c1 ⊢
  try clear w
  obtain ⟨e0, e1, e2, e3, e4, e7, e8⟩ := hd
  have hfp := pv_stat HM.out.1 s HL.out _ r HR.out
  rw [HS.out] at hfp
  have x1 : (i1 == i1) = true := by simp
  have x2 : (i2 == i2) = true := by simp
  have x3 : (b3 == b3) = true := by simp
  have x4 : (i4 == i4) = true := by simp
  have x5 : (r == r) = true := by simp
  go_upto_region 19 with (go_at_call 14; (with_reducible refine hfp.mono ?_); rintro e w2 ⟨rfl, hB2⟩; have H2 := Lib.hid (HM.out.below hB2); clear hfp c1 hB2)
  have hA2 : Below w2.heap.size w2 (w2.alloc (.cells #[.int .i64 i1, .int .i64 i2, .bool b3, .int .i64 i4] 36)) := (Below.refl _ _).alloc (Nat.le_refl _) _
  have H3 := Lib.hid (And.intro (H2.out.below hA2) (Blk.new w2 #[.int .i64 i1, .int .i64 i2, .bool b3, .int .i64 i4] 36))
  clear hA2
  generalize w2.alloc (.cells #[.int .i64 i1, .int .i64 i2, .bool b3, .int .i64 i4] 36) = w3 at *
  generalize w2.heap.size = b2 at *
  have c1 := (H3.out.1.2).rd
  have hfq := qv_stat H3.out.1.1 (by omega) s HL.out _ r HR.out
  rw [HS.out] at hfq
  go_upto_region 20 with (go_at_call 63; (with_reducible refine hfq.mono ?_); rintro e w4 ⟨rfl, hB4⟩; have H4 := Lib.hid (And.intro (H3.out.1.below hB4) (Blk.below hB4 H3.out.2 H3.out.2.lt)); clear hfq c1 hB4)
  have hA4 : Below w4.heap.size w4 (w4.alloc (.cells #[.int .i64 i1, .int .i64 i2, .bool b3, .int .i64 i4] 36)) := (Below.refl _ _).alloc (Nat.le_refl _) _
  have H5 := Lib.hid (And.intro (H4.out.1.below hA4) (And.intro (Blk.below hA4 H4.out.2 H4.out.2.lt) (Blk.new w4 #[.int .i64 i1, .int .i64 i2, .bool b3, .int .i64 i4] 36)))
  clear hA4
  generalize w4.alloc (.cells #[.int .i64 i1, .int .i64 i2, .bool b3, .int .i64 i4] 36) = w5 at *
  generalize w4.heap.size = b4 at *
  have q1 := H5.out.2.1.rd
  have q2 := H5.out.2.2.rd
  go_wp2_with (go_at_call 55; refine (vnum_is _ _).mono ?_; rintro e w3 ⟨rfl, rfl⟩)
  go_ret
  have h2 : Dv W vb tb fb sb rv rt rs bx #[.int .i64 d, .int .i64 n, .string S, .string T, .slice a bl cc] ns ns (c + 4) (c + 4) w5 := ⟨H5.out.1.1.le (by omega) (by omega), H5.out.1.2⟩
  simpa using Dv.fin h2 HRD.out
theorem done_v (hc : c ≤ 880) (hcap : capN = 8) (hrd : Rd ns) (h : PV W (fun _ => False) vb tb fb sb rv rt rs ns ns c c w) (d n : Int) (hn : (Lit.int .i64 n).wf = true) (s t : Txt) (hs : s.length ≤ 100000) (ht : t.length ≤ 100000) (v : Value) (bs : List Int) (hv : ArgB W v bs) (hb6 : bs.length ≤ 1000000) :
    Calls Tryz.prog 21 #[.pointer (some ⟨vb, 0, none⟩), .pointer (some ⟨rv, 0, none⟩), .agg #[.int .i64 d, .int .i64 n, .string (B s), .string (B t), v]] w (DoneV W vb tb fb sb rv rt rs c) := by
  by_cases h0 : d = 0
  · subst h0; exact done_open hc hcap hrd h n hn s t hs ht v bs hv hb6
  by_cases h1 : d = 1
  · subst h1; exact done_link hc hcap hrd h n hn s t hs ht v bs hv hb6
  by_cases h2 : d = 2
  · subst h2; exact done_unlink hc hcap hrd h n hn s t hs ht v bs hv hb6
  by_cases h3 : d = 3
  · subst h3; exact done_mkdir hc hcap hrd h n hn s t hs ht v bs hv hb6
  by_cases h4 : d = 4
  · subst h4; exact done_rmdir hc hcap hrd h n hn s t hs ht v bs hv hb6
  by_cases h7 : d = 7
  · subst h7; exact done_close hc hcap hrd h n hn s t hs ht v bs hv hb6
  by_cases h8 : d = 8
  · subst h8; exact done_write hc hcap hrd h n hn s t hs ht v bs hv hb6
  exact done_stat hc hrd h d ⟨h0, h1, h2, h3, h4, h7, h8⟩ n s t hs v bs hv
end
end Go.Proofs.YtchnjfmimpikcaaGreatDoor
/-
  VfsScript: great, played, and the script's walk.
-/
namespace Go.Proofs.YtchnjfmimpikcaaGreatDoor
set_option linter.unusedSimpArgs false
set_option linter.unusedVariables false
open Go.RowKit Own RegC Three Two
open RegJ hiding Up
open RegF hiding put_size
open Go.Lib hiding intOf

/-- an act, as it lies -/
structure ActV (w : World) (av : Option Addr) (i : Nat) (g o : Nat) (d n : Int) (s t : Txt) (v : Value) (bs : List Int) : Prop where
  a : av = some ⟨g, o, none⟩
  k0 : w.cell? ⟨g, o + i * 5, none⟩ = some (.int .i64 d)
  k1 : w.cell? ⟨g, o + i * 5 + 1, none⟩ = some (.int .i64 n)
  k2 : w.cell? ⟨g, o + i * 5 + 2, none⟩ = some (.string (B s))
  k3 : w.cell? ⟨g, o + i * 5 + 3, none⟩ = some (.string (B t))
  k4 : w.cell? ⟨g, o + i * 5 + 4, none⟩ = some v
  arg : ArgB w v bs
  wf : (Lit.int .i64 n).wf = true
/-- the acts, as they lie -/
def ActsV (w : World) (av : Option Addr) (len : Nat) : Prop := ∀ i, i < len → ∃ g o d n s t v bs, ActV w av i g o d n s t v bs
/-- .. and are small -/
def ActsS (w : World) (av : Option Addr) (len : Nat) : Prop := ∀ i, i < len → ∃ g o d n s t v bs, ActV w av i g o d n s t v bs ∧ s.length ≤ 200 ∧ t.length ≤ 200 ∧ bs.length ≤ 600
def GrV (w : World) (av : Option Addr) (len most : Nat) (e : Ending) (w' : World) : Prop := ∃ b, e = .returned (.bool b) ∧ (b = false → len ≤ most ∧ ActsS w av len) ∧ w = w'
set_option maxRecDepth 100000 in
set_option maxHeartbeats 4000000 in
theorem great_v {w : World} {av : Option Addr} {len cap : Nat} (hA : ActsV w av len) (hm : len ≤ maxLen) (most : Nat) (hmo : most ≤ 1000) : Calls Tryz.prog 7 #[.slice av len cap, .int .i64 most] w (GrV w av len most) := by
  unfold maxLen at hm
  have HA := Lib.hid hA
  clear hA
  by_cases hl : len ≤ most
  · have d1 : decide ((len : Int) ≤ (most : Int)) = true := by simp; omega
    have d2 : decide ((len : Int) > (most : Int)) = false := by simp; omega
    have d2n : decide (len > most) = false := by simp; omega
    have d2m : decide (most < len) = false := by simp; omega
    have d1n : decide (len ≤ most) = true := by simp; omega
    go_enter Tryz.func7, Tryz.ntmps7
    go_wp2_with (fail)
    go_loopw [5] (fun v5 wr => ∃ i : Nat, i ≤ len ∧ v5 = .int .i64 i ∧ wr = w ∧ Hid (ActsS w av i)) (fun v5 _ => len - (intOf v5).toNat)
    case atStart => exact ⟨0, Nat.zero_le _, rfl, rfl, Lib.hid (fun j hj => by omega)⟩
    case round =>
      obtain ⟨i, hi, rfl, rfl, HS⟩ := hrel
      by_cases hil : i < len
      · obtain ⟨g, o, d, n, s, t, v, bs, hact⟩ := HA.out i hil
        have HC := Lib.hid hact
        obtain ⟨rfl, -, -, k2, k3, k4, ⟨a, cc, rfl, -, -⟩, -⟩ := hact
        have d5 : decide ((i : Int) < (len : Int)) = true := by simp; omega
        have i5 : (i : Int) < (len : Int) := by omega
        have i6 : (0 : Int) ≤ i := by omega
        have es := B_size s
        have et := B_size t
        obtain ⟨S, hS⟩ : ∃ S, B s = S := ⟨_, rfl⟩
        obtain ⟨T, hT⟩ : ∃ T, B t = T := ⟨_, rfl⟩
        obtain ⟨bl, hbl⟩ : ∃ bl, bs.length = bl := ⟨_, rfl⟩
        rw [hS] at k2 es
        rw [hT] at k3 et
        rw [hbl] at k4
        have HE := Lib.hid (And.intro es (And.intro et hbl))
        clear es et hbl hS hT
        by_cases hs : S.size > 200
        · have d6 : decide ((S.size : Int) > 200) = true := by simp; omega
          have d6n : decide (S.size > 200) = true := by simpa using hs
          clear hs
          go_wp2_with (fail)
          go_ret
          exact ⟨true, rfl, (fun h => by cases h), rfl⟩
        · have d6 : decide ((S.size : Int) > 200) = false := by simp; omega
          have d6n : decide (S.size > 200) = false := by simpa using hs
          by_cases ht : T.size > 200
          · have d7 : decide ((T.size : Int) > 200) = true := by simp; omega
            have d7n : decide (T.size > 200) = true := by simpa using ht
            clear hs ht
            go_wp2_with (fail)
            go_ret
            exact ⟨true, rfl, (fun h => by cases h), rfl⟩
          · have d7 : decide ((T.size : Int) > 200) = false := by simp; omega
            have d7n : decide (T.size > 200) = false := by simpa using ht
            by_cases hb : bl > 600
            · have d8 : decide ((bl : Int) > 600) = true := by simp; omega
              have d8n : decide (bl > 600) = true := by simpa using hb
              clear hs ht hb
              go_wp2_with (fail)
              go_ret
              exact ⟨true, rfl, (fun h => by cases h), rfl⟩
            · have d8 : decide ((bl : Int) > 600) = false := by simp; omega
              have d8n : decide (bl > 600) = false := by simpa using hb
              have HS2 := Lib.hid (show ActsS wr (some ⟨g, o, none⟩) (i + 1) from fun j hj => by
                rcases Nat.lt_or_ge j i with h1 | h1
                · exact HS.out j h1
                · obtain rfl : j = i := by omega
                  exact ⟨g, o, d, n, s, t, _, bs, HC.out, (by have := HE.out.1; omega), (by have := HE.out.2.1; omega), (by have := HE.out.2.2; omega)⟩)
              clear hs ht hb
              go_wp2_with (fail)
              go_roundw
              case rel => exact ⟨i + 1, by omega, by go_num, by trivial, HS2⟩
              case measure => simp [intOf]; omega
      · have d5 : decide ((i : Int) < (len : Int)) = false := by simp; omega
        have d5n : decide (i < len) = false := by simp; omega
        obtain rfl : i = len := by omega
        have HLL := Lib.hid hl
        clear hil hi
        go_wp2_with (fail)
        go_ret
        exact ⟨false, rfl, fun _ => ⟨HLL.out, HS.out⟩, rfl⟩
  · have d1 : decide ((len : Int) ≤ (most : Int)) = false := by simp; omega
    have d2 : decide ((len : Int) > (most : Int)) = true := by simp; omega
    have d1n : decide (len ≤ most) = false := by simp; omega
    have d2n : decide (len > most) = true := by simp; omega
    have d2m : decide (most < len) = true := by simp; omega
    have d5 : decide ((0 : Int) < (len : Int)) = true := by simp; omega
    have d5n : decide (0 < len) = true := by simp; omega
    have i5 : (0 : Int) < (len : Int) := by omega
    clear hl
    go_enter Tryz.func7, Tryz.ntmps7
    go_wp2_with (fail)
    go_loopw [5] (fun v5 wr => v5 = .int .i64 0 ∧ wr = w) (fun v5 _ => 0)
    case atStart => exact ⟨rfl, rfl⟩
    case round =>
      obtain ⟨rfl, rfl⟩ := hrel
      go_wp2_with (fail)
      go_ret
      exact ⟨true, rfl, (fun h => by cases h), rfl⟩
theorem ArgB.same {w : World} {v : Value} {bs : List Int} (h : ArgB w v bs) : ArgB w v bs := h
set_option maxRecDepth 100000 in
set_option maxHeartbeats 4000000 in
theorem script_v (av : Option Addr) (len cap : Nat) (w : World) (hm : len ≤ maxLen) (hA : ActsV w av len) (m0 : Int) (hm0 : w.cell? ⟨0, 0, none⟩ = some (.int .i64 m0)) :
    Calls Tryz.prog 5 #[.slice av len cap] w (AwP w) := by
  have HM := Lib.hid (show MC w from ⟨m0, hm0⟩)
  have hgr : Calls Tryz.prog 7 #[.slice av len cap, .int .i64 60] w (GrV w av len 60) := great_v (cap := cap) hA hm 60 (by omega)
  clear hA hm hm0
  letI : Inhabited CapT := capOf 8
  have hcap : capN = 8 := rfl
  have HC := Lib.hid hcap
  have hbo := both_v w HM.out hcap
  clear hcap
  go_enter Tryz.func5, Tryz.ntmps5
  go_upto_if 7 with (go_at_call 7; (with_reducible refine hgr.mono ?_); rintro e w' ⟨b, rfl, hb, rfl⟩; clear hgr; have HB := Lib.hid hb; clear hb)
  cases b with
  | true =>
    have haw := vawake w HM.out
    go_wp2_with (go_at_call 8; refine haw.mono ?_; rintro e w1 ⟨rfl, hB⟩; have H1 := Lib.hid hB; clear haw hB)
    go_ret
    exact ⟨rfl, H1.out⟩
  | false =>
    have HL := Lib.hid (HB.out rfl)
    clear HB
    go_wp2_with (go_at_call 17; (with_reducible refine hbo.mono ?_); rintro e w1 ⟨vb, tb, fb, sb, rv, rt, rs, rfl, hT⟩; have H1 := Lib.hid hT; clear hT hbo)
    go_loopw [5] (fun v5 wr => ∃ (i : Nat) (ns : NSt), i ≤ len ∧ v5 = .int .i64 i ∧ Hid (Rd ns ∧ PV w (fun _ => False) vb tb fb sb rv rt rs ns ns (4 * i) (4 * i) wr)) (fun v5 _ => len - (intOf v5).toNat)
    case atStart => exact ⟨0, ns0, Nat.zero_le _, rfl, Lib.hid ⟨rd0, H1.out⟩⟩
    case round =>
      obtain ⟨i, ns, hi, rfl, HS⟩ := hrel
      by_cases hil : i < len
      · obtain ⟨g, o, d, n, s, t, v, bs, hact, ls, lt, lb⟩ := HL.out.2 i hil
        have d5 : decide ((i : Int) < (len : Int)) = true := by simp; omega
        have i5 : (i : Int) < (len : Int) := by omega
        have i6 : (0 : Int) ≤ i := by omega
        have i7 : (len : Int) ≤ 60 := by have := HL.out.1; omega
        have HK := Lib.hid (And.intro hact (And.intro ls (And.intro lt lb)))
        have hdo := done_v (by have := HL.out.1; omega) HC.out HS.out.1 HS.out.2 d n hact.wf s t (by omega) (by omega) v bs hact.arg (by omega)
        have j0 := HS.out.2.cell hact.k0
        have j1 := HS.out.2.cell hact.k1
        have j2 := HS.out.2.cell hact.k2
        have j3 := HS.out.2.cell hact.k3
        have j4 := HS.out.2.cell hact.k4
        obtain ⟨rfl, k0, k1, k2, k3, k4, ⟨a, cc, rfl, -, -⟩, -⟩ := hact
        clear k0 k1 k4 ls lt lb
        have HT := Lib.hid (And.intro k2 k3)
        clear k2 k3
        obtain ⟨S, hS⟩ : ∃ S, B s = S := ⟨_, rfl⟩
        obtain ⟨T, hT⟩ : ∃ T, B t = T := ⟨_, rfl⟩
        have HST := Lib.hid (And.intro hS hT)
        rw [hS, hT] at hdo HT
        rw [hS] at j2
        rw [hT] at j3
        clear hS hT
        generalize bs.length = bl at hdo j4
        go_upto_if 50 with (first
          | (go_at_call 21; (with_reducible refine hdo.mono ?_); rintro e w2 ⟨rfl, ns2, hR2, hT2⟩; have HR2 := Lib.hid hR2; have H2 := Lib.hid hT2; clear hdo hT2 hR2 j0 j1 j2 j3 j4; have j2 := H2.out.cell HT.out.1; have hs1 := same_v H2.out s (by have := HK.out.2; omega); rw [HST.out.1] at hs1)
          | (go_at_call 22; (with_reducible refine hs1.mono ?_); rintro e w3 ⟨rfl, hB⟩; have H3 := Lib.hid (H2.out.below hB); clear hs1 hB j2; have j3 := H3.out.cell HT.out.2; have hs2 := same_v H3.out t (by have := HK.out.2; omega); rw [HST.out.2] at hs2)
          | (go_at_call 22; (with_reducible refine hs2.mono ?_); rintro e w4 ⟨rfl, hB⟩; have H4 := Lib.hid (H3.out.below hB); clear hs2 hB j3))
        go_wp2_with (fail)
        go_roundw
        case rel => exact ⟨i + 1, ns2, by omega, by go_num, Lib.hid ⟨HR2.out, (show PV w (fun _ => False) vb tb fb sb rv rt rs ns2 ns2 (4 * (i + 1)) (4 * (i + 1)) w4 from H4.out)⟩⟩
        case measure => simp [intOf]; omega
      · have d5 : decide ((i : Int) < (len : Int)) = false := by simp; omega
        have d5n : decide (i < len) = false := by simp; omega
        clear hil hi
        have hs1 := same_v HS.out.2 [47] (by simp)
        have e47 : B [47] = (⟨#[47]⟩ : ByteArray) := rfl
        rw [e47] at hs1
        go_wp2_with (first
          | (go_at_call 22; (with_reducible refine hs1.mono ?_); rintro e w3 ⟨rfl, hB⟩; have H3 := Lib.hid (HS.out.2.below hB); clear hs1 hB; have haw := d_aw H3.out.dv)
          | (go_at_call 8; (with_reducible refine haw.mono ?_); rintro e w7 ⟨rfl, hB⟩; have H7 := Lib.hid hB; clear haw hB))
        go_ret
        exact ⟨rfl, H7.out⟩
end Go.Proofs.YtchnjfmimpikcaaGreatDoor
