/-
  The vfs: a node is made and entered.
-/
import Derived.Test.YtchnjfmimpikcaaDoorV1
namespace Go.Proofs.YtchnjfmimpikcaaDoor
set_option linter.unusedSimpArgs false
set_option linter.unusedVariables false
open Go.RowKit Own RegJ Two
open Go.Lib hiding intOf

/-- where a name's place is -/
def plc (es : List En) (nm : Txt) : Nat := es.findIdx fun x => !(nlt x.1 nm)
theorem plc_at {es : List En} (hS : Srt es) (nm : Txt) : At es nm (plc es nm) := by
  obtain ⟨j, hj⟩ := at_ex hS nm
  have h1 : plc es nm = j := by
    have hle : plc es nm ≤ es.length := List.findIdx_le_length
    rcases Nat.lt_trichotomy (plc es nm) j with e | e | e
    · have h2 : plc es nm < es.length := by have := hj.1; omega
      have := List.findIdx_getElem (p := fun x : En => !(nlt x.1 nm)) (w := h2)
      have h3 := hj.2.1 (plc es nm) _ (List.getElem?_eq_getElem h2) e
      unfold plc at h3
      simp only [Bool.not_eq_true'] at this
      rw [h3] at this; cases this
    · exact e
    · have h2 : j < es.length := by omega
      have := List.not_of_lt_findIdx (p := fun x : En => !(nlt x.1 nm)) e
      have h3 := hj.2.2 j _ (List.getElem?_eq_getElem h2) (Nat.le_refl _)
      simp [h3] at this
  rw [h1]; exact hj
/-- the first free number -/
def freeF (ns : NSt) : Option Nat := (List.range 16).find? fun i => (ns i).isNone
theorem freeF_some {ns : NSt} {i : Nat} (h : freeF ns = some i) : i < 16 ∧ ns i = none := by
  have h1 := List.find?_some h
  have h2 := List.mem_of_find?_eq_some h
  exact ⟨List.mem_range.1 h2, by simpa using h1⟩
theorem freeF_none {ns : NSt} (h : freeF ns = none) : ∀ j, j < 16 → ns j ≠ none := fun j hj hn => by
  have := List.find?_eq_none.1 h j (List.mem_range.2 hj)
  simp [hn] at this
theorem freeF_first {ns : NSt} {i : Nat} (h16 : i < 16) (hn : ns i = none) (hall : ∀ j, j < i → ns j ≠ none) : freeF ns = some i := by
  cases hf : freeF ns with
  | none => exact absurd hn (freeF_none hf i h16)
  | some k =>
    obtain ⟨k1, k2⟩ := freeF_some hf
    rcases Nat.lt_trichotomy k i with e | e | e
    · exact absurd k2 (hall k e)
    · rw [e]
    · exfalso
      unfold freeF at hf
      rw [List.find?_eq_some_iff_append] at hf
      obtain ⟨_, pre, bs, hab, hno⟩ := hf
      have hlen : pre.length = k := by
        have h1 : (List.range 16)[pre.length]? = some k := by rw [hab]; simp
        rw [List.getElem?_range (by have := congrArg List.length hab; simp at this; omega)] at h1
        exact Option.some.inj h1
      have hmem : i ∈ pre := by
        have h1 : (List.range 16)[i]? = some i := List.getElem?_range (by omega)
        rw [hab, List.getElem?_append_left (by omega)] at h1
        exact List.mem_of_getElem? h1
      have := hno i hmem
      simp [hn] at this
/-- a vfs whose nodes are well -/
def VV [Inhabited CapT] (w : World) (vb tb : Nat) (ns : NSt) (lo : Lo) (c : Nat) : Prop := VB w vb tb ns lo c ∧ IV ns c
theorem TB.le [Inhabited CapT] {w : World} {tb : Nat} {ns : NSt} {lo : Lo} {N M : Nat} (h : TB w tb ns lo N) (hNM : N ≤ M) : TB w tb ns lo M := by
  exact ⟨h.inj, h.lt, h.at', h.sto.le hNM, h.tab, h.none', h.far, h.node⟩
section
variable {w w' : World} {vb tb : Nat} {ns ns' : NSt} {lo lo' : Lo} {N c d : Nat}
theorem VB.le [Inhabited CapT] (h : VB w vb tb ns lo c) (hcd : c ≤ d) : VB w vb tb ns lo d := ⟨h.1, h.2.1.le hcd, h.2.2⟩
theorem VV.le [Inhabited CapT] (h : VV w vb tb ns lo c) (hcd : c ≤ d) : VV w vb tb ns lo d := ⟨h.1.le hcd, h.2.le hcd⟩
theorem VV.below [Inhabited CapT] (h : VV w vb tb ns lo c) (hB : Below w.heap.size w w') : VV w' vb tb ns lo c := ⟨h.1.below hB, h.2⟩
theorem make_full [Inhabited CapT] (h : TB w tb ns lo N) (hN : N ≤ 10000) (dir : Bool) (hf : freeF ns = none) : Calls Tryd.prog 54 #[.pointer (some ⟨tb, 0, none⟩), .bool dir] w fun e w' => e = .returned (.tuple #[.int .i64 0, .int .i64 15]) ∧ Below w.heap.size w w' := by
  refine (make_is h hN dir).mono ?_
  rintro e w' ⟨r, hr, hq⟩
  rcases hq with ⟨_, rfl, _, hB⟩ | ⟨i, rfl, _⟩
  · exact ⟨rfl, hB⟩
  · rcases hr with ⟨hr, _⟩ | ⟨k, hk, h16, hn, _⟩
    · omega
    · obtain rfl : i = k := by omega
      exact absurd hn (freeF_none hf i h16)
theorem make_some [Inhabited CapT] (h : TB w tb ns lo N) (hN : N ≤ 10000) (dir : Bool) (i : Nat) (hf : freeF ns = some i) : Calls Tryd.prog 54 #[.pointer (some ⟨tb, 0, none⟩), .bool dir] w fun e w' => e = .returned (.tuple #[.int .i64 i, .int .i64 0]) ∧ ∃ lo', TB w' tb (nsPut ns i (some ⟨dir, 0, 1, [], []⟩)) lo' (N + 1) ∧ TFr lo lo' w w' := by
  obtain ⟨f1, f2⟩ := freeF_some hf
  refine (make_is h hN dir).mono ?_
  rintro e w' ⟨r, hr, hq⟩
  rcases hr with ⟨rfl, hall⟩ | ⟨k, rfl, h16, hn, hall⟩
  · exact absurd f2 (hall i f1)
  · have := freeF_first h16 hn hall
    rw [hf] at this
    cases this
    rcases hq with ⟨h0, _⟩ | ⟨i', hi', rfl, hq⟩
    · omega
    · obtain rfl : i = i' := by omega
      exact ⟨rfl, hq⟩
/-- what an Enter answers, and the nodes behind it -/
def entF (ns : NSt) (i : Nat) (nd : Nd) (nm : Txt) (id : Int) : Int × NSt := if entR ns nd.es (plc nd.es nm) nm id = 0 then (0, nsEnt ns i nd (insE nd.es (plc nd.es nm) (nm, id)) id) else (entR ns nd.es (plc nd.es nm) nm id, ns)
theorem enter_f [Inhabited CapT] (h : TB w tb ns lo N) (i : Nat) (id : Int) (nm : Txt) (nd : Nd) (hi : ns i = some nd) (hd : nd.dir = true) (hlk : ∀ m, ndAt ns id = some m → 0 ≤ m.links ∧ m.links ≤ 100000) (r : Int) (ns' : NSt) (hr : entF ns i nd nm id = (r, ns')) :
    Calls Tryd.prog 45 #[.pointer (some ⟨tb, 0, none⟩), .int .i64 i, .string (B nm), .int .i64 id] w fun e w' => e = .returned (.int .i64 r) ∧ ∃ lo', TB w' tb ns' lo' N ∧ TFr lo lo' w w' := by
  obtain ⟨k, v, _, _, _, _, hS⟩ := h.node _ _ hi
  refine (enter_is h i id nm nd hi hd hlk).mono ?_
  rintro e w' ⟨j, hA, rfl, hq⟩
  obtain rfl := at_uniq hA (plc_at hS nm)
  unfold entF at hr
  rcases hq with ⟨hne, hB⟩ | ⟨h0, lo', hT, hF⟩
  · rw [if_neg hne] at hr
    cases hr
    exact ⟨rfl, lo, h.below hB, TFr.of_below hB⟩
  · rw [if_pos h0] at hr
    cases hr
    exact ⟨by rw [h0], lo', hT, hF⟩
/-- closed -/
def closeF (ns : NSt) (id : Int) : Int × NSt := match ndAt ns id with
  | some nd => if 0 < nd.opens then (0, gone 17 (nsPut ns id.toNat (some (addO nd (-1)))) id.toNat) else (4, ns)
  | none => (4, ns)
theorem close_f [Inhabited CapT] (h : TB w tb ns lo N) (hV : IV ns c) (hc : c ≤ 100000) (id : Int) (r : Int) (ns' : NSt) (hr : closeF ns id = (r, ns')) :
    Calls Tryd.prog 12 #[.pointer (some ⟨tb, 0, none⟩), .int .i64 id] w fun e w' => e = .returned (.int .i64 r) ∧ ∃ lo', TB w' tb ns' lo' N ∧ TFr lo lo' w w' := by
  unfold closeF at hr
  cases hn : ndAt ns id with
  | none =>
    rw [hn] at hr; cases hr
    refine (close_no h id (fun nd hd => by rw [hn] at hd; cases hd)).mono ?_
    rintro e w' ⟨rfl, rfl⟩
    exact ⟨rfl, lo, h, TFr.refl _ _⟩
  | some nd =>
    rw [hn] at hr
    simp only at hr
    obtain ⟨i, rfl, hi⟩ := ndAt_some hn
    by_cases ho : 0 < nd.opens
    · rw [if_pos ho] at hr
      simp only [Int.toNat_natCast] at hr
      cases hr
      exact close_any h hV.inv i nd hi ho (by have := hV.opn i nd hi; omega) (hV.closed1 hi ho)
    · rw [if_neg ho] at hr
      cases hr
      refine (close_no h i (fun nd' hd => ?_)).mono ?_
      · rw [hn] at hd; cases hd
        have := hV.inv.opn i nd hi
        omega
      · rintro e w' ⟨rfl, rfl⟩
        exact ⟨rfl, lo, h, TFr.refl _ _⟩
theorem closeF_iv (hV : IV ns c) (id : Int) : IV (closeF ns id).2 (c + 1) := by
  unfold closeF
  cases hn : ndAt ns id with
  | none => exact hV.le (by omega)
  | some nd =>
    simp only
    obtain ⟨i, rfl, hi⟩ := ndAt_some hn
    by_cases ho : 0 < nd.opens
    · rw [if_pos ho]
      exact hV.closed hi ho
    · rw [if_neg ho]
      exact hV.le (by omega)
theorem entF_iv (hV : IV ns c) {i : Nat} {nd : Nd} (hi : ns i = some nd) (hd : nd.dir = true) (nm : Txt) (id : Int) : IV (entF ns i nd nm id).2 (c + 1) := by
  unfold entF
  by_cases h0 : entR ns nd.es (plc nd.es nm) nm id = 0
  · rw [if_pos h0]
    have hA := plc_at (hV.srt i nd hi) nm
    unfold entR at h0
    split at h0
    · omega
    · split at h0
      · omega
      · rename_i h2
        split at h0
        · omega
        · rename_i h3
          split at h0
          · omega
          · rename_i h4
            have h5 : id ≠ 0 := fun e => h2 (Or.inl e)
            cases hn : ndAt ns id with
            | none => exact absurd (Or.inr hn) h2
            | some nk =>
              obtain ⟨k, rfl, hk⟩ := ndAt_some hn
              exact hV.entered hi hd hk (by omega) hA (by cases hh : isAt nd.es nm (plc nd.es nm) with | false => rfl | true => exact absurd hh h3) h4
  · rw [if_neg h0]
    exact hV.le (by omega)
/-- a node made and entered -/
def madeF (ns : NSt) (dir : Int) (nm : Txt) (isD : Bool) : Int × Int × NSt := match dirAt ns dir with
  | none => (0, 11, ns)
  | some nd => match freeF ns with
    | none => (0, 15, ns)
    | some i => if (entF (nsPut ns i (some ⟨isD, 0, 1, [], []⟩)) dir.toNat nd nm i).1 = 0 then (i, 0, (entF (nsPut ns i (some ⟨isD, 0, 1, [], []⟩)) dir.toNat nd nm i).2)
      else (0, (entF (nsPut ns i (some ⟨isD, 0, 1, [], []⟩)) dir.toNat nd nm i).1, (closeF (entF (nsPut ns i (some ⟨isD, 0, 1, [], []⟩)) dir.toNat nd nm i).2 i).2)
def MadP [Inhabited CapT] (w : World) (vb tb : Nat) (ns' : NSt) (lo : Lo) (c : Nat) (v : Value) (e : Ending) (w' : World) : Prop := e = .returned v ∧ ∃ lo', VV w' vb tb ns' lo' c ∧ TFr lo lo' w w'
theorem isDirF_dirAt (ns : NSt) (id : Int) : isDirF ns id = (dirAt ns id).isSome := by
  unfold isDirF dirAt ndAt
  by_cases h0 : 0 ≤ id
  · simp only [if_pos h0]
    cases h : ns id.toNat with
    | none => rfl
    | some nd => cases hd : nd.dir <;> simp [hd]
  · simp only [if_neg h0]
    rfl
set_option maxRecDepth 100000 in
theorem made_is [Inhabited CapT] (h : VV w vb tb ns lo c) (hc : c ≤ 9000) (dir : Int) (nm : Txt) (isD : Bool) (r1 r2 : Int) (ns' : NSt) (hr : madeF ns dir nm isD = (r1, r2, ns')) :
    Calls Tryd.prog 32 #[.pointer (some ⟨vb, 0, none⟩), .int .i64 dir, .string (B nm), .bool isD] w (MadP w vb tb ns' lo (c + 3) (.tuple #[.int .i64 r1, .int .i64 r2])) := by
  have c0 := h.1.cell
  have hdd := isDirF_dirAt ns dir
  unfold madeF at hr
  cases hd : dirAt ns dir with
  | none =>
    rw [hd] at hr hdd
    cases hr
    have hid := isdir_is h.1 dir false hdd
    have H := Lib.hid h
    clear h hdd hd
    go_enter Tryd.func32, Tryd.ntmps32
    go_wp2_with (go_at_call 33; (with_reducible refine hid.mono ?_); rintro e w1 ⟨rfl, hB⟩; have H1 := Lib.hid hB; clear hB hid)
    go_returns
    exact ⟨rfl, lo, (H.out.below H1.out).le (by omega), TFr.of_below H1.out⟩
  | some nd =>
    rw [hd] at hr hdd
    simp only at hr
    obtain ⟨i0, rfl, hi0, hdir⟩ := dirAt_some hd
    simp only [Int.toNat_natCast] at hr
    have hid := isdir_is h.1 (i0 : Int) true hdd
    cases hf : freeF ns with
    | none =>
      rw [hf] at hr
      cases hr
      have H := Lib.hid (And.intro h hf)
      clear h hdd hd hf hi0
      go_enter Tryd.func32, Tryd.ntmps32
      go_wp2_with (first
        | (go_at_call 33; (with_reducible refine hid.mono ?_); rintro e w1 ⟨rfl, hB⟩; have h1 := H.out.1.below hB; clear c0; have c0 := h1.1.cell; have hmk := make_full h1.1.2.1 (by omega) isD H.out.2; have H1 := Lib.hid (And.intro h1 hB); clear hB hid h1)
        | (go_at_call 54; (with_reducible refine hmk.mono ?_); rintro e w2 ⟨rfl, hB⟩; have H2 := Lib.hid hB; clear hB hmk))
      go_returns
      exact ⟨rfl, lo, (H1.out.1.below H2.out).le (by omega), (TFr.of_below H1.out.2).trans (TFr.of_below H2.out)⟩
    | some i =>
      rw [hf] at hr
      simp only at hr
      obtain ⟨h16, hni⟩ := freeF_some hf
      have hne : i0 ≠ i := fun e => by rw [e, hni] at hi0; cases hi0
      obtain ⟨e1, ns2, hE⟩ : ∃ e1 ns2, entF (nsPut ns i (some ⟨isD, 0, 1, [], []⟩)) i0 nd nm i = (e1, ns2) := ⟨_, _, rfl⟩
      have hV1 := h.2.make h16 hni isD
      have hi1 : nsPut ns i (some ⟨isD, 0, 1, [], []⟩) i0 = some nd := by rw [put_ne _ _ _ hne]; exact hi0
      have hV2 := entF_iv hV1 hi1 hdir nm i
      rw [hE] at hr hV2
      simp only at hr hV2
      have hlk : ∀ m, ndAt (nsPut ns i (some ⟨isD, 0, 1, [], []⟩)) (i : Int) = some m → 0 ≤ m.links ∧ m.links ≤ 100000 := fun m hm => by
        obtain ⟨k, hk, hkk⟩ := ndAt_some hm
        exact ⟨hV1.inv.links hkk, hV1.inv.bnd k m hkk⟩
      have H := Lib.hid (And.intro h (And.intro hf (And.intro hi1 (And.intro hdir (And.intro hlk hE)))))
      have HV := Lib.hid (And.intro hV1 hV2)
      clear h hdd hd hf hi0 hni hne hV1 hV2 hi1 hlk hE hdir
      by_cases he : e1 = 0
      · subst he
        rw [if_pos rfl] at hr
        cases hr
        go_enter Tryd.func32, Tryd.ntmps32
        go_wp2_with (first
          | (go_at_call 33; (with_reducible refine hid.mono ?_); rintro e w1 ⟨rfl, hB⟩; have h1 := H.out.1.below hB; clear c0; have c0 := h1.1.cell; have hmk := make_some h1.1.2.1 (by omega) isD i H.out.2.1; have H1 := Lib.hid (And.intro h1 hB); clear hB hid h1)
          | (go_at_call 54; (with_reducible refine hmk.mono ?_); rintro e w2 ⟨rfl, lo2, hT, hF⟩; have h2 := H1.out.1.1.step hT hF; clear c0; have c0 := h2.cell; have hen := enter_f hT i0 i nm nd H.out.2.2.1 H.out.2.2.2.1 H.out.2.2.2.2.1 _ _ H.out.2.2.2.2.2; have H2 := Lib.hid (And.intro h2 hF); clear hmk hT hF h2)
          | (go_at_call 45; (with_reducible refine hen.mono ?_); rintro e w3 ⟨rfl, lo3, hT, hF⟩; have H3 := Lib.hid (And.intro hT hF); clear hen hT hF))
        go_returns
        exact ⟨rfl, lo3, ⟨(H2.out.1.step H3.out.1 H3.out.2).le (by omega), HV.out.2.le (by omega)⟩, ((TFr.of_below H1.out.2).trans H2.out.2).trans H3.out.2⟩
      · rw [if_neg he] at hr
        cases hr
        have d1 : (r2 != 0) = true := by simpa using he
        clear he
        obtain ⟨e2, ns3, hC⟩ : ∃ e2 ns3, closeF ns2 i = (e2, ns3) := ⟨_, _, rfl⟩
        have hV3 := closeF_iv HV.out.2 i
        rw [hC] at hV3 ⊢
        simp only at hV3 ⊢
        have HC := Lib.hid (And.intro hC hV3)
        clear hC hV3
        go_enter Tryd.func32, Tryd.ntmps32
        go_wp2_with (first
          | (go_at_call 33; (with_reducible refine hid.mono ?_); rintro e w1 ⟨rfl, hB⟩; have h1 := H.out.1.below hB; clear c0; have c0 := h1.1.cell; have hmk := make_some h1.1.2.1 (by omega) isD i H.out.2.1; have H1 := Lib.hid (And.intro h1 hB); clear hB hid h1)
          | (go_at_call 54; (with_reducible refine hmk.mono ?_); rintro e w2 ⟨rfl, lo2, hT, hF⟩; have h2 := H1.out.1.1.step hT hF; clear c0; have c0 := h2.cell; have hen := enter_f hT i0 i nm nd H.out.2.2.1 H.out.2.2.2.1 H.out.2.2.2.2.1 _ _ H.out.2.2.2.2.2; have H2 := Lib.hid (And.intro h2 hF); clear hmk hT hF h2)
          | (go_at_call 45; (with_reducible refine hen.mono ?_); rintro e w3 ⟨rfl, lo3, hT, hF⟩; have h3 := H2.out.1.step hT hF; clear c0; have c0 := h3.cell; have hcl := close_f hT HV.out.2 (by omega) i _ _ HC.out.1; have H3 := Lib.hid (And.intro h3 hF); clear hen hT hF h3)
          | (go_at_call 12; (with_reducible refine hcl.mono ?_); rintro e w4 ⟨rfl, lo4, hT, hF⟩; have H4 := Lib.hid (And.intro hT hF); clear hcl hT hF))
        go_returns
        exact ⟨rfl, lo4, ⟨(H3.out.1.step H4.out.1 H4.out.2).le (by omega), HC.out.2⟩, (((TFr.of_below H1.out.2).trans H2.out.2).trans H3.out.2).trans H4.out.2⟩
end
end Go.Proofs.YtchnjfmimpikcaaDoor
