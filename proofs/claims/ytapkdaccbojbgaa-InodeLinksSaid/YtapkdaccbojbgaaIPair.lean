/-
  The program's table beside the document's: each act as a step of either.
-/
import Derived.Test.YtapkdaccbojbgaaIVal
import Derived.Test.YtapkdaccbojbgaaPair
namespace Go.Proofs.Ytapkdaccbojbgaa
set_option linter.unusedSimpArgs false
set_option linter.unusedVariables false
open Go.RowKit Own RegJ Two Pair
open Go.Lib hiding intOf

theorem TB.more {w : World} {tb : Nat} {ns : NSt} {lo : Lo} {N N' : Nat} (h : TB w tb ns lo N) (hN : N ≤ N') : TB w tb ns lo N' :=
  ⟨h.inj, h.lt, h.at', (by obtain ⟨sb, mb, fp, n, s, s1, s2, s3, s4, s5⟩ := h.sto; exact ⟨sb, mb, fp, n, s, s1, s2, s3, s4, by omega⟩), h.tab, h.none', h.far, h.node, h.file⟩
/-- the program's table -/
def TPa (tb : Nat) (ns : NSt) (N : Nat) : Party where
  at' w O := ∃ lo, TB w tb ns lo N ∧ O = fun k => ∃ r, lo r = some k
  lt := by
    rintro w O ⟨lo, h, rfl⟩ k ⟨r, hr⟩
    exact h.lt r k hr
  keep := by
    rintro w w' O F ⟨lo, h, rfl⟩ hu hF
    exact ⟨lo, h.upd hu (fun r k hr => hF k ⟨r, hr⟩), rfl⟩
theorem tp_step {tb : Nat} {ns' : NSt} {lo lo' : Lo} {N N' : Nat} {w w' : World} (h : TB w' tb ns' lo' N) (hN : N ≤ N') (hF : TFr lo lo' w w') : Step (TPa tb ns' N') (fun k => ∃ r, lo r = some k) w w' :=
  ⟨_, ⟨lo', h.more hN, rfl⟩, fun k ⟨r, hr⟩ => hF.2 r k hr, hF.1⟩
theorem RO.upd {w w' : World} {rb m : Nat} {ns : NSt} {W A F : Nat → Prop} (h : RO w rb ns m W A) (hu : Upd F w w') (hF : ∀ k, W k ∨ A k → ¬ F k) : RO w' rb ns m W A := by
  obtain ⟨sb, vs, rw', fl, fb, hT, hml, hW, hA⟩ := h
  exact ⟨sb, vs, rw', fl, fb, hT.upd hu (fun k hk => hF k (by
    rcases hk with h | h | h | ⟨i, h⟩
    · exact Or.inl (hW k (Or.inl h))
    · exact Or.inl (hW k (Or.inr (Or.inl h)))
    · exact Or.inl (hW k (Or.inr (Or.inr h)))
    · exact Or.inr (hA i k h))), hml, hW, hA⟩
theorem RO.more {w : World} {rb m m' : Nat} {ns : NSt} {W A : Nat → Prop} (h : RO w rb ns m W A) (hm : m ≤ m') : RO w rb ns m' W A := by
  obtain ⟨sb, vs, rw', fl, fb, hT, hml, hW, hA⟩ := h
  exact ⟨sb, vs, rw', fl, fb, hT, by omega, hW, hA⟩
/-- no more than it owns -/
theorem RO.tight {w : World} {rb m : Nat} {ns : NSt} {W A : Nat → Prop} (h : RO w rb ns m W A) : ∃ W2 A2, RO w rb ns m W2 A2 ∧ (∀ k, W2 k → W k) ∧ (∀ k, A2 k → A k) ∧ ∀ k, W2 k ∨ A2 k → k < w.heap.size := by
  obtain ⟨sb, vs, rw', fl, fb, hT, hml, hW, hA⟩ := h
  refine ⟨wrS rb sb fb, fun k => ∃ i, rw' i = some k, ⟨sb, vs, rw', fl, fb, hT, hml, fun k h => h, fun i k h => ⟨i, h⟩⟩, hW, fun k ⟨i, h⟩ => hA i k h, fun k hk => ?_⟩
  rcases hk with (h | h | h) | ⟨i, h⟩
  · rw [h]; exact hT.tab.lt
  · rw [h]; exact hT.sto.lt.1
  · exact hT.sto.lt.2 k h
  · exact hT.n4 i k h
/-- the document's table -/
def RPa (rb : Nat) (ns : NSt) (m : Nat) : Party where
  at' w O := ∃ W A, RO w rb ns m W A ∧ (O = fun k => W k ∨ A k) ∧ ∀ k, O k → k < w.heap.size
  lt := by
    rintro w O ⟨W, A, h, rfl, hl⟩ k hk
    exact hl k hk
  keep := by
    rintro w w' O F ⟨W, A, h, rfl, hl⟩ hu hF
    exact ⟨W, A, h.upd hu hF, rfl, fun k hk => Nat.lt_of_lt_of_le (hl k hk) hu.size⟩
theorem rp_step {rb m m' : Nat} {ns' : NSt} {W A : Nat → Prop} {w w' : World} (h : RP w rb W A ns' m w') (hm : m ≤ m') : Step (RPa rb ns' m') (fun k => W k ∨ A k) w w' := by
  obtain ⟨W', A', h1, h2, h3, h4⟩ := h
  obtain ⟨W2, A2, g1, g2, g3, g4⟩ := h1.tight
  refine ⟨_, ⟨W2, A2, g1.more hm, rfl, g4⟩, fun k hk => ?_, h4.mono (fun k _ h => Or.inl h)⟩
  rcases hk with hk | hk
  · exact (h2 k (g2 k hk)).imp Or.inl id
  · exact (h3 k (g3 k hk)).imp Or.inr id

/-! ### what each act answers, and what it leaves -/
def plc (es : List En) (nm : Txt) : Nat := es.findIdx (fun x => !nlt x.1 nm)
theorem at_plc {es : List En} (hS : Srt es) (nm : Txt) : At es nm (plc es nm) := by
  refine ⟨List.findIdx_le_length, fun k x hx hk => ?_, fun k x hx hk => ?_⟩
  · have hl := (List.getElem?_eq_some_iff.1 hx)
    have := List.not_of_lt_findIdx hk
    rw [hl.2] at this
    simpa using this
  · have hl := (List.getElem?_eq_some_iff.1 hx)
    have hf : plc es nm < es.length := by have := hl.1; omega
    have hp := List.findIdx_getElem (w := hf)
    simp only [Bool.not_eq_true'] at hp
    by_cases e : plc es nm = k
    · have : es[plc es nm] = x := by rw [← hl.2]; congr 1
      have hp' : nlt es[plc es nm].1 nm = false := hp
      rw [this] at hp'; exact hp'
    · have h1 := srt_at hS (List.getElem?_eq_getElem hf) hx (by omega)
      cases hn : nlt x.1 nm with
      | false => rfl
      | true =>
        have hp' : nlt es[plc es nm].1 nm = false := hp
        rw [nlt_trans _ _ _ h1 hn] at hp'; cases hp'
def stOpen (ns : NSt) (id : Int) : Int × NSt := match ndAt ns id with
  | some nd => (0, nsPut ns id.toNat (some (addO nd 1)))
  | none => (4, ns)
def stClose (ns : NSt) (id : Int) : Int × NSt := match ndAt ns id with
  | some nd => if nd.opens = 0 then (4, ns) else (0, gone 17 (nsPut ns id.toNat (some (addO nd (-1)))) id.toNat)
  | none => (4, ns)
def stEnter (ns : NSt) (dir : Int) (nm : Txt) (id : Int) : Int × NSt := match dirAt ns dir with
  | none => (11, ns)
  | some nd => if entR ns nd.es (plc nd.es nm) nm id = 0 then (0, nsEnt ns dir.toNat nd (insE nd.es (plc nd.es nm) (nm, id)) id) else (entR ns nd.es (plc nd.es nm) nm id, ns)
def stRem (ns : NSt) (dir : Int) (nm : Txt) : Int × NSt := match dirAt ns dir with
  | none => (11, ns)
  | some nd => if isAt nd.es nm (plc nd.es nm) = false then (9, ns) else match nd.es[plc nd.es nm]? with
    | none => (9, ns)
    | some x => match ns x.2.toNat with
      | none => (9, ns)
      | some nk => if nk.dir = true ∧ nk.es ≠ [] then (13, ns) else (0, gone 17 (nsRem ns dir.toNat nd (plc nd.es nm) x.2.toNat) x.2.toNat)
def stFind (ns : NSt) (dir : Int) (nm : Txt) : Int × Int := match dirAt ns dir with
  | none => (0, 11)
  | some nd => if isAt nd.es nm (plc nd.es nm) = false then (0, 9) else match nd.es[plc nd.es nm]? with
    | none => (0, 9)
    | some x => (x.2, 0)
theorem freeI_ex (ns : NSt) : ∃ r, freeI ns r := by
  have : ∀ n, n ≤ 16 → (∀ j, j < n → ns j ≠ none) ∨ ∃ i, i < n ∧ ns i = none ∧ ∀ j, j < i → ns j ≠ none := by
    intro n
    induction n with
    | zero => intro _; exact Or.inl (fun j hj => by omega)
    | succ n ih =>
      intro hn
      rcases ih (by omega) with h | ⟨i, h1, h2, h3⟩
      · cases hx : ns n with
        | none => exact Or.inr ⟨n, by omega, hx, h⟩
        | some nd => exact Or.inl (fun j hj => by
            by_cases e : j = n
            · subst e; rw [hx]; simp
            · exact h j (by omega))
      · exact Or.inr ⟨i, by omega, h2, h3⟩
  rcases this 16 (Nat.le_refl _) with h | ⟨i, h1, h2, h3⟩
  · exact ⟨-1, Or.inl ⟨rfl, h⟩⟩
  · exact ⟨i, Or.inr ⟨i, rfl, h1, h2, h3⟩⟩
def stMake (ns : NSt) (dir : Bool) (r : Int) : Int × Int × NSt := if r = -1 then (0, 15, ns) else (r, 0, nsPut ns r.toNat (some ⟨dir, 0, 1, []⟩))
section
variable {ns : NSt} {c : Nat}
theorem IV.stOpen (h : IV ns c) (id : Int) : IV (stOpen ns id).2 (c + 1) := by
  unfold Proofs.Ytapkdaccbojbgaa.stOpen
  cases hx : ndAt ns id with
  | none => exact h.le (by omega)
  | some nd =>
    obtain ⟨i, rfl, hi⟩ := ndAt_some hx
    exact h.opened hi
theorem IV.stClose (h : IV ns c) (id : Int) : IV (stClose ns id).2 (c + 1) := by
  unfold Proofs.Ytapkdaccbojbgaa.stClose
  cases hx : ndAt ns id with
  | none => exact h.le (by omega)
  | some nd =>
    obtain ⟨i, rfl, hi⟩ := ndAt_some hx
    simp only
    split
    · exact h.le (by omega)
    · have := h.inv.opn i nd hi
      exact h.closed hi (by omega)
theorem entR_ok {es : List En} {j : Nat} {nm : Txt} {id : Int} (h : entR ns es j nm id = 0) : nameE nm = 0 ∧ id ≠ 0 ∧ (∃ (k : Nat) (nk : Nd), id = k ∧ ns k = some nk) ∧ isAt es nm j = false ∧ es.length ≠ 8 := by
  unfold entR at h
  split at h
  · rename_i h1; exact absurd h h1
  · rename_i h1
    split at h
    · cases h
    · rename_i h2
      split at h
      · cases h
      · rename_i h3
        split at h
        · cases h
        · rename_i h4
          refine ⟨by simpa using h1, fun e => h2 (Or.inl e), ?_, by simpa using h3, h4⟩
          cases hx : ndAt ns id with
          | none => exact absurd (Or.inr hx) h2
          | some nk =>
            obtain ⟨k, rfl, hk⟩ := ndAt_some hx
            exact ⟨k, nk, rfl, hk⟩
theorem IV.stEnter (h : IV ns c) (dir : Int) (nm : Txt) (id : Int) : IV (stEnter ns dir nm id).2 (c + 1) := by
  unfold Proofs.Ytapkdaccbojbgaa.stEnter
  cases hx : dirAt ns dir with
  | none => exact h.le (by omega)
  | some nd =>
    obtain ⟨i, rfl, hi, hd⟩ := dirAt_some hx
    simp only
    split
    · rename_i h0
      obtain ⟨_, hid, ⟨k, nk, rfl, hk⟩, hia, h8⟩ := entR_ok h0
      exact h.entered hi hd hk (by omega) (at_plc (h.srt i nd hi) nm) hia h8
    · exact h.le (by omega)
theorem IV.stRem (h : IV ns c) (dir : Int) (nm : Txt) : IV (stRem ns dir nm).2 (c + 1) := by
  unfold Proofs.Ytapkdaccbojbgaa.stRem
  cases hx : dirAt ns dir with
  | none => exact h.le (by omega)
  | some nd =>
    obtain ⟨i, rfl, hi, hd⟩ := dirAt_some hx
    simp only
    split
    · exact h.le (by omega)
    · rename_i h1
      obtain ⟨x, hx1⟩ := at_hit (by simpa using h1)
      rw [hx1]
      simp only
      have hxb := h.inv.ids i nd hi _ (List.mem_of_getElem? hx1)
      simp only at hxb
      obtain ⟨k, rfl⟩ : ∃ k : Nat, x = k := ⟨x.toNat, by omega⟩
      simp only [Int.toNat_natCast]
      cases hk : ns k with
      | none => exact h.le (by omega)
      | some nk =>
        simp only
        split
        · exact h.le (by omega)
        · exact h.removed hi hd hk hx1
theorem IV.stMake (h : IV ns c) (dir : Bool) (r : Int) (hr : freeI ns r) : IV (stMake ns dir r).2.2 (c + 1) := by
  unfold Proofs.Ytapkdaccbojbgaa.stMake
  rcases hr with ⟨rfl, _⟩ | ⟨i, rfl, hi, hn, _⟩
  · rw [if_pos rfl]; exact h.le (by omega)
  · rw [if_neg (by omega)]
    simp only [Int.toNat_natCast]
    exact h.make hi hn dir
end

/-! ### the program's side -/
section
variable {w : World} {tb : Nat} {ns : NSt} {c : Nat} {O : Nat → Prop}
def PS (tb : Nat) (v : Value) (ns' : NSt) (N' : Nat) (O : Nat → Prop) (w : World) (e : Ending) (w' : World) : Prop := e = .returned v ∧ Step (TPa tb ns' N') O w w'
theorem p_same {lo : Lo} {N N' : Nat} {w' : World} (h : TB w tb ns lo N) (hN : N ≤ N') (hB : Below w.heap.size w w') : Step (TPa tb ns N') (fun k => ∃ r, lo r = some k) w w' := Step.of_below (p := TPa tb ns N') ⟨lo, h.more hN, rfl⟩ hB
theorem p_open (hV : IV ns c) (hc : c ≤ 90) (h : (TPa tb ns c).at' w O) (id : Int) : Calls Try.prog 20 #[.pointer (some ⟨tb, 0, none⟩), .int .i64 id] w (PS tb (.int .i64 (stOpen ns id).1) (stOpen ns id).2 (c + 1) O w) := by
  obtain ⟨lo, hT, rfl⟩ := h
  unfold stOpen
  cases hx : ndAt ns id with
  | none =>
    refine (open_no hT id hx).mono ?_
    rintro e w' ⟨rfl, rfl⟩
    exact ⟨rfl, p_same hT (by omega) (Below.refl _ _)⟩
  | some nd =>
    obtain ⟨i, rfl, hi⟩ := ndAt_some hx
    have h0 := hV.inv.opn i nd hi
    have h1 := hV.opn i nd hi
    refine (open_yes hT i nd hi h0 (by omega)).mono ?_
    rintro e w' ⟨rfl, h2, h3⟩
    exact ⟨rfl, tp_step h2 (by omega) h3⟩
theorem p_close (hV : IV ns c) (hc : c ≤ 90) (h : (TPa tb ns c).at' w O) (id : Int) : Calls Try.prog 21 #[.pointer (some ⟨tb, 0, none⟩), .int .i64 id] w (PS tb (.int .i64 (stClose ns id).1) (stClose ns id).2 (c + 1) O w) := by
  obtain ⟨lo, hT, rfl⟩ := h
  unfold stClose
  cases hx : ndAt ns id with
  | none =>
    refine (close_no hT id (fun nd hnd => by rw [hx] at hnd; cases hnd)).mono ?_
    rintro e w' ⟨rfl, rfl⟩
    exact ⟨rfl, p_same hT (by omega) (Below.refl _ _)⟩
  | some nd =>
    obtain ⟨i, rfl, hi⟩ := ndAt_some hx
    have h0 := hV.inv.opn i nd hi
    have h1 := hV.opn i nd hi
    simp only
    by_cases ho : nd.opens = 0
    · rw [if_pos ho]
      refine (close_no hT i (fun nd2 hnd => by rw [hx] at hnd; cases hnd; exact ho)).mono ?_
      rintro e w' ⟨rfl, rfl⟩
      exact ⟨rfl, p_same hT (by omega) (Below.refl _ _)⟩
    · rw [if_neg ho]
      refine (close_any hT hV.inv i nd hi (by omega) (by omega) (hV.closed1 hi (by omega))).mono ?_
      rintro e w' ⟨rfl, lo', h2, h3⟩
      exact ⟨rfl, tp_step h2 (by omega) h3⟩
theorem p_enter (hV : IV ns c) (hc : c ≤ 90) (h : (TPa tb ns c).at' w O) (dir : Int) (nm : Txt) (id : Int) : Calls Try.prog 10 #[.pointer (some ⟨tb, 0, none⟩), .int .i64 dir, .string (B nm), .int .i64 id] w (PS tb (.int .i64 (stEnter ns dir nm id).1) (stEnter ns dir nm id).2 (c + 1) O w) := by
  obtain ⟨lo, hT, rfl⟩ := h
  unfold stEnter
  cases hx : dirAt ns dir with
  | none =>
    refine (enter_nodir hT dir id nm hx).mono ?_
    rintro e w' ⟨rfl, rfl⟩
    exact ⟨rfl, p_same hT (by omega) (Below.refl _ _)⟩
  | some nd =>
    obtain ⟨i, rfl, hi, hd⟩ := dirAt_some hx
    refine (enter_is hT i id nm nd hi hd (fun m hm => by
      obtain ⟨k, _, hk⟩ := ndAt_some hm
      exact ⟨hV.inv.links hk, hV.inv.bnd k m hk⟩)).mono ?_
    rintro e w' ⟨j, hA, rfl, hq⟩
    obtain rfl := at_uniq (at_plc (hV.srt i nd hi) nm) hA
    simp only [Int.toNat_natCast]
    rcases hq with ⟨h0, hB⟩ | ⟨h0, lo', h2, h3⟩
    · rw [if_neg h0]
      exact ⟨rfl, p_same hT (by omega) hB⟩
    · rw [if_pos h0, h0]
      exact ⟨rfl, tp_step h2 (by omega) h3⟩
theorem p_rem (hV : IV ns c) (hc : c ≤ 90) (h : (TPa tb ns c).at' w O) (dir : Int) (nm : Txt) : Calls Try.prog 14 #[.pointer (some ⟨tb, 0, none⟩), .int .i64 dir, .string (B nm)] w (PS tb (.int .i64 (stRem ns dir nm).1) (stRem ns dir nm).2 (c + 1) O w) := by
  obtain ⟨lo, hT, rfl⟩ := h
  unfold stRem
  cases hx : dirAt ns dir with
  | none =>
    refine (remove_no hT dir nm hx).mono ?_
    rintro e w' ⟨rfl, rfl⟩
    exact ⟨rfl, p_same hT (by omega) (Below.refl _ _)⟩
  | some nd =>
    obtain ⟨i, rfl, hi, hd⟩ := dirAt_some hx
    refine (remove_any hT hV.inv i nm nd hi hd).mono ?_
    rintro e w' ⟨j, hA, hq⟩
    obtain rfl := at_uniq (at_plc (hV.srt i nd hi) nm) hA
    simp only [Int.toNat_natCast]
    rcases hq with ⟨h0, rfl, hB⟩ | ⟨k, nk, hxk, hk, hq⟩
    · rw [if_pos h0]
      exact ⟨rfl, p_same hT (by omega) hB⟩
    · have h0 : ¬ isAt nd.es nm (plc nd.es nm) = false := by
        have := (at_there (hV.srt i nd hi) hxk hA).2
        simp only at this
        rw [this]; simp
      rw [if_neg h0, hxk]
      simp only [Int.toNat_natCast]
      rw [hk]
      simp only
      rcases hq with ⟨h1, h2, rfl, hB⟩ | ⟨h1, rfl, lo', h2, h3⟩
      · rw [if_pos ⟨h1, h2⟩]
        exact ⟨rfl, p_same hT (by omega) hB⟩
      · rw [if_neg h1]
        exact ⟨rfl, tp_step h2 (by omega) h3⟩
theorem p_find (hV : IV ns c) (h : (TPa tb ns c).at' w O) (dir : Int) (nm : Txt) : Calls Try.prog 12 #[.pointer (some ⟨tb, 0, none⟩), .int .i64 dir, .string (B nm)] w fun e w' => e = .returned (.tuple #[.int .i64 (stFind ns dir nm).1, .int .i64 (stFind ns dir nm).2]) ∧ Below w.heap.size w w' := by
  obtain ⟨lo, hT, rfl⟩ := h
  unfold stFind
  cases hx : dirAt ns dir with
  | none =>
    refine (tfind_no hT dir nm hx).mono ?_
    rintro e w' ⟨rfl, rfl⟩
    exact ⟨rfl, Below.refl _ _⟩
  | some nd =>
    obtain ⟨i, rfl, hi, hd⟩ := dirAt_some hx
    refine (tfind_yes hT i nm nd hi hd).mono ?_
    rintro e w' ⟨⟨j, hA, hq⟩, hB⟩
    obtain rfl := at_uniq (at_plc (hV.srt i nd hi) nm) hA
    rcases hq with ⟨h0, rfl⟩ | ⟨x, hx1, hxn, rfl⟩
    · simp only
      rw [if_pos h0]; exact ⟨rfl, hB⟩
    · have h0 : ¬ isAt nd.es nm (plc nd.es nm) = false := by
        unfold isAt; rw [hx1]; simp [hxn]
      simp only
      rw [if_neg h0, hx1]; exact ⟨rfl, hB⟩
theorem p_make (hc : c ≤ 90) (h : (TPa tb ns c).at' w O) (dir : Bool) (r : Int) (hr : freeI ns r) : Calls Try.prog 9 #[.pointer (some ⟨tb, 0, none⟩), .bool dir] w (PS tb (.tuple #[.int .i64 (stMake ns dir r).1, .int .i64 (stMake ns dir r).2.1]) (stMake ns dir r).2.2 (c + 1) O w) := by
  obtain ⟨lo, hT, rfl⟩ := h
  unfold stMake
  refine (make_is hT (by omega) dir).mono ?_
  rintro e w' ⟨r', hr', hq⟩
  obtain rfl := freeI_one hr hr'
  rcases hq with ⟨rfl, rfl, h1, h2⟩ | ⟨i, rfl, rfl, lo', h2, h3⟩
  · rw [if_pos rfl]; exact ⟨rfl, p_same hT (by omega) h2⟩
  · rw [if_neg (by omega)]; exact ⟨rfl, tp_step h2 (by omega) h3⟩
end

/-! ### the document's side -/
section
variable {w : World} {rb : Nat} {ns : NSt} {c : Nat} {O : Nat → Prop}
def QS (rb : Nat) (v : Value) (ns' : NSt) (m' : Nat) (O : Nat → Prop) (w : World) (e : Ending) (w' : World) : Prop := e = .returned v ∧ Step (RPa rb ns' m') O w w'
theorem q_same {W A : Nat → Prop} {m m' : Nat} (h : RO w rb ns m W A) (hm : m ≤ m') : Step (RPa rb ns m') (fun k => W k ∨ A k) w w := rp_step h.refl hm
theorem q_open (hV : IV ns c) (hc : c ≤ 90) (h : (RPa rb ns c).at' w O) (id : Int) : Calls Try.prog 40 #[.pointer (some ⟨rb, 0, none⟩), .int .i64 id] w (QS rb (.int .i64 (stOpen ns id).1) (stOpen ns id).2 (c + 1) O w) := by
  obtain ⟨W, A, hT, rfl, hl⟩ := h
  unfold stOpen
  cases hx : ndAt ns id with
  | none =>
    refine (ropen_no hT id hx).mono ?_
    rintro e w' ⟨rfl, rfl⟩
    exact ⟨rfl, q_same hT (by omega)⟩
  | some nd =>
    obtain ⟨i, rfl, hi⟩ := ndAt_some hx
    have h0 := hV.inv.opn i nd hi
    have h1 := hV.opn i nd hi
    refine (ropen_yes hT i nd hi h0 (by omega)).mono ?_
    rintro e w' ⟨rfl, h2⟩
    exact ⟨rfl, rp_step h2 (by omega)⟩
theorem q_close (hV : IV ns c) (hc : c ≤ 90) (h : (RPa rb ns c).at' w O) (id : Int) : Calls Try.prog 41 #[.pointer (some ⟨rb, 0, none⟩), .int .i64 id] w (QS rb (.int .i64 (stClose ns id).1) (stClose ns id).2 (c + 1) O w) := by
  obtain ⟨W, A, hT, rfl, hl⟩ := h
  unfold stClose
  cases hx : ndAt ns id with
  | none =>
    refine (rclose_no hT id (fun nd hnd => by rw [hx] at hnd; cases hnd)).mono ?_
    rintro e w' ⟨rfl, rfl⟩
    exact ⟨rfl, q_same hT (by omega)⟩
  | some nd =>
    obtain ⟨i, rfl, hi⟩ := ndAt_some hx
    have h0 := hV.inv.opn i nd hi
    have h1 := hV.opn i nd hi
    simp only
    by_cases ho : nd.opens = 0
    · rw [if_pos ho]
      refine (rclose_no hT i (fun nd2 hnd => by rw [hx] at hnd; cases hnd; exact ho)).mono ?_
      rintro e w' ⟨rfl, rfl⟩
      exact ⟨rfl, q_same hT (by omega)⟩
    · rw [if_neg ho]
      refine (rclose_yes hT (by omega) i nd hi (by omega) (by omega) (hV.closed1 hi (by omega))).mono ?_
      rintro e w' ⟨rfl, h2⟩
      exact ⟨rfl, rp_step h2 (by omega)⟩
theorem q_enter (hV : IV ns c) (hc : c ≤ 90) (h : (RPa rb ns c).at' w O) (dir : Int) (nm : Txt) (id : Int) : Calls Try.prog 42 #[.pointer (some ⟨rb, 0, none⟩), .int .i64 dir, .string (B nm), .int .i64 id] w (QS rb (.int .i64 (stEnter ns dir nm id).1) (stEnter ns dir nm id).2 (c + 1) O w) := by
  obtain ⟨W, A, hT, rfl, hl⟩ := h
  unfold stEnter
  cases hx : dirAt ns dir with
  | none =>
    refine (renter_nodir hT dir id nm hx).mono ?_
    rintro e w' ⟨rfl, rfl⟩
    exact ⟨rfl, q_same hT (by omega)⟩
  | some nd =>
    obtain ⟨i, rfl, hi, hd⟩ := dirAt_some hx
    refine (renter_is hT i id nm nd hi hd (hV.len i nd hi) (hV.srt i nd hi) _ (at_plc (hV.srt i nd hi) nm) (fun m hm => by
      obtain ⟨k, _, hk⟩ := ndAt_some hm
      exact ⟨hV.inv.links hk, hV.inv.bnd k m hk⟩)).mono ?_
    rintro e w' ⟨rfl, hq⟩
    simp only [Int.toNat_natCast]
    rcases hq with ⟨h0, rfl⟩ | ⟨h0, h2⟩
    · rw [if_neg h0]
      exact ⟨rfl, q_same hT (by omega)⟩
    · rw [if_pos h0, h0]
      exact ⟨rfl, rp_step h2 (by omega)⟩
theorem q_rem (hV : IV ns c) (hc : c ≤ 90) (h : (RPa rb ns c).at' w O) (dir : Int) (nm : Txt) : Calls Try.prog 43 #[.pointer (some ⟨rb, 0, none⟩), .int .i64 dir, .string (B nm)] w (QS rb (.int .i64 (stRem ns dir nm).1) (stRem ns dir nm).2 (c + 1) O w) := by
  obtain ⟨W, A, hT, rfl, hl⟩ := h
  unfold stRem
  cases hx : dirAt ns dir with
  | none =>
    refine (rrem_no hT dir nm hx).mono ?_
    rintro e w' ⟨rfl, rfl⟩
    exact ⟨rfl, q_same hT (by omega)⟩
  | some nd =>
    obtain ⟨i, rfl, hi, hd⟩ := dirAt_some hx
    have hA := at_plc (hV.srt i nd hi) nm
    refine (rrem_is hT (by omega) hV.inv i nm nd hi hd (hV.len i nd hi) (hV.srt i nd hi) _ hA).mono ?_
    rintro e w' hq
    simp only [Int.toNat_natCast]
    rcases hq with ⟨h0, rfl, rfl⟩ | ⟨k, nk, hxk, hk, hq⟩
    · rw [if_pos h0]
      exact ⟨rfl, q_same hT (by omega)⟩
    · have h0 : ¬ isAt nd.es nm (plc nd.es nm) = false := by
        have := (at_there (hV.srt i nd hi) hxk hA).2
        simp only at this
        rw [this]; simp
      rw [if_neg h0, hxk]
      simp only [Int.toNat_natCast]
      rw [hk]
      simp only
      rcases hq with ⟨h1, h2, rfl, rfl⟩ | ⟨h1, rfl, h2⟩
      · rw [if_pos ⟨h1, h2⟩]
        exact ⟨rfl, q_same hT (by omega)⟩
      · rw [if_neg h1]
        exact ⟨rfl, rp_step h2 (by omega)⟩
theorem q_find (hV : IV ns c) (h : (RPa rb ns c).at' w O) (dir : Int) (nm : Txt) : Calls Try.prog 44 #[.pointer (some ⟨rb, 0, none⟩), .int .i64 dir, .string (B nm)] w fun e w' => e = .returned (.tuple #[.int .i64 (stFind ns dir nm).1, .int .i64 (stFind ns dir nm).2]) ∧ w = w' := by
  obtain ⟨W, A, hT, rfl, hl⟩ := h
  unfold stFind
  cases hx : dirAt ns dir with
  | none =>
    obtain ⟨sb, vs, rw', fl, fb, hT, hml, hW, hA⟩ := hT
    exact rFind_no hT dir nm hx
  | some nd =>
    obtain ⟨i, rfl, hi, hd⟩ := dirAt_some hx
    have hA := at_plc (hV.srt i nd hi) nm
    simp only
    cases hia : isAt nd.es nm (plc nd.es nm) with
    | false =>
      rw [if_pos rfl]
      exact rFind_miss hT hi hd (at_miss hA (hV.srt i nd hi) hia)
    | true =>
      obtain ⟨x, hx1⟩ := at_hit hia
      rw [if_neg (by simp), hx1]
      exact rFind_hit hT hi hd (hV.srt i nd hi) hx1
theorem q_make (hV : IV ns c) (hc : c ≤ 90) (h : (RPa rb ns c).at' w O) (dir : Bool) (r : Int) (hr : freeI ns r) : Calls Try.prog 38 #[.pointer (some ⟨rb, 0, none⟩), .bool dir] w (QS rb (.tuple #[.int .i64 (stMake ns dir r).1, .int .i64 (stMake ns dir r).2.1]) (stMake ns dir r).2.2 (c + 1) O w) := by
  obtain ⟨W, A, hT, rfl, hl⟩ := h
  unfold stMake
  refine (rmake_is hT (by omega) dir (fun e => by have := hV.root; unfold Rt at this; rw [e] at this; cases this)).mono ?_
  rintro e w' ⟨r', hr', hq⟩
  obtain rfl := freeI_one hr hr'
  rcases hq with ⟨rfl, rfl, rfl⟩ | ⟨i, rfl, rfl, h2⟩
  · rw [if_pos rfl]; exact ⟨rfl, q_same hT (by omega)⟩
  · rw [if_neg (by omega)]; exact ⟨rfl, rp_step h2 (by omega)⟩
end
end Go.Proofs.Ytapkdaccbojbgaa
