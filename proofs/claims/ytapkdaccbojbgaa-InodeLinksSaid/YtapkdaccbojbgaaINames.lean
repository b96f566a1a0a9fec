/-
  InodeNames: one file under many names.
-/
import Derived.Test.YtapkdaccbojbgaaIRem
import Derived.Test.YtapkdaccbojbgaaLow
namespace Go.Proofs.Ytapkdaccbojbgaa
set_option linter.unusedSimpArgs false
set_option linter.unusedVariables false
open Go.RowKit Own RegJ Two
open Go.Lib hiding intOf

/-- a row of texts that can be read -/
def RdT (w : World) (a : Option Addr) (xs : List Txt) : Prop := ∀ k x, xs[k]? = some x → ∃ g o, a = some ⟨g, o, none⟩ ∧ w.cell? ⟨g, o + k, none⟩ = some (.string (B x))
theorem RdT.below {w w' : World} {a : Option Addr} {xs : List Txt} (h : RdT w a xs) (hB : Below w.heap.size w w') : RdT w' a xs := by
  intro k x hx
  obtain ⟨g, o, h1, h2⟩ := h k x hx
  exact ⟨g, o, h1, (hB.cell (cell_lt2 h2)).trans h2⟩
/-- the root with these entries, each of the one file -/
def nsE (es : List En) : NSt := fun i => if i = 0 then some ⟨true, 0, 0, es⟩ else if i = 1 then some ⟨false, es.length, 1, []⟩ else none
theorem nsE_ns0 : nsPut ns0 1 (some ⟨false, 0, 1, []⟩) = nsE [] := by
  funext i; unfold nsPut ns0 nsE
  by_cases h0 : i = 0
  · subst h0; rfl
  · by_cases h1 : i = 1
    · subst h1; rfl
    · simp [h0, h1]
theorem nsE_ent (es : List En) (j : Nat) (nm : Txt) : nsEnt (nsE es) 0 ⟨true, 0, 0, es⟩ (insE es j (nm, 1)) 1 = nsE (insE es j (nm, 1)) := by
  have hl := insE_len es j (nm, 1)
  have h1 : nsPut (nsE es) 0 (some (setEs ⟨true, 0, 0, es⟩ (insE es j (nm, 1)))) ((1 : Int).toNat) = some ⟨false, es.length, 1, []⟩ := rfl
  unfold nsEnt
  rw [h1]
  simp only
  funext i; unfold nsPut nsE setEs addL
  by_cases h0 : i = 0
  · subst h0; rfl
  · by_cases h1 : i = 1
    · subst h1; simp [hl]
    · have : i ≠ (1 : Int).toNat := h1
      simp [h0, h1, this]
theorem nsE_rem (es : List En) (j : Nat) (hj : j < es.length) : nsRem (nsE es) 0 ⟨true, 0, 0, es⟩ j 1 = nsE (delE es j) := by
  have hl := delE_len hj
  have h1 : nsPut (nsE es) 0 (some (setEs ⟨true, 0, 0, es⟩ (delE es j))) 1 = some ⟨false, es.length, 1, []⟩ := rfl
  unfold nsRem decL
  rw [h1]
  simp only
  funext i; unfold nsPut nsE setEs addL
  by_cases h0 : i = 0
  · subst h0; rfl
  · by_cases h1 : i = 1
    · subst h1
      have : ((es.length : Int) + -1) = ((es.length - 1 : Nat) : Int) := by omega
      simp [hl, this]
    · simp [h0, h1]
def One1 (es : List En) : Prop := ∀ e ∈ es, e.2 = 1
theorem cnt_one {es : List En} (h : One1 es) (m : Nat) : cntE es m = if m = 1 then es.length else 0 := by
  unfold cntE
  by_cases hm : m = 1
  · subst hm
    rw [if_pos rfl]
    rw [show es.length = (es.map Prod.snd).length by simp]
    rw [List.count_eq_length]
    intro x hx
    rw [List.mem_map] at hx
    obtain ⟨e, he, rfl⟩ := hx
    rw [h e he]; rfl
  · rw [if_neg hm]
    rw [List.count_eq_zero]
    intro hx
    rw [List.mem_map] at hx
    obtain ⟨e, he, h2⟩ := hx
    rw [h e he] at h2
    omega
theorem nsE_inv {es : List En} (h : One1 es) (h8 : es.length ≤ 8) : Inv (nsE es) [] := by
  refine ⟨fun i nd hi e he => ?_, fun x hx => (by cases hx), fun m => ?_, fun i hi => ?_, fun i nd hi => ?_, fun i nd hi => ?_⟩
  · unfold nsE at hi
    split at hi
    · cases hi; have := h e he; omega
    · split at hi
      · cases hi; cases he
      · cases hi
  · have hr : refs (nsE es) m 16 = cntE es m := by
      have e0 : cntO (nsE es 0) m = cntE es m := rfl
      have e1 : cntO (nsE es 1) m = 0 := rfl
      simp only [refs, e0, e1]
      have e2 : ∀ k, cntO (nsE es (k + 2)) m = 0 := fun k => rfl
      simp only [e2 0, e2 1, e2 2, e2 3, e2 4, e2 5, e2 6, e2 7, e2 8, e2 9, e2 10, e2 11, e2 12, e2 13]
      omega
    rw [hr, cnt_one h]
    unfold lnk nsE
    by_cases h0 : m = 0
    · subst h0; rfl
    · by_cases h1 : m = 1
      · subst h1; simp
      · simp [h0, h1]
  · unfold nsE; rw [if_neg (by omega), if_neg (by omega)]
  · unfold nsE at hi
    split at hi
    · cases hi; exact Int.le_refl 0
    · split at hi
      · cases hi; exact Int.le_of_lt Int.one_pos
      · cases hi
  · unfold nsE at hi
    split at hi
    · cases hi; simp
    · split at hi
      · cases hi; simp only; omega
      · cases hi
theorem ins_one {es : List En} (h : One1 es) (j : Nat) (nm : Txt) : One1 (insE es j (nm, 1)) := by
  intro e he
  unfold insE at he
  rw [List.mem_append, List.mem_cons] at he
  rcases he with he | rfl | he
  · exact h e (List.mem_of_mem_take he)
  · rfl
  · exact h e (List.mem_of_mem_drop he)
theorem del_one {es : List En} (h : One1 es) (j : Nat) : One1 (delE es j) := by
  intro e he
  unfold delE at he
  rw [List.mem_append] at he
  rcases he with he | he
  · exact h e (List.mem_of_mem_take he)
  · exact h e (List.mem_of_mem_drop he)
/-- a name that is there is met -/
theorem at_there {es : List En} (hS : Srt es) {i j : Nat} {x : En} (hx : es[i]? = some x) (hA : At es x.1 j) : j = i ∧ isAt es x.1 j = true := by
  have hil := (List.getElem?_eq_some_iff.1 hx).1
  have h1 : j = i := by
    by_cases h1 : j < i
    · have hjl : j < es.length := by omega
      have := hA.2.2 j es[j] (List.getElem?_eq_getElem hjl) (Nat.le_refl _)
      have h2 := srt_at hS (List.getElem?_eq_getElem hjl) hx h1
      rw [this] at h2; cases h2
    · by_cases h2 : i < j
      · have := hA.2.1 i x hx h2
        rw [nlt_irr] at this; cases this
      · omega
  subst h1
  refine ⟨rfl, ?_⟩
  unfold isAt; rw [hx]; simp
theorem gone_at {es : List En} (hS : Srt es) {i j : Nat} {x : En} (hx : es[i]? = some x) (hA : At (delE es i) x.1 j) : isAt (delE es i) x.1 j = false := by
  have hmem : ∀ y ∈ delE es i, y.1 ≠ x.1 := by
    intro y hy e
    have hs := split_at hx
    unfold Srt at hS
    rw [hs] at hS
    rw [List.pairwise_append, List.pairwise_cons] at hS
    unfold delE at hy
    rw [List.mem_append] at hy
    rcases hy with hy | hy
    · have := hS.2.2 y hy x (List.mem_cons_self ..)
      rw [e, nlt_irr] at this; cases this
    · have := hS.2.1.1 y hy
      rw [e, nlt_irr] at this; cases this
  unfold isAt
  cases hj : (delE es i)[j]? with
  | none => rfl
  | some y => simp only; exact decide_eq_false (hmem y (List.mem_of_getElem? hj))
/-- the table under way -/
structure St (w0 : World) (tb : Nat) (es : List En) (w : World) : Prop where
  tab : ∃ lo, TB w tb (nsE es) lo 1 ∧ ∀ r k, lo r = some k → w0.heap.size ≤ k
  bel : Below w0.heap.size w0 w
  one : One1 es
section
variable {w0 w : World} {tb : Nat} {es : List En}
theorem St.srt (h : St w0 tb es w) : Srt es ∧ es.length ≤ 8 := by
  obtain ⟨lo, hT, _⟩ := h.tab
  obtain ⟨_, _, _, _, _, h8, hS⟩ := hT.node 0 ⟨true, 0, 0, es⟩ rfl
  exact ⟨hS, h8⟩
theorem St.below (h : St w0 tb es w) {w' : World} (hb : Below w.heap.size w w') : St w0 tb es w' := by
  obtain ⟨lo, hT, hl⟩ := h.tab
  exact ⟨⟨lo, hT.below hb, hl⟩, h.bel.trans (hb.mono h.bel.size), h.one⟩
theorem St.enter (h : St w0 tb es w) (nm : Txt) : Calls Try.prog 10 #[.pointer (some ⟨tb, 0, none⟩), .int .i64 0, .string (B nm), .int .i64 1] w fun e w' => ∃ R, e = .returned (.int .i64 R) ∧ ((R ≠ 0 ∧ St w0 tb es w') ∨ (R = 0 ∧ ∃ j, St w0 tb (insE es j (nm, 1)) w')) := by
  obtain ⟨lo, hT, hl⟩ := h.tab
  have h8 := h.srt.2
  have := enter_is (nd := ⟨true, 0, 0, es⟩) hT 0 1 nm rfl rfl (fun m hm => by
    obtain rfl : m = ⟨false, es.length, 1, []⟩ := (Option.some.inj hm).symm
    simp only; omega)
  refine this.mono ?_
  rintro e w' ⟨j, hA, rfl, hq⟩
  refine ⟨_, rfl, ?_⟩
  rcases hq with ⟨hne, hB⟩ | ⟨h0, lo', hT', hF⟩
  · exact Or.inl ⟨hne, h.below hB⟩
  · refine Or.inr ⟨h0, j, ?_⟩
    rw [nsE_ent] at hT'
    obtain ⟨b1, b2⟩ := hF.below hl h.bel.size
    exact ⟨⟨lo', hT', b2⟩, h.bel.trans b1, ins_one h.one j nm⟩
theorem St.find (h : St w0 tb es w) (i : Nat) (x : En) (hx : es[i]? = some x) : Calls Try.prog 12 #[.pointer (some ⟨tb, 0, none⟩), .int .i64 0, .string (B x.1)] w fun e w' => e = .returned (.tuple #[.int .i64 1, .int .i64 0]) ∧ Below w.heap.size w w' := by
  obtain ⟨lo, hT, hl⟩ := h.tab
  refine (tfind_yes (nd := ⟨true, 0, 0, es⟩) hT 0 x.1 rfl rfl).mono ?_
  rintro e w' ⟨⟨j, hA, hq⟩, hB⟩
  obtain ⟨rfl, hat⟩ := at_there h.srt.1 hx hA
  rcases hq with ⟨hq, _⟩ | ⟨y, hy, hn, rfl⟩
  · have hq' : isAt es x.1 j = false := hq
    rw [hat] at hq'; cases hq'
  · have hy' : es[j]? = some y := hy
    rw [h.one y (List.mem_of_getElem? hy')]
    exact ⟨rfl, hB⟩
theorem St.nofind {i : Nat} (h : St w0 tb (delE es i) w) (hS : Srt es) (x : En) (hx : es[i]? = some x) : Calls Try.prog 12 #[.pointer (some ⟨tb, 0, none⟩), .int .i64 0, .string (B x.1)] w fun e w' => e = .returned (.tuple #[.int .i64 0, .int .i64 9]) ∧ Below w.heap.size w w' := by
  obtain ⟨lo, hT, hl⟩ := h.tab
  refine (tfind_yes (nd := ⟨true, 0, 0, delE es i⟩) hT 0 x.1 rfl rfl).mono ?_
  rintro e w' ⟨⟨j, hA, hq⟩, hB⟩
  have hg := gone_at hS hx hA
  rcases hq with ⟨hq, rfl⟩ | ⟨y, hy, hn, rfl⟩
  · exact ⟨rfl, hB⟩
  · have hy' : (delE es i)[j]? = some y := hy
    unfold isAt at hg
    rw [hy'] at hg
    simp only [hn] at hg
    simp at hg
theorem St.remove (h : St w0 tb es w) (i : Nat) (x : En) (hx : es[i]? = some x) : Calls Try.prog 14 #[.pointer (some ⟨tb, 0, none⟩), .int .i64 0, .string (B x.1)] w fun e w' => e = .returned (.int .i64 0) ∧ St w0 tb (delE es i) w' := by
  obtain ⟨lo, hT, hl⟩ := h.tab
  obtain ⟨hS, h8⟩ := h.srt
  refine (remove_any (nd := ⟨true, 0, 0, es⟩) hT (nsE_inv h.one h8) 0 x.1 rfl rfl).mono ?_
  rintro e w' ⟨j, hA, hq⟩
  obtain ⟨rfl, hat⟩ := at_there hS hx hA
  rcases hq with ⟨hq, _⟩ | ⟨m, ndm, hxm, hm, hq⟩
  · have hq' : isAt es x.1 j = false := hq
    rw [hat] at hq'; cases hq'
  · have hxm' : es[j]? = some (x.1, (m : Int)) := hxm
    have h1 := h.one _ (List.mem_of_getElem? hxm')
    obtain rfl : m = 1 := by simp only at h1; omega
    have hm1 : ndm = ⟨false, es.length, 1, []⟩ := (Option.some.inj hm).symm
    subst hm1
    rcases hq with ⟨hq, _⟩ | ⟨_, rfl, lo', hT', hF⟩
    · cases hq
    · refine ⟨rfl, ?_⟩
      rw [nsE_rem es j (List.getElem?_eq_some_iff.1 hx).1, gone_stay (nd := ⟨false, (delE es j).length, 1, []⟩) rfl (Or.inr (Or.inr Int.one_pos))] at hT'
      obtain ⟨b1, b2⟩ := hF.below hl h.bel.size
      exact ⟨⟨lo', hT', b2⟩, h.bel.trans b1, del_one h.one j⟩
theorem St.get (h : St w0 tb es w) : Calls Try.prog 15 #[.pointer (some ⟨tb, 0, none⟩), .int .i64 1] w fun e w' => e = .returned (.tuple #[.agg #[.int .i64 1, .int .i64 es.length, .bool false, .int .i64 0], .bool true]) ∧ Below w.heap.size w w' := by
  obtain ⟨lo, hT, hl⟩ := h.tab
  refine (get_any hT 1).mono ?_
  rintro e w' ⟨rfl, hB⟩
  exact ⟨rfl, hB⟩
theorem St.list (h : St w0 tb es w) : Calls Try.prog 11 #[.pointer (some ⟨tb, 0, none⟩), .int .i64 0] w (ListP es w) := by
  obtain ⟨lo, hT, hl⟩ := h.tab
  exact list_yes (nd := ⟨true, 0, 0, es⟩) hT 0 rfl rfl
end
end Go.Proofs.Ytapkdaccbojbgaa
