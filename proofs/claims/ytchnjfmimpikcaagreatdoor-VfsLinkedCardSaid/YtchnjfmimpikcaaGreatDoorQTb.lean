/-
  The document's table of nodes with its store, as it lies within a set of blocks; Is, IsDir, Len, Get, Find.
-/
import Derived.Test.YtchnjfmimpikcaaGreatDoorIVal
import Derived.Test.YtchnjfmimpikcaaGreatDoorQWr
namespace Go.Proofs.YtchnjfmimpikcaaGreatDoor
set_option linter.unusedSimpArgs false
set_option linter.unusedVariables false
open Go.RowKit Own RegC Three Two
open RegJ hiding Up
open RegF hiding put_size
open Go.Lib hiding intOf

/-! ### the store's blocks by their types -/
def Sty (w : World) (k : Nat) : Prop := ∃ cs T, Blk w k cs T ∧ (T = 146 ∨ T = 163 ∨ T = 143 ∨ T = 4 ∨ T = 23 ∨ T = 5 ∨ T = 3)
theorem RegJ.Blk.sty {w : World} {k : Nat} {cs : Array Value} {T : TypeId} (h : Blk w k cs T) (hT : T ≠ 146 ∧ T ≠ 163 ∧ T ≠ 143 ∧ T ≠ 4 ∧ T ≠ 23 ∧ T ≠ 5 ∧ T ≠ 3) : ¬ Sty w k := by
  rintro ⟨cs', T', h', e⟩
  have : T = T' := Classical.byContradiction fun hne => h.neT h' hne rfl
  subst this
  rcases e with e | e | e | e | e | e | e
  · exact hT.1 e
  · exact hT.2.1 e
  · exact hT.2.2.1 e
  · exact hT.2.2.2.1 e
  · exact hT.2.2.2.2.1 e
  · exact hT.2.2.2.2.2.1 e
  · exact hT.2.2.2.2.2.2 e
theorem RowV.blk {w : World} {E : TypeId} {v : Value} {xs : List Value} {b : Option Nat} (h : RowV w E v xs b) (g : Nat) (hg : b = some g) : ∃ cs, Blk w g cs E := by
  rcases h with ⟨_, _, hb⟩ | ⟨g', cap, rest, hv, hb, hB, hc, hm⟩
  · rw [hb] at hg; cases hg
  · rw [hb] at hg; cases hg; exact ⟨_, hB⟩
theorem Three.Row3.blk {w : World} {T : TypeId} {v : Value} {xs : List V3} {b : Option Nat} (h : Row3 w T v xs b) (g : Nat) (hg : b = some g) : ∃ cs, Blk w g cs T := by
  rcases h with ⟨_, _, hb⟩ | ⟨g', cap, rest, hv, hb, hB, hc, hm⟩
  · rw [hb] at hg; cases hg
  · rw [hb] at hg; cases hg; exact ⟨_, hB⟩
theorem Two.Row2.blk {w : World} {T : TypeId} {v : Value} {xs : List V2} {b : Option Nat} (h : Row2 w T v xs b) (g : Nat) (hg : b = some g) : ∃ cs, Blk w g cs T := by
  rcases h with ⟨_, _, hb⟩ | ⟨g', cap, rest, hv, hb, hB, hc, hm⟩
  · rw [hb] at hg; cases hg
  · rw [hb] at hg; cases hg; exact ⟨_, hB⟩
/-- the store's part of a side's blocks -/
def Os (w : World) (O : Nat → Prop) (k : Nat) : Prop := O k ∧ Sty w k
section
variable {w w' : World} {O O' F : Nat → Prop} {sb fb tb bb n N fr : Nat} {fls : List Fil} {tk : List Bool} {back : List Int} {fs : Sfs} {v : Value} {g : Option Nat} {vals : List V3}
theorem FD.only (h : FD w O fb tb bb n tk back fr) : FD w (Os w O) fb tb bb n tk back fr := by
  obtain ⟨vb, bk, k1, k2, k3⟩ := h.blk
  obtain ⟨cs, k4, k5⟩ := h.row
  exact ⟨⟨vb, bk, k1, k2, fun g hg => ⟨k3 g hg, by obtain ⟨cs, q⟩ := k2.blk g hg; exact ⟨cs, _, q, by simp⟩⟩⟩, h.tak, h.row, h.len, h.n64, h.frn, h.bkn, h.bkr, ⟨h.of.1, _, _, k1, by simp⟩, ⟨h.of.2.1, _, _, h.tak, by simp⟩, h.of.2.2, _, _, k4, by simp⟩
theorem FilIs.only {x : V3} {f : Fil} (h : FilIs w O x f) : FilIs w (Os w O) x f := by
  obtain ⟨h1, ⟨b, h2, h3⟩, b', h4, h5⟩ := h
  exact ⟨h1, ⟨b, h2, fun g hg => ⟨h3 g hg, by obtain ⟨cs, q⟩ := h2.blk g hg; exact ⟨cs, _, q, by simp⟩⟩⟩, b', h4, fun g hg => ⟨h5 g hg, by obtain ⟨cs, q⟩ := h4.blk g hg; exact ⟨cs, _, q, by simp⟩⟩⟩
theorem SS.only (h : SS w O sb n N fs) : SS w (Os w O) sb n N fs := by
  obtain ⟨fb, tb, bb, fls, tk, back, fr, h, hk⟩ := h
  obtain ⟨v, g, vals, hb, hL⟩ := h.blk
  exact ⟨fb, tb, bb, fls, tk, back, fr, ⟨⟨v, g, vals, hb, hL.row, fun k hk => ⟨hL.og k hk, by obtain ⟨cs, q⟩ := hL.row.blk k hk; exact ⟨cs, _, q, by simp⟩⟩, hL.len, fun j x f hx hf => (hL.is j x f hx hf).only⟩, ⟨h.osb, _, _, hb, by simp⟩, h.frm.only⟩, hk⟩
/-- a block of another kind turns -/
theorem SS.turn1 (h : SS w O sb n N fs) {b : Nat} {cs : Array Value} {T : TypeId} (hb : Blk w b cs T) (hu : Upd (fun k => k = b) w w') (hT : T ≠ 146 ∧ T ≠ 163 ∧ T ≠ 143 ∧ T ≠ 4 ∧ T ≠ 23 ∧ T ≠ 5 ∧ T ≠ 3) : SS w' O sb n N fs :=
  (h.only.upd hu (fun k hk e => hb.sty hT (e ▸ hk.2))).mono (fun k hk _ => hk.1)
end

/-! ### the table's cells -/
def nodeC (o : Option Nd) (v : Value) : List Value := match o with
  | some nd => [.bool true, .bool nd.dir, .int .i64 nd.links, .int .i64 nd.opens, v]
  | none => [.bool false, .bool false, .int .i64 0, .int .i64 0, v]
theorem nodeC_len (o : Option Nd) (v : Value) : (nodeC o v).length = 5 := by cases o <;> rfl
def nodesR (R : Nat → List Value) : Nat → List Value
  | 0 => []
  | k + 1 => nodesR R k ++ R k
theorem nodesR_len {R : Nat → List Value} (h : ∀ i, (R i).length = 5) : ∀ k, (nodesR R k).length = k * 5
  | 0 => rfl
  | k + 1 => by unfold nodesR; rw [List.length_append, nodesR_len h k, h]; omega
theorem nodesR_at {R : Nat → List Value} (h5 : ∀ i, (R i).length = 5) : ∀ (k i f : Nat), i < k → f < 5 → (nodesR R k)[i * 5 + f]? = (R i)[f]?
  | 0, _, _, h, _ => by omega
  | k + 1, i, f, h, hf => by
    have hl := nodesR_len h5 k
    unfold nodesR
    by_cases hik : i = k
    · subst hik
      rw [List.getElem?_append_right (by omega), hl, Nat.add_sub_cancel_left]
    · rw [List.getElem?_append_left (by omega), nodesR_at h5 k i f (by omega) hf]
def refR (sb : Nat) (R : Nat → List Value) : Array Value := (.pointer (some ⟨sb, 0, none⟩) :: nodesR R 16).toArray
theorem refR_at (sb : Nat) {R : Nat → List Value} (h5 : ∀ i, (R i).length = 5) (i f : Nat) (hi : i < 16) (hf : f < 5) : (refR sb R)[1 + i * 5 + f]? = (R i)[f]? := by
  unfold refR
  rw [List.getElem?_toArray, show 1 + i * 5 + f = (i * 5 + f) + 1 by omega, List.getElem?_cons_succ, nodesR_at h5 16 i f hi hf]
def putR (R : Nat → List Value) (i f : Nat) (v : Value) : Nat → List Value := fun k => if k = i then (R i).set f v else R k
theorem putR_len {R : Nat → List Value} (h5 : ∀ i, (R i).length = 5) (i f : Nat) (v : Value) : ∀ k, (putR R i f v k).length = 5 := by
  intro k
  unfold putR
  split
  · rw [List.length_set]; exact h5 i
  · exact h5 k
theorem refR_set (sb : Nat) {R : Nat → List Value} (h5 : ∀ i, (R i).length = 5) (i f : Nat) (hi : i < 16) (hf : f < 5) (v : Value) : (refR sb R).setIfInBounds (1 + i * 5 + f) v = refR sb (putR R i f v) := by
  have h5' := putR_len h5 i f v
  have s1 : (refR sb R).size = 81 := by unfold refR; rw [List.size_toArray, List.length_cons, nodesR_len h5 16]
  have s2 : (refR sb (putR R i f v)).size = 81 := by unfold refR; rw [List.size_toArray, List.length_cons, nodesR_len h5' 16]
  apply Array.ext_getElem?
  intro j
  rw [Array.getElem?_setIfInBounds, s1]
  by_cases hj : j < 81
  · cases j with
    | zero =>
      rw [if_neg (by omega)]
      unfold refR
      simp only [List.getElem?_toArray, List.getElem?_cons_zero]
    | succ j =>
      have hjk : j + 1 = 1 + (j / 5) * 5 + j % 5 := by omega
      have hk : j / 5 < 16 := by omega
      have hff : j % 5 < 5 := by omega
      rw [hjk, refR_at sb h5 _ _ hk hff, refR_at sb h5' _ _ hk hff]
      unfold putR
      by_cases e : j / 5 = i
      · rw [if_pos e, e]
        by_cases e2 : f = j % 5
        · rw [if_pos (by omega), if_pos (by omega), e2, List.getElem?_set_self (by rw [h5]; omega)]
        · rw [if_neg (by omega), List.getElem?_set_ne e2]
      · rw [if_neg e, if_neg (by omega)]
  · rw [if_neg (by omega), Array.getElem?_eq_none (by omega), Array.getElem?_eq_none (by omega)]
theorem refR_ext (sb : Nat) {R R' : Nat → List Value} (h : ∀ i, R i = R' i) : refR sb R = refR sb R' := by rw [show R = R' from funext h]
/-- the cells of the table -/
def refC (sb : Nat) (ns : NSt) (vs : Nat → Value) : Array Value := refR sb (fun i => nodeC (ns i) (vs i))
theorem refC_at (sb : Nat) (ns : NSt) (vs : Nat → Value) (i f : Nat) (hi : i < 16) (hf : f < 5) : (refC sb ns vs)[1 + i * 5 + f]? = (nodeC (ns i) (vs i))[f]? := refR_at sb (fun _ => nodeC_len _ _) i f hi hf
/-- one field of one node -/
theorem refC_set (sb : Nat) (ns ns' : NSt) (vs vs' : Nat → Value) (i f : Nat) (hi : i < 16) (hf : f < 5) (v : Value) (hs : ∀ k, k ≠ i → ns' k = ns k ∧ vs' k = vs k) (he : nodeC (ns' i) (vs' i) = (nodeC (ns i) (vs i)).set f v) : (refC sb ns vs).setIfInBounds (1 + i * 5 + f) v = refC sb ns' vs' := by
  unfold refC
  rw [refR_set sb (fun _ => nodeC_len _ _) i f hi hf v]
  refine refR_ext sb fun k => ?_
  unfold putR
  by_cases e : k = i
  · rw [if_pos e, e, he]
  · rw [if_neg e, (hs k e).1, (hs k e).2]
/-- a whole node -/
theorem refC_node (sb : Nat) (ns ns' : NSt) (vs vs' : Nat → Value) (i : Nat) (hi : i < 16) (a b c d e : Value) (hs : ∀ k, k ≠ i → ns' k = ns k ∧ vs' k = vs k) (he : nodeC (ns' i) (vs' i) = [a, b, c, d, e]) :
    (((((refC sb ns vs).setIfInBounds (1 + i * 5) a).setIfInBounds (1 + i * 5 + 1) b).setIfInBounds (1 + i * 5 + 2) c).setIfInBounds (1 + i * 5 + 3) d).setIfInBounds (1 + i * 5 + 4) e = refC sb ns' vs' := by
  have h5 : ∀ k, (nodeC (ns k) (vs k)).length = 5 := fun _ => nodeC_len _ _
  unfold refC
  have q0 := refR_set sb h5 i 0 hi (by omega) a
  rw [Nat.add_zero] at q0
  have p0 := putR_len h5 i 0 a
  have p1 := putR_len p0 i 1 b
  have p2 := putR_len p1 i 2 c
  have p3 := putR_len p2 i 3 d
  rw [q0, refR_set sb p0 i 1 hi (by omega) b, refR_set sb p1 i 2 hi (by omega) c, refR_set sb p2 i 3 hi (by omega) d, refR_set sb p3 i 4 hi (by omega) e]
  refine refR_ext sb fun k => ?_
  by_cases ek : k = i
  · subst ek
    rw [he]
    unfold putR
    simp only [if_pos]
    have := h5 k
    match hx : nodeC (ns k) (vs k), this with
    | [x0, x1, x2, x3, x4], _ => rfl
  · unfold putR
    simp only [if_neg ek, (hs k ek).1, (hs k ek).2]

theorem refC_0 (sb : Nat) (ns : NSt) (vs : Nat → Value) : (refC sb ns vs)[0]? = some (.pointer (some ⟨sb, 0, none⟩)) := by
  unfold refC refR
  simp only [List.getElem?_toArray, List.getElem?_cons_zero]
structure QV (w : World) (O : Nat → Prop) (rb sb n N : Nat) (ns : NSt) (vs : Nat → Value) (fs : Sfs) : Prop where
  tab : Blk w rb (refC sb ns vs) 161
  sto : SS w O sb n N fs
  row : ∀ i nd, ns i = some nd → (∃ b, Row2 w 118 (vs i) (nd.es.map enV) b ∧ inO O b) ∧ nd.es.length ≤ 8
  nil' : ∀ i, ns i = none → vs i = .slice none 0 0
  far : ∀ i, 16 ≤ i → ns i = none
  orb : O rb
section
variable {w w' : World} {O O' F : Nat → Prop} {rb sb n N N' : Nat} {ns : NSt} {vs : Nat → Value} {fs fs' : Sfs}
theorem QV.upd (h : QV w O rb sb n N ns vs fs) (hu : Upd F w w') (hF : ∀ k, O k → ¬ F k) : QV w' O rb sb n N ns vs fs :=
  ⟨Blk.upd hu h.tab (hF _ h.orb), h.sto.upd hu hF, fun i nd hi => by obtain ⟨⟨b, h1, h2⟩, h3⟩ := h.row i nd hi; exact ⟨⟨b, h1.upd hu (fun g hg => hF _ (h2 g hg)), h2⟩, h3⟩, h.nil', h.far, h.orb⟩
theorem QV.mono (h : QV w O rb sb n N ns vs fs) (ho : ∀ k, O k → k < w.heap.size → O' k) : QV w O' rb sb n N ns vs fs :=
  ⟨h.tab, h.sto.mono ho, fun i nd hi => by obtain ⟨⟨b, h1, h2⟩, h3⟩ := h.row i nd hi; exact ⟨⟨b, h1, fun g hg => ho g (h2 g hg) (h1.lt g hg)⟩, h3⟩, h.nil', h.far, ho _ h.orb h.tab.lt⟩
theorem QV.below (h : QV w O rb sb n N ns vs fs) (hB : Below w.heap.size w w') : QV w' O rb sb n N ns vs fs :=
  ⟨Blk.below hB h.tab h.tab.lt, h.sto.below hB, fun i nd hi => by obtain ⟨⟨b, h1, h2⟩, h3⟩ := h.row i nd hi; exact ⟨⟨b, h1.below hB, h2⟩, h3⟩, h.nil', h.far, h.orb⟩
theorem QV.le (h : QV w O rb sb n N ns vs fs) (hN : N ≤ N') : QV w O rb sb n N' ns vs fs := ⟨h.tab, h.sto.le hN, h.row, h.nil', h.far, h.orb⟩
/-- the store's step -/
theorem QV.store (h : QV w O rb sb n N ns vs fs) (hs : SS w' (nx w w' (Os w O)) sb n N' fs') (hu : Upd (Os w O) w w') : QV w' (nx w w' O) rb sb n N' ns vs fs' := by
  have hz := hu.size
  refine ⟨Blk.upd hu h.tab (fun e => h.tab.sty (by decide) e.2), hs.mono (fun k hk _ => ⟨hk.1.imp (fun h => h.1) (fun h => h), hk.2⟩), fun i nd hi => ?_, h.nil', h.far, nx_old h.orb (Nat.lt_of_lt_of_le h.tab.lt hz)⟩
  obtain ⟨⟨b, h1, h2⟩, h3⟩ := h.row i nd hi
  exact ⟨⟨b, h1.upd hu (fun g hg e => by obtain ⟨cs, q⟩ := h1.blk g hg; exact q.sty (by decide) e.2), fun g hg => nx_old (h2 g hg) (Nat.lt_of_lt_of_le (h1.lt g hg) hz)⟩, h3⟩
theorem QV.cell (h : QV w O rb sb n N ns vs fs) (i f : Nat) (hi : i < 16) (hf : f < 5) : w.cell? ⟨rb, 1 + i * 5 + f, none⟩ = (nodeC (ns i) (vs i))[f]? := by
  rw [h.tab.rd, refC_at sb ns vs i f hi hf]
theorem QV.cells (h : QV w O rb sb n N ns vs fs) {i : Nat} {nd : Nd} (hi : ns i = some nd) : i < 16 ∧ w.cell? ⟨rb, 1 + i * 5, none⟩ = some (.bool true) ∧ w.cell? ⟨rb, 1 + i * 5 + 1, none⟩ = some (.bool nd.dir) ∧ w.cell? ⟨rb, 1 + i * 5 + 2, none⟩ = some (.int .i64 nd.links) ∧ w.cell? ⟨rb, 1 + i * 5 + 3, none⟩ = some (.int .i64 nd.opens) ∧ w.cell? ⟨rb, 1 + i * 5 + 4, none⟩ = some (vs i) := by
  have h16 : i < 16 := by
    rcases Nat.lt_or_ge i 16 with h1 | h1
    · exact h1
    · rw [h.far i h1] at hi; cases hi
  refine ⟨h16, ?_, ?_, ?_, ?_, ?_⟩
  · have := h.cell i 0 h16 (by omega); rw [hi] at this; exact this
  · have := h.cell i 1 h16 (by omega); rw [hi] at this; exact this
  · have := h.cell i 2 h16 (by omega); rw [hi] at this; exact this
  · have := h.cell i 3 h16 (by omega); rw [hi] at this; exact this
  · have := h.cell i 4 h16 (by omega); rw [hi] at this; exact this
theorem QV.cells_no (h : QV w O rb sb n N ns vs fs) {i : Nat} (h16 : i < 16) (hi : ns i = none) : w.cell? ⟨rb, 1 + i * 5, none⟩ = some (.bool false) := by
  have := h.cell i 0 h16 (by omega); rw [hi] at this; exact this
set_option maxRecDepth 100000 in
theorem rIs_is (h : QV w O rb sb n N ns vs fs) (id : Int) : Calls Tryz.prog 96 #[.pointer (some ⟨rb, 0, none⟩), .int .i64 id] w fun e w' => e = .returned (.bool (ndAt ns id).isSome) ∧ w = w' := by
  by_cases h0 : 0 ≤ id ∧ id < 16
  · obtain ⟨i, rfl⟩ : ∃ i : Nat, id = i := ⟨id.toNat, by omega⟩
    have hx : ndAt ns (i : Int) = ns i := by unfold ndAt; rw [if_pos (by omega)]; rfl
    rw [hx]
    have d1 : decide ((i : Int) ≥ 0) = true := by simp
    have d2 : decide ((i : Int) < 16) = true := by simp; omega
    have d2n : decide (i < 16) = true := by simp; omega
    have i1 : (i : Int) < 16 := by omega
    have i2 : (0 : Int) ≤ i := by omega
    cases hn : ns i with
    | none =>
      have c1 := h.cells_no (by omega) hn
      clear h hx hn h0
      go_enter Tryz.func96, Tryz.ntmps96
      go_wp2
      go_ret
      exact ⟨rfl, rfl⟩
    | some nd =>
      have c1 := (h.cells hn).2.1
      clear h hx hn h0
      go_enter Tryz.func96, Tryz.ntmps96
      go_wp2
      go_ret
      exact ⟨rfl, rfl⟩
  · have hx : ndAt ns id = none := by
      unfold ndAt
      split
      · exact h.far _ (by omega)
      · rfl
    rw [hx]
    by_cases h1 : 0 ≤ id
    · have d1 : decide (id ≥ 0) = true := by simpa using h1
      have d2 : decide (id < 16) = false := by simp; omega
      clear h hx h0 h1
      go_enter Tryz.func96, Tryz.ntmps96
      go_wp2
      go_ret
      exact ⟨rfl, rfl⟩
    · have d1 : decide (id ≥ 0) = false := by simp; omega
      clear h hx h0 h1
      go_enter Tryz.func96, Tryz.ntmps96
      go_wp2
      go_ret
      exact ⟨rfl, rfl⟩
set_option maxRecDepth 100000 in
theorem rDir_is (h : QV w O rb sb n N ns vs fs) (id : Int) : Calls Tryz.prog 87 #[.pointer (some ⟨rb, 0, none⟩), .int .i64 id] w fun e w' => e = .returned (.bool (dirAt ns id).isSome) ∧ w = w' := by
  have hs := rIs_is h id
  cases hx : ndAt ns id with
  | none =>
    have hd : (dirAt ns id).isSome = false := by unfold dirAt; rw [hx]; rfl
    rw [hx] at hs
    rw [hd]
    clear h hx hd
    go_enter Tryz.func87, Tryz.ntmps87
    go_wp2_with (go_at_call 96; refine hs.mono ?_; rintro e w' ⟨rfl, rfl⟩)
    go_ret
    exact ⟨rfl, rfl⟩
  | some nd =>
    have hd : (dirAt ns id).isSome = nd.dir := by unfold dirAt; rw [hx]; cases hd : nd.dir <;> simp [hd]
    rw [hx] at hs
    rw [hd]
    obtain ⟨i, rfl, hi⟩ := ndAt_some hx
    obtain ⟨h16, _, c1, _⟩ := h.cells hi
    have i1 : (i : Int) < 16 := by omega
    have i2 : (0 : Int) ≤ i := by omega
    clear h hx hd hi
    go_enter Tryz.func87, Tryz.ntmps87
    go_wp2_with (go_at_call 96; refine hs.mono ?_; rintro e w' ⟨rfl, rfl⟩)
    go_ret
    exact ⟨rfl, rfl⟩
set_option maxRecDepth 100000 in
theorem rLen_is (h : QV w O rb sb n N ns vs fs) : Calls Tryz.prog 66 #[.pointer (some ⟨rb, 0, none⟩)] w fun e w' => e = .returned (.int .i64 (lenN ns 16)) ∧ w = w' := by
  have H := Lib.hid h
  clear h
  go_enter Tryz.func66, Tryz.ntmps66
  go_wp2
  go_loopw [3, 4] (fun v3 v4 wr => ∃ i : Nat, i ≤ 16 ∧ v4 = .int .i64 i ∧ v3 = .int .i64 (lenN ns i) ∧ wr = w) (fun _ v4 _ => 16 - (intOf v4).toNat)
  case atStart => exact ⟨0, by omega, rfl, rfl, rfl⟩
  case round =>
    obtain ⟨i, hi, rfl, rfl, rfl⟩ := hrel
    by_cases hil : i < 16
    · have d1 : decide ((i : Int) < 16) = true := by simp; omega
      have d1n : decide (i < 16) = true := by simp; omega
      have i1 : (i : Int) < 16 := by omega
      have i2 : (0 : Int) ≤ i := by omega
      have hle := lenN_le ns i
      have e1 : lenN ns (i + 1) = lenN ns i + (if (ns i).isSome then 1 else 0) := rfl
      generalize lenN ns i = c at *
      cases hn : ns i with
      | none =>
        have c1 := H.out.cells_no hil hn
        rw [hn] at e1
        have HE := Lib.hid e1
        clear e1 hn
        go_wp2_with (fail)
        go_roundw
        case rel => exact ⟨i + 1, by omega, by go_num, by rw [HE.out]; rfl, by trivial⟩
        case measure => simp [intOf]; omega
      | some nd =>
        have c1 := (H.out.cells hn).2.1
        rw [hn] at e1
        have HE := Lib.hid e1
        clear e1 hn
        go_wp2_with (fail)
        go_roundw
        case rel => exact ⟨i + 1, by omega, by go_num, by rw [HE.out]; simp, by trivial⟩
        case measure => simp [intOf]; omega
    · have hie : i = 16 := by omega
      subst hie
      go_wp2_with (fail)
      go_ret
      exact ⟨rfl, rfl⟩
theorem fsAt_filesI {ns : NSt} {i : Nat} {nd : Nd} (hi : ns i = some nd) (hd : nd.dir = false) : fsAt (filesOf ns) (i : Int) = some nd.bs := by
  unfold fsAt filesOf
  rw [if_pos (by omega), Int.toNat_natCast, hi]
  simp [hd]
def findP (es : List En) (nm : Txt) (w : World) (e : Ending) (w' : World) : Prop := ((∃ (j : Nat) (x : En), es[j]? = some x ∧ x.1 = nm ∧ e = .returned (.tuple #[.int .i64 x.2, .int .i64 0])) ∨ ((∀ x ∈ es, x.1 ≠ nm) ∧ e = .returned (.tuple #[.int .i64 0, .int .i64 9]))) ∧ w = w'
set_option maxRecDepth 100000 in
theorem rFind_no (h : QV w O rb sb n N ns vs fs) (dir : Int) (nm : Txt) (hd : dirAt ns dir = none) : Calls Tryz.prog 94 #[.pointer (some ⟨rb, 0, none⟩), .int .i64 dir, .string (B nm)] w fun e w' => e = .returned (.tuple #[.int .i64 0, .int .i64 11]) ∧ w = w' := by
  have hs := rDir_is h dir
  rw [hd] at hs
  clear h hd
  generalize B nm = s at *
  go_enter Tryz.func94, Tryz.ntmps94
  go_wp2_with (go_at_call 87; refine hs.mono ?_; rintro e w' ⟨rfl, rfl⟩)
  go_returns
  exact ⟨rfl, rfl⟩
set_option maxRecDepth 100000 in
theorem rFind_yes (h : QV w O rb sb n N ns vs fs) (i : Nat) (nm : Txt) (nd : Nd) (hi : ns i = some nd) (hd : nd.dir = true) : Calls Tryz.prog 94 #[.pointer (some ⟨rb, 0, none⟩), .int .i64 i, .string (B nm)] w (findP nd.es nm w) := by
  have hs := rDir_is h i
  have hda : dirAt ns (i : Int) = some nd := by unfold dirAt ndAt; rw [if_pos (by omega)]; simp only [Int.toNat_natCast]; rw [hi]; simp [hd]
  rw [hda] at hs
  obtain ⟨h16, _, _, _, _, c4⟩ := h.cells hi
  obtain ⟨⟨brow, hrow, hbrow⟩, h8⟩ := h.row i nd hi
  obtain ⟨a, c, hv⟩ := hrow.slice
  rw [List.length_map] at hv
  rw [hv] at c4 hrow
  have i1 : (i : Int) < 16 := by omega
  have i2 : (0 : Int) ≤ i := by omega
  have HRD := Lib.hid (hrow.rd)
  clear h hda hrow hd hv
  generalize hLL : nd.es.length = L at *
  have HL := Lib.hid hLL
  clear hLL
  obtain ⟨s, hs0⟩ : ∃ s, B nm = s := ⟨_, rfl⟩
  rw [hs0]
  have HS := Lib.hid hs0
  clear hs0
  go_enter Tryz.func94, Tryz.ntmps94
  go_wp2_with (go_at_call 87; refine hs.mono ?_; rintro e w' ⟨rfl, rfl⟩)
  go_loopw [8] (fun v8 wr => ∃ m : Nat, m ≤ L ∧ v8 = .int .i64 m ∧ Hid (∀ j x, j < m → nd.es[j]? = some x → x.1 ≠ nm) ∧ wr = w) (fun v8 _ => L - (intOf v8).toNat)
  case atStart => exact ⟨0, Nat.zero_le _, rfl, Lib.hid (fun j x hj => by omega), rfl⟩
  case round =>
    obtain ⟨m, hm, rfl, HA, rfl⟩ := hrel
    by_cases hml : m < L
    · have d5 : decide ((m : Int) < (L : Int)) = true := by simp; omega
      have d5n : decide (m < L) = true := by simp; omega
      have i5 : (m : Int) < (L : Int) := by omega
      have i6 : (0 : Int) ≤ m := by omega
      obtain ⟨y, hy⟩ : ∃ y, nd.es[m]? = some y := ⟨_, List.getElem?_eq_getElem (by rw [HL.out]; exact hml)⟩
      obtain ⟨g, rfl, r1, r2⟩ := HRD.out m (enV y) (by rw [List.getElem?_map, hy]; rfl)
      have r1' : wr.cell? ⟨g, m * 2, none⟩ = some (.string (B y.1)) := r1
      have r2' : wr.cell? ⟨g, m * 2 + 1, none⟩ = some (.int .i64 y.2) := r2
      clear r1 r2
      have eql : ((B y.1).toList == s.toList) = decide (y.1 = nm) := by rw [← HS.out, B_list, B_list, beq_dec]
      have HY := Lib.hid hy
      clear hy
      by_cases hyn : y.1 = nm
      · rw [decide_eq_true hyn] at eql
        have HN := Lib.hid hyn
        clear hyn
        generalize B y.1 = sy at *
        go_wp2_with (fail)
        go_returns
        exact ⟨Or.inl ⟨m, y, HY.out, HN.out, rfl⟩, rfl⟩
      · rw [decide_eq_false hyn] at eql
        have HN := Lib.hid hyn
        clear hyn
        generalize B y.1 = sy at *
        go_wp2_with (fail)
        go_roundw
        case rel => exact ⟨m + 1, by omega, by go_num, Lib.hid (fun j x hj hx => by
          by_cases hjm : j < m
          · exact HA.out j x hjm hx
          · obtain rfl : j = m := by omega
            rw [HY.out] at hx; cases hx; exact HN.out), by trivial⟩
        case measure => simp [intOf]; omega
    · have d5 : decide ((m : Int) < (L : Int)) = false := by simp; omega
      have d5n : decide (m < L) = false := by simp; omega
      have HM := Lib.hid (show L ≤ m by omega)
      go_wp2_with (fail)
      go_returns
      refine ⟨Or.inr ⟨fun x hx => ?_, rfl⟩, rfl⟩
      obtain ⟨k, hk, he⟩ := List.getElem_of_mem hx
      exact HA.out k x (by have := HM.out; rw [HL.out] at hk; omega) (by rw [List.getElem?_eq_getElem hk, he])
set_option maxRecDepth 100000 in
theorem rGet_any (h : QV w O rb sb n N ns vs fs) (hN : N ≤ 1000) (hfs : fs = filesOf ns) (id : Int) : Calls Tryz.prog 101 #[.pointer (some ⟨rb, 0, none⟩), .int .i64 id] w fun e w' => e = .returned (getV ns id) ∧ Below w.heap.size w w' := by
  have hW := (Below.refl w.heap.size w).alloc (Nat.le_refl _) (.cells in0 36)
  have hT := h.below hW
  have hs := rIs_is hT id
  have hc0 := Blk.new w in0 36
  have c0 := hc0.rd
  have f0 := hc0.nf
  cases hx : ndAt ns id with
  | none =>
    rw [hx] at hs
    have HX := Lib.hid hx
    clear h hT hx
    go_enter Tryz.func101, Tryz.ntmps101
    go_wp2_with (go_at_call 96; refine hs.mono ?_; rintro e w1 ⟨rfl, rfl⟩)
    have hf := (((hc0.set 0 (.int .i64 0)).set 1 (.int .i64 0)).set 2 (.bool false)).set 3 (.int .i64 0)
    refine bodyPost_ret (v := .tuple #[.agg in0, .bool false]) (by simp [results, Tryz.results101, go_sem, hf.rd]) rfl ?_
    exact ⟨by unfold getV; rw [HX.out], hW⟩
  | some nd =>
    rw [hx] at hs
    obtain ⟨i, rfl, hi⟩ := ndAt_some hx
    obtain ⟨h16, c1, c2, c3, c4, c5⟩ := hT.cells hi
    obtain ⟨⟨brow, hrow, hbrow⟩, h8⟩ := hT.row i nd hi
    obtain ⟨a, c, hv⟩ := hrow.slice
    rw [List.length_map] at hv
    rw [hv] at c5
    have i1 : (i : Int) < 16 := by omega
    have i2 : (0 : Int) ≤ i := by omega
    have HX := Lib.hid (And.intro hx (And.intro hi hT))
    cases hd : nd.dir with
    | true =>
      rw [hd] at c2
      have hsz : (nd.es.length : Int) = sizeN nd := by unfold sizeN; rw [if_pos hd]
      have HD := Lib.hid (And.intro hsz hd)
      clear h hT hx hi hd hsz hrow hv
      generalize hnn : nd.es.length = n at *
      generalize hLL : nd.links = L at *
      generalize nd.opens = OO at *
      have HE := Lib.hid (And.intro hnn hLL)
      clear hnn hLL
      go_enter Tryz.func101, Tryz.ntmps101
      go_wp2_with (go_at_call 96; refine hs.mono ?_; rintro e w1 ⟨rfl, rfl⟩)
      have hf := (Blk.new w #[.int .i64 i, .int .i64 L, .bool true, .int .i64 n] 36).alloc (.cells #[.bool true, .bool true, .int .i64 L, .int .i64 OO, .slice a n c] 158)
      refine bodyPost_ret (v := .tuple #[.agg #[.int .i64 i, .int .i64 L, .bool true, .int .i64 n], .bool true]) (by simp [results, Tryz.results101, go_sem, hf.rd]) rfl ?_
      refine ⟨?_, ((Upd.refl (fun _ => False) w).alloc _).alloc _ |>.below (Nat.le_refl _) (fun _ h => h.elim)⟩
      unfold getV
      rw [HX.out.1]
      simp only
      rw [HE.out.2, HD.out.2, ← HD.out.1]
    | false =>
      rw [hd] at c2
      have hsz : (nd.bs.length : Int) = sizeN nd := by unfold sizeN; rw [if_neg (by rw [hd]; simp)]
      have HD := Lib.hid (And.intro hsz hd)
      have hT2 := hT.below ((Below.refl _ _).alloc (Nat.le_refl _) (.cells #[.bool true, .bool false, .int .i64 nd.links, .int .i64 nd.opens, .slice a nd.es.length c] 158))
      have hss := qsize_is hT2.sto hN i nd.bs.length 0 (by unfold sizeV; rw [hfs, fsAt_filesI hi hd])
      have c6 : ((w.alloc (.cells in0 36)).alloc (.cells #[.bool true, .bool false, .int .i64 nd.links, .int .i64 nd.opens, .slice a nd.es.length c] 158)).cell? ⟨rb, 0, none⟩ = some (.pointer (some ⟨sb, 0, none⟩)) := by rw [hT2.tab.rd]; exact refC_0 sb ns vs
      clear h hT hx hi hd hsz hrow hv hT2
      generalize hnn : nd.es.length = n at *
      generalize hLL : nd.links = L at *
      generalize nd.opens = OO at *
      obtain ⟨bl, hbl⟩ : ∃ bl, nd.bs.length = bl := ⟨_, rfl⟩
      rw [hbl] at hss HD
      have HE := Lib.hid (And.intro hnn hLL)
      clear hnn hLL hbl hfs
      go_enter Tryz.func101, Tryz.ntmps101
      go_wp2_with (first
        | (go_at_call 96; refine hs.mono ?_; rintro e w1 ⟨rfl, rfl⟩)
        | (go_at_call 122; (with_reducible refine hss.mono ?_); rintro e w1 ⟨rfl, rfl⟩))
      have hf := (Blk.new w #[.int .i64 i, .int .i64 L, .bool false, .int .i64 bl] 36).alloc (.cells #[.bool true, .bool false, .int .i64 L, .int .i64 OO, .slice a n c] 158)
      refine bodyPost_ret (v := .tuple #[.agg #[.int .i64 i, .int .i64 L, .bool false, .int .i64 bl], .bool true]) (by simp [results, Tryz.results101, go_sem, hf.rd]) rfl ?_
      refine ⟨?_, ((Upd.refl (fun _ => False) w).alloc _).alloc _ |>.below (Nat.le_refl _) (fun _ h => h.elim)⟩
      unfold getV
      rw [HX.out.1]
      simp only
      rw [HE.out.2, HD.out.2, ← HD.out.1]
end
end Go.Proofs.YtchnjfmimpikcaaGreatDoor
