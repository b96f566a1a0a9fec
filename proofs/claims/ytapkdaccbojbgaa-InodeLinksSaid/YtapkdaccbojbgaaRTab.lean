/-
  The document's table of nodes, as it lies; Is, IsDir, Len, Get, Find.
-/
import Derived.Test.YtapkdaccbojbgaaRSDrop
namespace Go.Proofs.Ytapkdaccbojbgaa
set_option linter.unusedSimpArgs false
set_option linter.unusedVariables false
open Go.RowKit Own RegJ Two
open Go.Lib hiding intOf

def nodeC (o : Option Nd) (v : Value) : List Value := match o with
  | some nd => [.bool true, .bool nd.dir, .int .i64 nd.links, .int .i64 nd.opens, v]
  | none => [.bool false, .bool false, .int .i64 0, .int .i64 0, v]
theorem nodeC_len (o : Option Nd) (v : Value) : (nodeC o v).length = 5 := by cases o <;> rfl
def nodesR (R : Nat → List Value) : Nat → List Value
  | 0 => []
  | k + 1 => nodesR R k ++ R k
theorem nodesR_len {R : Nat → List Value} (h : ∀ i, (R i).length = 5) : ∀ k, (nodesR R k).length = k * 5
  | 0 => rfl
  | k + 1 => by unfold nodesR; rw [List.length_append, nodesR_len h k, h]; omega
theorem nodesR_at {R : Nat → List Value} (h5 : ∀ i, (R i).length = 5) : ∀ (k i f : Nat), i < k → f < 5 → (nodesR R k)[i * 5 + f]? = (R i)[f]?
  | 0, _, _, h, _ => by omega
  | k + 1, i, f, h, hf => by
    have hl := nodesR_len h5 k
    unfold nodesR
    by_cases hik : i = k
    · subst hik
      rw [List.getElem?_append_right (by omega), hl, Nat.add_sub_cancel_left]
    · rw [List.getElem?_append_left (by omega), nodesR_at h5 k i f (by omega) hf]
def refR (sb : Nat) (R : Nat → List Value) : Array Value := (.pointer (some ⟨sb, 0, none⟩) :: nodesR R 16).toArray
theorem refR_at (sb : Nat) {R : Nat → List Value} (h5 : ∀ i, (R i).length = 5) (i f : Nat) (hi : i < 16) (hf : f < 5) : (refR sb R)[1 + i * 5 + f]? = (R i)[f]? := by
  unfold refR
  rw [List.getElem?_toArray, show 1 + i * 5 + f = (i * 5 + f) + 1 by omega, List.getElem?_cons_succ, nodesR_at h5 16 i f hi hf]
def putR (R : Nat → List Value) (i f : Nat) (v : Value) : Nat → List Value := fun k => if k = i then (R i).set f v else R k
theorem putR_len {R : Nat → List Value} (h5 : ∀ i, (R i).length = 5) (i f : Nat) (v : Value) : ∀ k, (putR R i f v k).length = 5 := by
  intro k
  unfold putR
  split
  · rw [List.length_set]; exact h5 i
  · exact h5 k
theorem refR_set (sb : Nat) {R : Nat → List Value} (h5 : ∀ i, (R i).length = 5) (i f : Nat) (hi : i < 16) (hf : f < 5) (v : Value) : (refR sb R).setIfInBounds (1 + i * 5 + f) v = refR sb (putR R i f v) := by
  have h5' := putR_len h5 i f v
  have s1 : (refR sb R).size = 81 := by unfold refR; rw [List.size_toArray, List.length_cons, nodesR_len h5 16]
  have s2 : (refR sb (putR R i f v)).size = 81 := by unfold refR; rw [List.size_toArray, List.length_cons, nodesR_len h5' 16]
  apply Array.ext_getElem?
  intro j
  rw [Array.getElem?_setIfInBounds, s1]
  by_cases hj : j < 81
  · cases j with
    | zero =>
      rw [if_neg (by omega)]
      unfold refR
      simp only [List.getElem?_toArray, List.getElem?_cons_zero]
    | succ j =>
      have hjk : j + 1 = 1 + (j / 5) * 5 + j % 5 := by omega
      have hk : j / 5 < 16 := by omega
      have hff : j % 5 < 5 := by omega
      rw [hjk, refR_at sb h5 _ _ hk hff, refR_at sb h5' _ _ hk hff]
      unfold putR
      by_cases e : j / 5 = i
      · rw [if_pos e, e]
        by_cases e2 : f = j % 5
        · rw [if_pos (by omega), if_pos (by omega), e2, List.getElem?_set_self (by rw [h5]; omega)]
        · rw [if_neg (by omega), List.getElem?_set_ne e2]
      · rw [if_neg e, if_neg (by omega)]
  · rw [if_neg (by omega), Array.getElem?_eq_none (by omega), Array.getElem?_eq_none (by omega)]
theorem refR_ext (sb : Nat) {R R' : Nat → List Value} (h : ∀ i, R i = R' i) : refR sb R = refR sb R' := by rw [show R = R' from funext h]
/-- the cells of the table -/
def refC (sb : Nat) (ns : NSt) (vs : Nat → Value) : Array Value := refR sb (fun i => nodeC (ns i) (vs i))
theorem refC_at (sb : Nat) (ns : NSt) (vs : Nat → Value) (i f : Nat) (hi : i < 16) (hf : f < 5) : (refC sb ns vs)[1 + i * 5 + f]? = (nodeC (ns i) (vs i))[f]? := refR_at sb (fun _ => nodeC_len _ _) i f hi hf
/-- one field of one node -/
theorem refC_set (sb : Nat) (ns ns' : NSt) (vs vs' : Nat → Value) (i f : Nat) (hi : i < 16) (hf : f < 5) (v : Value) (hs : ∀ k, k ≠ i → ns' k = ns k ∧ vs' k = vs k) (he : nodeC (ns' i) (vs' i) = (nodeC (ns i) (vs i)).set f v) : (refC sb ns vs).setIfInBounds (1 + i * 5 + f) v = refC sb ns' vs' := by
  unfold refC
  rw [refR_set sb (fun _ => nodeC_len _ _) i f hi hf v]
  refine refR_ext sb fun k => ?_
  unfold putR
  by_cases e : k = i
  · rw [if_pos e, e, he]
  · rw [if_neg e, (hs k e).1, (hs k e).2]
/-- a whole node -/
theorem refC_node (sb : Nat) (ns ns' : NSt) (vs vs' : Nat → Value) (i : Nat) (hi : i < 16) (a b c d e : Value) (hs : ∀ k, k ≠ i → ns' k = ns k ∧ vs' k = vs k) (he : nodeC (ns' i) (vs' i) = [a, b, c, d, e]) :
    (((((refC sb ns vs).setIfInBounds (1 + i * 5) a).setIfInBounds (1 + i * 5 + 1) b).setIfInBounds (1 + i * 5 + 2) c).setIfInBounds (1 + i * 5 + 3) d).setIfInBounds (1 + i * 5 + 4) e = refC sb ns' vs' := by
  have h5 : ∀ k, (nodeC (ns k) (vs k)).length = 5 := fun _ => nodeC_len _ _
  unfold refC
  have q0 := refR_set sb h5 i 0 hi (by omega) a
  rw [Nat.add_zero] at q0
  have p0 := putR_len h5 i 0 a
  have p1 := putR_len p0 i 1 b
  have p2 := putR_len p1 i 2 c
  have p3 := putR_len p2 i 3 d
  rw [q0, refR_set sb p0 i 1 hi (by omega) b, refR_set sb p1 i 2 hi (by omega) c, refR_set sb p2 i 3 hi (by omega) d, refR_set sb p3 i 4 hi (by omega) e]
  refine refR_ext sb fun k => ?_
  by_cases ek : k = i
  · subst ek
    rw [he]
    unfold putR
    simp only [if_pos]
    have := h5 k
    match hx : nodeC (ns k) (vs k), this with
    | [x0, x1, x2, x3, x4], _ => rfl
  · unfold putR
    simp only [if_neg ek, (hs k ek).1, (hs k ek).2]
structure RT (w : World) (rb sb : Nat) (ns : NSt) (vs : Nat → Value) (rw : Nat → Option Nat) (fl : List Int) (fb : Option Nat) : Prop where
  tab : Blk w rb (refC sb ns vs) 100
  sto : RS w sb fl fb
  row : ∀ i nd, ns i = some nd → Row2 w 37 (vs i) (nd.es.map enV) (rw i) ∧ nd.es.length ≤ 8
  nil' : ∀ i, ns i = none → vs i = .slice none 0 0
  far : ∀ i, 16 ≤ i → ns i = none
  n1 : sb ≠ rb
  n2 : ∀ g, fb = some g → g ≠ rb
  n3 : ∀ i g, rw i = some g → g ≠ rb ∧ g ≠ sb ∧ fb ≠ some g
  len : fl.length ≤ 500
  n4 : ∀ i g, rw i = some g → g < w.heap.size
def RT.own (rb sb : Nat) (rw : Nat → Option Nat) (fb : Option Nat) (k : Nat) : Prop := k = rb ∨ k = sb ∨ fb = some k ∨ ∃ i, rw i = some k
section
variable {w : World} {rb sb : Nat} {ns : NSt} {vs : Nat → Value} {rw' : Nat → Option Nat} {fl : List Int} {fb : Option Nat}
theorem RT.upd {F : Nat → Prop} {w' : World} (h : RT w rb sb ns vs rw' fl fb) (hu : Upd F w w') (hF : ∀ k, RT.own rb sb rw' fb k → ¬ F k) : RT w' rb sb ns vs rw' fl fb :=
  ⟨Blk.upd hu h.tab (hF _ (Or.inl rfl)), h.sto.upd hu (hF _ (Or.inr (Or.inl rfl))) (fun g hg => hF _ (Or.inr (Or.inr (Or.inl hg)))), fun i nd hi => ⟨(h.row i nd hi).1.upd hu (fun g hg => hF _ (Or.inr (Or.inr (Or.inr ⟨i, hg⟩)))), (h.row i nd hi).2⟩, h.nil', h.far, h.n1, h.n2, h.n3, h.len, fun i g hg => Nat.lt_of_lt_of_le (h.n4 i g hg) hu.size⟩
theorem RT.below {w' : World} (h : RT w rb sb ns vs rw' fl fb) (hB : Below w.heap.size w w') : RT w' rb sb ns vs rw' fl fb := h.upd (Upd.of_below (F := fun _ => False) hB) (fun _ _ h => h)
theorem RT.cell (h : RT w rb sb ns vs rw' fl fb) (i f : Nat) (hi : i < 16) (hf : f < 5) : w.cell? ⟨rb, 1 + i * 5 + f, none⟩ = (nodeC (ns i) (vs i))[f]? := by
  rw [h.tab.rd, refC_at sb ns vs i f hi hf]
theorem RT.cells (h : RT w rb sb ns vs rw' fl fb) {i : Nat} {nd : Nd} (hi : ns i = some nd) : i < 16 ∧ w.cell? ⟨rb, 1 + i * 5, none⟩ = some (.bool true) ∧ w.cell? ⟨rb, 1 + i * 5 + 1, none⟩ = some (.bool nd.dir) ∧ w.cell? ⟨rb, 1 + i * 5 + 2, none⟩ = some (.int .i64 nd.links) ∧ w.cell? ⟨rb, 1 + i * 5 + 3, none⟩ = some (.int .i64 nd.opens) ∧ w.cell? ⟨rb, 1 + i * 5 + 4, none⟩ = some (vs i) := by
  have h16 : i < 16 := by
    rcases Nat.lt_or_ge i 16 with h1 | h1
    · exact h1
    · rw [h.far i h1] at hi; cases hi
  refine ⟨h16, ?_, ?_, ?_, ?_, ?_⟩
  · have := h.cell i 0 h16 (by omega); rw [hi] at this; exact this
  · have := h.cell i 1 h16 (by omega); rw [hi] at this; exact this
  · have := h.cell i 2 h16 (by omega); rw [hi] at this; exact this
  · have := h.cell i 3 h16 (by omega); rw [hi] at this; exact this
  · have := h.cell i 4 h16 (by omega); rw [hi] at this; exact this
theorem RT.cells_no (h : RT w rb sb ns vs rw' fl fb) {i : Nat} (h16 : i < 16) (hi : ns i = none) : w.cell? ⟨rb, 1 + i * 5, none⟩ = some (.bool false) := by
  have := h.cell i 0 h16 (by omega); rw [hi] at this; exact this
set_option maxRecDepth 100000 in
theorem rIs_is (h : RT w rb sb ns vs rw' fl fb) (id : Int) : Calls Try.prog 46 #[.pointer (some ⟨rb, 0, none⟩), .int .i64 id] w fun e w' => e = .returned (.bool (ndAt ns id).isSome) ∧ w = w' := by
  by_cases h0 : 0 ≤ id ∧ id < 16
  · obtain ⟨i, rfl⟩ : ∃ i : Nat, id = i := ⟨id.toNat, by omega⟩
    have hx : ndAt ns (i : Int) = ns i := by unfold ndAt; rw [if_pos (by omega)]; rfl
    rw [hx]
    have d1 : decide ((i : Int) ≥ 0) = true := by simp
    have d2 : decide ((i : Int) < 16) = true := by simp; omega
    have d2n : decide (i < 16) = true := by simp; omega
    have i1 : (i : Int) < 16 := by omega
    have i2 : (0 : Int) ≤ i := by omega
    cases hn : ns i with
    | none =>
      have c1 := h.cells_no (by omega) hn
      clear h hx hn h0
      go_enter Try.func46, Try.ntmps46
      go_wp2
      go_ret
      exact ⟨rfl, rfl⟩
    | some nd =>
      have c1 := (h.cells hn).2.1
      clear h hx hn h0
      go_enter Try.func46, Try.ntmps46
      go_wp2
      go_ret
      exact ⟨rfl, rfl⟩
  · have hx : ndAt ns id = none := by
      unfold ndAt
      split
      · exact h.far _ (by omega)
      · rfl
    rw [hx]
    by_cases h1 : 0 ≤ id
    · have d1 : decide (id ≥ 0) = true := by simpa using h1
      have d2 : decide (id < 16) = false := by simp; omega
      clear h hx h0 h1
      go_enter Try.func46, Try.ntmps46
      go_wp2
      go_ret
      exact ⟨rfl, rfl⟩
    · have d1 : decide (id ≥ 0) = false := by simp; omega
      clear h hx h0 h1
      go_enter Try.func46, Try.ntmps46
      go_wp2
      go_ret
      exact ⟨rfl, rfl⟩
set_option maxRecDepth 100000 in
theorem rDir_is (h : RT w rb sb ns vs rw' fl fb) (id : Int) : Calls Try.prog 47 #[.pointer (some ⟨rb, 0, none⟩), .int .i64 id] w fun e w' => e = .returned (.bool (dirAt ns id).isSome) ∧ w = w' := by
  have hs := rIs_is h id
  cases hx : ndAt ns id with
  | none =>
    have hd : (dirAt ns id).isSome = false := by unfold dirAt; rw [hx]; rfl
    rw [hx] at hs
    rw [hd]
    clear h hx hd
    go_enter Try.func47, Try.ntmps47
    go_wp2_with (go_at_call 46; refine hs.mono ?_; rintro e w' ⟨rfl, rfl⟩)
    go_ret
    exact ⟨rfl, rfl⟩
  | some nd =>
    have hd : (dirAt ns id).isSome = nd.dir := by unfold dirAt; rw [hx]; cases hd : nd.dir <;> simp [hd]
    rw [hx] at hs
    rw [hd]
    obtain ⟨i, rfl, hi⟩ := ndAt_some hx
    obtain ⟨h16, _, c1, _⟩ := h.cells hi
    have i1 : (i : Int) < 16 := by omega
    have i2 : (0 : Int) ≤ i := by omega
    clear h hx hd hi
    go_enter Try.func47, Try.ntmps47
    go_wp2_with (go_at_call 46; refine hs.mono ?_; rintro e w' ⟨rfl, rfl⟩)
    go_ret
    exact ⟨rfl, rfl⟩
set_option maxRecDepth 100000 in
theorem rLen_is (h : RT w rb sb ns vs rw' fl fb) : Calls Try.prog 49 #[.pointer (some ⟨rb, 0, none⟩)] w fun e w' => e = .returned (.int .i64 (lenN ns 16)) ∧ w = w' := by
  have H := Lib.hid h
  clear h
  go_enter Try.func49, Try.ntmps49
  go_wp2
  go_loopw [3, 4] (fun v3 v4 wr => ∃ i : Nat, i ≤ 16 ∧ v4 = .int .i64 i ∧ v3 = .int .i64 (lenN ns i) ∧ wr = w) (fun _ v4 _ => 16 - (intOf v4).toNat)
  case atStart => exact ⟨0, by omega, rfl, rfl, rfl⟩
  case round =>
    obtain ⟨i, hi, rfl, rfl, rfl⟩ := hrel
    by_cases hil : i < 16
    · have d1 : decide ((i : Int) < 16) = true := by simp; omega
      have d1n : decide (i < 16) = true := by simp; omega
      have i1 : (i : Int) < 16 := by omega
      have i2 : (0 : Int) ≤ i := by omega
      have hle := lenN_le ns i
      have e1 : lenN ns (i + 1) = lenN ns i + (if (ns i).isSome then 1 else 0) := rfl
      generalize lenN ns i = c at *
      cases hn : ns i with
      | none =>
        have c1 := H.out.cells_no hil hn
        rw [hn] at e1
        have HE := Lib.hid e1
        clear e1 hn
        go_wp2_with (fail)
        go_roundw
        case rel => exact ⟨i + 1, by omega, by go_num, by rw [HE.out]; rfl, by trivial⟩
        case measure => simp [intOf]; omega
      | some nd =>
        have c1 := (H.out.cells hn).2.1
        rw [hn] at e1
        have HE := Lib.hid e1
        clear e1 hn
        go_wp2_with (fail)
        go_roundw
        case rel => exact ⟨i + 1, by omega, by go_num, by rw [HE.out]; simp, by trivial⟩
        case measure => simp [intOf]; omega
    · have hie : i = 16 := by omega
      subst hie
      go_wp2_with (fail)
      go_ret
      exact ⟨rfl, rfl⟩
end
end Go.Proofs.Ytapkdaccbojbgaa
