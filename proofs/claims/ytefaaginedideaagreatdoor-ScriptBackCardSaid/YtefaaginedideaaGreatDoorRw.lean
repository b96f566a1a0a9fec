/-
  Rows of elements of any number of cells, owned by the call: plain facts, program-independent.
-/
import Derived.Test.YtefaaginedideaaGreatDoorOwn
import Derived.Laws.AppendOwn
import Derived.ArgAppend
import Derived.OwnWalk
namespace Go.Proofs.YtefaaginedideaaGreatDoor
set_option linter.unusedSimpArgs false
set_option linter.unusedVariables false
open Go.RowKit Own RegJ

/-- a row of n elements of sz cells each, in a block of its own (b), or none at all; cs: the cells -/
def Rw (w : World) (T : TypeId) (sz : Nat) (v : Value) (n : Nat) (cs : List Value) (b : Option Nat) : Prop :=
  cs.length = n * sz ∧ ((v = .slice none 0 0 ∧ n = 0 ∧ b = none) ∨
  ∃ g cap rest, v = .slice (some ⟨g, 0, none⟩) n cap ∧ b = some g ∧ Blk w g (cs ++ rest).toArray T ∧ cap * sz = (cs ++ rest).length ∧ n ≤ cap ∧ cap ≤ maxLen)
section
variable {w w' : World} {T : TypeId} {sz n : Nat} {v : Value} {cs : List Value} {b : Option Nat}
theorem Rw.keep (h : Rw w T sz v n cs b) (hk : ∀ g, b = some g → w'.heap[g]? = w.heap[g]?) : Rw w' T sz v n cs b := by
  refine ⟨h.1, ?_⟩
  rcases h.2 with h | ⟨g, cap, rest, hv, hb, hB, hc, hn, hm⟩
  · exact .inl h
  · exact .inr ⟨g, cap, rest, hv, hb, by unfold Blk at *; rw [hk g hb]; exact hB, hc, hn, hm⟩
theorem Rw.lt (h : Rw w T sz v n cs b) (g : Nat) (hg : b = some g) : g < w.heap.size := by
  rcases h.2 with ⟨_, _, hb⟩ | ⟨g', cap, rest, hv, hb, hB, hc, hm⟩
  · rw [hb] at hg; cases hg
  · rw [hb] at hg; cases hg; exact hB.lt
theorem Rw.upd {F : Nat → Prop} (h : Rw w T sz v n cs b) (hu : Upd F w w') (hf : ∀ g, b = some g → ¬ F g) : Rw w' T sz v n cs b := h.keep (fun g hg => hu.block g (h.lt g hg) (hf g hg))
theorem Rw.below (h : Rw w T sz v n cs b) (hb : Below w.heap.size w w') : Rw w' T sz v n cs b := h.upd (Upd.of_below (F := fun _ => False) hb) (fun _ _ h => h)
theorem Rw.nil (w : World) (T : TypeId) (sz : Nat) : Rw w T sz (.slice none 0 0) 0 [] none := ⟨by simp, .inl ⟨rfl, rfl, rfl⟩⟩
theorem Rw.slice (h : Rw w T sz v n cs b) : ∃ a c, v = .slice a n c := by
  rcases h.2 with ⟨rfl, rfl, _⟩ | ⟨g, cap, rest, rfl, _⟩
  · exact ⟨_, _, rfl⟩
  · exact ⟨_, _, rfl⟩
theorem Rw.blk (h : Rw w T sz v n cs b) (g : Nat) (hg : b = some g) : ∃ cap rest, v = .slice (some ⟨g, 0, none⟩) n cap ∧ Blk w g (cs ++ rest).toArray T ∧ cap * sz = (cs ++ rest).length ∧ n ≤ cap ∧ cap ≤ maxLen := by
  rcases h.2 with ⟨_, _, hb⟩ | ⟨g', cap, rest, hv, hb, r⟩
  · rw [hb] at hg; cases hg
  · rw [hb] at hg; cases hg; exact ⟨cap, rest, hv, r⟩
theorem Rw.has (h : Rw w T sz v n cs b) (hn : 0 < n) : ∃ g, b = some g := by
  rcases h.2 with ⟨_, h0, _⟩ | ⟨g, _, _, _, hb, _⟩
  · omega
  · exact ⟨g, hb⟩
/-- the cells, one by one -/
theorem Rw.cell {a : Option Addr} {m c : Nat} (h : Rw w T sz (.slice a m c) n cs b) (j : Nat) (u : Value) (hj : cs[j]? = some u) : ∃ g, a = some ⟨g, 0, none⟩ ∧ b = some g ∧ w.cell? ⟨g, j, none⟩ = some u := by
  have hl : j < cs.length := (List.getElem?_eq_some_iff.1 hj).1
  rcases h.2 with ⟨_, h0, _⟩ | ⟨g, cap, rest, hv, hb, hB, _⟩
  · rw [h.1, h0] at hl; omega
  · simp only [Value.slice.injEq] at hv
    refine ⟨g, hv.1, hb, ?_⟩
    rw [hB.rd, List.getElem?_toArray, List.getElem?_append_left hl]; exact hj
theorem Rw.nf {g : Nat} (h : Rw w T sz v n cs (some g)) (j : Nat) : w.frozen? ⟨g, j, none⟩ = false := by
  obtain ⟨cap, rest, _, hB, _⟩ := h.blk g rfl
  exact hB.nf j
/-- a cell turned -/
theorem Rw.set {g : Nat} (h : Rw w T sz v n cs (some g)) (j : Nat) (hj : j < cs.length) (u : Value) : Rw (w.setCell ⟨g, j, none⟩ u) T sz v n (cs.set j u) (some g) := by
  obtain ⟨cap, rest, hv, hB, hc, hn, hm⟩ := h.blk g rfl
  refine ⟨by simpa using h.1, .inr ⟨g, cap, rest, hv, rfl, ?_, by simpa using hc, hn, hm⟩⟩
  refine Blk.of (hB.set j u) ?_
  simp only [List.setIfInBounds_toArray]
  congr 1
  rw [List.set_append_left _ _ hj]
theorem Rw.of_own {base : Nat} (h : w.ownsRow base T sz v n cs) : ∃ b, Rw w T sz v n cs b ∧ ∀ g, b = some g → base ≤ g := by
  obtain ⟨hl, h⟩ := h
  rcases h with ⟨hv, h0⟩ | ⟨g, cap, cur, hv, hg, hh, hnc, hm, hs, ht⟩
  · exact ⟨none, ⟨hl, .inl ⟨hv, h0, rfl⟩⟩, fun g hg => by cases hg⟩
  · refine ⟨some g, ⟨hl, .inr ⟨g, cap, cur.toList.drop (n * sz), hv, rfl, ?_, ?_, hnc, hm⟩⟩, fun g' hg' => by cases hg'; exact hg⟩
    · show w.heap[g]? = _
      rw [hh]
      have e : cs ++ cur.toList.drop (n * sz) = cur.toList := by rw [← ht]; exact List.take_append_drop _ _
      rw [e]
    · have hcs : cur.toList.length = cap * sz := by simpa using hs
      have hns : n * sz ≤ cap * sz := Nat.mul_le_mul_right _ hnc
      rw [List.length_append, hl, List.length_drop, hcs]; omega
theorem Rw.own (h : Rw w T sz v n cs b) : w.ownsRow 0 T sz v n cs := by
  refine ⟨h.1, ?_⟩
  rcases h.2 with ⟨hv, h0, _⟩ | ⟨g, cap, rest, hv, hg, hB, hc, hn, hm⟩
  · exact .inl ⟨hv, h0⟩
  · exact .inr ⟨g, cap, _, hv, Nat.zero_le _, hB, hn, hm, by simpa using hc.symm, by rw [← h.1]; simp⟩
end
/-- what append leaves: the row, and which old block it may have turned -/
def AppR (W : World) (T : TypeId) (sz n : Nat) (cs : List Value) (b : Option Nat) (v : Value) (w : World) : Prop := ∃ b', Rw w T sz v n cs b' ∧ Upd (fun k => b = some k) W w ∧ ∀ g, b' = some g → b = some g ∨ W.heap.size ≤ g
theorem AppR.slice {W : World} {T : TypeId} {sz n : Nat} {cs : List Value} {b : Option Nat} {v : Value} {w : World} (h : AppR W T sz n cs b v w) : ∃ a c, v = .slice a n c := by
  obtain ⟨b', h, _⟩ := h
  exact h.slice
/-- m more elements behind a row of the call's own, out of a stretch that can be read -/
theorem wp_appR {P : Program} {ops : Array Oper} {rest : List Oper} {o : Oper} {a : Act} {Q : Exit → Act → World → Prop} {w : World} (hgd : o.guard = none) (s x : Operand) (S T : TypeId) (z : Value) (sz bytes : Nat)
    (hinf : (P.info? T).map (fun i => (i.zero, i.size, i.bytes)) = some (some z, sz, bytes)) (hzc : z.cells.size = sz) (hsz : 0 < sz) (hb2 : bytes ≤ 200) (hS : P.underlying S = some (.slice T))
    (ho : o.op = .call { callee := .builtin .append, args := #[s, x], argTypes := #[S, S] }) (v : Value) (n : Nat) (cs : List Value) (b : Option Nat) (hs : a.eval s = v) (hI : Rw w T sz v n cs b)
    (ad : Addr) (m c : Nat) (ys : List Value) (hm : ys.length = m * sz) (hm0 : 0 < m) (hx : a.eval x = .slice (some ad) m c) (hnews : ∀ (j : Nat) (u : Value), ys[j]? = some u → w.cell? (ad.add j) = some u) (hone : ∀ u ∈ ys, u.oneCell' = true) (hlen : n + m ≤ 1000000)
    (h : ∀ v' w', AppR w T sz (n + m) (cs ++ ys) b v' w' → wpList P ops Q rest (a.put o.dst v') w') : wpList P ops Q (o :: rest) a w := by
  obtain ⟨i0, hi, hz0, hz1, hzb⟩ := info_parts hinf
  have hp := hI.1
  have hown := hI.own
  have hbb : (n + m) * bytes ≤ 1000000 * 200 := Nat.mul_le_mul hlen hb2
  rcases hI.2 with ⟨rfl, rfl, rfl⟩ | ⟨g, cap, rst, rfl, rfl, hBg, hc, hnc, hmx⟩
  · have hcs : cs = [] := List.eq_nil_of_length_eq_zero (by omega)
    subst hcs
    refine wpList_append_grows w hgd s x S ho T i0 z sz bytes hS hi hz0 hz1 hzb hzc hsz none 0 0 [] hs (fun _ => ⟨rfl, rfl⟩) (by simp) (fun b hb => by cases hb) ad m c _ hx hm hnews hone (by omega) (by unfold maxLen; omega) (by omega) ?_
    intro v' w' h1 h2
    obtain ⟨B', hI', hb'⟩ := Rw.of_own h1
    exact h v' w' ⟨B', hI', Upd.grown h2 (fun k hk => by cases hk), fun g hg => .inr (hb' g hg)⟩
  · by_cases hf : n + m ≤ cap
    · refine wpList_append_fits w hgd s x S ho 0 T i0 sz hS hi hz1 g n cap cs hs hown ad m c _ hx hm hnews hone hf ?_
      intro w' h1 h2
      obtain ⟨B', hI', hb'⟩ := Rw.of_own h1
      have hB' : B' = some g := by
        rcases hI'.2 with ⟨hv, _⟩ | ⟨g', _, _, hv, rfl, _⟩
        · cases hv
        · simp only [Value.slice.injEq, Option.some.injEq, Addr.mk.injEq] at hv
          rw [hv.1.1]
      exact h _ w' ⟨B', hI', Upd.grown h2 (fun k hk => by cases hk; rfl), fun g' hg' => .inl (by rw [← hg', hB'])⟩
    · refine wpList_append_grows w hgd s x S ho T i0 z sz bytes hS hi hz0 hz1 hzb hzc hsz (some ⟨g, 0, none⟩) n cap cs hs (fun h => by cases h) hp ?_ ad m c _ hx hm hnews hone (by omega) (by unfold maxLen; omega) (by omega) ?_
      · intro b' hb' j u hj
        cases hb'
        have hjl : j < cs.length := (List.getElem?_eq_some_iff.1 hj).1
        have : (⟨g, 0, none⟩ : Addr).add j = ⟨g, j, none⟩ := by
          unfold Addr.add; by_cases h0 : j = 0
          · subst h0; rfl
          · rw [if_neg h0]; simp
        rw [this, hBg.rd]
        simp only [List.getElem?_toArray]
        rw [List.getElem?_append_left hjl]; exact hj
      · intro v' w' h1 h2
        obtain ⟨B', hI', hb'⟩ := Rw.of_own h1
        exact h v' w' ⟨B', hI', Upd.grown h2 (fun k hk => by cases hk), fun g' hg' => .inr (hb' g' hg')⟩
/-- two blocks of unlike types are two -/
theorem Blk.neT {w : World} {a b : Nat} {cs ds : Array Value} {T S : TypeId} (h : Blk w a cs T) (k : Blk w b ds S) (hne : T ≠ S) : a ≠ b := by
  intro e
  subst e
  unfold Blk at *
  rw [h] at k
  cases k
  exact hne rfl
theorem Rw.neT {w : World} {T S : TypeId} {sz n : Nat} {v : Value} {cs : List Value} {b : Option Nat} {g : Nat} {ds : Array Value} (h : Rw w T sz v n cs b) (k : Blk w g ds S) (hne : T ≠ S) : b ≠ some g := by
  intro e
  obtain ⟨_, _, _, hB, _⟩ := h.blk g e
  exact Blk.neT hB k hne rfl
theorem Rw.neR {w : World} {T S : TypeId} {sz n sz' n' : Nat} {v v' : Value} {cs cs' : List Value} {b b' : Option Nat} (h : Rw w T sz v n cs b) (k : Rw w S sz' v' n' cs' b') (hne : T ≠ S) : ∀ g, b = some g → b' ≠ some g := by
  intro g e e'
  obtain ⟨_, _, _, hB, _⟩ := k.blk g e'
  exact h.neT hB hne e
end Go.Proofs.YtefaaginedideaaGreatDoor
