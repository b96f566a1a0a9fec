/-
  An entry more. Conditions: what slices.Insert does at that place is handed in.
-/
import Derived.Test.YtchnjfmimpikcaaDoorIFind
namespace Go.Proofs.YtchnjfmimpikcaaDoor
set_option linter.unusedSimpArgs false
set_option linter.unusedVariables false
open Go.RowKit Own RegJ Two
open Go.Lib hiding intOf

def insE (es : List En) (j : Nat) (x : En) : List En := es.take j ++ x :: es.drop j
theorem insE_srt {es : List En} {j : Nat} {nm : Txt} {id : Int} (hS : Srt es) (hA : At es nm j) (hno : isAt es nm j = false) : Srt (insE es j (nm, id)) := by
  unfold Srt insE at *
  rw [List.pairwise_append]
  refine ⟨hS.sublist (List.take_sublist _ _), ?_, ?_⟩
  · rw [List.pairwise_cons]
    refine ⟨fun y hy => ?_, hS.sublist (List.drop_sublist _ _)⟩
    obtain ⟨k, hk, rfl⟩ := List.getElem_of_mem hy
    rw [List.getElem_drop]
    have hk' : j + k < es.length := by rw [List.length_drop] at hk; omega
    have h1 := hA.2.2 (j + k) es[j + k] (List.getElem?_eq_getElem hk') (by omega)
    cases hl : nlt nm es[j + k].1 with
    | true => rfl
    | false =>
      have he := nlt_tot _ _ h1 hl
      exfalso
      by_cases hk0 : k = 0
      · subst hk0
        unfold isAt at hno
        rw [List.getElem?_eq_getElem (by omega)] at hno
        simp only [Nat.add_zero] at he
        simp [he] at hno
      · have hj : j < es.length := by omega
        have h2 := hA.2.2 j es[j] (List.getElem?_eq_getElem hj) (Nat.le_refl _)
        have h3 := srt_at hS (List.getElem?_eq_getElem hj) (List.getElem?_eq_getElem hk') (by omega)
        rw [he] at h3
        rw [h3] at h2; cases h2
  · intro x hx y hy
    obtain ⟨k, hk, rfl⟩ := List.getElem_of_mem hx
    rw [List.length_take] at hk
    rw [List.getElem_take]
    have h1 := hA.2.1 k es[k] (List.getElem?_eq_getElem (by omega)) (by omega)
    rw [List.mem_cons] at hy
    rcases hy with rfl | hy
    · exact h1
    · obtain ⟨m, hm, rfl⟩ := List.getElem_of_mem hy
      rw [List.getElem_drop]
      exact srt_at hS (List.getElem?_eq_getElem (by omega)) (List.getElem?_eq_getElem (by rw [List.length_drop] at hm; omega)) (by omega)
theorem insE_len (es : List En) (j : Nat) (x : En) : (insE es j x).length = es.length + 1 := by
  unfold insE
  rw [List.length_append, List.length_cons, List.length_take, List.length_drop]; omega
def loEnt (lo : Lo) (i : Nat) (b : Option Nat) : Lo := fun r => match r with
  | .ents j => if j = i then b else lo (.ents j)
  | .node j => lo (.node j)
  | .tab => lo .tab
  | .st q => lo (.st q)
theorem loEnt_old {lo : Lo} {i : Nat} {b : Option Nat} {r : Rl} {k : Nat} (h : loEnt lo i b r = some k) : (lo r = some k ∧ r ≠ .ents i) ∨ (r = .ents i ∧ b = some k) := by
  cases r <;> simp only [loEnt] at h
  · exact Or.inl ⟨h, by simp⟩
  · exact Or.inl ⟨h, by simp⟩
  · split at h
    · rename_i e; subst e; exact Or.inr ⟨rfl, h⟩
    · rename_i e; exact Or.inl ⟨h, by simpa using e⟩
  · exact Or.inl ⟨h, by simp⟩
def setEs (nd : Nd) (es : List En) : Nd := { nd with es := es }
def addL (nd : Nd) (d : Int) : Nd := { nd with links := nd.links + d }
section
variable {w w' : World} {tb : Nat} {ns : Nat → Option Nd} {lo : Lo} {N : Nat}
theorem files_same {ns : Nat → Option Nd} {i : Nat} {nd nd' : Nd} (hi : ns i = some nd) (hd : nd'.dir = nd.dir) (hb : nd'.bs = nd.bs) : filesOf (nsPut ns i (some nd')) = filesOf ns := by
  funext j
  unfold filesOf nsPut
  by_cases h : j = i
  · rw [if_pos h, h, hi]; simp only [hd, hb]
  · rw [if_neg h]
/-- another row of entries -/
theorem TB.ents [Inhabited CapT] (h : TB w tb ns lo N) {i kn : Nat} {nd : Nd} {v : Value} {es : List En} {b : Option Nat} (hi : ns i = some nd) (hk : lo (.node i) = some kn) (hu : Upd (fun k => k = kn ∨ lo (.ents i) = some k) w w') (hb : Blk w' kn #[.bool nd.dir, .int .i64 nd.links, .int .i64 nd.opens, v] 73)
    (hr : Row2 w' 101 v (es.map enV) b) (hbn : ∀ g, b = some g → lo (.ents i) = some g ∨ w.heap.size ≤ g) (h8 : es.length ≤ 8) (hS : Srt es) : TB w' tb (nsPut ns i (some (setEs nd es))) (loEnt lo i b) N := by
  have hoth : ∀ r k, lo r = some k → r ≠ .node i → r ≠ .ents i → ¬ (k = kn ∨ lo (.ents i) = some k) := fun r k hk' h1 h2 hh => by
    rcases hh with hh | hh
    · exact h1 (h.inj r _ k hk' (by rw [hh]; exact hk))
    · exact h2 (h.inj r _ k hk' hh)
  have hsz := hu.size
  refine ⟨fun r r' k h1 h2 => ?_, fun r k h1 => ?_, h.at', ?_, ?_, fun j hj => ?_, fun j hj => ?_, fun j nd' hj => ?_⟩
  · rcases loEnt_old h1 with ⟨g1, e1⟩ | ⟨e1, g1⟩
    · rcases loEnt_old h2 with ⟨g2, e2⟩ | ⟨e2, g2⟩
      · exact h.inj r r' k g1 g2
      · rcases hbn k g2 with hb' | hb'
        · have := h.inj r _ k g1 hb'; exact absurd this e1
        · have := h.lt r k g1; omega
    · rcases loEnt_old h2 with ⟨g2, e2⟩ | ⟨e2, g2⟩
      · rcases hbn k g1 with hb' | hb'
        · have := h.inj r' _ k g2 hb'; exact absurd this e2
        · have := h.lt r' k g2; omega
      · rw [e1, e2]
  · rcases loEnt_old h1 with ⟨g1, e1⟩ | ⟨e1, g1⟩
    · have := h.lt r k g1; omega
    · exact hr.lt k g1
  · rw [files_same hi (by rfl) (by rfl)]
    exact h.sto.upd hu (fun r k hk => hoth _ _ hk (by simp) (by simp))
  · exact Blk.upd hu h.tab (hoth _ _ h.at' (by simp) (by simp))
  · unfold nsPut at hj
    split at hj
    · cases hj
    · exact h.none' j hj
  · unfold nsPut
    split
    · rename_i e; subst e; rw [h.far j hj] at hi; cases hi
    · exact h.far j hj
  · unfold nsPut at hj
    split at hj
    · rename_i e; subst e; cases hj
      exact ⟨kn, v, hk, hb, by simp only [loEnt, if_pos rfl]; exact hr, h8, hS⟩
    · rename_i e
      obtain ⟨k, v', k1, k2, k3, k4⟩ := h.node j nd' hj
      refine ⟨k, v', k1, Blk.upd hu k2 (hoth _ _ k1 (by simp; exact e) (by simp)), ?_, k4⟩
      simp only [loEnt]
      rw [if_neg e]
      exact k3.upd hu (fun g hg => hoth _ _ hg (by simp) (by simp; exact e))
/-- a node's own numbers turned -/
theorem TB.num [Inhabited CapT] (h : TB w tb ns lo N) {i kn : Nat} {nd nd' : Nd} (hi : ns i = some nd) (hk : lo (.node i) = some kn) (hd : nd'.dir = nd.dir) (he : nd'.es = nd.es) (hbs : nd'.bs = nd.bs) (hu : Upd (fun k => k = kn) w w')
    (hb : ∀ v, Blk w kn #[.bool nd.dir, .int .i64 nd.links, .int .i64 nd.opens, v] 73 → Blk w' kn #[.bool nd'.dir, .int .i64 nd'.links, .int .i64 nd'.opens, v] 73) : TB w' tb (nsPut ns i (some nd')) lo N := by
  have hoth : ∀ r k, lo r = some k → r ≠ .node i → ¬ k = kn := fun r k hk' h1 hh => h1 (h.inj r _ k hk' (by rw [hh]; exact hk))
  have hsz := hu.size
  refine ⟨h.inj, fun r k h1 => by have := h.lt r k h1; omega, h.at', ?_, ?_, fun j hj => ?_, fun j hj => ?_, fun j nd2 hj => ?_⟩
  · rw [files_same hi hd hbs]
    exact h.sto.upd hu (fun r k hk => hoth _ _ hk (by simp))
  · exact Blk.upd hu h.tab (hoth _ _ h.at' (by simp))
  · unfold nsPut at hj
    split at hj
    · cases hj
    · exact h.none' j hj
  · unfold nsPut
    split
    · rename_i e; subst e; rw [h.far j hj] at hi; cases hi
    · exact h.far j hj
  · unfold nsPut at hj
    split at hj
    · rename_i e; subst e; cases hj
      obtain ⟨k, v', k1, k2, k3, k4, k5⟩ := h.node j nd hi
      rw [hk] at k1; cases k1
      exact ⟨kn, v', hk, hb v' k2, by rw [he]; exact k3.upd hu (fun g hg => hoth _ _ hg (by simp)), by rw [he]; exact k4, by rw [he]; exact k5⟩
    · rename_i e
      obtain ⟨k, v', k1, k2, k3, k4⟩ := h.node j nd2 hj
      exact ⟨k, v', k1, Blk.upd hu k2 (hoth _ _ k1 (by simp; exact e)), k3.upd hu (fun g hg => hoth _ _ hg (by simp)), k4⟩
end
end Go.Proofs.YtchnjfmimpikcaaDoor
