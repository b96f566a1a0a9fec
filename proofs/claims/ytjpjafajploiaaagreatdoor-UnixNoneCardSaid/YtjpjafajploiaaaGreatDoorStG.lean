/-
  The store: a file grown by frames (plain).
-/
import Derived.Test.YtjpjafajploiaaaGreatDoorStV
namespace Go.Proofs.YtjpjafajploiaaaGreatDoor
set_option linter.unusedSimpArgs false
set_option linter.unusedVariables false
open Go.RowKit Own RegJ
open Go.Lib

def extB (bs : List Int) (e : Nat) : List Int := bs ++ List.replicate (e - bs.length) 0
theorem extB_len {bs : List Int} {e : Nat} (h : bs.length ≤ e) : (extB bs e).length = e := by unfold extB; simp; omega
theorem extB_getD (bs : List Int) (e p : Nat) : (extB bs e).getD p 0 = bs.getD p 0 := by
  unfold extB
  simp only [List.getD_eq_getElem?_getD]
  by_cases h : p < bs.length
  · rw [List.getElem?_append_left h]
  · rw [List.getElem?_append_right (by omega), List.getElem?_replicate, List.getElem?_eq_none (by omega : bs.length ≤ p)]
    split <;> rfl
/-- a file's bytes behind a Write -/
def writeB (bs : List Int) (off : Nat) (b : List Int) : List Int := spl (extB bs (max bs.length (off + b.length))) off b
section
variable {f f' : Fs} {l news bs : List Int}
theorem FileI.took (h : FileI f l bs) (g : TookL f news f') : FileI f' l bs := by
  have hn : ∀ i : Nat, f.has i → (i : Int) ∉ news := fun i hi hm => by
    obtain ⟨j, e, hj, _⟩ := g.new _ hm
    obtain rfl : i = j := by omega
    exact hj hi
  refine ⟨h.len, h.most, h.nod, fun x hx => ?_, fun p hp => ?_⟩
  · obtain ⟨i, rfl, hi⟩ := h.has x hx
    exact ⟨i, rfl, (g.oth i (hn i hi)).2 hi⟩
  · have hpq : p / 64 < l.length := by omega
    have hx : l.getD (p / 64) 0 = l[p / 64] := by rw [List.getD_eq_getElem?_getD, List.getElem?_eq_getElem hpq]; rfl
    obtain ⟨i, e, hi⟩ := h.has _ (List.getElem_mem hpq)
    have h1 := h.byt p hp
    rw [hx, e] at h1 ⊢
    simp only [Int.toNat_natCast] at h1 ⊢
    rw [g.same i _ (hn i hi) (Nat.mod_lt _ (by omega))]
    exact h1
theorem FileI.ext (h : FileI f l bs) (g : TookL f news f') {e : Nat} (he : bs.length ≤ e) (he5 : e ≤ 512) (hn : news.length = (e + 63) / 64 - l.length) : FileI f' (l ++ news) (extB bs e) := by
  have hk := h.took g
  have hd : ∀ x ∈ l, x ∉ news := fun x hx hm => by
    obtain ⟨i, rfl, hi⟩ := h.has x hx
    obtain ⟨j, e, hj, _⟩ := g.new _ hm
    obtain rfl : i = j := by omega
    exact hj hi
  have hl := h.len
  refine ⟨by rw [List.length_append, extB_len he, hn]; omega, by rw [extB_len he]; exact he5, List.nodup_append.2 ⟨h.nod, g.nod, fun a ha b hb e => hd a ha (e ▸ hb)⟩, fun x hx => ?_, fun p hp => ?_⟩
  · rcases List.mem_append.1 hx with hx | hx
    · exact hk.has x hx
    · obtain ⟨i, rfl, _, hi, _⟩ := g.new x hx
      exact ⟨i, rfl, hi⟩
  · rw [extB_getD]
    by_cases hc : p < 64 * l.length
    · have h1 := hk.byt p hc
      rw [← h1]
      congr 2
      simp only [List.getD_eq_getElem?_getD]
      rw [List.getElem?_append_left (by omega)]
    · rw [List.length_append] at hp
      have hq : p / 64 - l.length < news.length := by omega
      have hx : (l ++ news).getD (p / 64) 0 = news[p / 64 - l.length] := by
        rw [List.getD_eq_getElem?_getD, List.getElem?_append_right (by omega), List.getElem?_eq_getElem hq]; rfl
      obtain ⟨i, e, _, _, hz⟩ := g.new _ (List.getElem_mem hq)
      rw [hx, e]
      simp only [Int.toNat_natCast]
      rw [hz _ (Nat.mod_lt _ (by omega)), List.getD_eq_getElem?_getD, List.getElem?_eq_none (by omega)]
      rfl
end
section
variable {w w' : World} {so : SRl → Option Nat} {fs : Sfs} {F N : Nat} {f f' : Fs} {ls : Nat → List Int}
def soFls (so : SRl → Option Nat) (i : Nat) (row : Option Nat) : SRl → Option Nat := soPut so i (so (.file i)) row
theorem soFls_old {so : SRl → Option Nat} {i : Nat} {row : Option Nat} {r : SRl} {b : Nat} (h : soFls so i row r = some b) : (so r = some b ∧ r ≠ .fls i) ∨ (r = .fls i ∧ row = some b) := by
  rcases soPut_old h with ⟨g, _, e⟩ | ⟨rfl, g⟩ | ⟨e, g⟩
  · exact Or.inl ⟨g, e⟩
  · exact Or.inl ⟨g, by simp⟩
  · exact Or.inr ⟨e, g⟩
/-- a file with more frames behind its own -/
theorem grow_done [Inhabited CapT] (h : StI w so fs F N f ls) {i : Nat} {bs : List Int} (hi : fs i = some bs) {kf : Nat} (k1 : so (.file i) = some kf) {fb bb kb : Nat} (t3 : so .frm = some fb) (t4 : so .byt = some bb) (t5 : so .tkn = some kb)
    {news : List Int} (hf : FrB w' fb bb kb (so .fre) f') (g : TookL f news f') {e : Nat} (he : bs.length ≤ e) (he5 : e ≤ 512) (hn : news.length = (e + 63) / 64 - (ls i).length) {v : Value} {row : Option Nat} (hk : Blk w' kf #[.int .i64 e, v] 298) (hv : RowV w' 3 v (icells (ls i ++ news)) row)
    (hrow : ∀ k, row = some k → so (.fls i) = some k ∨ w.heap.size ≤ k) (hu : Upd (fun k => k = fb ∨ k = bb ∨ k = kb ∨ k = kf ∨ so (.fls i) = some k) w w') :
    StI w' (soFls so i row) (fsPut fs i (some (extB bs e))) F N f' (fun j => if j = i then ls i ++ news else ls j) := by
  have h16 := h.i16 hi
  obtain ⟨sb, mb, fb', bb', kb', n, s, t1, t2, t3', t4', t5', t6, t7, t8, t9⟩ := h.top
  obtain rfl : fb = fb' := by rw [t3] at t3'; exact Option.some.inj t3'
  obtain ⟨kf', v0, k1', k2, k3, k4⟩ := h.file i bs hi
  have hap : ∀ r k, so r = some k → r ≠ .frm → r ≠ .byt → r ≠ .tkn → r ≠ .file i → r ≠ .fls i → ¬ (k = fb ∨ k = bb ∨ k = kb ∨ k = kf ∨ so (.fls i) = some k) := fun r k hk e1 e2 e3 e4 e5 hh => by
    rcases hh with hh | hh | hh | hh | hh
    · exact e1 (h.inj _ _ _ hk (by rw [hh]; exact t3))
    · exact e2 (h.inj _ _ _ hk (by rw [hh]; exact t4))
    · exact e3 (h.inj _ _ _ hk (by rw [hh]; exact t5))
    · exact e4 (h.inj _ _ _ hk (by rw [hh]; exact k1))
    · exact e5 (h.inj _ _ _ hk hh)
  have hz := hu.size
  refine ⟨fun r r' k h1 h2 => ?_, fun r k h1 => ?_, ⟨sb, mb, fb, bb, kb, n, s, t1, t2, t3, t4, t5, Blk.upd hu t6 (hap _ _ t1 (by simp) (by simp) (by simp) (by simp) (by simp)), ?_, t8, hf⟩, fun j cs hj => ?_, fun j hj => ?_, fun j j' cs cs' x hj hj' hx hx' => ?_, ?_, fun x hx => ?_⟩
  · rcases soFls_old h1 with ⟨g1, e1⟩ | ⟨e1, g1⟩
    · rcases soFls_old h2 with ⟨g2, e2⟩ | ⟨e2, g2⟩
      · exact h.inj r r' k g1 g2
      · rcases hrow k g2 with e | e
        · exact absurd (h.inj _ _ _ g1 e) e1
        · have := h.lt r k g1; omega
    · rcases soFls_old h2 with ⟨g2, e2⟩ | ⟨e2, g2⟩
      · rcases hrow k g1 with e | e
        · exact absurd (h.inj _ _ _ g2 e) e2
        · have := h.lt r' k g2; omega
      · rw [e1, e2]
  · rcases soFls_old h1 with ⟨g1, _⟩ | ⟨_, g1⟩
    · have := h.lt r k g1; omega
    · exact hv.lt k g1
  · have := filM_same fs so i bs (extB bs e) hi row
    unfold soFls
    rw [this]
    exact t7.upd hu (hap _ _ t2 (by simp) (by simp) (by simp) (by simp) (by simp))
  · by_cases e1 : j = i
    · subst e1
      rw [fsPut_eq] at hj
      cases hj
      refine ⟨kf, v, by simp [soFls, soPut, k1], by rw [extB_len he]; exact hk, ?_, ?_⟩
      · rw [if_pos rfl]
        simp only [soFls, soPut, if_pos rfl]
        exact hv
      · rw [if_pos rfl]
        exact k4.ext g he he5 hn
    · rw [fsPut_ne _ _ e1] at hj
      obtain ⟨k, v', j1, j2, j3, j4⟩ := h.file j cs hj
      refine ⟨k, v', by simp [soFls, soPut, e1, j1], Blk.upd hu j2 (hap _ _ j1 (by simp) (by simp) (by simp) (by simp [e1]) (by simp)), ?_, ?_⟩
      · rw [if_neg e1]
        simp only [soFls, soPut, if_neg e1]
        exact j3.upd hu (fun g hg => hap _ _ hg (by simp) (by simp) (by simp) (by simp) (by simp [e1]))
      · rw [if_neg e1]
        exact j4.took g
  · rw [fsPut_ne _ _ (by omega)]; exact h.far j hj
  · have hnew : ∀ y cs x, fs y = some cs → x ∈ ls y → x ∉ news := fun y cs x hy hx hm => by
      obtain ⟨_, _, _, _, _, y4⟩ := h.file y cs hy
      obtain ⟨a, rfl, ha⟩ := y4.has x hx
      obtain ⟨b, e, hb, _⟩ := g.new _ hm
      obtain rfl : a = b := by omega
      exact hb ha
    by_cases e1 : j = i
    · by_cases e2 : j' = i
      · rw [e1, e2]
      · subst e1
        rw [if_pos rfl] at hx
        rw [if_neg e2] at hx'
        rw [fsPut_ne _ _ e2] at hj'
        rcases List.mem_append.1 hx with hx | hx
        · exact h.apart j j' bs cs' x hi hj' hx hx'
        · exact absurd hx (hnew j' cs' x hj' hx')
    · rw [if_neg e1] at hx
      rw [fsPut_ne _ _ e1] at hj
      by_cases e2 : j' = i
      · subst e2
        rw [if_pos rfl] at hx'
        rcases List.mem_append.1 hx' with hx' | hx'
        · exact h.apart j j' cs bs x hj hi hx hx'
        · exact absurd hx' (hnew j cs x hj hx)
      · rw [if_neg e2] at hx'
        rw [fsPut_ne _ _ e2] at hj'
        exact h.apart j j' cs cs' x hj hj' hx hx'
  · have h1 := usedN_put fs i (some (extB bs e)) 16 h16
    have h2 : blks (fs i) = (ls i).length := by rw [hi, k4.len]; rfl
    have h3 : blks (some (extB bs e)) = (e + 63) / 64 := by unfold blks; simp only [extB_len he]
    have h4 := h.sum
    have h5 := g.free
    have h6 := k4.len
    omega
  · obtain ⟨o1, o2⟩ := h.oth x hx
    have hnw : (x : Int) ∉ news := fun hm => by
      obtain ⟨b, e, hb, _⟩ := g.new _ hm
      obtain rfl : x = b := by omega
      exact hb o1
    refine ⟨(g.oth x hnw).2 o1, fun j cs hj => ?_⟩
    by_cases e1 : j = i
    · subst e1
      rw [if_pos rfl]
      exact fun hm => (List.mem_append.1 hm).elim (o2 j bs hi) hnw
    · rw [if_neg e1]
      rw [fsPut_ne _ _ e1] at hj
      exact o2 j cs hj
end
end Go.Proofs.YtjpjafajploiaaaGreatDoor
