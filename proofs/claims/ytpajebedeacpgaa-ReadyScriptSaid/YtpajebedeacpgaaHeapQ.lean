/-
  The methods Push and Pop of items.
-/
import Derived.Test.YtpajebedeacpgaaHeapI
namespace Go.Proofs.Ytpajebedeacpgaa
set_option linter.unusedSimpArgs false
set_option linter.unusedVariables false
open Go.RowKit Go.Lib Own
open RegJ hiding Up
open RegF hiding put_size

/-- a heap's items as they lie (b: their block) -/
def Hh (w : World) (bh : Nat) (xs : List It) (b : Option Nat) : Prop := ∃ v, Blk w bh #[v] 83 ∧ Its w v xs b ∧ (∀ g, b = some g → g ≠ bh) ∧ xs.length ≤ 2000
theorem Its.slice {w : World} {v : Value} {xs : List It} {b : Option Nat} (h : Its w v xs b) : ∃ a c, v = .slice a xs.length c := by
  rcases h with ⟨rfl, rfl, _⟩ | ⟨g, cap, rest, rfl, _⟩
  · exact ⟨_, _, rfl⟩
  · exact ⟨_, _, rfl⟩
/-- what a step on a heap may turn, and where its items may lie behind it -/
def HFr (bh : Nat) (b b' : Option Nat) (w w' : World) : Prop := Upd (fun k => k = bh ∨ b = some k) w w' ∧ ∀ g, b' = some g → b = some g ∨ w.heap.size ≤ g
theorem HFr.trans {bh : Nat} {b b' b'' : Option Nat} {x y z : World} (h : HFr bh b b' x y) (k : HFr bh b' b'' y z) : HFr bh b b'' x z := by
  refine ⟨h.1.trans k.1 (fun i hi hk => ?_), fun g hg => ?_⟩
  · rcases hk with hk | hk
    · exact Or.inl hk
    · rcases h.2 i hk with h1 | h1
      · exact Or.inr h1
      · omega
  · rcases k.2 g hg with h1 | h1
    · exact h.2 g h1
    · exact Or.inr (Nat.le_trans h.1.size h1)
theorem HFr.of_below {bh : Nat} {b : Option Nat} {x y : World} (h : Below x.heap.size x y) : HFr bh b b x y := ⟨Upd.of_below h, fun g hg => Or.inl hg⟩
theorem Hh.below {w w' : World} {bh : Nat} {xs : List It} {b : Option Nat} (h : Hh w bh xs b) (hb : Below w.heap.size w w') : Hh w' bh xs b := by
  obtain ⟨v, h1, h2, h3, h4⟩ := h
  exact ⟨v, Blk.upd (Upd.of_below (F := fun _ => False) hb) h1 (fun h => h), h2.below hb, h3, h4⟩
theorem Hh.upd {w w' : World} {bh : Nat} {xs : List It} {b : Option Nat} {F : Nat → Prop} (h : Hh w bh xs b) (hu : Upd F w w') (h1 : ¬ F bh) (h2 : ∀ g, b = some g → ¬ F g) : Hh w' bh xs b := by
  obtain ⟨v, k1, k2, k3, k4⟩ := h
  exact ⟨v, Blk.upd hu k1 h1, k2.upd hu h2, k3, k4⟩
def PushQ (b : Option Nat) (W : World) (ys : List It) (v : Value) (w : World) : Prop := ∃ b', Its w v ys b' ∧ Upd (fun k => b = some k) W w ∧ ∀ g, b' = some g → b = some g ∨ W.heap.size ≤ g
def PushM (bh : Nat) (b : Option Nat) (w : World) (ys : List It) (e : Ending) (w' : World) : Prop := (∃ v, e = .returned v) ∧ ∃ b', Hh w' bh ys b' ∧ HFr bh b b' w w'
set_option maxRecDepth 100000 in
set_option maxHeartbeats 1000000 in
theorem push_m {w : World} {bh : Nat} {xs : List It} {b : Option Nat} (h : Hh w bh xs b) (hlen : xs.length ≤ 1000) (i k : Int) :
    Calls Try.prog 117 #[.pointer (some ⟨bh, 0, none⟩), .iface 72 (.agg #[.int .i64 i, .int .i64 k])] w (PushM bh b w (xs ++ [(i, k)])) := by
  obtain ⟨v, hb, hI, hne, _⟩ := h
  obtain ⟨va, vc, rfl⟩ := hI.slice
  generalize hvl : xs.length = vl at *
  have hblt := hb.lt
  have hglt := hI.lt
  have hW0 : ∀ g, b = some g → g ≠ w.heap.size := fun g hg => by have := hglt g hg; omega
  have ht : ∀ w, (Instr.typeAssert (.iface 72 (.agg #[.int .i64 i, .int .i64 k])) 20 72 true).run Try.prog w = .ok (.tuple #[.agg #[.int .i64 i, .int .i64 k], .bool true]) w := fun w => by kernel_rfl
  go_enter Try.func117, Try.ntmps117
  go_wp2
  have hbx : Blk (w.alloc (.cells #[.int .i64 i, .int .i64 k] 72)).drew w.heap.size #[.int .i64 i, .int .i64 k] 72 := (Blk.new _ _ _).drew
  have hb' : Blk (w.alloc (.cells #[.int .i64 i, .int .i64 k] 72)).drew bh #[.slice va vl vc] 83 := (hb.alloc _).drew
  have hI' : Its (w.alloc (.cells #[.int .i64 i, .int .i64 k] 72)).drew (.slice va vl vc) xs b := hI.upd (((Upd.refl (fun _ => False) w).alloc _).drew) (fun _ _ h => h)
  have hu0 : Upd (fun _ => False) w (w.alloc (.cells #[.int .i64 i, .int .i64 k] 72)).drew := (((Upd.refl (fun _ => False) w).alloc _).drew)
  have hsz0 := hu0.size
  obtain ⟨W, hW⟩ : ∃ W, W = (w.alloc (.cells #[.int .i64 i, .int .i64 k] 72)).drew := ⟨_, rfl⟩
  rw [← hW] at hbx hb' hI' hu0 hsz0
  have HW := Lib.hid hW
  clear hW
  have hblt' := hb'.lt
  have AB : ∀ (f : Nat → Bool) w', ((f 5 = false → w' = W) ∧ (f 5 = true → w' = (W.alloc (.cells #[.int .i64 i, .int .i64 k] 72)))) → Blk w' bh #[.slice va vl vc] 83 ∧ Blk w' w.heap.size #[.int .i64 i, .int .i64 k] 72 := fun f w' hA => by
    cases hf : f 5 with
    | false => rw [hA.1 hf]; exact ⟨hb', hbx⟩
    | true => rw [hA.2 hf]; exact ⟨hb'.alloc _, hbx.alloc _⟩
  have PB : ∀ v w', PushQ b (W.alloc (.cells #[.int .i64 i, .int .i64 k] 72)) (xs ++ [(i, k)]) v w' → Blk w' w.heap.size #[.int .i64 i, .int .i64 k] 72 := fun v w' ⟨b', h1, h2, h3⟩ => Blk.upd h2 (hbx.alloc _) (fun e => hW0 _ e rfl)
  refine region_E (RowJ 6 8 18 (fun f w => (f 5 = false → w = W) ∧ (f 5 = true → w = (W.alloc (.cells #[.int .i64 i, .int .i64 k] 72)))) (PushQ b (W.alloc (.cells #[.int .i64 i, .int .i64 k] 72)) (xs ++ [(i, k)])) ⟨bh, 0, none⟩) [Is 20 (some 12) (.pointer (some ⟨bh, 0, none⟩)), Is 20 (some 13) (.pointer (some ⟨bh, 0, none⟩)), Is 20 (some 14) (.pointer (some ⟨bh, 0, none⟩)), Is 20 (some 15) (.slice va vl vc), Is 20 (some 16) (.agg #[.int .i64 i, .int .i64 k]), Is 20 (some 17) (.slice (some ⟨W.heap.size, 0, none⟩) 1 1), (fun u => ∃ a l c, u = .slice a l c), Is 20 (some 19) (.pointer (some ⟨bh, 0, none⟩)), Is 20 (none) (undef)] (by kernel_rfl) (by kernel_rfl) ?_ ?_
  · exact ⟨fun _ _ => ⟨fun _ => HW.out.symm, fun h => (by cases h)⟩, fun h => (by cases h), fun h => (by cases h)⟩
  · apply wpE_op (by rfl) (by rfl) (by rfl)
    · intro f a' w' ha hf hJ Q1 hQ
      simp only [Act.put, List.setIfInBounds_toArray, List.set_cons_zero, List.set_cons_succ] at hQ
      go_wp2
      exact hQ _ _ rfl (hJ.put rfl rfl id (slot_put_ne (a := a') (by decide) _))
    simp only [Act.put, List.setIfInBounds_toArray, List.set_cons_zero, List.set_cons_succ]
    apply wpE_op (by rfl) (by rfl) (by rfl)
    · intro f a' w' ha hf hJ Q1 hQ
      simp only [Act.put, List.setIfInBounds_toArray, List.set_cons_zero, List.set_cons_succ] at hQ
      go_wp2
      exact hQ _ _ rfl (hJ.put rfl rfl id (slot_put_ne (a := a') (by decide) _))
    simp only [Act.put, List.setIfInBounds_toArray, List.set_cons_zero, List.set_cons_succ]
    apply wpE_op (by rfl) (by rfl) (by rfl)
    · intro f a' w' ha hf hJ Q1 hQ
      simp only [Act.put, List.setIfInBounds_toArray, List.set_cons_zero, List.set_cons_succ] at hQ
      go_wp2
      exact hQ _ _ rfl (hJ.put rfl rfl id (slot_put_ne (a := a') (by decide) _))
    simp only [Act.put, List.setIfInBounds_toArray, List.set_cons_zero, List.set_cons_succ]
    apply wpE_op (by rfl) (by rfl) (by rfl)
    · intro f a' w' ha hf hJ Q1 hQ
      have h6 : f 6 = false := by
        cases h5 : f 6 with
        | false => rfl
        | true => exact absurd ((hf.1.1).symm.trans (hf.2.step 6 3 rfl (by kernel_rfl) h5)) (by decide)
      have h8 : f 8 = false := by
        cases h5 : f 8 with
        | false => rfl
        | true => exact absurd ((h6).symm.trans (hf.2.step 8 6 rfl (by kernel_rfl) h5)) (by decide)
      have hA := hJ.1 h6 h8
      have c1 := (AB f w' hA).1.rd
      simp only [Act.put, List.setIfInBounds_toArray, List.set_cons_zero, List.set_cons_succ] at hQ
      go_wp2
      exact hQ _ _ rfl (hJ.put rfl rfl id (slot_put_ne (a := a') (by decide) _))
    simp only [Act.put, List.setIfInBounds_toArray, List.set_cons_zero, List.set_cons_succ]
    apply wpE_op (by rfl) (by rfl) (by rfl)
    · intro f a' w' ha hf hJ Q1 hQ
      have c1 := (hJ.blk (fun w hA => (AB _ _ hA).2) (fun v w hP => PB _ _ hP) (by show w.heap.size ≠ bh; omega)).rd
      simp only [Act.put, List.setIfInBounds_toArray, List.set_cons_zero, List.set_cons_succ] at hQ
      go_wp2
      exact hQ _ _ rfl (hJ.put rfl rfl id (slot_put_ne (a := a') (by decide) _))
    simp only [Act.put, List.setIfInBounds_toArray, List.set_cons_zero, List.set_cons_succ]
    apply wpE_op (by rfl) (by rfl) (by rfl)
    · intro f a' w' ha hf hJ Q1 hQ
      have h6 : f 6 = false := by
        cases h5 : f 6 with
        | false => rfl
        | true => exact absurd ((hf.1.1).symm.trans (hf.2.step 6 5 rfl (by kernel_rfl) h5)) (by decide)
      have h8 : f 8 = false := by
        cases h5 : f 8 with
        | false => rfl
        | true => exact absurd ((h6).symm.trans (hf.2.step 8 6 rfl (by kernel_rfl) h5)) (by decide)
      have hw' : w' = W := (hJ.1 h6 h8).1 hf.1.1
      subst hw'
      simp only [Act.put, List.setIfInBounds_toArray, List.set_cons_zero, List.set_cons_succ] at hQ
      go_wp2
      exact hQ _ _ rfl ⟨fun _ _ => ⟨fun h => (by cases h), fun _ => rfl⟩, fun h5 => absurd (h6.symm.trans h5) (by decide), fun h5 => absurd (h8.symm.trans h5) (by decide)⟩
    simp only [Act.put, List.setIfInBounds_toArray, List.set_cons_zero, List.set_cons_succ]
    apply wpE_any (d := 18) rfl (by simp) ⟨_, none, 0, 0, rfl⟩ (by rfl)
    · intro f a' w' ha hf hJ Q1 hQ
      have h6 : f 6 = false := hf.1.1
      have h5 : f 5 = true := hf.1.2 ⟨5, .data⟩ (by simp) rfl
      have h8 : f 8 = false := by
        cases h5 : f 8 with
        | false => rfl
        | true => exact absurd ((h6).symm.trans (hf.2.step 8 6 rfl (by kernel_rfl) h5)) (by decide)
      have hw' : w' = (W.alloc (.cells #[.int .i64 i, .int .i64 k] 72)) := (hJ.1 h6 h8).2 h5
      subst hw'
      have hsz : 18 < a'.tmps.size := by rw [ha.1]; simp
      have hIa := hI'.upd ((Upd.refl (fun _ => False) W).alloc (.cells #[.int .i64 i, .int .i64 k] 72)) (fun _ _ h => h)
      simp only [Act.put, List.setIfInBounds_toArray, List.set_cons_zero, List.set_cons_succ] at hQ
      go_wp2_with (at_builtin; refine wp_appI rfl _ _ rfl _ xs b rfl hIa W.heap.size (i, k) rfl (Blk.new _ _ _) (by omega) ?_; intro v' w3 B' hI3 hB3 hU3)
      obtain ⟨ya, yc, hv'⟩ := hI3.slice
      exact hQ _ _ _ rfl ⟨_, _, _, hv'⟩ ⟨fun h5 => (by cases h5), fun _ _ => (show PushQ _ _ _ (slot (a'.put (some 18) v') 18) w3 by rw [slot_put (a := a') hsz v']; exact ⟨B', hI3, hU3, hB3⟩), fun h5 => absurd (h8.symm.trans h5) (by decide)⟩
    rintro _ ⟨ua, ul, uc, rfl⟩
    simp only [Act.put, List.setIfInBounds_toArray, List.set_cons_zero, List.set_cons_succ]
    apply wpE_op (by rfl) (by rfl) (by rfl)
    · intro f a' w' ha hf hJ Q1 hQ
      simp only [Act.put, List.setIfInBounds_toArray, List.set_cons_zero, List.set_cons_succ] at hQ
      go_wp2
      exact hQ _ _ rfl (hJ.put rfl rfl id (slot_put_ne (a := a') (by decide) _))
    simp only [Act.put, List.setIfInBounds_toArray, List.set_cons_zero, List.set_cons_succ]
    apply wpE_op (v := undef) (by rfl) (by rfl) (by rfl)
    · intro f a' w' ha hf hJ Q1 hQ
      have h8 : f 8 = false := hf.1.1
      have h6 : f 6 = true := hf.1.2 ⟨6, .data⟩ (by simp) rfl
      have hP := hJ.2.1 h6 h8
      obtain ⟨b', hI3, hU, hB⟩ := hP
      have hbl : Blk w' bh #[.slice va vl vc] 83 := Blk.upd hU (hb'.alloc _) (fun e => hne _ e rfl)
      have e1 : slot a' 18 = .slice ua ul uc := by
        have := ha.2 18 (by decide)
        simp only [slot, Array.getD_eq_getD_getElem?, this]; rfl
      have c1 := hbl.rd
      have f1 := hbl.nf
      simp only [Act.put, List.setIfInBounds_toArray, List.set_cons_zero, List.set_cons_succ] at hQ
      go_wp2
      refine hQ _ _ rfl ⟨fun h5 => absurd (h6.symm.trans h5) (by decide), fun _ h5 => (by cases h5), fun _ => ⟨w', ⟨b', hI3, hU, hB⟩, ?_⟩⟩
      rw [e1]
    simp only [Act.put, List.setIfInBounds_toArray, List.set_cons_zero, List.set_cons_succ]
    refine wpE_nil ?_
    intro w4 hJ
    obtain ⟨w3, ⟨b', hI3, hU, hB⟩, hw4⟩ := hJ.2.2 rfl
    have hbl : Blk w3 bh #[.slice va vl vc] 83 := Blk.upd hU (hb'.alloc _) (fun e => hne _ e rfl)
    have hszA : (W.alloc (.cells #[.int .i64 i, .int .i64 k] 72)).heap.size = W.heap.size + 1 := by simp
    have hw5 : w4 = w3.setCell ⟨bh, 0, none⟩ (.slice ua ul uc) := hw4
    have hI5 : Its w3 (.slice ua ul uc) (xs ++ [(i, k)]) b' := hI3
    have hnb : ∀ g, b' = some g → g ≠ bh := fun g hg => by
      rcases hB g hg with h1 | h1
      · exact hne g h1
      · omega
    have hb5 : Blk w4 bh #[.slice ua ul uc] 83 := by rw [hw5]; exact Blk.of (hbl.set 0 _) rfl
    have hu5 : Upd (fun k => k = bh) w3 w4 := by rw [hw5]; exact (Upd.refl (fun k => k = bh) w3).setCell (p := ⟨bh, 0, none⟩) (fun _ => rfl) _
    have HF : PushM bh b w (xs ++ [(i, k)]) (.returned (.tuple #[])) w4 := ⟨⟨_, rfl⟩, b', ⟨_, hb5, hI5.upd hu5 (fun g hg => hnb g hg), hnb, by simp; omega⟩, (((hu0.trans ((Upd.refl (fun _ => False) W).alloc _) (fun _ _ h => h)).mono (G := fun k => k = bh ∨ b = some k) (fun _ _ h => h.elim)).trans (((hU.mono (G := fun k => k = bh ∨ b = some k) (fun _ _ h => Or.inr h))).trans hu5 (fun _ _ h => Or.inl h)) (fun _ _ h => h)), fun g hg => (hB g hg).imp id (fun h => by omega)⟩
    go_wp2
    go_returns
    exact HF
def PopM (bh : Nat) (b : Option Nat) (w : World) (ys : List It) (z : It) (e : Ending) (w' : World) : Prop := e = .returned (.iface 72 (.agg #[.int .i64 z.1, .int .i64 z.2])) ∧ Hh w' bh ys b ∧ HFr bh b b w w'
set_option maxRecDepth 100000 in
theorem pop_m {w : World} {bh : Nat} {ys : List It} {z : It} {b : Option Nat} (h : Hh w bh (ys ++ [z]) b) :
    Calls Try.prog 116 #[.pointer (some ⟨bh, 0, none⟩)] w (PopM bh b w ys z) := by
  obtain ⟨v, hb, hI, hne, hmax⟩ := h
  rcases hI with ⟨_, h0, _⟩ | ⟨g, cap, rest, rfl, rfl, hB, hc, hm⟩
  · simp at h0
  · have hl : (ys ++ [z]).length = ys.length + 1 := by simp
    have hcap : ys.length + 1 ≤ cap := by
      have := pcells_len (ys ++ [z])
      rw [List.length_append, this, hl] at hc; omega
    obtain ⟨c2, c3⟩ := blk_its hB ys.length (by omega)
    rw [show (ys ++ [z]).getD ys.length (0, 0) = z by simp] at c2 c3
    rw [hl] at hb hmax
    generalize hm0 : ys.length = m at *
    have c1 := hb.rd
    have nf := hb.nf
    have i1 : (m : Int) < ((m : Int) + 1) := by omega
    have i2 : (m : Int) ≤ (cap : Int) := by omega
    have i3 : m ≤ cap := by omega
    unfold maxLen at hm
    have H := Lib.hid (And.intro hb (And.intro hB hc))
    have hlt := hb.lt
    have hglt := hB.lt
    have hne' := hne g rfl
    clear hb hB hc hl hne
    go_enter Try.func116, Try.ntmps116
    go_wp2
    go_ret
    have hu : Upd (fun k => k = bh ∨ some g = some k) w ((w.setCell ⟨bh, 0, none⟩ (.slice (some ⟨g, 0, none⟩) m cap)).alloc (.cells #[.int .i64 z.1, .int .i64 z.2] 72)) := (((Upd.refl (fun k => k = bh ∨ some g = some k) w)).setCell (p := ⟨bh, 0, none⟩) (fun _ => Or.inl rfl) _).alloc _
    refine ⟨rfl, ⟨_, Blk.of ((H.out.1.set 0 _).alloc _) rfl, Or.inr ⟨g, cap, pcells [z] ++ rest, by rw [hm0], rfl, ?_, ?_, by unfold maxLen; omega⟩, fun g' hg' => by cases hg'; exact hne', by omega⟩, hu, fun g' hg' => Or.inl hg'⟩
    · have := ((H.out.2.1.set_ne (a := ⟨bh, 0, none⟩) hne' (.slice (some ⟨g, 0, none⟩) m cap)).alloc (.cells #[.int .i64 z.1, .int .i64 z.2] 72))
      rw [pcells_app] at this
      simpa using this
    · have := H.out.2.2
      rw [pcells_app] at this
      simpa using this
end Go.Proofs.Ytpajebedeacpgaa
