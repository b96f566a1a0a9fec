/-
  The conditions: who is cancelled.
-/
import Derived.Test.YtgkchpifogfohaaCondW
namespace Go.Proofs.Ytgkchpifogfohaa
set_option linter.unusedSimpArgs false
set_option linter.unusedVariables false
open Go.RowKit Go.Lib Own Sl
open RegJ hiding Up
open RegF hiding put_size

set_option maxRecDepth 100000 in
theorem cancel_no {w : World} {n bc bl : Nat} {vs : Nat → Value} {bs : Nat → Option Nat} {ls : Nat → List Int} (h : CR w n bc bl vs bs ls) (hn : n ≤ 64) (t : Int) (hv : ofF n ls t = -1) :
    Calls Try.prog 18 #[.pointer (some ⟨bc, 0, none⟩), .int .i64 t] w fun e w' => e = .returned (.bool false) ∧ Below w.heap.size w w' := by
  have hb0 : Below w.heap.size w (w.alloc (.cells #[.int .i64 t] 3)) := (Below.refl _ _).alloc (Nat.le_refl _) _
  have ho := of_is (h.below hb0) hn hv
  clear hv h
  go_enter Try.func18, Try.ntmps18
  go_wp2_with (go_at_call 21; refine ho.mono ?_; rintro e w' ⟨rfl, hbl⟩)
  go_ret
  exact ⟨rfl, hb0.trans (hbl.mono (by simp))⟩
def delF (ls : Nat → List Int) (i : Nat) (t : Int) : Nat → List Int := put ls i ((ls i).filter fun x => !(x == t))

set_option maxRecDepth 100000 in
set_option maxHeartbeats 1000000 in
theorem cancel_yes {w : World} {n bc bl : Nat} {vs : Nat → Value} {bs : Nat → Option Nat} {ls : Nat → List Int} (h : CR w n bc bl vs bs ls) (hn : n ≤ 64) (t : Int) (i : Nat) (hi : i < n) (hv : ofF n ls t = (i : Nat)) (hne : ls i ≠ []) :
    Calls Try.prog 18 #[.pointer (some ⟨bc, 0, none⟩), .int .i64 t] w fun e w' => e = .returned (.bool true) ∧ Turned w w' n bc bl bs (delF ls i t) := by
  have hb0 : Below w.heap.size w (w.alloc (.cells #[.int .i64 t] 3)) := (Below.refl _ _).alloc (Nat.le_refl _) _
  have H0 := Lib.hid (h.below hb0)
  have ho := of_is H0.out hn hv
  have hd2 : decide ((i : Int) < (n : Int)) = true := by simp; omega
  have hlt1 := h.hc.lt
  have hlt2 := h.hl.lt
  have hrl := fun g (hg : bs i = some g) => (h.row i).lt g hg
  clear hv
  go_enter Try.func18, Try.ntmps18
  go_wp2_with (go_at_call 21; refine ho.mono ?_; rintro e w1 ⟨rfl, hb1⟩)
  clear ho
  have hbox : Blk w1.drew w.heap.size #[.int .i64 t] 3 := Blk.below hb1 (Blk.new w _ _) (by simp)
  have hu0 : Upd (CFoot bc bl bs) w w1.drew := (Upd.of_below (F := CFoot bc bl bs) (hb0.trans (hb1.mono (by simp)))).drew
  have h' : CR w1.drew n bc bl vs bs ls := (H0.out.below hb1).upd ((Upd.refl (fun _ => False) w1).drew) (fun _ _ hf => hf)
  clear h H0 hb1 hb0
  obtain ⟨W, hW⟩ : ∃ W, W = w1.drew := ⟨_, rfl⟩
  rw [← hW] at h' hu0 hbox
  have HW := Lib.hid hW
  clear hW
  have h := h'
  clear h'
  have hsz0 := hu0.size
  have hlt3 := h.hc.lt
  have hlt4 := h.hl.lt
  have hlt5 := hbox.lt
  have AB : ∀ w', w' = W → Blk w' bc #[.slice (some ⟨bl, 0, none⟩) n n] 57 := fun w' hA => by rw [hA]; exact h.hc
  have PB : ∀ v w', RowP W (bs i) ((ls i).filter fun x => !(x == t)) v w' → Blk w' bc #[.slice (some ⟨bl, 0, none⟩) n n] 57 := fun v w' ⟨b', h1, h2, h3⟩ => Blk.upd h2 h.hc (fun e => (h.own i _ e).1 rfl)
  refine region_E (RowJ 13 15 24 (fun _ w' => w' = W) (RowP W (bs i) ((ls i).filter fun x => !(x == t))) ⟨bl, i, none⟩) [Is 28 (some 11) (.pointer (some ⟨bc, 0, none⟩)), Is 28 (some 12) (.pointer (some ⟨bc, 0, none⟩)), Is 28 (some 13) (.pointer (some ⟨bc, 0, none⟩)), Is 28 (some 14) (.slice (some ⟨bl, 0, none⟩) n n), Is 28 (some 15) (.int .i64 i), Is 28 (some 16) (.pointer (some ⟨bc, 0, none⟩)), Is 28 (some 17) (.pointer (some ⟨bc, 0, none⟩)), Is 28 (some 18) (.pointer (some ⟨bc, 0, none⟩)), Is 28 (some 19) (.slice (some ⟨bl, 0, none⟩) n n), Is 28 (some 20) (.int .i64 i), Is 28 (some 21) (.pointer (some ⟨bl, i, none⟩)), Is 28 (some 22) (vs i), Is 28 (some 23) (.func (.func 30) #[] #[.pointer (some ⟨w.heap.size, 0, none⟩)]), (fun u => ∃ a l c, u = .slice a l c), Is 28 (some 25) (.pointer (some ⟨bl, i, none⟩)), Is 28 (none) (undef)] (by kernel_rfl) (by kernel_rfl) ?_ ?_
  · exact ⟨fun _ _ => HW.out.symm, fun h => (by cases h), fun h => (by cases h)⟩
  · apply wpE_op (by rfl) (by rfl) (by rfl)
    · intro f a' w' ha hf hJ Q1 hQ
      simp only [Act.put, List.setIfInBounds_toArray, List.set_cons_zero, List.set_cons_succ] at hQ
      go_wp2
      exact hQ _ _ rfl (hJ.put rfl rfl id (slot_put_ne (a := a') (by decide) _))
    simp only [Act.put, List.setIfInBounds_toArray, List.set_cons_zero, List.set_cons_succ]
    apply wpE_op (by rfl) (by rfl) (by rfl)
    · intro f a' w' ha hf hJ Q1 hQ
      simp only [Act.put, List.setIfInBounds_toArray, List.set_cons_zero, List.set_cons_succ] at hQ
      go_wp2
      exact hQ _ _ rfl (hJ.put rfl rfl id (slot_put_ne (a := a') (by decide) _))
    simp only [Act.put, List.setIfInBounds_toArray, List.set_cons_zero, List.set_cons_succ]
    apply wpE_op (by rfl) (by rfl) (by rfl)
    · intro f a' w' ha hf hJ Q1 hQ
      simp only [Act.put, List.setIfInBounds_toArray, List.set_cons_zero, List.set_cons_succ] at hQ
      go_wp2
      exact hQ _ _ rfl (hJ.put rfl rfl id (slot_put_ne (a := a') (by decide) _))
    simp only [Act.put, List.setIfInBounds_toArray, List.set_cons_zero, List.set_cons_succ]
    apply wpE_op (by rfl) (by rfl) (by rfl)
    · intro f a' w' ha hf hJ Q1 hQ
      have c1 := (hJ.blk (fun w hA => AB w hA) (fun v w hP => PB _ _ hP) h.ne).rd
      simp only [Act.put, List.setIfInBounds_toArray, List.set_cons_zero, List.set_cons_succ] at hQ
      go_wp2
      exact hQ _ _ rfl (hJ.put rfl rfl id (slot_put_ne (a := a') (by decide) _))
    simp only [Act.put, List.setIfInBounds_toArray, List.set_cons_zero, List.set_cons_succ]
    apply wpE_op (by rfl) (by rfl) (by rfl)
    · intro f a' w' ha hf hJ Q1 hQ
      simp only [Act.put, List.setIfInBounds_toArray, List.set_cons_zero, List.set_cons_succ] at hQ
      go_wp2
      exact hQ _ _ rfl (hJ.put rfl rfl id (slot_put_ne (a := a') (by decide) _))
    simp only [Act.put, List.setIfInBounds_toArray, List.set_cons_zero, List.set_cons_succ]
    apply wpE_op (by rfl) (by rfl) (by rfl)
    · intro f a' w' ha hf hJ Q1 hQ
      simp only [Act.put, List.setIfInBounds_toArray, List.set_cons_zero, List.set_cons_succ] at hQ
      go_wp2
      exact hQ _ _ rfl (hJ.put rfl rfl id (slot_put_ne (a := a') (by decide) _))
    simp only [Act.put, List.setIfInBounds_toArray, List.set_cons_zero, List.set_cons_succ]
    apply wpE_op (by rfl) (by rfl) (by rfl)
    · intro f a' w' ha hf hJ Q1 hQ
      simp only [Act.put, List.setIfInBounds_toArray, List.set_cons_zero, List.set_cons_succ] at hQ
      go_wp2
      exact hQ _ _ rfl (hJ.put rfl rfl id (slot_put_ne (a := a') (by decide) _))
    simp only [Act.put, List.setIfInBounds_toArray, List.set_cons_zero, List.set_cons_succ]
    apply wpE_op (by rfl) (by rfl) (by rfl)
    · intro f a' w' ha hf hJ Q1 hQ
      simp only [Act.put, List.setIfInBounds_toArray, List.set_cons_zero, List.set_cons_succ] at hQ
      go_wp2
      exact hQ _ _ rfl (hJ.put rfl rfl id (slot_put_ne (a := a') (by decide) _))
    simp only [Act.put, List.setIfInBounds_toArray, List.set_cons_zero, List.set_cons_succ]
    apply wpE_op (by rfl) (by rfl) (by rfl)
    · intro f a' w' ha hf hJ Q1 hQ
      have c1 := (hJ.blk (fun w hA => AB w hA) (fun v w hP => PB _ _ hP) h.ne).rd
      simp only [Act.put, List.setIfInBounds_toArray, List.set_cons_zero, List.set_cons_succ] at hQ
      go_wp2
      exact hQ _ _ rfl (hJ.put rfl rfl id (slot_put_ne (a := a') (by decide) _))
    simp only [Act.put, List.setIfInBounds_toArray, List.set_cons_zero, List.set_cons_succ]
    apply wpE_op (by rfl) (by rfl) (by rfl)
    · intro f a' w' ha hf hJ Q1 hQ
      simp only [Act.put, List.setIfInBounds_toArray, List.set_cons_zero, List.set_cons_succ] at hQ
      go_wp2
      exact hQ _ _ rfl (hJ.put rfl rfl id (slot_put_ne (a := a') (by decide) _))
    simp only [Act.put, List.setIfInBounds_toArray, List.set_cons_zero, List.set_cons_succ]
    apply wpE_op (by rfl) (by rfl) (by rfl)
    · intro f a' w' ha hf hJ Q1 hQ
      simp only [Act.put, List.setIfInBounds_toArray, List.set_cons_zero, List.set_cons_succ] at hQ
      go_wp2
      exact hQ _ _ rfl (hJ.put rfl rfl id (slot_put_ne (a := a') (by decide) _))
    simp only [Act.put, List.setIfInBounds_toArray, List.set_cons_zero, List.set_cons_succ]
    apply wpE_op (by rfl) (by rfl) (by rfl)
    · intro f a' w' ha hf hJ Q1 hQ
      have h13 : f 13 = false := by
        cases h5 : f 13 with
        | false => rfl
        | true => exact absurd (hf.1.1.symm.trans (hf.2.step 13 11 rfl (by kernel_rfl) h5)) (by decide)
      have h15 : f 15 = false := by
        cases h5 : f 15 with
        | false => rfl
        | true => exact absurd (h13.symm.trans (hf.2.step 15 13 rfl (by kernel_rfl) h5)) (by decide)
      have hA : w' = W := hJ.1 h13 h15
      have c2 : w'.cell? ⟨bl, i, none⟩ = some (vs i) := by rw [hA]; exact h.cell i hi
      clear hA
      simp only [Act.put, List.setIfInBounds_toArray, List.set_cons_zero, List.set_cons_succ] at hQ
      go_wp2
      exact hQ _ _ rfl (hJ.put rfl rfl id (slot_put_ne (a := a') (by decide) _))
    simp only [Act.put, List.setIfInBounds_toArray, List.set_cons_zero, List.set_cons_succ]
    apply wpE_op (by rfl) (by rfl) (by rfl)
    · intro f a' w' ha hf hJ Q1 hQ
      simp only [Act.put, List.setIfInBounds_toArray, List.set_cons_zero, List.set_cons_succ] at hQ
      go_wp2
      exact hQ _ _ rfl (hJ.put rfl rfl id (slot_put_ne (a := a') (by decide) _))
    simp only [Act.put, List.setIfInBounds_toArray, List.set_cons_zero, List.set_cons_succ]
    apply wpE_any (d := 24) rfl (by simp) ⟨_, none, 0, 0, rfl⟩ (by rfl)
    · intro f a' w' ha hf hJ Q1 hQ
      have h13 : f 13 = false := hf.1.1
      have h15 : f 15 = false := by
        cases h5 : f 15 with
        | false => rfl
        | true => exact absurd (h13.symm.trans (hf.2.step 15 13 rfl (by kernel_rfl) h5)) (by decide)
      have hw' : w' = W := hJ.1 h13 h15
      subst hw'
      have hsz : 24 < a'.tmps.size := by rw [ha.1]; simp
      have hcon := delete_any (h.row i) hne t w.heap.size hbox (fun g hg e => by have := hrl g hg; omega)
      simp only [Act.put, List.setIfInBounds_toArray, List.set_cons_zero, List.set_cons_succ] at hQ
      go_wp2_with (go_at_call 29; refine hcon.mono ?_; rintro e w3 ⟨v', rfl, hI, hU⟩)
      exact hQ _ _ _ rfl (Ints.slice hI) ⟨fun h5 => (by cases h5), fun _ _ => (show RowP _ _ _ (slot (a'.put (some 24) v') 24) w3 by rw [slot_put (a := a') hsz v']; exact ⟨_, hI, hU, fun g hg => Or.inl hg⟩), fun h5 => absurd (h15.symm.trans h5) (by decide)⟩
    rintro _ ⟨ua, ul, uc, rfl⟩
    simp only [Act.put, List.setIfInBounds_toArray, List.set_cons_zero, List.set_cons_succ]
    apply wpE_op (by rfl) (by rfl) (by rfl)
    · intro f a' w' ha hf hJ Q1 hQ
      simp only [Act.put, List.setIfInBounds_toArray, List.set_cons_zero, List.set_cons_succ] at hQ
      go_wp2
      exact hQ _ _ rfl (hJ.put rfl rfl id (slot_put_ne (a := a') (by decide) _))
    simp only [Act.put, List.setIfInBounds_toArray, List.set_cons_zero, List.set_cons_succ]
    apply wpE_op (v := undef) (by rfl) (by rfl) (by rfl)
    · intro f a' w' ha hf hJ Q1 hQ
      have h15 : f 15 = false := hf.1.1
      have h13 : f 13 = true := hf.1.2 ⟨13, .data⟩ (by simp) rfl
      have hP := hJ.2.1 h13 h15
      obtain ⟨b', hI, hU, hB⟩ := hP
      have hbl : Blk w' bl _ _ := Blk.upd hU h.hl (fun e => (h.own i _ e).2 rfl)
      have e1 : slot a' 24 = .slice ua ul uc := by
        have := ha.2 24 (by decide)
        simp only [slot, Array.getD_eq_getD_getElem?, this]; rfl
      have c1 : w'.cell? ⟨bl, i, none⟩ = some (vs i) := by rw [hbl.rd]; simp [hi]
      have f1 := hbl.nf
      simp only [Act.put, List.setIfInBounds_toArray, List.set_cons_zero, List.set_cons_succ] at hQ
      go_wp2
      refine hQ _ _ rfl ⟨fun h5 => absurd (h13.symm.trans h5) (by decide), fun _ h5 => (by cases h5), fun _ => ⟨w', ⟨b', hI, hU, hB⟩, ?_⟩⟩
      rw [e1]
    simp only [Act.put, List.setIfInBounds_toArray, List.set_cons_zero, List.set_cons_succ]
    refine wpE_nil ?_
    intro w4 hJ
    obtain ⟨w3, ⟨b', hI, hU, hB⟩, hw4⟩ := hJ.2.2 rfl
    have hres := CR.put h hi hU hI hB
    rw [← hw4] at hres
    clear hw4
    go_wp2
    go_ret
    refine ⟨rfl, _, _, hres.1, hu0.trans hres.2.1 (fun k hk hf => hf), fun k hk => (hres.2.2 k hk).imp id (fun hle => Nat.le_trans hsz0 hle)⟩
end Go.Proofs.Ytgkchpifogfohaa
