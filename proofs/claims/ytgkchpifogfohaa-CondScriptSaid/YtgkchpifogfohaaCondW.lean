/-
  The conditions: who waits, who is cancelled.
-/
import Derived.Test.YtgkchpifogfohaaCond
namespace Go.Proofs.Ytgkchpifogfohaa
set_option linter.unusedSimpArgs false
set_option linter.unusedVariables false
open Go.RowKit Go.Lib Own Sl
open RegJ hiding Up
open RegF hiding put_size

set_option maxRecDepth 100000 in
theorem wait_arg {w : World} {n bc bl : Nat} (h : Blk w bc #[.slice (some ⟨bl, 0, none⟩) n n] 57) (hn : n ≤ 64) (t i : Int) (ha : t < 0 ∨ (0 ≤ t ∧ (i < 0 ∨ n ≤ i))) :
    Calls Try.prog 9 #[.pointer (some ⟨bc, 0, none⟩), .int .i64 t, .int .i64 i] w fun e w' => e = .returned (.int .i64 2) ∧ w = w' := by
  rcases ha with ha | ⟨h0, hi⟩
  · go_enter Try.func9, Try.ntmps9
    go_wp2
    go_ret
    exact ⟨rfl, rfl⟩
  · have hh := has_no h i hi hn
    clear hi
    go_enter Try.func9, Try.ntmps9
    go_wp2_with (go_at_call 26; refine hh.mono ?_; rintro e w' ⟨rfl, rfl⟩)
    go_ret
    exact ⟨rfl, rfl⟩
theorem of_is {w : World} {n bc bl : Nat} {vs : Nat → Value} {bs : Nat → Option Nat} {ls : Nat → List Int} (h : CR w n bc bl vs bs ls) {t v : Int} (hn : n ≤ 64) (hv : ofF n ls t = v) :
    Calls Try.prog 21 #[.pointer (some ⟨bc, 0, none⟩), .int .i64 t] w fun e w' => e = .returned (.int .i64 v) ∧ Below w.heap.size w w' := hv ▸ of_any h t hn
set_option maxRecDepth 100000 in
theorem wait_busy {w : World} {n bc bl : Nat} {vs : Nat → Value} {bs : Nat → Option Nat} {ls : Nat → List Int} (h : CR w n bc bl vs bs ls) (hn : n ≤ 64) (t : Int) (i : Nat) (ht : 0 ≤ t) (hi : i < n) (v : Int) (hv : ofF n ls t = v) (hb : 0 ≤ v) :
    Calls Try.prog 9 #[.pointer (some ⟨bc, 0, none⟩), .int .i64 t, .int .i64 i] w fun e w' => e = .returned (.int .i64 5) ∧ Below w.heap.size w w' := by
  have hh := has_yes h.hc i hi hn
  have ho := of_is h hn hv
  clear hv h
  go_enter Try.func9, Try.ntmps9
  go_wp2_with (first | (go_at_call 26; refine hh.mono ?_; rintro e w' ⟨rfl, rfl⟩) | (go_at_call 21; refine ho.mono ?_; rintro e w' ⟨rfl, hbl⟩))
  go_ret
  exact ⟨rfl, hbl⟩

/-- what a call on row i has left: v in its place -/
def RowP (W1 : World) (bi : Option Nat) (xs : List Int) (v : Value) (w : World) : Prop := ∃ b', Ints w 3 v xs b' ∧ Upd (fun k => bi = some k) W1 w ∧ ∀ g, b' = some g → bi = some g ∨ W1.heap.size ≤ g
theorem Ints.slice {w : World} {E : TypeId} {v : Value} {xs : List Int} {b : Option Nat} (h : Ints w E v xs b) : ∃ a l c, v = .slice a l c := by
  rcases h with ⟨rfl, _⟩ | ⟨g, cap, rest, rfl, _⟩
  · exact ⟨_, _, _, rfl⟩
  · exact ⟨_, _, _, rfl⟩
/-- a row is turned: what is known behind it -/
def Turned (W w' : World) (n bc bl : Nat) (bs : Nat → Option Nat) (ls' : Nat → List Int) : Prop := ∃ vs' bs', CR w' n bc bl vs' bs' ls' ∧ Upd (CFoot bc bl bs) W w' ∧ ∀ k, CFoot bc bl bs' k → CFoot bc bl bs k ∨ W.heap.size ≤ k
def insF (ls : Nat → List Int) (i : Nat) (t : Int) : Nat → List Int := put ls i ((ls i).take (List.countP (fun x => decide (x < t)) (ls i)) ++ t :: (ls i).drop (List.countP (fun x => decide (x < t)) (ls i)))

set_option maxRecDepth 100000 in
set_option maxHeartbeats 1000000 in
theorem wait_ok {w : World} {n bc bl : Nat} {vs : Nat → Value} {bs : Nat → Option Nat} {ls : Nat → List Int} (h : CR w n bc bl vs bs ls) (hn : n ≤ 64) (t : Int) (i : Nat) (ht : 0 ≤ t) (hi : i < n) (hv : ofF n ls t = -1) (hs : (ls i).length < 100000) (hp : (ls i).Pairwise (· ≤ ·)) :
    Calls Try.prog 9 #[.pointer (some ⟨bc, 0, none⟩), .int .i64 t, .int .i64 i] w fun e w' => e = .returned (.int .i64 0) ∧ Turned w w' n bc bl bs (insF ls i t) := by
  have hh := has_yes h.hc i hi hn
  have ho := of_is h hn hv
  have hd2 : decide ((i : Int) < (n : Int)) = true := by simp; omega
  have hdt : decide (t < 0) = false := by simp; omega
  have H := Lib.hid h
  have H2 := Lib.hid hp
  have hlt1 := h.hc.lt
  have hlt2 := h.hl.lt
  clear hv h hp
  go_enter Try.func9, Try.ntmps9
  go_wp2_with (first | (go_at_call 26; refine hh.mono ?_; rintro e w' ⟨rfl, rfl⟩) | (go_at_call 21; refine ho.mono ?_; rintro e w1 ⟨rfl, hb1⟩; clear ho hh; have H1 := Lib.hid (H.out.below hb1); have c1 := H1.out.hc.rd; have c2 := H1.out.cell i hi) | (go_at_call 27; refine (bsearch_any (H1.out.row i) _ (by omega) H2.out).mono ?_; rintro e w2 ⟨rfl, q, rfl⟩))
  clear c1 c2
  have h : CR ((w1.drewN q).drew) n bc bl vs bs ls := H1.out.upd (((Upd.refl (fun _ => False) w1).drewN q).drew) (fun _ _ hf => hf)
  have hcnt : List.countP (fun x => decide (x < t)) (ls i) ≤ (ls i).length := List.countP_le_length
  have hu0 : Upd (CFoot bc bl bs) w ((w1.drewN q).drew) := ((Upd.of_below (F := CFoot bc bl bs) hb1).drewN q).drew
  have hsz0 : w.heap.size ≤ ((w1.drewN q).drew).heap.size := hb1.size
  clear H H1 H2 hb1
  obtain ⟨W, hW⟩ : ∃ W, W = (w1.drewN q).drew := ⟨_, rfl⟩
  rw [← hW] at h hu0 hsz0
  have HW := Lib.hid hW
  clear hW
  have hW1 : CR (W.alloc (.cells #[.int .i64 t] 3)) n bc bl vs bs ls := h.below ((Below.refl _ _).alloc (Nat.le_refl _) _)
  have hlt3 := h.hc.lt
  have hlt4 := h.hl.lt
  have AB : ∀ (f : Nat → Bool) w, ((f 14 = false → w = W) ∧ (f 14 = true → w = W.alloc (.cells #[.int .i64 t] 3))) → Blk w bc #[.slice (some ⟨bl, 0, none⟩) n n] 57 := fun f w hA => by
    cases hf : f 14 with
    | false => rw [hA.1 hf]; exact h.hc
    | true => rw [hA.2 hf]; exact hW1.hc
  have PB : ∀ v w, RowP (W.alloc (.cells #[.int .i64 t] 3)) (bs i) ((ls i).take (List.countP (fun x => decide (x < t)) (ls i)) ++ t :: (ls i).drop (List.countP (fun x => decide (x < t)) (ls i))) v w → Blk w bc #[.slice (some ⟨bl, 0, none⟩) n n] 57 := fun v w ⟨b', h1, h2, h3⟩ => Blk.upd h2 hW1.hc (fun e => (h.own i _ e).1 rfl)
  refine region_E (RowJ 15 17 53 (fun f w => (f 14 = false → w = W) ∧ (f 14 = true → w = W.alloc (.cells #[.int .i64 t] 3))) (RowP (W.alloc (.cells #[.int .i64 t] 3)) (bs i) ((ls i).take (List.countP (fun x => decide (x < t)) (ls i)) ++ t :: (ls i).drop (List.countP (fun x => decide (x < t)) (ls i)))) ⟨bl, i, none⟩) [Is 55 (some 38) (.pointer (some ⟨bc, 0, none⟩)), Is 55 (some 39) (.pointer (some ⟨bc, 0, none⟩)), Is 55 (some 40) (.pointer (some ⟨bc, 0, none⟩)), Is 55 (some 41) (.slice (some ⟨bl, 0, none⟩) n n), Is 55 (some 42) (.int .i64 i), Is 55 (some 43) (.pointer (some ⟨bc, 0, none⟩)), Is 55 (some 44) (.pointer (some ⟨bc, 0, none⟩)), Is 55 (some 45) (.pointer (some ⟨bc, 0, none⟩)), Is 55 (some 46) (.slice (some ⟨bl, 0, none⟩) n n), Is 55 (some 47) (.int .i64 i), Is 55 (some 48) (.pointer (some ⟨bl, i, none⟩)), Is 55 (some 49) (vs i), Is 55 (some 50) (.int .i64 (List.countP (fun x => decide (x < t)) (ls i) : Nat)), Is 55 (some 51) (.int .i64 t), Is 55 (some 52) (.slice (some ⟨W.heap.size, 0, none⟩) 1 1), (fun u => ∃ a l c, u = .slice a l c), Is 55 (some 54) (.pointer (some ⟨bl, i, none⟩)), Is 55 (none) (undef)] (by kernel_rfl) (by kernel_rfl) ?_ ?_
  · exact ⟨fun _ _ => ⟨fun _ => HW.out.symm, fun h => (by cases h)⟩, fun h => (by cases h), fun h => (by cases h)⟩
  · apply wpE_op (by rfl) (by rfl) (by rfl)
    · intro f a' w' ha hf hJ Q1 hQ
      simp only [Act.put, List.setIfInBounds_toArray, List.set_cons_zero, List.set_cons_succ] at hQ
      go_wp2
      exact hQ _ _ rfl (hJ.put rfl rfl id (slot_put_ne (a := a') (by decide) _))
    simp only [Act.put, List.setIfInBounds_toArray, List.set_cons_zero, List.set_cons_succ]
    apply wpE_op (by rfl) (by rfl) (by rfl)
    · intro f a' w' ha hf hJ Q1 hQ
      simp only [Act.put, List.setIfInBounds_toArray, List.set_cons_zero, List.set_cons_succ] at hQ
      go_wp2
      exact hQ _ _ rfl (hJ.put rfl rfl id (slot_put_ne (a := a') (by decide) _))
    simp only [Act.put, List.setIfInBounds_toArray, List.set_cons_zero, List.set_cons_succ]
    apply wpE_op (by rfl) (by rfl) (by rfl)
    · intro f a' w' ha hf hJ Q1 hQ
      simp only [Act.put, List.setIfInBounds_toArray, List.set_cons_zero, List.set_cons_succ] at hQ
      go_wp2
      exact hQ _ _ rfl (hJ.put rfl rfl id (slot_put_ne (a := a') (by decide) _))
    simp only [Act.put, List.setIfInBounds_toArray, List.set_cons_zero, List.set_cons_succ]
    apply wpE_op (by rfl) (by rfl) (by rfl)
    · intro f a' w' ha hf hJ Q1 hQ
      have c1 := (hJ.blk (fun w hA => AB _ _ hA) (fun v w hP => PB _ _ hP) h.ne).rd
      simp only [Act.put, List.setIfInBounds_toArray, List.set_cons_zero, List.set_cons_succ] at hQ
      go_wp2
      exact hQ _ _ rfl (hJ.put rfl rfl id (slot_put_ne (a := a') (by decide) _))
    simp only [Act.put, List.setIfInBounds_toArray, List.set_cons_zero, List.set_cons_succ]
    apply wpE_op (by rfl) (by rfl) (by rfl)
    · intro f a' w' ha hf hJ Q1 hQ
      simp only [Act.put, List.setIfInBounds_toArray, List.set_cons_zero, List.set_cons_succ] at hQ
      go_wp2
      exact hQ _ _ rfl (hJ.put rfl rfl id (slot_put_ne (a := a') (by decide) _))
    simp only [Act.put, List.setIfInBounds_toArray, List.set_cons_zero, List.set_cons_succ]
    apply wpE_op (by rfl) (by rfl) (by rfl)
    · intro f a' w' ha hf hJ Q1 hQ
      simp only [Act.put, List.setIfInBounds_toArray, List.set_cons_zero, List.set_cons_succ] at hQ
      go_wp2
      exact hQ _ _ rfl (hJ.put rfl rfl id (slot_put_ne (a := a') (by decide) _))
    simp only [Act.put, List.setIfInBounds_toArray, List.set_cons_zero, List.set_cons_succ]
    apply wpE_op (by rfl) (by rfl) (by rfl)
    · intro f a' w' ha hf hJ Q1 hQ
      simp only [Act.put, List.setIfInBounds_toArray, List.set_cons_zero, List.set_cons_succ] at hQ
      go_wp2
      exact hQ _ _ rfl (hJ.put rfl rfl id (slot_put_ne (a := a') (by decide) _))
    simp only [Act.put, List.setIfInBounds_toArray, List.set_cons_zero, List.set_cons_succ]
    apply wpE_op (by rfl) (by rfl) (by rfl)
    · intro f a' w' ha hf hJ Q1 hQ
      simp only [Act.put, List.setIfInBounds_toArray, List.set_cons_zero, List.set_cons_succ] at hQ
      go_wp2
      exact hQ _ _ rfl (hJ.put rfl rfl id (slot_put_ne (a := a') (by decide) _))
    simp only [Act.put, List.setIfInBounds_toArray, List.set_cons_zero, List.set_cons_succ]
    apply wpE_op (by rfl) (by rfl) (by rfl)
    · intro f a' w' ha hf hJ Q1 hQ
      have c1 := (hJ.blk (fun w hA => AB _ _ hA) (fun v w hP => PB _ _ hP) h.ne).rd
      simp only [Act.put, List.setIfInBounds_toArray, List.set_cons_zero, List.set_cons_succ] at hQ
      go_wp2
      exact hQ _ _ rfl (hJ.put rfl rfl id (slot_put_ne (a := a') (by decide) _))
    simp only [Act.put, List.setIfInBounds_toArray, List.set_cons_zero, List.set_cons_succ]
    apply wpE_op (by rfl) (by rfl) (by rfl)
    · intro f a' w' ha hf hJ Q1 hQ
      simp only [Act.put, List.setIfInBounds_toArray, List.set_cons_zero, List.set_cons_succ] at hQ
      go_wp2
      exact hQ _ _ rfl (hJ.put rfl rfl id (slot_put_ne (a := a') (by decide) _))
    simp only [Act.put, List.setIfInBounds_toArray, List.set_cons_zero, List.set_cons_succ]
    apply wpE_op (by rfl) (by rfl) (by rfl)
    · intro f a' w' ha hf hJ Q1 hQ
      simp only [Act.put, List.setIfInBounds_toArray, List.set_cons_zero, List.set_cons_succ] at hQ
      go_wp2
      exact hQ _ _ rfl (hJ.put rfl rfl id (slot_put_ne (a := a') (by decide) _))
    simp only [Act.put, List.setIfInBounds_toArray, List.set_cons_zero, List.set_cons_succ]
    apply wpE_op (by rfl) (by rfl) (by rfl)
    · intro f a' w' ha hf hJ Q1 hQ
      have h15 : f 15 = false := by
        cases h5 : f 15 with
        | false => rfl
        | true => exact absurd (hf.1.1.symm.trans (hf.2.step 15 11 rfl (by kernel_rfl) h5)) (by decide)
      have h17 : f 17 = false := by
        cases h5 : f 17 with
        | false => rfl
        | true => exact absurd (h15.symm.trans (hf.2.step 17 15 rfl (by kernel_rfl) h5)) (by decide)
      have hA := hJ.1 h15 h17
      have c2 : w'.cell? ⟨bl, i, none⟩ = some (vs i) := by
        cases h5 : f 14 with
        | false => rw [hA.1 h5]; exact h.cell i hi
        | true => rw [hA.2 h5]; exact hW1.cell i hi
      simp only [Act.put, List.setIfInBounds_toArray, List.set_cons_zero, List.set_cons_succ] at hQ
      go_wp2
      exact hQ _ _ rfl (hJ.put rfl rfl id (slot_put_ne (a := a') (by decide) _))
    simp only [Act.put, List.setIfInBounds_toArray, List.set_cons_zero, List.set_cons_succ]
    apply wpE_op (by rfl) (by rfl) (by rfl)
    · intro f a' w' ha hf hJ Q1 hQ
      simp only [Act.put, List.setIfInBounds_toArray, List.set_cons_zero, List.set_cons_succ] at hQ
      go_wp2
      exact hQ _ _ rfl (hJ.put rfl rfl id (slot_put_ne (a := a') (by decide) _))
    simp only [Act.put, List.setIfInBounds_toArray, List.set_cons_zero, List.set_cons_succ]
    apply wpE_op (by rfl) (by rfl) (by rfl)
    · intro f a' w' ha hf hJ Q1 hQ
      simp only [Act.put, List.setIfInBounds_toArray, List.set_cons_zero, List.set_cons_succ] at hQ
      go_wp2
      exact hQ _ _ rfl (hJ.put rfl rfl id (slot_put_ne (a := a') (by decide) _))
    simp only [Act.put, List.setIfInBounds_toArray, List.set_cons_zero, List.set_cons_succ]
    apply wpE_op (by rfl) (by rfl) (by rfl)
    · intro f a' w' ha hf hJ Q1 hQ
      have h15 : f 15 = false := by
        cases h5 : f 15 with
        | false => rfl
        | true => exact absurd (hf.1.1.symm.trans (hf.2.step 15 14 rfl (by kernel_rfl) h5)) (by decide)
      have h17 : f 17 = false := by
        cases h5 : f 17 with
        | false => rfl
        | true => exact absurd (h15.symm.trans (hf.2.step 17 15 rfl (by kernel_rfl) h5)) (by decide)
      have hw' : w' = W := (hJ.1 h15 h17).1 hf.1.1
      subst hw'
      simp only [Act.put, List.setIfInBounds_toArray, List.set_cons_zero, List.set_cons_succ] at hQ
      go_wp2
      exact hQ _ _ rfl ⟨fun _ _ => ⟨fun h => (by cases h), fun _ => rfl⟩, fun h5 => absurd (h15.symm.trans h5) (by decide), fun h5 => absurd (h17.symm.trans h5) (by decide)⟩
    simp only [Act.put, List.setIfInBounds_toArray, List.set_cons_zero, List.set_cons_succ]
    apply wpE_any (d := 53) rfl (by simp) ⟨_, none, 0, 0, rfl⟩ (by rfl)
    · intro f a' w' ha hf hJ Q1 hQ
      have h15 : f 15 = false := hf.1.1
      have h14 : f 14 = true := hf.1.2 ⟨14, .data⟩ (by simp) rfl
      have h17 : f 17 = false := by
        cases h5 : f 17 with
        | false => rfl
        | true => exact absurd (h15.symm.trans (hf.2.step 17 15 rfl (by kernel_rfl) h5)) (by decide)
      have hw' : w' = W.alloc (.cells #[.int .i64 t] 3) := (hJ.1 h15 h17).2 h14
      subst hw'
      have hsz : 53 < a'.tmps.size := by rw [ha.1]; simp
      have hcon := insert_any (hW1.row i) (List.countP (fun x => decide (x < t)) (ls i)) hcnt t W.heap.size 1 (Blk.new _ _ _) (fun g hg e => by have := (h.row i).lt g hg; omega) (by omega)
      simp only [Act.put, List.setIfInBounds_toArray, List.set_cons_zero, List.set_cons_succ] at hQ
      go_wp2_with (go_at_call 28; refine hcon.mono ?_; rintro e w3 ⟨v', b', rfl, hI, hU, hB⟩)
      exact hQ _ _ _ rfl (Ints.slice hI) ⟨fun h5 => (by cases h5), fun _ _ => (show RowP _ _ _ (slot (a'.put (some 53) v') 53) w3 by rw [slot_put (a := a') hsz v']; exact ⟨b', hI, hU, hB⟩), fun h5 => absurd (h17.symm.trans h5) (by decide)⟩
    rintro _ ⟨ua, ul, uc, rfl⟩
    simp only [Act.put, List.setIfInBounds_toArray, List.set_cons_zero, List.set_cons_succ]
    apply wpE_op (by rfl) (by rfl) (by rfl)
    · intro f a' w' ha hf hJ Q1 hQ
      simp only [Act.put, List.setIfInBounds_toArray, List.set_cons_zero, List.set_cons_succ] at hQ
      go_wp2
      exact hQ _ _ rfl (hJ.put rfl rfl id (slot_put_ne (a := a') (by decide) _))
    simp only [Act.put, List.setIfInBounds_toArray, List.set_cons_zero, List.set_cons_succ]
    apply wpE_op (v := undef) (by rfl) (by rfl) (by rfl)
    · intro f a' w' ha hf hJ Q1 hQ
      have h17 : f 17 = false := hf.1.1
      have h15 : f 15 = true := hf.1.2 ⟨15, .data⟩ (by simp) rfl
      have hP := hJ.2.1 h15 h17
      obtain ⟨b', hI, hU, hB⟩ := hP
      have hbl : Blk w' bl _ _ := Blk.upd hU hW1.hl (fun e => (h.own i _ e).2 rfl)
      have e1 : slot a' 53 = .slice ua ul uc := by
        have := ha.2 53 (by decide)
        simp only [slot, Array.getD_eq_getD_getElem?, this]; rfl
      have c1 : w'.cell? ⟨bl, i, none⟩ = some (vs i) := by rw [hbl.rd]; simp [hi]
      have f1 := hbl.nf
      simp only [Act.put, List.setIfInBounds_toArray, List.set_cons_zero, List.set_cons_succ] at hQ
      go_wp2
      refine hQ _ _ rfl ⟨fun h5 => absurd (h15.symm.trans h5) (by decide), fun _ h5 => (by cases h5), fun _ => ⟨w', ⟨b', hI, hU, hB⟩, ?_⟩⟩
      rw [e1]
    simp only [Act.put, List.setIfInBounds_toArray, List.set_cons_zero, List.set_cons_succ]
    refine wpE_nil ?_
    intro w4 hJ
    obtain ⟨w3, ⟨b', hI, hU, hB⟩, hw4⟩ := hJ.2.2 rfl
    have hres := CR.put h hi (Upd.trans ((Upd.refl (fun k => bs i = some k) W).alloc _) hU (fun _ _ hk => hk)) hI (fun g hg => (hB g hg).imp id (fun hle => Nat.le_trans (by simp) hle))
    rw [← hw4] at hres
    go_wp2
    go_ret
    refine ⟨rfl, _, _, hres.1, hu0.trans hres.2.1 (fun k hk hf => hf), fun k hk => (hres.2.2 k hk).imp id (fun hle => Nat.le_trans hsz0 hle)⟩
end Go.Proofs.Ytgkchpifogfohaa
