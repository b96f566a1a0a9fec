/-
  The queue's rows by levels: a number more, a number less.
-/
import Derived.Test.YtpajebedeacpgaaQb
namespace Go.Proofs.Ytpajebedeacpgaa
set_option linter.unusedSimpArgs false
set_option linter.unusedVariables false
open Go.RowKit Own Sl
open RegJ hiding Up
open RegF hiding put_size

/-- what a call on a row has left: v in its place -/
def RowP (W1 : World) (bi : Option Nat) (xs : List Int) (v : Value) (w : World) : Prop := ∃ b', Ints w 3 v xs b' ∧ Upd (fun k => bi = some k) W1 w ∧ ∀ g, b' = some g → bi = some g ∨ W1.heap.size ≤ g
theorem Own.Ints.slice {w : World} {E : TypeId} {v : Value} {xs : List Int} {b : Option Nat} (h : Ints w E v xs b) : ∃ a l c, v = .slice a l c := by
  rcases h with ⟨rfl, _⟩ | ⟨g, cap, rest, rfl, _⟩
  · exact ⟨_, _, _, rfl⟩
  · exact ⟨_, _, _, rfl⟩
def insL (xs : List Int) (x : Int) : List Int := xs.take (List.countP (fun y => decide (y < x)) xs) ++ x :: xs.drop (List.countP (fun y => decide (y < x)) xs)
def remL (xs : List Int) (x : Int) : List Int := xs.filter fun y => !(y == x)
theorem insL_len (xs : List Int) (x : Int) : (insL xs x).length = xs.length + 1 := by
  unfold insL
  have := List.countP_le_length (p := fun y => decide (y < x)) (l := xs)
  simp; omega
theorem remL_len (xs : List Int) (x : Int) : (remL xs x).length ≤ xs.length := List.length_filter_le _ _
def PutP (w : World) (qb : Nat) (F : Nat → List Int) (W : Nat → Nat) (m : Int → Option Value) (s : Nat) (hs : List It) (lo : Lo) (N : Nat) (e : Ending) (w' : World) : Prop := e = .returned (.tuple #[]) ∧ ∃ R' lo', QB w' qb R' F W m s hs lo' N ∧ QFr lo lo' w w'
section
variable {w : World} {qb : Nat} {R : Nat → Value} {F : Nat → List Int} {W : Nat → Nat} {m : Int → Option Value} {s : Nat} {hs : List It} {lo : Lo} {N : Nat}
theorem QB.blkq {w' W0 : World} {r i : Nat} (h : QB W0 qb R F W m s hs lo N) (hu : Upd (fun k => lo (.row (64 * r + i)) = some k) W0 w') : Blk w' qb (rowC R) 62 :=
  Blk.upd hu h.blk (fun e => by have := h.inj _ _ _ e h.at'; cases this)
set_option maxRecDepth 100000 in
set_option maxHeartbeats 2000000 in
theorem rput_is (h : QB w qb R F W m s hs lo N) {r i : Nat} (hr : r < 2) (hi : i < 64) (id : Int) (hN : N ≤ 1000) (hl : (F (64 * r + i)).length + 1 ≤ N) (hp : (F (64 * r + i)).Pairwise (· ≤ ·)) (hw : W r < 18446744073709551616) :
    Calls Try.prog 41 #[.pointer (some ⟨qb, ro r, none⟩), .int .i64 id, .int .i64 i] w (PutP w qb (putF F (64 * r + i) (insL (F (64 * r + i)) id)) (putF W r (wset (W r) i)) m s hs lo N) := by
  obtain ⟨q1, q2⟩ := ro_lt hr hi
  have c0 := h.cell (ro r + 1 + i) (by omega)
  have hbs := bsearch_any (h.row r i hr hi) id (by omega) hp
  have hset := wset_is (W r) i hw hi
  have hcl : List.countP (fun y => decide (y < id)) (F (64 * r + i)) ≤ (F (64 * r + i)).length := List.countP_le_length
  obtain ⟨C, hC⟩ : ∃ C, List.countP (fun y => decide (y < id)) (F (64 * r + i)) = C := ⟨_, rfl⟩
  rw [hC] at hbs hcl
  obtain ⟨O, hO⟩ : ∃ O, ro r = O := ⟨_, rfl⟩
  obtain ⟨V, hV⟩ : ∃ V, R (ro r + 1 + i) = V := ⟨_, rfl⟩
  rw [hV] at hbs c0
  rw [hO] at c0 q1 q2
  have HE := Lib.hid (And.intro hC (And.intro hO hV))
  have H := Lib.hid (And.intro h (And.intro hr (And.intro hi (And.intro hl hN))))
  have i1 : (i : Int) < 64 := by omega
  have i2 : (0 : Int) ≤ i := by omega
  rw [hO]
  clear h hC hO hV hl hN hw hp
  go_enter Try.func41, Try.ntmps41
  go_upto_region 1 with (go_at_call 56; (with_reducible refine hbs.mono ?_); rintro e w2 ⟨rfl, q, rfl⟩)
  have h0 : QB (w.drewN q).drew qb R F W m s hs lo N := H.out.1.upd (((Upd.refl (fun _ => False) w).drewN q).drew) (fun _ _ _ h => h)
  have hu0 : QFr lo lo w (w.drewN q).drew := ⟨((Upd.refl _ w).drewN q).drew, fun r k h => Or.inl ⟨r, h⟩⟩
  clear hbs c0
  obtain ⟨W0, hW⟩ : ∃ W0, W0 = (w.drewN q).drew := ⟨_, rfl⟩
  rw [← hW] at h0 hu0
  have HW := Lib.hid hW
  clear hW
  have HU0 := Lib.hid hu0
  clear hu0
  have H0 := Lib.hid h0
  clear h0
  have H1 := Lib.hid (H0.out.below ((Below.refl _ _).alloc (Nat.le_refl _) (.cells #[.int .i64 id] 3)))
  refine region_E (RowJ 11 15 30 (fun f w => (f 10 = false → w = W0) ∧ (f 10 = true → w = W0.alloc (.cells #[.int .i64 id] 3))) (RowP (W0.alloc (.cells #[.int .i64 id] 3)) (lo (.row (64 * r + i))) (insL (F (64 * r + i)) id)) ⟨qb, O + 1 + i, none⟩) [Is 43 (some 19) (.pointer (some ⟨qb, O, none⟩)), Is 43 (some 20) (.int .i64 i), Is 43 (some 21) (.pointer (some ⟨qb, O, none⟩)), Is 43 (some 22) (.int .i64 i), Is 43 (some 23) (.pointer (some ⟨qb, O, none⟩)), Is 43 (some 24) (.pointer (some ⟨qb, O + 1, none⟩)), Is 43 (some 25) (.pointer (some ⟨qb, O + 1 + i, none⟩)), Is 43 (some 26) (V), Is 43 (some 27) (.int .i64 (C : Nat)), Is 43 (some 28) (.int .i64 id), Is 43 (some 29) (.slice (some ⟨W0.heap.size, 0, none⟩) 1 1), (fun u => ∃ a l c, u = .slice a l c), Is 43 (some 31) (.pointer (some ⟨qb, O, none⟩)), Is 43 (some 32) (.pointer (some ⟨qb, O + 1, none⟩)), Is 43 (some 33) (.pointer (some ⟨qb, O + 1 + i, none⟩)), Is 43 (none) (undef)] (by kernel_rfl) (by kernel_rfl) ?_ ?_
  · exact ⟨fun _ _ => ⟨fun _ => HW.out.symm, fun h => (by cases h)⟩, fun h => (by cases h), fun h => (by cases h)⟩
  · apply wpE_op (by rfl) (by rfl) (by rfl)
    · intro f a' w' ha hf hJ Q1 hQ
      simp only [Act.put, List.setIfInBounds_toArray, List.set_cons_zero, List.set_cons_succ] at hQ
      go_wp2
      exact hQ _ _ rfl (hJ.put rfl rfl (fun h => h) (slot_put_ne (a := a') (by decide) _))
    simp only [Act.put, List.setIfInBounds_toArray, List.set_cons_zero, List.set_cons_succ]
    apply wpE_op (by rfl) (by rfl) (by rfl)
    · intro f a' w' ha hf hJ Q1 hQ
      simp only [Act.put, List.setIfInBounds_toArray, List.set_cons_zero, List.set_cons_succ] at hQ
      go_wp2
      exact hQ _ _ rfl (hJ.put rfl rfl (fun h => h) (slot_put_ne (a := a') (by decide) _))
    simp only [Act.put, List.setIfInBounds_toArray, List.set_cons_zero, List.set_cons_succ]
    apply wpE_op (by rfl) (by rfl) (by rfl)
    · intro f a' w' ha hf hJ Q1 hQ
      simp only [Act.put, List.setIfInBounds_toArray, List.set_cons_zero, List.set_cons_succ] at hQ
      go_wp2
      exact hQ _ _ rfl (hJ.put rfl rfl (fun h => h) (slot_put_ne (a := a') (by decide) _))
    simp only [Act.put, List.setIfInBounds_toArray, List.set_cons_zero, List.set_cons_succ]
    apply wpE_op (by rfl) (by rfl) (by rfl)
    · intro f a' w' ha hf hJ Q1 hQ
      simp only [Act.put, List.setIfInBounds_toArray, List.set_cons_zero, List.set_cons_succ] at hQ
      go_wp2
      exact hQ _ _ rfl (hJ.put rfl rfl (fun h => h) (slot_put_ne (a := a') (by decide) _))
    simp only [Act.put, List.setIfInBounds_toArray, List.set_cons_zero, List.set_cons_succ]
    apply wpE_op (by rfl) (by rfl) (by rfl)
    · intro f a' w' ha hf hJ Q1 hQ
      simp only [Act.put, List.setIfInBounds_toArray, List.set_cons_zero, List.set_cons_succ] at hQ
      go_wp2
      exact hQ _ _ rfl (hJ.put rfl rfl (fun h => h) (slot_put_ne (a := a') (by decide) _))
    simp only [Act.put, List.setIfInBounds_toArray, List.set_cons_zero, List.set_cons_succ]
    apply wpE_op (by rfl) (by rfl) (by rfl)
    · intro f a' w' ha hf hJ Q1 hQ
      simp only [Act.put, List.setIfInBounds_toArray, List.set_cons_zero, List.set_cons_succ] at hQ
      go_wp2
      exact hQ _ _ rfl (hJ.put rfl rfl (fun h => h) (slot_put_ne (a := a') (by decide) _))
    simp only [Act.put, List.setIfInBounds_toArray, List.set_cons_zero, List.set_cons_succ]
    apply wpE_op (by rfl) (by rfl) (by rfl)
    · intro f a' w' ha hf hJ Q1 hQ
      simp only [Act.put, List.setIfInBounds_toArray, List.set_cons_zero, List.set_cons_succ] at hQ
      go_wp2
      exact hQ _ _ rfl (hJ.put rfl rfl (fun h => h) (slot_put_ne (a := a') (by decide) _))
    simp only [Act.put, List.setIfInBounds_toArray, List.set_cons_zero, List.set_cons_succ]
    apply wpE_op (by rfl) (by rfl) (by rfl)
    · intro f a' w' ha hf hJ Q1 hQ
      have hc : f 11 = false := by
        cases h5 : f 11 with
        | false => rfl
        | true => exact absurd (hf.1.1.symm.trans (hf.2.step 11 7 rfl (by kernel_rfl) h5)) (by decide)
      have hst : f 15 = false := by
        cases h5 : f 15 with
        | false => rfl
        | true => exact absurd (hc.symm.trans (hf.2.step 15 11 rfl (by kernel_rfl) h5)) (by decide)
      have hA := hJ.1 hc hst
      have c2 : w'.cell? ⟨qb, O + 1 + i, none⟩ = some V := by
        rw [← HE.out.2.2, HE.out.2.1]
        cases h5 : f 10 with
        | false => rw [hA.1 h5]; exact H0.out.cell _ (by omega)
        | true => rw [hA.2 h5]; exact H1.out.cell _ (by omega)
      simp only [Act.put, List.setIfInBounds_toArray, List.set_cons_zero, List.set_cons_succ] at hQ
      go_wp2
      exact hQ _ _ rfl (hJ.put rfl rfl (fun h => h) (slot_put_ne (a := a') (by decide) _))
    simp only [Act.put, List.setIfInBounds_toArray, List.set_cons_zero, List.set_cons_succ]
    apply wpE_op (by rfl) (by rfl) (by rfl)
    · intro f a' w' ha hf hJ Q1 hQ
      simp only [Act.put, List.setIfInBounds_toArray, List.set_cons_zero, List.set_cons_succ] at hQ
      go_wp2
      exact hQ _ _ rfl (hJ.put rfl rfl (fun h => h) (slot_put_ne (a := a') (by decide) _))
    simp only [Act.put, List.setIfInBounds_toArray, List.set_cons_zero, List.set_cons_succ]
    apply wpE_op (by rfl) (by rfl) (by rfl)
    · intro f a' w' ha hf hJ Q1 hQ
      simp only [Act.put, List.setIfInBounds_toArray, List.set_cons_zero, List.set_cons_succ] at hQ
      go_wp2
      exact hQ _ _ rfl (hJ.put rfl rfl (fun h => h) (slot_put_ne (a := a') (by decide) _))
    simp only [Act.put, List.setIfInBounds_toArray, List.set_cons_zero, List.set_cons_succ]
    apply wpE_op (by rfl) (by rfl) (by rfl)
    · intro f a' w' ha hf hJ Q1 hQ
      have hc : f 11 = false := by
        cases h5 : f 11 with
        | false => rfl
        | true => exact absurd (hf.1.1.symm.trans (hf.2.step 11 10 rfl (by kernel_rfl) h5)) (by decide)
      have hst : f 15 = false := by
        cases h5 : f 15 with
        | false => rfl
        | true => exact absurd (hc.symm.trans (hf.2.step 15 11 rfl (by kernel_rfl) h5)) (by decide)
      have hw' : w' = W0 := (hJ.1 hc hst).1 hf.1.1
      subst hw'
      simp only [Act.put, List.setIfInBounds_toArray, List.set_cons_zero, List.set_cons_succ] at hQ
      go_wp2
      exact hQ _ _ rfl ⟨fun _ _ => ⟨fun h => (by cases h), fun _ => rfl⟩, fun h5 => absurd (hc.symm.trans h5) (by decide), fun h5 => absurd (hst.symm.trans h5) (by decide)⟩
    simp only [Act.put, List.setIfInBounds_toArray, List.set_cons_zero, List.set_cons_succ]
    apply wpE_any (d := 30) rfl (by simp) ⟨_, none, 0, 0, rfl⟩ (by rfl)
    · intro f a' w' ha hf hJ Q1 hQ
      have hc : f 11 = false := hf.1.1
      have h10 : f 10 = true := hf.1.2 ⟨10, .data⟩ (by simp) rfl
      have hst : f 15 = false := by
        cases h5 : f 15 with
        | false => rfl
        | true => exact absurd (hc.symm.trans (hf.2.step 15 11 rfl (by kernel_rfl) h5)) (by decide)
      have hw' : w' = W0.alloc (.cells #[.int .i64 id] 3) := (hJ.1 hc hst).2 h10
      subst hw'
      have hsz : 30 < a'.tmps.size := by rw [ha.1]; simp
      have hcon := insert_any (H1.out.row r i H.out.2.1 H.out.2.2.1) C (by omega) id W0.heap.size 1 (Blk.new _ _ _) (fun g hg e => by have := H0.out.lt _ _ hg; omega) (by have := H.out.2.2.2; omega)
      rw [HE.out.2.1, show R (O + 1 + i) = V from HE.out.2.1 ▸ HE.out.2.2] at hcon
      simp only [Act.put, List.setIfInBounds_toArray, List.set_cons_zero, List.set_cons_succ] at hQ
      go_wp2_with (go_at_call 57; (with_reducible refine hcon.mono ?_); rintro e w3 ⟨v', b', rfl, hI, hU, hB⟩)
      exact hQ _ _ _ rfl (Ints.slice hI) ⟨fun h5 => (by cases h5), fun _ _ => (show RowP _ _ _ (slot (a'.put (some 30) v') 30) w3 by rw [slot_put (a := a') hsz v']; exact ⟨b', by unfold insL; rw [HE.out.1]; exact hI, hU, hB⟩), fun h5 => absurd (hst.symm.trans h5) (by decide)⟩
    rintro _ ⟨ua, ul, uc, rfl⟩
    simp only [Act.put, List.setIfInBounds_toArray, List.set_cons_zero, List.set_cons_succ]
    apply wpE_op (by rfl) (by rfl) (by rfl)
    · intro f a' w' ha hf hJ Q1 hQ
      simp only [Act.put, List.setIfInBounds_toArray, List.set_cons_zero, List.set_cons_succ] at hQ
      go_wp2
      exact hQ _ _ rfl (hJ.put rfl rfl (fun h => h) (slot_put_ne (a := a') (by decide) _))
    simp only [Act.put, List.setIfInBounds_toArray, List.set_cons_zero, List.set_cons_succ]
    apply wpE_op (by rfl) (by rfl) (by rfl)
    · intro f a' w' ha hf hJ Q1 hQ
      simp only [Act.put, List.setIfInBounds_toArray, List.set_cons_zero, List.set_cons_succ] at hQ
      go_wp2
      exact hQ _ _ rfl (hJ.put rfl rfl (fun h => h) (slot_put_ne (a := a') (by decide) _))
    simp only [Act.put, List.setIfInBounds_toArray, List.set_cons_zero, List.set_cons_succ]
    apply wpE_op (by rfl) (by rfl) (by rfl)
    · intro f a' w' ha hf hJ Q1 hQ
      simp only [Act.put, List.setIfInBounds_toArray, List.set_cons_zero, List.set_cons_succ] at hQ
      go_wp2
      exact hQ _ _ rfl (hJ.put rfl rfl (fun h => h) (slot_put_ne (a := a') (by decide) _))
    simp only [Act.put, List.setIfInBounds_toArray, List.set_cons_zero, List.set_cons_succ]
    apply wpE_op (v := undef) (by rfl) (by rfl) (by rfl)
    · intro f a' w' ha hf hJ Q1 hQ
      have hst : f 15 = false := hf.1.1
      have hc : f 11 = true := hf.1.2 ⟨11, .data⟩ (by simp) rfl
      have hP := hJ.2.1 hc hst
      obtain ⟨b', hI, hU, hB⟩ := hP
      have hbl := H1.out.blkq hU
      have e1 : slot a' 30 = .slice ua ul uc := by
        have := ha.2 30 (by decide)
        simp only [slot, Array.getD_eq_getD_getElem?, this]; rfl
      have c1 : w'.cell? ⟨qb, O + 1 + i, none⟩ = some V := by rw [hbl.rd, rowC_at R _ (by omega)]; exact congrArg some (HE.out.2.1 ▸ HE.out.2.2)
      have f1 := hbl.nf
      clear hbl
      simp only [Act.put, List.setIfInBounds_toArray, List.set_cons_zero, List.set_cons_succ] at hQ
      go_wp2
      refine hQ _ _ rfl ⟨fun h5 => absurd (hc.symm.trans h5) (by decide), fun _ h5 => (by cases h5), fun _ => ⟨w', ⟨b', hI, hU, hB⟩, ?_⟩⟩
      rw [e1]
    simp only [Act.put, List.setIfInBounds_toArray, List.set_cons_zero, List.set_cons_succ]
    refine wpE_nil ?_
    intro w4 hJ
    obtain ⟨w3, ⟨b', hI, hU, hB⟩, hw4⟩ := hJ.2.2 rfl
    have hu01 : Upd (fun k => k = qb ∨ lo (.row (64 * r + i)) = some k) W0 w3 := (((Upd.refl (fun k => lo (.row (64 * r + i)) = some k) W0).alloc _).trans hU (fun _ _ h => h)).mono (fun k _ h => Or.inr h)
    have hbq : ∀ g, b' = some g → g ≠ qb := fun g hg e => by
      rcases hB g hg with h5 | h5
      · rw [e] at h5; have := H0.out.inj _ _ _ h5 H0.out.at'; cases this
      · have := H0.out.lt _ _ H0.out.at'; simp at h5; omega
    rw [show slot _ 30 = Value.slice ua ul uc from rfl] at hw4 hI
    have hres := H0.out.setRow (v := .slice ua ul uc) (b := b') (w' := w4) H.out.2.1 H.out.2.2.1 (by rw [hw4]; exact hu01.setCell (p := ⟨qb, _, none⟩) (fun _ => Or.inl rfl) _) (by
      rw [hw4, HE.out.2.1]
      exact Blk.of ((H1.out.blkq hU).set _ _) (rowC_set R _ (by omega) _)) (by
      rw [hw4]
      exact hI.upd ((Upd.refl (fun k => k = qb) w3).setCell (p := ⟨qb, _, none⟩) (fun _ => rfl) _) (fun g hg e => hbq g hg e)) (fun g hg => (hB g hg).imp _root_.id (fun h5 => by simp at h5; omega)) (by rw [insL_len]; exact H.out.2.2.2.1)
    clear hw4 hI hU hB hu01 hbq
    have HR := Lib.hid hres
    clear hres
    have c5 := HR.out.1.cell O (by omega)
    rw [putF_ne _ _ _ (by rw [HE.out.2.1]; omega), ← HE.out.2.1, show R (ro r) = .int .u64 (W r) from H.out.1.word r H.out.2.1] at c5
    have nf5 := HR.out.1.blk.nf
    have hsw := HR.out.1.setWord H.out.2.1 (wset (W r) i)
    rw [HE.out.2.1] at c5 hsw
    have HS := Lib.hid hsw
    clear hsw
    generalize wset (W r) i = ws at *
    generalize W r = wr0 at *
    go_wp2_with (go_at_call 58; (with_reducible refine (hset _).mono ?_); rintro e w' ⟨rfl, rfl⟩)
    go_returns
    exact ⟨rfl, _, _, HS.out.1, (HU0.out.trans HR.out.2).trans HS.out.2⟩
/-- the words behind a taking -/
def tkW (W : Nat → Nat) (r i : Nat) (l : List Int) : Nat → Nat := if l = [] then putF W r (wclr (W r) i) else W
set_option maxRecDepth 100000 in
set_option maxHeartbeats 2000000 in
theorem rtake_is (h : QB w qb R F W m s hs lo N) {r i : Nat} (hr : r < 2) (hi : i < 64) (id : Int) (hN : N ≤ 1000) (hne : F (64 * r + i) ≠ []) (hw : W r < 18446744073709551616) :
    Calls Try.prog 32 #[.pointer (some ⟨qb, ro r, none⟩), .int .i64 id, .int .i64 i] w (PutP w qb (putF F (64 * r + i) (remL (F (64 * r + i)) id)) (tkW W r i (remL (F (64 * r + i)) id)) m s hs lo N) := by
  obtain ⟨q1, q2⟩ := ro_lt hr hi
  have hclr := wclr_is (W r) i hw hi
  obtain ⟨O, hO⟩ : ∃ O, ro r = O := ⟨_, rfl⟩
  obtain ⟨V, hV⟩ : ∃ V, R (ro r + 1 + i) = V := ⟨_, rfl⟩
  rw [hO] at q1 q2
  have HE := Lib.hid (And.intro hO hV)
  have H := Lib.hid (And.intro h (And.intro hr (And.intro hi (And.intro hne hN))))
  have i1 : (i : Int) < 64 := by omega
  have i2 : (0 : Int) ≤ i := by omega
  rw [hO]
  have h0 : QB (w.alloc (.cells #[.int .i64 id] 3)).drew qb R F W m s hs lo N := h.upd (((Upd.refl (fun _ => False) w).alloc _).drew) (fun _ _ _ h => h)
  have hu0 : QFr lo lo w (w.alloc (.cells #[.int .i64 id] 3)).drew := ⟨((Upd.refl _ w).alloc _).drew, fun r k h => Or.inl ⟨r, h⟩⟩
  have hbx : Blk (w.alloc (.cells #[.int .i64 id] 3)).drew w.heap.size #[.int .i64 id] 3 := (Blk.new w #[.int .i64 id] 3).drew
  have hnb : ∀ r k, lo r = some k → k ≠ w.heap.size := fun r k hk e => by have := h.lt r k hk; omega
  clear h hO hV hN hw hne
  go_enter Try.func32, Try.ntmps32
  go_upto_region 1 with (fail)
  obtain ⟨W0, hW⟩ : ∃ W0, W0 = (w.alloc (.cells #[.int .i64 id] 3)).drew := ⟨_, rfl⟩
  rw [← hW] at h0 hu0 hbx
  have HW := Lib.hid hW
  clear hW
  have HU0 := Lib.hid hu0
  have H0 := Lib.hid (And.intro h0 (And.intro hbx hnb))
  clear h0 hbx hnb hu0
  generalize w.heap.size = bx at *
  refine region_E (RowJ 9 13 15 (fun f w => w = W0) (RowP W0 (lo (.row (64 * r + i))) (remL (F (64 * r + i)) id)) ⟨qb, O + 1 + i, none⟩) [Is 36 (some 6) (.pointer (some ⟨qb, O, none⟩)), Is 36 (some 7) (.int .i64 i), Is 36 (some 8) (.pointer (some ⟨qb, O, none⟩)), Is 36 (some 9) (.int .i64 i), Is 36 (some 10) (.pointer (some ⟨qb, O, none⟩)), Is 36 (some 11) (.pointer (some ⟨qb, O + 1, none⟩)), Is 36 (some 12) (.pointer (some ⟨qb, O + 1 + i, none⟩)), Is 36 (some 13) (V), Is 36 (some 14) (.func (.func 45) #[] #[.pointer (some ⟨bx, 0, none⟩)]), (fun u => ∃ a l c, u = .slice a l c), Is 36 (some 16) (.pointer (some ⟨qb, O, none⟩)), Is 36 (some 17) (.pointer (some ⟨qb, O + 1, none⟩)), Is 36 (some 18) (.pointer (some ⟨qb, O + 1 + i, none⟩)), Is 36 (none) (undef)] (by kernel_rfl) (by kernel_rfl) ?_ ?_
  · exact ⟨fun _ _ => HW.out.symm, fun h => (by cases h), fun h => (by cases h)⟩
  · apply wpE_op (by rfl) (by rfl) (by rfl)
    · intro f a' w' ha hf hJ Q1 hQ
      simp only [Act.put, List.setIfInBounds_toArray, List.set_cons_zero, List.set_cons_succ] at hQ
      go_wp2
      exact hQ _ _ rfl (hJ.put rfl rfl (fun h => h) (slot_put_ne (a := a') (by decide) _))
    simp only [Act.put, List.setIfInBounds_toArray, List.set_cons_zero, List.set_cons_succ]
    apply wpE_op (by rfl) (by rfl) (by rfl)
    · intro f a' w' ha hf hJ Q1 hQ
      simp only [Act.put, List.setIfInBounds_toArray, List.set_cons_zero, List.set_cons_succ] at hQ
      go_wp2
      exact hQ _ _ rfl (hJ.put rfl rfl (fun h => h) (slot_put_ne (a := a') (by decide) _))
    simp only [Act.put, List.setIfInBounds_toArray, List.set_cons_zero, List.set_cons_succ]
    apply wpE_op (by rfl) (by rfl) (by rfl)
    · intro f a' w' ha hf hJ Q1 hQ
      simp only [Act.put, List.setIfInBounds_toArray, List.set_cons_zero, List.set_cons_succ] at hQ
      go_wp2
      exact hQ _ _ rfl (hJ.put rfl rfl (fun h => h) (slot_put_ne (a := a') (by decide) _))
    simp only [Act.put, List.setIfInBounds_toArray, List.set_cons_zero, List.set_cons_succ]
    apply wpE_op (by rfl) (by rfl) (by rfl)
    · intro f a' w' ha hf hJ Q1 hQ
      simp only [Act.put, List.setIfInBounds_toArray, List.set_cons_zero, List.set_cons_succ] at hQ
      go_wp2
      exact hQ _ _ rfl (hJ.put rfl rfl (fun h => h) (slot_put_ne (a := a') (by decide) _))
    simp only [Act.put, List.setIfInBounds_toArray, List.set_cons_zero, List.set_cons_succ]
    apply wpE_op (by rfl) (by rfl) (by rfl)
    · intro f a' w' ha hf hJ Q1 hQ
      simp only [Act.put, List.setIfInBounds_toArray, List.set_cons_zero, List.set_cons_succ] at hQ
      go_wp2
      exact hQ _ _ rfl (hJ.put rfl rfl (fun h => h) (slot_put_ne (a := a') (by decide) _))
    simp only [Act.put, List.setIfInBounds_toArray, List.set_cons_zero, List.set_cons_succ]
    apply wpE_op (by rfl) (by rfl) (by rfl)
    · intro f a' w' ha hf hJ Q1 hQ
      simp only [Act.put, List.setIfInBounds_toArray, List.set_cons_zero, List.set_cons_succ] at hQ
      go_wp2
      exact hQ _ _ rfl (hJ.put rfl rfl (fun h => h) (slot_put_ne (a := a') (by decide) _))
    simp only [Act.put, List.setIfInBounds_toArray, List.set_cons_zero, List.set_cons_succ]
    apply wpE_op (by rfl) (by rfl) (by rfl)
    · intro f a' w' ha hf hJ Q1 hQ
      simp only [Act.put, List.setIfInBounds_toArray, List.set_cons_zero, List.set_cons_succ] at hQ
      go_wp2
      exact hQ _ _ rfl (hJ.put rfl rfl (fun h => h) (slot_put_ne (a := a') (by decide) _))
    simp only [Act.put, List.setIfInBounds_toArray, List.set_cons_zero, List.set_cons_succ]
    apply wpE_op (by rfl) (by rfl) (by rfl)
    · intro f a' w' ha hf hJ Q1 hQ
      have hc : f 9 = false := by
        cases h5 : f 9 with
        | false => rfl
        | true => exact absurd (hf.1.1.symm.trans (hf.2.step 9 7 rfl (by kernel_rfl) h5)) (by decide)
      have hst : f 13 = false := by
        cases h5 : f 13 with
        | false => rfl
        | true => exact absurd (hc.symm.trans (hf.2.step 13 9 rfl (by kernel_rfl) h5)) (by decide)
      have hA : w' = W0 := hJ.1 hc hst
      have c2 : w'.cell? ⟨qb, O + 1 + i, none⟩ = some V := by
        rw [← HE.out.2, HE.out.1, hA]
        exact H0.out.1.cell _ (by omega)
      clear hA
      simp only [Act.put, List.setIfInBounds_toArray, List.set_cons_zero, List.set_cons_succ] at hQ
      go_wp2
      exact hQ _ _ rfl (hJ.put rfl rfl (fun h => h) (slot_put_ne (a := a') (by decide) _))
    simp only [Act.put, List.setIfInBounds_toArray, List.set_cons_zero, List.set_cons_succ]
    apply wpE_op (by rfl) (by rfl) (by rfl)
    · intro f a' w' ha hf hJ Q1 hQ
      simp only [Act.put, List.setIfInBounds_toArray, List.set_cons_zero, List.set_cons_succ] at hQ
      go_wp2
      exact hQ _ _ rfl (hJ.put rfl rfl (fun h => h) (slot_put_ne (a := a') (by decide) _))
    simp only [Act.put, List.setIfInBounds_toArray, List.set_cons_zero, List.set_cons_succ]
    apply wpE_any (d := 15) rfl (by simp) ⟨_, none, 0, 0, rfl⟩ (by rfl)
    · intro f a' w' ha hf hJ Q1 hQ
      have hc : f 9 = false := hf.1.1
      have hst : f 13 = false := by
        cases h5 : f 13 with
        | false => rfl
        | true => exact absurd (hc.symm.trans (hf.2.step 13 9 rfl (by kernel_rfl) h5)) (by decide)
      have hw' : w' = W0 := hJ.1 hc hst
      subst hw'
      have hsz : 15 < a'.tmps.size := by rw [ha.1]; simp
      have hcon := delete_any (H0.out.1.row r i H.out.2.1 H.out.2.2.1) H.out.2.2.2.1 id bx H0.out.2.1 (fun g hg e => H0.out.2.2 _ g hg e.symm)
      rw [HE.out.1, show R (O + 1 + i) = V from HE.out.1 ▸ HE.out.2] at hcon
      simp only [Act.put, List.setIfInBounds_toArray, List.set_cons_zero, List.set_cons_succ] at hQ
      go_wp2_with (go_at_call 44; (with_reducible refine hcon.mono ?_); rintro e w3 ⟨v', rfl, hI, hU⟩)
      exact hQ _ _ _ rfl (Ints.slice hI) ⟨fun h5 => (by cases h5), fun _ _ => (show RowP _ _ _ (slot (a'.put (some 15) v') 15) w3 by rw [slot_put (a := a') hsz v']; exact ⟨_, hI, hU, fun g hg => Or.inl hg⟩), fun h5 => absurd (hst.symm.trans h5) (by decide)⟩
    rintro _ ⟨ua, ul, uc, rfl⟩
    simp only [Act.put, List.setIfInBounds_toArray, List.set_cons_zero, List.set_cons_succ]
    apply wpE_op (by rfl) (by rfl) (by rfl)
    · intro f a' w' ha hf hJ Q1 hQ
      simp only [Act.put, List.setIfInBounds_toArray, List.set_cons_zero, List.set_cons_succ] at hQ
      go_wp2
      exact hQ _ _ rfl (hJ.put rfl rfl (fun h => h) (slot_put_ne (a := a') (by decide) _))
    simp only [Act.put, List.setIfInBounds_toArray, List.set_cons_zero, List.set_cons_succ]
    apply wpE_op (by rfl) (by rfl) (by rfl)
    · intro f a' w' ha hf hJ Q1 hQ
      simp only [Act.put, List.setIfInBounds_toArray, List.set_cons_zero, List.set_cons_succ] at hQ
      go_wp2
      exact hQ _ _ rfl (hJ.put rfl rfl (fun h => h) (slot_put_ne (a := a') (by decide) _))
    simp only [Act.put, List.setIfInBounds_toArray, List.set_cons_zero, List.set_cons_succ]
    apply wpE_op (by rfl) (by rfl) (by rfl)
    · intro f a' w' ha hf hJ Q1 hQ
      simp only [Act.put, List.setIfInBounds_toArray, List.set_cons_zero, List.set_cons_succ] at hQ
      go_wp2
      exact hQ _ _ rfl (hJ.put rfl rfl (fun h => h) (slot_put_ne (a := a') (by decide) _))
    simp only [Act.put, List.setIfInBounds_toArray, List.set_cons_zero, List.set_cons_succ]
    apply wpE_op (v := undef) (by rfl) (by rfl) (by rfl)
    · intro f a' w' ha hf hJ Q1 hQ
      have hst : f 13 = false := hf.1.1
      have hc : f 9 = true := hf.1.2 ⟨9, .data⟩ (by simp) rfl
      have hP := hJ.2.1 hc hst
      obtain ⟨b', hI, hU, hB⟩ := hP
      have hbl := H0.out.1.blkq hU
      have e1 : slot a' 15 = .slice ua ul uc := by
        have := ha.2 15 (by decide)
        simp only [slot, Array.getD_eq_getD_getElem?, this]; rfl
      have c1 : w'.cell? ⟨qb, O + 1 + i, none⟩ = some V := by rw [hbl.rd, rowC_at R _ (by omega)]; exact congrArg some (HE.out.1 ▸ HE.out.2)
      have f1 := hbl.nf
      clear hbl
      simp only [Act.put, List.setIfInBounds_toArray, List.set_cons_zero, List.set_cons_succ] at hQ
      go_wp2
      refine hQ _ _ rfl ⟨fun h5 => absurd (hc.symm.trans h5) (by decide), fun _ h5 => (by cases h5), fun _ => ⟨w', ⟨b', hI, hU, hB⟩, ?_⟩⟩
      rw [e1]
    simp only [Act.put, List.setIfInBounds_toArray, List.set_cons_zero, List.set_cons_succ]
    refine wpE_nil ?_
    intro w4 hJ
    obtain ⟨w3, ⟨b', hI, hU, hB⟩, hw4⟩ := hJ.2.2 rfl
    have hu01 : Upd (fun k => k = qb ∨ lo (.row (64 * r + i)) = some k) W0 w3 := hU.mono (fun k _ h => Or.inr h)
    have hbq : ∀ g, b' = some g → g ≠ qb := fun g hg e => by
      rcases hB g hg with h5 | h5
      · rw [e] at h5; have := H0.out.1.inj _ _ _ h5 H0.out.1.at'; cases this
      · have := H0.out.1.lt _ _ H0.out.1.at'; omega
    rw [show slot _ 15 = Value.slice ua ul uc from rfl] at hw4 hI
    have hll := remL_len (F (64 * r + i)) id
    have hres := H0.out.1.setRow (v := .slice ua ul uc) (b := b') (w' := w4) H.out.2.1 H.out.2.2.1 (by rw [hw4]; exact hu01.setCell (p := ⟨qb, _, none⟩) (fun _ => Or.inl rfl) _) (by
      rw [hw4, HE.out.1]
      exact Blk.of ((H0.out.1.blkq hU).set _ _) (rowC_set R _ (by omega) _)) (by
      rw [hw4]
      exact hI.upd ((Upd.refl (fun k => k = qb) w3).setCell (p := ⟨qb, _, none⟩) (fun _ => rfl) _) (fun g hg e => hbq g hg e)) hB (by have := H0.out.1.len (64 * r + i); omega)
    have hul : ul = (remL (F (64 * r + i)) id).length := by
      rcases hI with ⟨h5, h6, _⟩ | ⟨g, cap, rest, h5, _⟩
      · rw [h6]; simp only [Value.slice.injEq] at h5; exact h5.2.1
      · simp only [Value.slice.injEq] at h5; exact h5.2.1
    clear hw4 hI hU hB hu01 hbq hll
    have HR := Lib.hid hres
    clear hres
    have c5 := HR.out.1.cell O (by omega)
    rw [putF_ne _ _ _ (by rw [HE.out.1]; omega), ← HE.out.1, show R (ro r) = .int .u64 (W r) from H.out.1.word r H.out.2.1] at c5
    rw [HE.out.1] at c5
    have c6 := HR.out.1.cell (O + 1 + i) (by omega)
    rw [HE.out.1, putF_eq] at c6
    have nf5 := HR.out.1.blk.nf
    have hsw := HR.out.1.setWord H.out.2.1 (wclr (W r) i)
    rw [HE.out.1] at hsw
    have HS := Lib.hid hsw
    clear hsw
    by_cases hz : remL (F (64 * r + i)) id = []
    · have HZ : Hid (tkW W r i (remL (F (64 * r + i)) id) = putF W r (wclr (W r) i)) := Lib.hid (by unfold tkW; rw [if_pos hz])
      have hul0 : ul = 0 := by rw [hul, hz]; rfl
      clear hul hz
      subst hul0
      generalize wclr (W r) i = ws at *
      generalize W r = wr0 at *
      go_wp2_with (go_at_call 46; (with_reducible refine (hclr _).mono ?_); rintro e w' ⟨rfl, rfl⟩)
      go_returns
      exact ⟨rfl, _, _, by rw [HZ.out]; exact HS.out.1, (HU0.out.trans HR.out.2).trans HS.out.2⟩
    · have HZ : Hid (tkW W r i (remL (F (64 * r + i)) id) = W) := Lib.hid (by unfold tkW; rw [if_neg hz])
      have dl : ((ul : Int) == 0) = false := by
        have : (remL (F (64 * r + i)) id).length ≠ 0 := fun e => hz (List.eq_nil_of_length_eq_zero e)
        simp; omega
      clear hul hz
      generalize wclr (W r) i = ws at *
      generalize W r = wr0 at *
      go_wp2_with (fail)
      go_returns
      exact ⟨rfl, _, _, by rw [HZ.out]; exact HR.out.1, HU0.out.trans HR.out.2⟩
end
end Go.Proofs.Ytpajebedeacpgaa
