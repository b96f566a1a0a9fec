/-
  The document's store: Drop.
-/
import Derived.Test.YtapkdaccbojbgaaRSto
import Derived.Test.YtapkdaccbojbgaaRegF
namespace Go.Proofs.Ytapkdaccbojbgaa
set_option linter.unusedSimpArgs false
set_option linter.unusedVariables false
open Go.RowKit Own Three
open Go.Lib hiding intOf
open RegJ hiding Up
open RegF hiding put_size

theorem one3_sub {xs ys : List V3} (h : One3 xs) (hs : ∀ a ∈ ys, a ∈ xs) : One3 ys := fun a ha => h a (hs a ha)
/-- a stretch of a row in its block -/
theorem blk_cut3 {w : World} {g : Nat} {xs : List V3} {rest : List Value} (hB : Blk w g (cells3 xs ++ rest).toArray 129) (i : Nat) (xa ys bs : List V3) (hx : xs = xa ++ ys ++ bs) (hi : xa.length = i) (j : Nat) (u : Value) (hj : (cells3 ys)[j]? = some u) :
    w.cell? ((⟨g, i * 3, none⟩ : Addr).add j) = some u := by
  have hjl : j < (cells3 ys).length := (List.getElem?_eq_some_iff.1 hj).1
  have hl := cells3_len xa
  rw [Two.add0, hB.rd]
  simp only [List.getElem?_toArray]
  subst hx hi
  rw [cells3_app, cells3_app, List.append_assoc, List.append_assoc, List.getElem?_append_right (by omega), hl, Nat.add_sub_cancel_left, List.getElem?_append_left hjl]
  exact hj
def DrQ (W : World) (l : List V3) (v : Value) (w : World) : Prop := ∃ B, Row3 w 129 v l B ∧ (∀ g, B = some g → W.heap.size ≤ g) ∧ Below W.heap.size W w
def DropJ (bh : Nat) (W : World) (l1 l2 : List V3) (f : Nat → Bool) (a : Act) (w : World) : Prop :=
  (f 7 = false → w = W) ∧ (f 7 = true → f 15 = false → DrQ W l1 (slot a 22) w) ∧ (f 15 = true → f 18 = false → DrQ W l2 (slot a 30) w) ∧ (f 18 = true → ∃ w0, DrQ W l2 (slot a 30) w0 ∧ w = w0.setCell ⟨bh, 1, none⟩ (slot a 30))
theorem DropJ.put {bh : Nat} {W : World} {l1 l2 : List V3} {f f' : Nat → Bool} {a a' : Act} {w : World} (h : DropJ bh W l1 l2 f a w) (e7 : f' 7 = f 7) (e15 : f' 15 = f 15) (e18 : f' 18 = f 18) (s1 : slot a' 22 = slot a 22) (s2 : slot a' 30 = slot a 30) : DropJ bh W l1 l2 f' a' w := by
  unfold DropJ at *
  rw [e7, e15, e18, s1, s2]
  exact h
theorem DropJ.upto {bh : Nat} {W : World} {l1 l2 : List V3} {f : Nat → Bool} {a : Act} {w : World} (h : DropJ bh W l1 l2 f a w) (h18 : f 18 = false) : Below W.heap.size W w := by
  cases h7 : f 7 with
  | false => rw [h.1 h7]; exact Below.refl _ _
  | true =>
    cases h15 : f 15 with
    | false => obtain ⟨_, _, _, hB⟩ := h.2.1 h7 h15; exact hB
    | true => obtain ⟨_, _, _, hB⟩ := h.2.2.1 h15 h18; exact hB
/-- an appended stretch, behind what W was -/
theorem DrQ.step {W w w' : World} {B B' : Option Nat} {v' : Value} {l : List V3} (h0 : ∀ g, B = some g → W.heap.size ≤ g) (hb : Below W.heap.size W w) (hI : Row3 w' 129 v' l B') (hf : ∀ g, B' = some g → B = some g ∨ w.heap.size ≤ g) (hu : Upd (fun k => B = some k) w w') : DrQ W l v' w' := by
  have hsz := hb.size
  exact ⟨B', hI, fun g hg => (hf g hg).elim (h0 g) (fun h => Nat.le_trans hsz h), hb.trans (hu.below hsz (fun k hk => by have := h0 k hk; omega))⟩
theorem DrQ.slice {W w : World} {l : List V3} {v : Value} (h : DrQ W l v w) : ∃ a l c, v = .slice a l c := by
  obtain ⟨B, hI, _⟩ := h
  obtain ⟨a, c, e⟩ := hI.slice
  exact ⟨a, _, c, e⟩
def SDropP (sb : Nat) (fb : Option Nat) (k : Nat) (w : World) (e : Ending) (w' : World) : Prop := (∃ r, e = .returned (.int .i64 r)) ∧ SP w sb fb k w'
theorem DropJ.fin {bh : Nat} {b : Option Nat} {w0' w W : World} {mp v0 v : Value} {fl' : List Int} {w0 : World} {k : Nat} (hlt : bh < W.heap.size) (hb : Blk W bh #[mp, v0] 70) (hu0 : Upd (fun k => b = some k) w0' w) (hw : Below w.heap.size w W) (hI : DrQ W (fl'.map fileV) v w0) (hl : fl'.length ≤ k) : SP w0' bh b k (w0.setCell ⟨bh, 1, none⟩ v) := by
  obtain ⟨B, h3, h4, h5⟩ := hI
  have hb0 : Blk w0 bh #[mp, v0] 70 := Blk.below h5 hb hlt
  have hu : Upd (fun k => k = bh) w0 (w0.setCell ⟨bh, 1, none⟩ v) := (Upd.refl (fun k => k = bh) w0).setCell (p := ⟨bh, 1, none⟩) (fun _ => rfl) _
  have hs0 := hu0.size
  have hs1 := hw.size
  refine ⟨fl', B, ⟨⟨mp, v, Blk.of (hb0.set 1 v) rfl, h3.upd hu (fun g hg e => by have := h4 g hg; omega)⟩, fun g hg e => by have := h4 g hg; omega⟩, hl, fun g hg => Or.inr (by have := h4 g hg; omega), ?_⟩
  have h6 : Below w.heap.size w w0 := hw.trans (h5.mono hs1)
  exact ((hu0.mono (fun _ _ e => Or.inr e)).trans (Upd.of_below (F := fun _ => False) h6) (fun _ _ e => e.elim)).trans hu (fun _ _ e => Or.inl e)
theorem cut_map (fl : List Int) (m : Nat) : (fl.map fileV).take m ++ (fl.map fileV).drop (m + 1) = (fl.take m ++ fl.drop (m + 1)).map fileV := by
  rw [List.map_append, List.map_take, List.map_drop]
set_option maxRecDepth 100000 in
set_option maxHeartbeats 2000000 in
theorem sdrop2_is {w : World} {sb : Nat} {fl : List Int} {fb : Option Nat} (h : RS w sb fl fb) (hl : fl.length ≤ 1000) (id : Int) : Calls Try.prog 67 #[.pointer (some ⟨sb, 0, none⟩), .int .i64 id] w (SDropP sb fb fl.length w) := by
  have ha := scut2_is h (by omega) id
  have HL := Lib.hid hl
  clear h hl
  go_enter Try.func67, Try.ntmps67
  go_upto_if 11 with (go_at_call 72; refine ha.mono ?_; rintro e w1 ⟨⟨r, rfl, hq⟩, hS, hu⟩; clear ha; have HQ := Lib.hid (And.intro hq (And.intro hS hu)); clear hq hS hu)
  rcases HQ.out.1 with ⟨rfl, hno⟩ | ⟨rfl, hmem⟩
  · clear hno
    go_wp2_with (fail)
    go_ret
    exact ⟨⟨_, rfl⟩, fl, fb, HQ.out.2.1, Nat.le_refl _, fun g hg => Or.inl hg, HQ.out.2.2.mono (fun _ _ e => Or.inr e)⟩
  have ha2 := sat_is HQ.out.2.1 (by have := HL.out; omega) id
  have HME := Lib.hid hmem
  clear hmem
  go_upto_region 4 with (go_at_call 66; (with_reducible refine ha2.mono ?_); rintro e w' ⟨⟨r, rfl, hq⟩, rfl⟩; clear ha2; have HR := Lib.hid hq; clear hq)
  rcases HR.out with ⟨rfl, hno⟩ | ⟨m, rfl, hx⟩
  · exact absurd HME.out hno
  obtain ⟨mp, v, hb, hI⟩ := HQ.out.2.1.blk
  have hmm := (List.getElem?_eq_some_iff.1 hx).1
  have hone := one_file fl
  obtain ⟨xs, hxs⟩ : ∃ xs, fl.map fileV = xs := ⟨_, rfl⟩
  have hm : m < xs.length := by rw [← hxs, List.length_map]; exact hmm
  have hmax : xs.length ≤ 1000 := by rw [← hxs, List.length_map]; exact HL.out
  rw [hxs] at hI hone
  obtain ⟨bh, hbh⟩ : ∃ bh, sb = bh := ⟨_, rfl⟩
  subst hbh
  rcases hI with ⟨_, rfl, _⟩ | ⟨g, cap, rest, rfl, hfb, hB, hc, hcm⟩
  · simp at hm
  have HONE := Lib.hid (And.intro hone hfb)
  have HXS := Lib.hid hxs
  clear hxs hone hfb hx hmm
  have hcap : xs.length ≤ cap := by
    have := cells3_len xs
    rw [List.length_append, this] at hc; omega
  have hsp : xs = xs.take m ++ (xs.drop m).take 1 ++ xs.drop (m + 1) := by
    rw [List.append_assoc, ← List.drop_drop, List.take_append_drop, List.take_append_drop]
  have HB := Lib.hid hB
  obtain ⟨n, hn⟩ : ∃ n, xs.length = n := ⟨_, rfl⟩
  rw [hn] at hb hcap hmax hm
  have i1 : (0 : Int) ≤ m := by omega
  have i2 : (m : Int) ≤ n := by omega
  have i4 : (n : Int) ≤ cap := by omega
  have i5 : m ≤ cap := by omega
  have i7 : (m : Int) ≤ cap := by omega
  have i9 : (m : Int) < (maxLen : Int) := by unfold maxLen at *; omega
  obtain ⟨M, hM⟩ : ∃ M, M = m + 1 := ⟨_, rfl⟩
  have i12 : (0 : Int) ≤ M := by omega
  have j1 : (m : Int) + 1 = (M : Int) := by omega
  have i13 : (M : Int) ≤ n := by omega
  have i14 : M ≤ n := by omega
  have i15 : M ≤ cap := by omega
  obtain ⟨W, hW⟩ : ∃ W, W = w1.drew := ⟨_, rfl⟩
  have hWb : Below w1.heap.size w1 W := by rw [hW]; exact (Below.refl _ _).drew
  have hblt : sb < w1.heap.size := hb.lt
  have hglt : g < w1.heap.size := hB.lt
  have hsW := hWb.size
  have hbW : Blk W sb #[mp, .slice (some ⟨g, 0, none⟩) n cap] 70 := Blk.below hWb hb hb.lt
  have hBW : Blk W g (cells3 xs ++ rest).toArray 129 := Blk.below hWb hB hB.lt
  have HW := Lib.hid hW
  have HM := Lib.hid hM
  have hM0 : ¬ M = 0 := by omega
  obtain ⟨ad, had⟩ : ∃ ad : Addr, (if cap = M then some (⟨g, 0, none⟩ : Addr) else some ⟨g, M * 3, none⟩) = some ad := by split <;> exact ⟨_, rfl⟩
  have hnews : ∀ (w' : World), Blk w' g (cells3 xs ++ rest).toArray 129 → 0 < n - M → ∃ A, some ad = some A ∧ ∀ (j : Nat) (u : Value), (cells3 (xs.drop (m + 1)))[j]? = some u → w'.cell? (A.add j) = some u := fun w' hB hpos => by
    refine ⟨ad, rfl, fun j u hj => ?_⟩
    rw [if_neg (by omega)] at had
    cases had
    have hl : (xs.take m ++ (xs.drop m).take 1).length = m + 1 := by rw [List.length_append, List.length_take, List.length_take, List.length_drop, hn]; omega
    rw [hM]
    exact blk_cut3 hB (m + 1) (xs.take m ++ (xs.drop m).take 1) (xs.drop (m + 1)) [] (by rw [List.append_nil]; exact hsp) hl j u hj
  have HNW := Lib.hid hnews
  clear hnews
  clear hM
  have HBW := Lib.hid hBW
  have HSP := Lib.hid hsp
  have HN := Lib.hid hn
  clear hW hb hB hBW hc hsp hn
  refine region_E (DropJ sb W (xs.take m) (xs.take m ++ xs.drop (m + 1))) [Is 34 (some 15) (.pointer (some ⟨sb, 0, none⟩)), Is 34 (some 16) (.pointer (some ⟨sb, 0, none⟩)), Is 34 (some 17) (.pointer (some ⟨sb, 0, none⟩)), Is 34 (some 18) (.pointer (some ⟨sb, 1, none⟩)), Is 34 (some 19) (.slice (some ⟨g, 0, none⟩) n cap), Is 34 (some 20) (.int .i64 (m : Nat)), Is 34 (some 21) (.slice (some ⟨g, 0, none⟩) m cap), (fun u => ∃ a l c, u = .slice a l c), Is 34 (some 23) (.pointer (some ⟨sb, 0, none⟩)), Is 34 (some 24) (.pointer (some ⟨sb, 0, none⟩)), Is 34 (some 25) (.pointer (some ⟨sb, 1, none⟩)), Is 34 (some 26) (.slice (some ⟨g, 0, none⟩) n cap), Is 34 (some 27) (.int .i64 (m : Nat)), Is 34 (some 28) (.int .i64 (M : Nat)), Is 34 (some 29) (.slice (some ad) (n - M) (cap - M)), (fun u => ∃ a l c, u = .slice a l c), Is 34 (some 31) (.pointer (some ⟨sb, 0, none⟩)), Is 34 (some 32) (.pointer (some ⟨sb, 1, none⟩)), Is 34 (none) (undef)] (by kernel_rfl) (by kernel_rfl) ?_ ?_
  · exact ⟨fun _ => HW.out.symm, fun h => (by cases h), fun h => (by cases h), fun h => (by cases h)⟩
  · apply wpE_op (by rfl) (by rfl) (by rfl)
    · intro f a' w' ha hf hJ Q1 hQ
      simp only [Act.put, List.setIfInBounds_toArray, List.set_cons_zero, List.set_cons_succ] at hQ
      go_wp2
      exact hQ _ _ rfl (hJ.put rfl rfl rfl (slot_put_ne (a := a') (by decide) _) (slot_put_ne (a := a') (by decide) _))
    simp only [Act.put, List.setIfInBounds_toArray, List.set_cons_zero, List.set_cons_succ]
    apply wpE_op (by rfl) (by rfl) (by rfl)
    · intro f a' w' ha hf hJ Q1 hQ
      simp only [Act.put, List.setIfInBounds_toArray, List.set_cons_zero, List.set_cons_succ] at hQ
      go_wp2
      exact hQ _ _ rfl (hJ.put rfl rfl rfl (slot_put_ne (a := a') (by decide) _) (slot_put_ne (a := a') (by decide) _))
    simp only [Act.put, List.setIfInBounds_toArray, List.set_cons_zero, List.set_cons_succ]
    apply wpE_op (by rfl) (by rfl) (by rfl)
    · intro f a' w' ha hf hJ Q1 hQ
      simp only [Act.put, List.setIfInBounds_toArray, List.set_cons_zero, List.set_cons_succ] at hQ
      go_wp2
      exact hQ _ _ rfl (hJ.put rfl rfl rfl (slot_put_ne (a := a') (by decide) _) (slot_put_ne (a := a') (by decide) _))
    simp only [Act.put, List.setIfInBounds_toArray, List.set_cons_zero, List.set_cons_succ]
    apply wpE_op (by rfl) (by rfl) (by rfl)
    · intro f a' w' ha hf hJ Q1 hQ
      simp only [Act.put, List.setIfInBounds_toArray, List.set_cons_zero, List.set_cons_succ] at hQ
      go_wp2
      exact hQ _ _ rfl (hJ.put rfl rfl rfl (slot_put_ne (a := a') (by decide) _) (slot_put_ne (a := a') (by decide) _))
    simp only [Act.put, List.setIfInBounds_toArray, List.set_cons_zero, List.set_cons_succ]
    apply wpE_op (by rfl) (by rfl) (by rfl)
    · intro f a' w' ha hf hJ Q1 hQ
      have h6 : f 6 = false := by
        cases h5 : f 6 with
        | false => rfl
        | true => exact absurd ((hf.1.1).symm.trans (hf.2.step 6 4 rfl (by kernel_rfl) h5)) (by decide)
      have h7 : f 7 = false := by
        cases h5 : f 7 with
        | false => rfl
        | true => exact absurd ((h6).symm.trans (hf.2.step 7 6 rfl (by kernel_rfl) h5)) (by decide)
      have h15 : f 15 = false := by
        cases h5 : f 15 with
        | false => rfl
        | true => exact absurd ((h7).symm.trans (hf.2.step 15 7 rfl (by kernel_rfl) h5)) (by decide)
      have h18 : f 18 = false := by
        cases h5 : f 18 with
        | false => rfl
        | true => exact absurd ((h15).symm.trans (hf.2.step 18 15 rfl (by kernel_rfl) h5)) (by decide)
      have hbw := hJ.upto h18
      have c1 := (Blk.below hbw hbW hbW.lt).rd
      simp only [Act.put, List.setIfInBounds_toArray, List.set_cons_zero, List.set_cons_succ] at hQ
      go_wp2
      exact hQ _ _ rfl (hJ.put rfl rfl rfl (slot_put_ne (a := a') (by decide) _) (slot_put_ne (a := a') (by decide) _))
    simp only [Act.put, List.setIfInBounds_toArray, List.set_cons_zero, List.set_cons_succ]
    apply wpE_op (by rfl) (by rfl) (by rfl)
    · intro f a' w' ha hf hJ Q1 hQ
      simp only [Act.put, List.setIfInBounds_toArray, List.set_cons_zero, List.set_cons_succ] at hQ
      go_wp2
      exact hQ _ _ rfl (hJ.put rfl rfl rfl (slot_put_ne (a := a') (by decide) _) (slot_put_ne (a := a') (by decide) _))
    simp only [Act.put, List.setIfInBounds_toArray, List.set_cons_zero, List.set_cons_succ]
    apply wpE_op (by rfl) (by rfl) (by rfl)
    · intro f a' w' ha hf hJ Q1 hQ
      simp only [Act.put, List.setIfInBounds_toArray, List.set_cons_zero, List.set_cons_succ] at hQ
      go_wp2
      exact hQ _ _ rfl (hJ.put rfl rfl rfl (slot_put_ne (a := a') (by decide) _) (slot_put_ne (a := a') (by decide) _))
    simp only [Act.put, List.setIfInBounds_toArray, List.set_cons_zero, List.set_cons_succ]
    apply wpE_any (d := 22) rfl (by simp) ⟨_, none, 0, 0, rfl⟩ (by rfl)
    · intro f a' w' ha hf hJ Q1 hQ
      have h7 : f 7 = false := hf.1.1
      have h15 : f 15 = false := by
        cases h5 : f 15 with
        | false => rfl
        | true => exact absurd ((h7).symm.trans (hf.2.step 15 7 rfl (by kernel_rfl) h5)) (by decide)
      have h18 : f 18 = false := by
        cases h5 : f 18 with
        | false => rfl
        | true => exact absurd ((h15).symm.trans (hf.2.step 18 15 rfl (by kernel_rfl) h5)) (by decide)
      have hw' : w' = W := hJ.1 h7
      subst hw'
      have hsz : 22 < a'.tmps.size := by rw [ha.1]; simp
      simp only [Act.put, List.setIfInBounds_toArray, List.set_cons_zero, List.set_cons_succ] at hQ
      go_wp2_with (at_builtin; refine wp_app3 rfl _ _ 68 129 _ 56 infoFile rfl (by decide) underF rfl _ [] none rfl (Or.inl ⟨rfl, rfl, rfl⟩) (some ⟨g, 0, none⟩) m cap (xs.take m) (by rw [List.length_take, HN.out]; omega) rfl (fun _ => ⟨_, rfl, fun j u hj => by have := blk_cut3 HBW.out 0 [] (xs.take m) (xs.drop m) (by simp) rfl j u hj; simpa using this⟩) (one3_sub HONE.out.1 (fun a ha => List.mem_of_mem_take ha)) (by rw [List.length_take, HN.out]; simp; omega) ?_; intro v' w3 B' hI3 hB3 hU3; rw [List.nil_append] at hI3)
      have hq := DrQ.step (fun g hg => by cases hg) (Below.refl _ _) hI3 hB3 hU3
      exact hQ _ _ _ rfl hq.slice ⟨fun h5 => (by cases h5), fun _ _ => (show DrQ _ _ (slot (a'.put (some 22) v') 22) w3 by rw [slot_put (a := a') hsz v']; exact hq), fun h5 => absurd (h15.symm.trans h5) (by decide), fun h5 => absurd (h18.symm.trans h5) (by decide)⟩
    rintro _ ⟨ua, ul, uc, rfl⟩
    simp only [Act.put, List.setIfInBounds_toArray, List.set_cons_zero, List.set_cons_succ]
    apply wpE_op (by rfl) (by rfl) (by rfl)
    · intro f a' w' ha hf hJ Q1 hQ
      simp only [Act.put, List.setIfInBounds_toArray, List.set_cons_zero, List.set_cons_succ] at hQ
      go_wp2
      exact hQ _ _ rfl (hJ.put rfl rfl rfl (slot_put_ne (a := a') (by decide) _) (slot_put_ne (a := a') (by decide) _))
    simp only [Act.put, List.setIfInBounds_toArray, List.set_cons_zero, List.set_cons_succ]
    apply wpE_op (by rfl) (by rfl) (by rfl)
    · intro f a' w' ha hf hJ Q1 hQ
      simp only [Act.put, List.setIfInBounds_toArray, List.set_cons_zero, List.set_cons_succ] at hQ
      go_wp2
      exact hQ _ _ rfl (hJ.put rfl rfl rfl (slot_put_ne (a := a') (by decide) _) (slot_put_ne (a := a') (by decide) _))
    simp only [Act.put, List.setIfInBounds_toArray, List.set_cons_zero, List.set_cons_succ]
    apply wpE_op (by rfl) (by rfl) (by rfl)
    · intro f a' w' ha hf hJ Q1 hQ
      simp only [Act.put, List.setIfInBounds_toArray, List.set_cons_zero, List.set_cons_succ] at hQ
      go_wp2
      exact hQ _ _ rfl (hJ.put rfl rfl rfl (slot_put_ne (a := a') (by decide) _) (slot_put_ne (a := a') (by decide) _))
    simp only [Act.put, List.setIfInBounds_toArray, List.set_cons_zero, List.set_cons_succ]
    apply wpE_op (by rfl) (by rfl) (by rfl)
    · intro f a' w' ha hf hJ Q1 hQ
      have h14 : f 14 = false := by
        cases h5 : f 14 with
        | false => rfl
        | true => exact absurd ((hf.1.1).symm.trans (hf.2.step 14 11 rfl (by kernel_rfl) h5)) (by decide)
      have h15 : f 15 = false := by
        cases h5 : f 15 with
        | false => rfl
        | true => exact absurd ((h14).symm.trans (hf.2.step 15 14 rfl (by kernel_rfl) h5)) (by decide)
      have h18 : f 18 = false := by
        cases h5 : f 18 with
        | false => rfl
        | true => exact absurd ((h15).symm.trans (hf.2.step 18 15 rfl (by kernel_rfl) h5)) (by decide)
      have hbw := hJ.upto h18
      have c1 := (Blk.below hbw hbW hbW.lt).rd
      simp only [Act.put, List.setIfInBounds_toArray, List.set_cons_zero, List.set_cons_succ] at hQ
      go_wp2
      exact hQ _ _ rfl (hJ.put rfl rfl rfl (slot_put_ne (a := a') (by decide) _) (slot_put_ne (a := a') (by decide) _))
    simp only [Act.put, List.setIfInBounds_toArray, List.set_cons_zero, List.set_cons_succ]
    apply wpE_op (by rfl) (by rfl) (by rfl)
    · intro f a' w' ha hf hJ Q1 hQ
      simp only [Act.put, List.setIfInBounds_toArray, List.set_cons_zero, List.set_cons_succ] at hQ
      go_wp2
      exact hQ _ _ rfl (hJ.put rfl rfl rfl (slot_put_ne (a := a') (by decide) _) (slot_put_ne (a := a') (by decide) _))
    simp only [Act.put, List.setIfInBounds_toArray, List.set_cons_zero, List.set_cons_succ]
    apply wpE_op (by rfl) (by rfl) (by rfl)
    · intro f a' w' ha hf hJ Q1 hQ
      simp only [Act.put, List.setIfInBounds_toArray, List.set_cons_zero, List.set_cons_succ] at hQ
      go_wp2
      exact hQ _ _ rfl (hJ.put rfl rfl rfl (slot_put_ne (a := a') (by decide) _) (slot_put_ne (a := a') (by decide) _))
    simp only [Act.put, List.setIfInBounds_toArray, List.set_cons_zero, List.set_cons_succ]
    apply wpE_op (by rfl) (by rfl) (by rfl)
    · intro f a' w' ha hf hJ Q1 hQ
      simp only [Act.put, List.setIfInBounds_toArray, List.set_cons_zero, List.set_cons_succ] at hQ
      go_wp2
      exact hQ _ _ rfl (hJ.put rfl rfl rfl (slot_put_ne (a := a') (by decide) _) (slot_put_ne (a := a') (by decide) _))
    simp only [Act.put, List.setIfInBounds_toArray, List.set_cons_zero, List.set_cons_succ]
    apply wpE_any (d := 30) rfl (by simp) ⟨_, none, 0, 0, rfl⟩ (by rfl)
    · intro f a' w' ha hf hJ Q1 hQ
      have h15 : f 15 = false := hf.1.1
      have h7 : f 7 = true := hf.1.2 ⟨7, .data⟩ (by simp) rfl
      have h18 : f 18 = false := by
        cases h5 : f 18 with
        | false => rfl
        | true => exact absurd ((h15).symm.trans (hf.2.step 18 15 rfl (by kernel_rfl) h5)) (by decide)
      obtain ⟨B0, hI0, hB0, hbl⟩ := hJ.2.1 h7 h15
      have e1 : slot a' 22 = .slice ua ul uc := by
        have := ha.2 22 (by decide)
        simp only [slot, Array.getD_eq_getD_getElem?, this]; rfl
      rw [e1] at hI0
      have hsz : 30 < a'.tmps.size := by rw [ha.1]; simp
      simp only [Act.put, List.setIfInBounds_toArray, List.set_cons_zero, List.set_cons_succ] at hQ
      go_wp2_with (at_builtin; refine wp_app3 rfl _ _ 68 129 _ 56 infoFile rfl (by decide) underF rfl _ (xs.take m) B0 rfl hI0 (some ad) (n - M) (cap - M) (xs.drop (m + 1)) (by rw [List.length_drop, HN.out, HM.out]) rfl (HNW.out _ (Blk.below hbl HBW.out HBW.out.lt)) (one3_sub HONE.out.1 (fun a ha => List.mem_of_mem_drop ha)) (by rw [List.length_take, List.length_drop, HN.out]; omega) ?_; intro v' w3 B' hI3 hB3 hU3)
      have hq := DrQ.step hB0 hbl hI3 hB3 hU3
      exact hQ _ _ _ rfl hq.slice ⟨fun h5 => absurd (h7.symm.trans h5) (by decide), fun _ h5 => (by cases h5), fun _ _ => (show DrQ _ _ (slot (a'.put (some 30) v') 30) w3 by rw [slot_put (a := a') hsz v']; exact hq), fun h5 => absurd (h18.symm.trans h5) (by decide)⟩
    rintro _ ⟨va, vl, vc, rfl⟩
    simp only [Act.put, List.setIfInBounds_toArray, List.set_cons_zero, List.set_cons_succ]
    apply wpE_op (by rfl) (by rfl) (by rfl)
    · intro f a' w' ha hf hJ Q1 hQ
      simp only [Act.put, List.setIfInBounds_toArray, List.set_cons_zero, List.set_cons_succ] at hQ
      go_wp2
      exact hQ _ _ rfl (hJ.put rfl rfl rfl (slot_put_ne (a := a') (by decide) _) (slot_put_ne (a := a') (by decide) _))
    simp only [Act.put, List.setIfInBounds_toArray, List.set_cons_zero, List.set_cons_succ]
    apply wpE_op (by rfl) (by rfl) (by rfl)
    · intro f a' w' ha hf hJ Q1 hQ
      simp only [Act.put, List.setIfInBounds_toArray, List.set_cons_zero, List.set_cons_succ] at hQ
      go_wp2
      exact hQ _ _ rfl (hJ.put rfl rfl rfl (slot_put_ne (a := a') (by decide) _) (slot_put_ne (a := a') (by decide) _))
    simp only [Act.put, List.setIfInBounds_toArray, List.set_cons_zero, List.set_cons_succ]
    apply wpE_op (v := undef) (by rfl) (by rfl) (by rfl)
    · intro f a' w' ha hf hJ Q1 hQ
      have h18 : f 18 = false := hf.1.1
      have h15 : f 15 = true := hf.1.2 ⟨15, .data⟩ (by simp) rfl
      have h7 : f 7 = true := hf.2.step 15 7 rfl (by kernel_rfl) h15
      have hq := hJ.2.2.1 h15 h18
      have hbl : Blk w' sb #[mp, .slice (some ⟨g, 0, none⟩) n cap] 70 := Blk.below (hJ.upto h18) hbW hbW.lt
      have e1 : slot a' 30 = .slice va vl vc := by
        have := ha.2 30 (by decide)
        simp only [slot, Array.getD_eq_getD_getElem?, this]; rfl
      have c1 := hbl.rd
      have f1 := hbl.nf
      simp only [Act.put, List.setIfInBounds_toArray, List.set_cons_zero, List.set_cons_succ] at hQ
      go_wp2
      refine hQ _ _ rfl ⟨fun h5 => absurd (h7.symm.trans h5) (by decide), fun _ h5 => absurd (h15.symm.trans h5) (by decide), fun _ h5 => (by cases h5), fun _ => ⟨w', hq, ?_⟩⟩
      rw [e1]
    simp only [Act.put, List.setIfInBounds_toArray, List.set_cons_zero, List.set_cons_succ]
    refine wpE_nil ?_
    intro w4 hJ
    obtain ⟨w3, hq, hw4⟩ := hJ.2.2.2 rfl
    have hq1 : DrQ W (xs.take m ++ xs.drop (m + 1)) (.slice va vl vc) w3 := hq
    have hw5 : w4 = w3.setCell ⟨sb, 1, none⟩ (.slice va vl vc) := hw4
    have HF : SP w sb fb fl.length w4 := by
      rw [hw5]
      rw [← HXS.out, cut_map] at hq1
      refine DropJ.fin hbW.lt hbW HQ.out.2.2 hWb hq1 ?_
      rw [List.length_append, List.length_take, List.length_drop]
      have h8 := HN.out
      rw [← HXS.out, List.length_map] at h8
      omega
    clear hq hq1 hw4 hw5 hJ
    go_wp2
    go_ret
    exact ⟨⟨_, rfl⟩, HF⟩
end Go.Proofs.Ytapkdaccbojbgaa
