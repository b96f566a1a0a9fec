/-
  The document's queue: Drop.
-/
import Derived.Test.YtpajebedeacpgaaRDq
import Derived.Test.YtpajebedeacpgaaRegE
namespace Go.Proofs.Ytpajebedeacpgaa
set_option linter.unusedSimpArgs false
set_option linter.unusedVariables false
open Go.RowKit Own Sl Four
open RegJ hiding Up
open RegF hiding put_size

theorem addO (g o j : Nat) : (⟨g, o, none⟩ : Addr).add j = ⟨g, o + j, none⟩ := by
  unfold Addr.add
  by_cases h : j = 0
  · subst h; rfl
  · rw [if_neg h]
/-- a stretch of a row in its block -/
theorem blk_cut4 {w : World} {g : Nat} {xs : List V4} {rest : List Value} (hB : Blk w g (cells4 xs ++ rest).toArray 66) (i : Nat) (xa ys bs : List V4) (hx : xs = xa ++ ys ++ bs) (hi : xa.length = i) (j : Nat) (u : Value) (hj : (cells4 ys)[j]? = some u) :
    w.cell? ((⟨g, i * 4, none⟩ : Addr).add j) = some u := by
  have hjl : j < (cells4 ys).length := (List.getElem?_eq_some_iff.1 hj).1
  have hl := cells4_len xa
  rw [addO, hB.rd]
  simp only [List.getElem?_toArray]
  subst hx hi
  rw [cells4_app, cells4_app, List.append_assoc, List.append_assoc, List.getElem?_append_right (by omega), hl, Nat.add_sub_cancel_left, List.getElem?_append_left hjl]
  exact hj
def DrQ (W : World) (l : List V4) (v : Value) (w : World) : Prop := ∃ B, Row4 w 66 v l B ∧ (∀ g, B = some g → W.heap.size ≤ g) ∧ Below W.heap.size W w
def DropJ (bh : Nat) (W : World) (l1 l2 : List V4) (f : Nat → Bool) (a : Act) (w : World) : Prop :=
  (f 7 = false → w = W) ∧ (f 7 = true → f 15 = false → DrQ W l1 (slot a 18) w) ∧ (f 15 = true → f 18 = false → DrQ W l2 (slot a 26) w) ∧ (f 18 = true → ∃ w0, DrQ W l2 (slot a 26) w0 ∧ w = w0.setCell ⟨bh, 0, none⟩ (slot a 26))
theorem DropJ.put {bh : Nat} {W : World} {l1 l2 : List V4} {f f' : Nat → Bool} {a a' : Act} {w : World} (h : DropJ bh W l1 l2 f a w) (e7 : f' 7 = f 7) (e15 : f' 15 = f 15) (e18 : f' 18 = f 18) (s1 : slot a' 18 = slot a 18) (s2 : slot a' 26 = slot a 26) : DropJ bh W l1 l2 f' a' w := by
  unfold DropJ at *
  rw [e7, e15, e18, s1, s2]
  exact h
theorem DropJ.upto {bh : Nat} {W : World} {l1 l2 : List V4} {f : Nat → Bool} {a : Act} {w : World} (h : DropJ bh W l1 l2 f a w) (h18 : f 18 = false) : Below W.heap.size W w := by
  cases h7 : f 7 with
  | false => rw [h.1 h7]; exact Below.refl _ _
  | true =>
    cases h15 : f 15 with
    | false => obtain ⟨_, _, _, hB⟩ := h.2.1 h7 h15; exact hB
    | true => obtain ⟨_, _, _, hB⟩ := h.2.2.1 h15 h18; exact hB
/-- an appended stretch, behind what W was -/
theorem DrQ.step {W w w' : World} {B B' : Option Nat} {v' : Value} {l : List V4} (h0 : ∀ g, B = some g → W.heap.size ≤ g) (hb : Below W.heap.size W w) (hI : Row4 w' 66 v' l B') (hf : ∀ g, B' = some g → B = some g ∨ w.heap.size ≤ g) (hu : Upd (fun k => B = some k) w w') : DrQ W l v' w' := by
  have hsz := hb.size
  exact ⟨B', hI, fun g hg => (hf g hg).elim (h0 g) (fun h => Nat.le_trans hsz h), hb.trans (hu.below hsz (fun k hk => by have := h0 k hk; omega))⟩
theorem DrQ.slice {W w : World} {l : List V4} {v : Value} (h : DrQ W l v w) : ∃ a l c, v = .slice a l c := by
  obtain ⟨B, hI, _⟩ := h
  obtain ⟨a, c, e⟩ := hI.slice
  exact ⟨a, _, c, e⟩
/-- the document's queue behind a call -/
def RP (w : World) (rb : Nat) (b : Option Nat) (L : List One) (w' : World) : Prop := ∃ b', RQ w' rb L b' ∧ (∀ g, b' = some g → b = some g ∨ w.heap.size ≤ g) ∧ Upd (fun k => k = rb ∨ b = some k) w w'
theorem DropJ.fin {bh : Nat} {b : Option Nat} {w W : World} {v0 v : Value} {l : List One} {w0 : World} (hlt : bh < W.heap.size) (hb : Blk W bh #[v0] 29) (hw : Below w.heap.size w W) (hI : DrQ W l v w0) : RP w bh b l (w0.setCell ⟨bh, 0, none⟩ v) := by
  obtain ⟨B, h3, h4, h5⟩ := hI
  have hb0 : Blk w0 bh #[v0] 29 := Blk.below h5 hb hlt
  have hu : Upd (fun k => k = bh) w0 (w0.setCell ⟨bh, 0, none⟩ v) := (Upd.refl (fun k => k = bh) w0).setCell (p := ⟨bh, 0, none⟩) (fun _ => rfl) _
  have hs1 := hw.size
  refine ⟨B, ⟨v, Blk.of (hb0.set 0 v) rfl, h3.upd hu (fun g hg e => by have := h4 g hg; omega), fun e => by have := h4 _ e; omega⟩, fun g hg => Or.inr (by have := h4 g hg; omega), ?_⟩
  have h6 : Below w.heap.size w w0 := hw.trans (h5.mono hs1)
  exact (Upd.of_below h6).trans (hu.mono (fun _ _ e => Or.inl e)) (fun _ _ e => e)
theorem cut_del {L : List One} (h : Gd L) {m : Nat} {x : One} (hx : L[m]? = some x) : L.take m ++ L.drop (m + 1) = delA L x.1 := by
  obtain ⟨hm, rfl⟩ := List.getElem?_eq_some_iff.1 hx
  have hn := h.ids
  have e : L = L.take m ++ L[m] :: L.drop (m + 1) := by rw [← List.drop_eq_getElem_cons hm, List.take_append_drop]
  have hn2 : ((L.take m ++ L[m] :: L.drop (m + 1)).map Prod.fst).Nodup := by rw [← e]; exact hn
  rw [List.map_append, List.map_cons, List.nodup_append, List.nodup_cons] at hn2
  obtain ⟨_, ⟨h2, _⟩, h3⟩ := hn2
  have k1 : (L.take m).filter (fun y => !(y.1 == L[m].1)) = L.take m := List.filter_eq_self.2 (fun y hy => by
    have := h3 y.1 (List.mem_map_of_mem hy) L[m].1 (List.mem_cons_self ..)
    simpa using this)
  have k2 : (L.drop (m + 1)).filter (fun y => !(y.1 == L[m].1)) = L.drop (m + 1) := List.filter_eq_self.2 (fun y hy => by
    have : y.1 ≠ L[m].1 := fun e2 => h2 (by rw [← e2]; exact List.mem_map_of_mem hy)
    simpa using this)
  have k3 : delA L L[m].1 = (L.take m ++ L[m] :: L.drop (m + 1)).filter (fun y => !(y.1 == L[m].1)) := by rw [← e]; rfl
  rw [k3, List.filter_append, List.filter_cons_of_neg (by simp), k1, k2]
set_option maxRecDepth 100000 in
set_option maxHeartbeats 2000000 in
theorem ddrop_is {w : World} {rb : Nat} {L : List One} {b : Option Nat} (h : RQ w rb L b) (hg : Gd L) (hl : L.length ≤ 1000) (id : Int) : Calls Try.prog 13 #[.pointer (some ⟨rb, 0, none⟩), .int .i64 id] w (fun e w' => e = .returned (.bool (hasO L id)) ∧ RP w rb b (dropL L id) w') := by
  have ha := rat_is h hl id
  have HQ := Lib.hid (And.intro h hg)
  clear h hg
  go_enter Try.func13, Try.ntmps13
  go_upto_if 10 with (go_at_call 30; (with_reducible refine ha.mono ?_); rintro e w1 ⟨⟨r, rfl, hr⟩, rfl⟩; have HR := Lib.hid hr; clear ha hr)
  rcases HR.out with ⟨rfl, hno⟩ | ⟨m, x, rfl, hx, he⟩
  · clear HR
    go_wp2_with (fail)
    go_ret
    exact ⟨by rw [hno]; first | rfl | simp, by unfold dropL; rw [hno, if_neg (by simp)]; exact ⟨b, HQ.out.1, fun g hg => Or.inl hg, Upd.refl _ _⟩⟩
  have dm : decide ((m : Int) < 0) = false := by simp
  clear HR
  go_upto_region 4 with (fail)
  obtain ⟨v, hb, hI, hbr⟩ := HQ.out.1
  have hm : m < L.length := (List.getElem?_eq_some_iff.1 hx).1
  obtain ⟨xs, hxs⟩ : ∃ xs : List One, L = xs := ⟨_, rfl⟩
  rw [hxs] at hI hm
  have hmax : xs.length ≤ 1000 := by rw [← hxs]; exact hl
  rcases hI with ⟨_, rfl, _⟩ | ⟨g, cap, rest, rfl, hfb, hB, hc, hcm⟩
  · simp at hm
  have HXS := Lib.hid (And.intro hxs (And.intro hx he))
  clear hxs hx he hbr hfb
  have hcap : xs.length ≤ cap := by
    have := cells4_len xs
    rw [List.length_append, this] at hc; omega
  have hsp : xs = xs.take m ++ (xs.drop m).take 1 ++ xs.drop (m + 1) := by
    rw [List.append_assoc, ← List.drop_drop, List.take_append_drop, List.take_append_drop]
  have HB := Lib.hid hB
  obtain ⟨n, hn⟩ : ∃ n, xs.length = n := ⟨_, rfl⟩
  rw [hn] at hb hcap hmax hm
  have i1 : (0 : Int) ≤ m := by omega
  have i2 : (m : Int) ≤ n := by omega
  have i4 : (n : Int) ≤ cap := by omega
  have i5 : m ≤ cap := by omega
  have i7 : (m : Int) ≤ cap := by omega
  have i9 : (m : Int) < (maxLen : Int) := by unfold maxLen at *; omega
  obtain ⟨M, hM⟩ : ∃ M, M = m + 1 := ⟨_, rfl⟩
  have i12 : (0 : Int) ≤ M := by omega
  have j1 : (m : Int) + 1 = (M : Int) := by omega
  have i13 : (M : Int) ≤ n := by omega
  have i14 : M ≤ n := by omega
  have i15 : M ≤ cap := by omega
  obtain ⟨W, hW⟩ : ∃ W, W = w1.drew := ⟨_, rfl⟩
  have hWb : Below w1.heap.size w1 W := by rw [hW]; exact (Below.refl _ _).drew
  have hblt : rb < w1.heap.size := hb.lt
  have hglt : g < w1.heap.size := hB.lt
  have hsW := hWb.size
  have hbW : Blk W rb #[.slice (some ⟨g, 0, none⟩) n cap] 29 := Blk.below hWb hb hb.lt
  have hBW : Blk W g (cells4 xs ++ rest).toArray 66 := Blk.below hWb hB hB.lt
  have HW := Lib.hid hW
  have HM := Lib.hid hM
  have hM0 : ¬ M = 0 := by omega
  obtain ⟨ad, had⟩ : ∃ ad : Addr, (if cap = M then some (⟨g, 0, none⟩ : Addr) else some ⟨g, M * 4, none⟩) = some ad := by split <;> exact ⟨_, rfl⟩
  have hnews : ∀ (w' : World), Blk w' g (cells4 xs ++ rest).toArray 66 → 0 < n - M → ∃ A, some ad = some A ∧ ∀ (j : Nat) (u : Value), (cells4 (xs.drop (m + 1)))[j]? = some u → w'.cell? (A.add j) = some u := fun w' hB hpos => by
    refine ⟨ad, rfl, fun j u hj => ?_⟩
    rw [if_neg (by omega)] at had
    cases had
    have hl : (xs.take m ++ (xs.drop m).take 1).length = m + 1 := by rw [List.length_append, List.length_take, List.length_take, List.length_drop, hn]; omega
    rw [hM]
    exact blk_cut4 hB (m + 1) (xs.take m ++ (xs.drop m).take 1) (xs.drop (m + 1)) [] (by rw [List.append_nil]; exact hsp) hl j u hj
  have HNW := Lib.hid hnews
  clear hnews
  clear hM
  have HBW := Lib.hid hBW
  have HSP := Lib.hid hsp
  have HN := Lib.hid hn
  clear hW hb hB hBW hc hsp hn
  refine region_E (DropJ rb W (xs.take m) (xs.take m ++ xs.drop (m + 1))) [Is 29 (some 11) (.pointer (some ⟨rb, 0, none⟩)), Is 29 (some 12) (.pointer (some ⟨rb, 0, none⟩)), Is 29 (some 13) (.pointer (some ⟨rb, 0, none⟩)), Is 29 (some 14) (.pointer (some ⟨rb, 0, none⟩)), Is 29 (some 15) (.slice (some ⟨g, 0, none⟩) n cap), Is 29 (some 16) (.int .i64 (m : Nat)), Is 29 (some 17) (.slice (some ⟨g, 0, none⟩) m cap), (fun u => ∃ a l c, u = .slice a l c), Is 29 (some 19) (.pointer (some ⟨rb, 0, none⟩)), Is 29 (some 20) (.pointer (some ⟨rb, 0, none⟩)), Is 29 (some 21) (.pointer (some ⟨rb, 0, none⟩)), Is 29 (some 22) (.slice (some ⟨g, 0, none⟩) n cap), Is 29 (some 23) (.int .i64 (m : Nat)), Is 29 (some 24) (.int .i64 (M : Nat)), Is 29 (some 25) (.slice (some ad) (n - M) (cap - M)), (fun u => ∃ a l c, u = .slice a l c), Is 29 (some 27) (.pointer (some ⟨rb, 0, none⟩)), Is 29 (some 28) (.pointer (some ⟨rb, 0, none⟩)), Is 29 (none) (undef)] (by kernel_rfl) (by kernel_rfl) ?_ ?_
  · exact ⟨fun _ => HW.out.symm, fun h => (by cases h), fun h => (by cases h), fun h => (by cases h)⟩
  · apply wpE_op (by rfl) (by rfl) (by rfl)
    · intro f a' w' ha hf hJ Q1 hQ
      simp only [Act.put, List.setIfInBounds_toArray, List.set_cons_zero, List.set_cons_succ] at hQ
      go_wp2
      exact hQ _ _ rfl (hJ.put rfl rfl rfl (slot_put_ne (a := a') (by decide) _) (slot_put_ne (a := a') (by decide) _))
    simp only [Act.put, List.setIfInBounds_toArray, List.set_cons_zero, List.set_cons_succ]
    apply wpE_op (by rfl) (by rfl) (by rfl)
    · intro f a' w' ha hf hJ Q1 hQ
      simp only [Act.put, List.setIfInBounds_toArray, List.set_cons_zero, List.set_cons_succ] at hQ
      go_wp2
      exact hQ _ _ rfl (hJ.put rfl rfl rfl (slot_put_ne (a := a') (by decide) _) (slot_put_ne (a := a') (by decide) _))
    simp only [Act.put, List.setIfInBounds_toArray, List.set_cons_zero, List.set_cons_succ]
    apply wpE_op (by rfl) (by rfl) (by rfl)
    · intro f a' w' ha hf hJ Q1 hQ
      simp only [Act.put, List.setIfInBounds_toArray, List.set_cons_zero, List.set_cons_succ] at hQ
      go_wp2
      exact hQ _ _ rfl (hJ.put rfl rfl rfl (slot_put_ne (a := a') (by decide) _) (slot_put_ne (a := a') (by decide) _))
    simp only [Act.put, List.setIfInBounds_toArray, List.set_cons_zero, List.set_cons_succ]
    apply wpE_op (by rfl) (by rfl) (by rfl)
    · intro f a' w' ha hf hJ Q1 hQ
      simp only [Act.put, List.setIfInBounds_toArray, List.set_cons_zero, List.set_cons_succ] at hQ
      go_wp2
      exact hQ _ _ rfl (hJ.put rfl rfl rfl (slot_put_ne (a := a') (by decide) _) (slot_put_ne (a := a') (by decide) _))
    simp only [Act.put, List.setIfInBounds_toArray, List.set_cons_zero, List.set_cons_succ]
    apply wpE_op (by rfl) (by rfl) (by rfl)
    · intro f a' w' ha hf hJ Q1 hQ
      have h6 : f 6 = false := by
        cases h5 : f 6 with
        | false => rfl
        | true => exact absurd ((hf.1.1).symm.trans (hf.2.step 6 4 rfl (by kernel_rfl) h5)) (by decide)
      have h7 : f 7 = false := by
        cases h5 : f 7 with
        | false => rfl
        | true => exact absurd ((h6).symm.trans (hf.2.step 7 6 rfl (by kernel_rfl) h5)) (by decide)
      have h15 : f 15 = false := by
        cases h5 : f 15 with
        | false => rfl
        | true => exact absurd ((h7).symm.trans (hf.2.step 15 7 rfl (by kernel_rfl) h5)) (by decide)
      have h18 : f 18 = false := by
        cases h5 : f 18 with
        | false => rfl
        | true => exact absurd ((h15).symm.trans (hf.2.step 18 15 rfl (by kernel_rfl) h5)) (by decide)
      have hbw := hJ.upto h18
      have c1 := (Blk.below hbw hbW hbW.lt).rd
      simp only [Act.put, List.setIfInBounds_toArray, List.set_cons_zero, List.set_cons_succ] at hQ
      go_wp2
      exact hQ _ _ rfl (hJ.put rfl rfl rfl (slot_put_ne (a := a') (by decide) _) (slot_put_ne (a := a') (by decide) _))
    simp only [Act.put, List.setIfInBounds_toArray, List.set_cons_zero, List.set_cons_succ]
    apply wpE_op (by rfl) (by rfl) (by rfl)
    · intro f a' w' ha hf hJ Q1 hQ
      simp only [Act.put, List.setIfInBounds_toArray, List.set_cons_zero, List.set_cons_succ] at hQ
      go_wp2
      exact hQ _ _ rfl (hJ.put rfl rfl rfl (slot_put_ne (a := a') (by decide) _) (slot_put_ne (a := a') (by decide) _))
    simp only [Act.put, List.setIfInBounds_toArray, List.set_cons_zero, List.set_cons_succ]
    apply wpE_op (by rfl) (by rfl) (by rfl)
    · intro f a' w' ha hf hJ Q1 hQ
      simp only [Act.put, List.setIfInBounds_toArray, List.set_cons_zero, List.set_cons_succ] at hQ
      go_wp2
      exact hQ _ _ rfl (hJ.put rfl rfl rfl (slot_put_ne (a := a') (by decide) _) (slot_put_ne (a := a') (by decide) _))
    simp only [Act.put, List.setIfInBounds_toArray, List.set_cons_zero, List.set_cons_succ]
    apply wpE_any (d := 18) rfl (by simp) ⟨_, none, 0, 0, rfl⟩ (by rfl)
    · intro f a' w' ha hf hJ Q1 hQ
      have h7 : f 7 = false := hf.1.1
      have h15 : f 15 = false := by
        cases h5 : f 15 with
        | false => rfl
        | true => exact absurd ((h7).symm.trans (hf.2.step 15 7 rfl (by kernel_rfl) h5)) (by decide)
      have h18 : f 18 = false := by
        cases h5 : f 18 with
        | false => rfl
        | true => exact absurd ((h15).symm.trans (hf.2.step 18 15 rfl (by kernel_rfl) h5)) (by decide)
      have hw' : w' = W := hJ.1 h7
      subst hw'
      have hsz : 18 < a'.tmps.size := by rw [ha.1]; simp
      simp only [Act.put, List.setIfInBounds_toArray, List.set_cons_zero, List.set_cons_succ] at hQ
      go_wp2_with (at_builtin; refine wp_app4 rfl _ _ 27 66 _ 32 infoOne rfl (by decide) Try.underlying27 rfl _ [] none rfl (Or.inl ⟨rfl, rfl, rfl⟩) (some ⟨g, 0, none⟩) m cap (xs.take m) (by rw [List.length_take, HN.out]; omega) rfl (fun _ => ⟨_, rfl, fun j u hj => by have := blk_cut4 HBW.out 0 [] (xs.take m) (xs.drop m) (by simp) rfl j u hj; simpa using this⟩) (by rw [List.length_take, HN.out]; simp; omega) ?_; intro v' w3 B' hI3 hB3 hU3; rw [List.nil_append] at hI3)
      have hq := DrQ.step (fun g hg => by cases hg) (Below.refl _ _) hI3 hB3 hU3
      exact hQ _ _ _ rfl hq.slice ⟨fun h5 => (by cases h5), fun _ _ => (show DrQ _ _ (slot (a'.put (some 18) v') 18) w3 by rw [slot_put (a := a') hsz v']; exact hq), fun h5 => absurd (h15.symm.trans h5) (by decide), fun h5 => absurd (h18.symm.trans h5) (by decide)⟩
    rintro _ ⟨ua, ul, uc, rfl⟩
    simp only [Act.put, List.setIfInBounds_toArray, List.set_cons_zero, List.set_cons_succ]
    apply wpE_op (by rfl) (by rfl) (by rfl)
    · intro f a' w' ha hf hJ Q1 hQ
      simp only [Act.put, List.setIfInBounds_toArray, List.set_cons_zero, List.set_cons_succ] at hQ
      go_wp2
      exact hQ _ _ rfl (hJ.put rfl rfl rfl (slot_put_ne (a := a') (by decide) _) (slot_put_ne (a := a') (by decide) _))
    simp only [Act.put, List.setIfInBounds_toArray, List.set_cons_zero, List.set_cons_succ]
    apply wpE_op (by rfl) (by rfl) (by rfl)
    · intro f a' w' ha hf hJ Q1 hQ
      simp only [Act.put, List.setIfInBounds_toArray, List.set_cons_zero, List.set_cons_succ] at hQ
      go_wp2
      exact hQ _ _ rfl (hJ.put rfl rfl rfl (slot_put_ne (a := a') (by decide) _) (slot_put_ne (a := a') (by decide) _))
    simp only [Act.put, List.setIfInBounds_toArray, List.set_cons_zero, List.set_cons_succ]
    apply wpE_op (by rfl) (by rfl) (by rfl)
    · intro f a' w' ha hf hJ Q1 hQ
      simp only [Act.put, List.setIfInBounds_toArray, List.set_cons_zero, List.set_cons_succ] at hQ
      go_wp2
      exact hQ _ _ rfl (hJ.put rfl rfl rfl (slot_put_ne (a := a') (by decide) _) (slot_put_ne (a := a') (by decide) _))
    simp only [Act.put, List.setIfInBounds_toArray, List.set_cons_zero, List.set_cons_succ]
    apply wpE_op (by rfl) (by rfl) (by rfl)
    · intro f a' w' ha hf hJ Q1 hQ
      have h14 : f 14 = false := by
        cases h5 : f 14 with
        | false => rfl
        | true => exact absurd ((hf.1.1).symm.trans (hf.2.step 14 11 rfl (by kernel_rfl) h5)) (by decide)
      have h15 : f 15 = false := by
        cases h5 : f 15 with
        | false => rfl
        | true => exact absurd ((h14).symm.trans (hf.2.step 15 14 rfl (by kernel_rfl) h5)) (by decide)
      have h18 : f 18 = false := by
        cases h5 : f 18 with
        | false => rfl
        | true => exact absurd ((h15).symm.trans (hf.2.step 18 15 rfl (by kernel_rfl) h5)) (by decide)
      have hbw := hJ.upto h18
      have c1 := (Blk.below hbw hbW hbW.lt).rd
      simp only [Act.put, List.setIfInBounds_toArray, List.set_cons_zero, List.set_cons_succ] at hQ
      go_wp2
      exact hQ _ _ rfl (hJ.put rfl rfl rfl (slot_put_ne (a := a') (by decide) _) (slot_put_ne (a := a') (by decide) _))
    simp only [Act.put, List.setIfInBounds_toArray, List.set_cons_zero, List.set_cons_succ]
    apply wpE_op (by rfl) (by rfl) (by rfl)
    · intro f a' w' ha hf hJ Q1 hQ
      simp only [Act.put, List.setIfInBounds_toArray, List.set_cons_zero, List.set_cons_succ] at hQ
      go_wp2
      exact hQ _ _ rfl (hJ.put rfl rfl rfl (slot_put_ne (a := a') (by decide) _) (slot_put_ne (a := a') (by decide) _))
    simp only [Act.put, List.setIfInBounds_toArray, List.set_cons_zero, List.set_cons_succ]
    apply wpE_op (by rfl) (by rfl) (by rfl)
    · intro f a' w' ha hf hJ Q1 hQ
      simp only [Act.put, List.setIfInBounds_toArray, List.set_cons_zero, List.set_cons_succ] at hQ
      go_wp2
      exact hQ _ _ rfl (hJ.put rfl rfl rfl (slot_put_ne (a := a') (by decide) _) (slot_put_ne (a := a') (by decide) _))
    simp only [Act.put, List.setIfInBounds_toArray, List.set_cons_zero, List.set_cons_succ]
    apply wpE_op (by rfl) (by rfl) (by rfl)
    · intro f a' w' ha hf hJ Q1 hQ
      simp only [Act.put, List.setIfInBounds_toArray, List.set_cons_zero, List.set_cons_succ] at hQ
      go_wp2
      exact hQ _ _ rfl (hJ.put rfl rfl rfl (slot_put_ne (a := a') (by decide) _) (slot_put_ne (a := a') (by decide) _))
    simp only [Act.put, List.setIfInBounds_toArray, List.set_cons_zero, List.set_cons_succ]
    apply wpE_any (d := 26) rfl (by simp) ⟨_, none, 0, 0, rfl⟩ (by rfl)
    · intro f a' w' ha hf hJ Q1 hQ
      have h15 : f 15 = false := hf.1.1
      have h7 : f 7 = true := hf.1.2 ⟨7, .data⟩ (by simp) rfl
      have h18 : f 18 = false := by
        cases h5 : f 18 with
        | false => rfl
        | true => exact absurd ((h15).symm.trans (hf.2.step 18 15 rfl (by kernel_rfl) h5)) (by decide)
      obtain ⟨B0, hI0, hB0, hbl⟩ := hJ.2.1 h7 h15
      have e1 : slot a' 18 = .slice ua ul uc := by
        have := ha.2 18 (by decide)
        simp only [slot, Array.getD_eq_getD_getElem?, this]; rfl
      rw [e1] at hI0
      have hsz : 26 < a'.tmps.size := by rw [ha.1]; simp
      simp only [Act.put, List.setIfInBounds_toArray, List.set_cons_zero, List.set_cons_succ] at hQ
      go_wp2_with (at_builtin; refine wp_app4 rfl _ _ 27 66 _ 32 infoOne rfl (by decide) Try.underlying27 rfl _ (xs.take m) B0 rfl hI0 (some ad) (n - M) (cap - M) (xs.drop (m + 1)) (by rw [List.length_drop, HN.out, HM.out]) rfl (HNW.out _ (Blk.below hbl HBW.out HBW.out.lt)) (by rw [List.length_take, List.length_drop, HN.out]; omega) ?_; intro v' w3 B' hI3 hB3 hU3)
      have hq := DrQ.step hB0 hbl hI3 hB3 hU3
      exact hQ _ _ _ rfl hq.slice ⟨fun h5 => absurd (h7.symm.trans h5) (by decide), fun _ h5 => (by cases h5), fun _ _ => (show DrQ _ _ (slot (a'.put (some 26) v') 26) w3 by rw [slot_put (a := a') hsz v']; exact hq), fun h5 => absurd (h18.symm.trans h5) (by decide)⟩
    rintro _ ⟨va, vl, vc, rfl⟩
    simp only [Act.put, List.setIfInBounds_toArray, List.set_cons_zero, List.set_cons_succ]
    apply wpE_op (by rfl) (by rfl) (by rfl)
    · intro f a' w' ha hf hJ Q1 hQ
      simp only [Act.put, List.setIfInBounds_toArray, List.set_cons_zero, List.set_cons_succ] at hQ
      go_wp2
      exact hQ _ _ rfl (hJ.put rfl rfl rfl (slot_put_ne (a := a') (by decide) _) (slot_put_ne (a := a') (by decide) _))
    simp only [Act.put, List.setIfInBounds_toArray, List.set_cons_zero, List.set_cons_succ]
    apply wpE_op (by rfl) (by rfl) (by rfl)
    · intro f a' w' ha hf hJ Q1 hQ
      simp only [Act.put, List.setIfInBounds_toArray, List.set_cons_zero, List.set_cons_succ] at hQ
      go_wp2
      exact hQ _ _ rfl (hJ.put rfl rfl rfl (slot_put_ne (a := a') (by decide) _) (slot_put_ne (a := a') (by decide) _))
    simp only [Act.put, List.setIfInBounds_toArray, List.set_cons_zero, List.set_cons_succ]
    apply wpE_op (v := undef) (by rfl) (by rfl) (by rfl)
    · intro f a' w' ha hf hJ Q1 hQ
      have h18 : f 18 = false := hf.1.1
      have h15 : f 15 = true := hf.1.2 ⟨15, .data⟩ (by simp) rfl
      have h7 : f 7 = true := hf.2.step 15 7 rfl (by kernel_rfl) h15
      have hq := hJ.2.2.1 h15 h18
      have hbl : Blk w' rb #[.slice (some ⟨g, 0, none⟩) n cap] 29 := Blk.below (hJ.upto h18) hbW hbW.lt
      have e1 : slot a' 26 = .slice va vl vc := by
        have := ha.2 26 (by decide)
        simp only [slot, Array.getD_eq_getD_getElem?, this]; rfl
      have c1 := hbl.rd
      have f1 := hbl.nf
      simp only [Act.put, List.setIfInBounds_toArray, List.set_cons_zero, List.set_cons_succ] at hQ
      go_wp2
      refine hQ _ _ rfl ⟨fun h5 => absurd (h7.symm.trans h5) (by decide), fun _ h5 => absurd (h15.symm.trans h5) (by decide), fun _ h5 => (by cases h5), fun _ => ⟨w', hq, ?_⟩⟩
      rw [e1]
    simp only [Act.put, List.setIfInBounds_toArray, List.set_cons_zero, List.set_cons_succ]
    refine wpE_nil ?_
    intro w4 hJ
    obtain ⟨w3, hq, hw4⟩ := hJ.2.2.2 rfl
    have hq1 : DrQ W (xs.take m ++ xs.drop (m + 1)) (.slice va vl vc) w3 := hq
    have hw5 : w4 = w3.setCell ⟨rb, 0, none⟩ (.slice va vl vc) := hw4
    have HF : RP w1 rb b (xs.take m ++ xs.drop (m + 1)) w4 := by
      rw [hw5]
      exact DropJ.fin hbW.lt hbW hWb hq1
    clear hq hq1 hw4 hw5 hJ
    have hho : hasO L id = true := by rw [← HXS.out.2.2]; exact hasO_at HXS.out.2.1
    have hcd := cut_del HQ.out.2 HXS.out.2.1
    rw [HXS.out.2.2] at hcd
    rw [← HXS.out.1, hcd] at HF
    have HH := Lib.hid (And.intro hho HF)
    clear hho hcd HF
    go_wp2
    go_ret
    exact ⟨by rw [HH.out.1]; first | rfl | simp, by unfold dropL; rw [if_pos HH.out.1]; exact HH.out.2⟩
end Go.Proofs.Ytpajebedeacpgaa
/-
  The document's queue: Add.
-/
namespace Go.Proofs.Ytpajebedeacpgaa
set_option linter.unusedSimpArgs false
set_option linter.unusedVariables false
open Go.RowKit Own Sl Four
open RegJ hiding Up
open RegF hiding put_size

def ones (x : One) : Array Value := #[.int .i64 x.1, .int .i64 x.2.1, .int .i64 x.2.2.1, .int .i64 x.2.2.2]
/-- one more behind a row of the call's own -/
theorem wp_oneO {ops : Array Oper} {rest : List Oper} {o : Oper} {a : Act} {Q : Exit → Act → World → Prop} {wr : World} (hgd : o.guard = none) (s x : Operand)
    (ho : o.op = .call { callee := .builtin .append, args := #[s, x], argTypes := #[27, 27] }) (v : Value) (xs : List One) (b : Option Nat) (y : One) (hI : Row4 wr 66 v xs b) (hl : xs.length ≤ 2000)
    (hs : a.eval s = v) (hx : a.eval x = .slice (some ⟨wr.heap.size, 0, none⟩) 1 1) (h : ∀ v' w' b', Row4 w' 66 v' (xs ++ [y]) b' → (∀ g, b' = some g → b = some g ∨ wr.heap.size ≤ g) → Upd (fun k => b = some k) wr w' → wpList Try.prog ops Q rest (a.put o.dst v') w') :
    wpList Try.prog ops Q (o :: rest) a (wr.alloc (.cells #[.int .i64 y.1, .int .i64 y.2.1, .int .i64 y.2.2.1, .int .i64 y.2.2.2] 66)) := by
  refine wp_app4 hgd s x 27 66 _ 32 infoOne rfl (by decide) Try.underlying27 ho v xs b hs (hI.upd ((Upd.refl (fun _ => False) wr).alloc _) (fun _ _ h => h)) (some ⟨wr.heap.size, 0, none⟩) 1 1 [y] rfl hx (fun _ => ⟨_, rfl, ?_⟩) (by rw [List.length_cons, List.length_nil]; omega) ?_
  · intro j u hj
    rw [addO, Nat.zero_add, (Blk.new wr #[.int .i64 y.1, .int .i64 y.2.1, .int .i64 y.2.2.1, .int .i64 y.2.2.2] 66).rd]
    exact List.getElem?_toArray.trans hj
  · intro v' w' b' hr' hb' hu'
    refine h v' w' b' hr' (fun g hg => ?_) ((((Upd.refl (fun k => b = some k) wr).alloc _)).trans hu' (fun _ _ e => e))
    rcases hb' g hg with h1 | h1
    · exact Or.inl h1
    · exact Or.inr (by simp at h1; omega)
/-! ### where it comes in -/
def accO (L : List One) (x : One) (i : Nat) : List One := if i ≤ plA L x then L.take i else L.take (plA L x) ++ x :: (L.take i).drop (plA L x)
theorem plA_le (L : List One) (x : One) : plA L x ≤ L.length := List.findIdx_le_length
theorem plA_lt {L : List One} {x y : One} {i : Nat} (h : i < plA L x) (hy : L[i]? = some y) : ¬ ahd x y := by
  obtain ⟨hi, rfl⟩ := List.getElem?_eq_some_iff.1 hy
  have := List.not_of_lt_findIdx (p := fun y => decide (ahd x y)) h
  simpa using this
theorem plA_at {L : List One} {x y : One} (hy : L[plA L x]? = some y) : ahd x y := by
  obtain ⟨hi, rfl⟩ := List.getElem?_eq_some_iff.1 hy
  have := List.findIdx_getElem (p := fun y => decide (ahd x y)) (w := hi)
  exact of_decide_eq_true this
theorem accO_lt {L : List One} {x y : One} {i : Nat} (h : i < plA L x) (hy : L[i]? = some y) : accO L x (i + 1) = accO L x i ++ [y] := by
  unfold accO
  rw [if_pos (by omega), if_pos (by omega), List.take_add_one, hy]
  rfl
theorem accO_at {L : List One} {x y : One} {i : Nat} (h : i = plA L x) (hy : L[i]? = some y) : accO L x (i + 1) = accO L x i ++ [x] ++ [y] := by
  have hi := (List.getElem?_eq_some_iff.1 hy).1
  unfold accO
  rw [if_neg (by omega), if_pos (by omega), List.take_add_one, hy, ← h]
  rw [List.drop_append_of_le_length (by rw [List.length_take]; omega), List.drop_of_length_le (by rw [List.length_take]; omega)]
  simp
theorem accO_gt {L : List One} {x y : One} {i : Nat} (h : plA L x < i) (hy : L[i]? = some y) : accO L x (i + 1) = accO L x i ++ [y] := by
  have hi := (List.getElem?_eq_some_iff.1 hy).1
  unfold accO
  rw [if_neg (by omega), if_neg (by omega), List.take_add_one, hy]
  rw [List.drop_append_of_le_length (by rw [List.length_take]; omega)]
  simp
theorem accO_len (L : List One) (x : One) (i : Nat) : (accO L x i).length ≤ L.length + 1 := by
  unfold accO
  split
  · rw [List.length_take]; omega
  · rw [List.length_append, List.length_cons, List.length_drop, List.length_take, List.length_take]; omega
theorem accO_end {L : List One} {x : One} : (if plA L x < L.length then accO L x L.length else accO L x L.length ++ [x]) = insA L x := by
  have h := plA_le L x
  unfold accO insA
  split
  · rw [if_neg (by omega), List.take_length]
  · have e : plA L x = L.length := by omega
    rw [if_pos (by omega), List.take_length, e, List.take_length, List.drop_length]
end Go.Proofs.Ytpajebedeacpgaa
