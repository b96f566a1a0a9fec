/-
  The document's heap: Drop.
-/
import Derived.Deep.Upon
import Derived.Test.YtamgaklbkefejaaRefR
namespace Go.Proofs.Ytamgaklbkefejaa
set_option linter.unusedSimpArgs false
set_option linter.unusedVariables false
open Go.RowKit Go.Lib Own
open RegJ hiding Up
open RegF hiding put_size

theorem pcells_one (xs : List It) : ∀ u ∈ pcells xs, u.oneCell' = true := by
  intro u hu
  unfold pcells at hu
  rw [List.mem_flatMap] at hu
  obtain ⟨a, _, hu⟩ := hu
  simp at hu
  rcases hu with rfl | rfl <;> rfl
/-- many items behind a row of the call's own, out of a stretch that can be read -/
theorem wp_appM {ops : Array Oper} {rest : List Oper} {o : Oper} {a : Act} {Q : Exit → Act → World → Prop} {w : World} (hgd : o.guard = none) (s x : Operand)
    (ho : o.op = .call { callee := .builtin .append, args := #[s, x], argTypes := #[37, 37] }) (v : Value) (xs : List It) (B : Option Nat) (hs : a.eval s = v) (hI : ItR w v xs B)
    (ad : Addr) (m c : Nat) (ys : List It) (hm : ys.length = m) (hx : a.eval x = .slice (some ad) m c) (hnews : ∀ (j : Nat) (u : Value), (pcells ys)[j]? = some u → w.cell? (ad.add j) = some u) (hlen : xs.length + ys.length ≤ 3000)
    (h : ∀ v' w' B', ItR w' v' (xs ++ ys) B' → (∀ g, B' = some g → B = some g ∨ w.heap.size ≤ g) → Upd (fun k => B = some k) w w' → wpList Try.prog ops Q rest (a.put o.dst v') w') : wpList Try.prog ops Q (o :: rest) a w := by
  subst hm
  obtain ⟨i0, hi, hz0, hz1, hz2⟩ := info_parts Try.infoItemR
  have hp := pcells_len xs
  have hq := pcells_len ys
  have hone := pcells_one ys
  have hpy : pcells xs ++ pcells ys = pcells (xs ++ ys) := (pcells_app xs ys).symm
  have hown := hI.own
  cases ys with
  | nil =>
    have e : ∃ base n cap, v = .slice base n cap ∧ n ≤ cap := by
      rcases hI with ⟨rfl, _⟩ | ⟨g, cap, rst, rfl, _, _, hc, _⟩
      · exact ⟨none, 0, 0, rfl, Nat.le_refl _⟩
      · exact ⟨_, _, _, rfl, by rw [List.length_append, hp] at hc; omega⟩
    obtain ⟨base, n, cap, rfl, hle⟩ := e
    have hrun := run_append_nothing (P := Try.prog) w 37 37 o.type 44 i0 Try.underlying37 hi base n cap hle (.slice (some ad) 0 c) (Src.ofSlice w Try.underlying37 ad 0 c [] (by simp) (fun j u hj => by simp at hj) (fun u hu => by cases hu))
    refine wpList_plain hgd fun K hK => ?_
    unfold Oper.wp
    simp only [List.length_nil] at hx
    simp [execOp, ho, resolve, invoke, builtin, hs, hx, hrun, Result.andThen]
    exact hK _ _ (h _ w B (by simpa using hI) (fun g hg => Or.inl hg) (Upd.refl _ _))
  | cons y r =>
    generalize hy : y :: r = ys at *
    have hpos : 0 < ys.length := by rw [← hy]; simp
    rcases hI with ⟨rfl, rfl, rfl⟩ | ⟨g, cap, rst, rfl, rfl, hBg, hc, hm⟩
    · refine wpList_append_grows w hgd s x 37 ho 44 i0 _ 2 16 Try.underlying37 hi hz0 hz1 hz2 rfl (by decide) none 0 0 [] hs (fun _ => ⟨rfl, rfl⟩) rfl (fun b hb => by cases hb) ad ys.length c _ hx hq hnews hone (by omega) (by unfold maxLen; simp at hlen; omega) (by simp at hlen; omega) ?_
      intro v' w' h1 h2
      obtain ⟨B', hI', hb'⟩ := ItR.of_own (xs := ys) (by simp) h1
      exact h v' w' B' hI' (fun g hg => Or.inr (hb' g hg)) (Upd.grown h2 (fun k hk => by cases hk))
    · by_cases hf : xs.length + ys.length ≤ cap
      · refine wpList_append_fits w hgd s x 37 ho 0 44 i0 2 Try.underlying37 hi hz1 g xs.length cap (pcells xs) hs hown ad ys.length c _ hx hq hnews hone hf ?_
        intro w' h1 h2
        rw [hpy] at h1
        obtain ⟨B', hI', hb'⟩ := ItR.of_own (xs := xs ++ ys) (by simp) h1
        have hB' : B' = some g := by
          rcases hI' with ⟨hv, _⟩ | ⟨g', _, _, hv, rfl, _⟩
          · cases hv
          · simp only [Value.slice.injEq, Option.some.injEq, Addr.mk.injEq] at hv
            rw [hv.1.1]
        exact h _ w' B' hI' (fun g' hg' => Or.inl (by rw [← hg', hB'])) (Upd.grown h2 (fun k hk => by cases hk; rfl))
      · refine wpList_append_grows w hgd s x 37 ho 44 i0 _ 2 16 Try.underlying37 hi hz0 hz1 hz2 rfl (by decide) (some ⟨g, 0, none⟩) xs.length cap (pcells xs) hs (fun h => by cases h) hp ?_ ad ys.length c _ hx hq hnews hone (by omega) (by unfold maxLen; omega) (by omega) ?_
        · intro b' hb' j u hj
          cases hb'
          have hjl : j < (pcells xs).length := (List.getElem?_eq_some_iff.1 hj).1
          have : (⟨g, 0, none⟩ : Addr).add j = ⟨g, j, none⟩ := by
            unfold Addr.add; by_cases h0 : j = 0
            · subst h0; rfl
            · rw [if_neg h0]; simp
          rw [this, hBg.rd]
          simp only [List.getElem?_toArray]
          rw [List.getElem?_append_left hjl]; exact hj
        · intro v' w' h1 h2
          rw [hpy] at h1
          obtain ⟨B', hI', hb'⟩ := ItR.of_own (xs := xs ++ ys) (by simp) h1
          exact h v' w' B' hI' (fun g' hg' => Or.inr (hb' g' hg')) (Upd.grown h2 (fun k hk => by cases hk))
theorem add_at (g o j : Nat) : (⟨g, o, none⟩ : Addr).add j = ⟨g, o + j, none⟩ := by
  unfold Addr.add; by_cases h0 : j = 0
  · subst h0; rfl
  · rw [if_neg h0]
/-- a stretch of a row in its block -/
theorem blk_cut {w : World} {g : Nat} {xs : List It} {rest : List Value} (hB : Blk w g (pcells xs ++ rest).toArray 44) (i : Nat) (xa ys bs : List It) (hx : xs = xa ++ ys ++ bs) (hi : xa.length = i) (j : Nat) (u : Value) (hj : (pcells ys)[j]? = some u) :
    w.cell? ((⟨g, i * 2, none⟩ : Addr).add j) = some u := by
  have hjl : j < (pcells ys).length := (List.getElem?_eq_some_iff.1 hj).1
  have hl := pcells_len xa
  rw [add_at, hB.rd]
  simp only [List.getElem?_toArray]
  subst hx hi
  rw [pcells_app, pcells_app, List.append_assoc, List.append_assoc, List.getElem?_append_right (by omega), hl, Nat.add_sub_cancel_left, List.getElem?_append_left hjl]
  exact hj
def DrQ (W : World) (l : List It) (v : Value) (w : World) : Prop := ∃ B, ItR w v l B ∧ (∀ g, B = some g → W.heap.size ≤ g) ∧ Below W.heap.size W w
def DropJ (bh : Nat) (W : World) (l1 l2 : List It) (f : Nat → Bool) (a : Act) (w : World) : Prop :=
  (f 7 = false → w = W) ∧ (f 7 = true → f 15 = false → DrQ W l1 (slot a 18) w) ∧ (f 15 = true → f 18 = false → DrQ W l2 (slot a 26) w) ∧ (f 18 = true → ∃ w0, DrQ W l2 (slot a 26) w0 ∧ w = w0.setCell ⟨bh, 0, none⟩ (slot a 26))
theorem DropJ.put {bh : Nat} {W : World} {l1 l2 : List It} {f f' : Nat → Bool} {a a' : Act} {w : World} (h : DropJ bh W l1 l2 f a w) (e7 : f' 7 = f 7) (e15 : f' 15 = f 15) (e18 : f' 18 = f 18) (s1 : slot a' 18 = slot a 18) (s2 : slot a' 26 = slot a 26) : DropJ bh W l1 l2 f' a' w := by
  unfold DropJ at *
  rw [e7, e15, e18, s1, s2]
  exact h
theorem DropJ.upto {bh : Nat} {W : World} {l1 l2 : List It} {f : Nat → Bool} {a : Act} {w : World} (h : DropJ bh W l1 l2 f a w) (h18 : f 18 = false) : Below W.heap.size W w := by
  cases h7 : f 7 with
  | false => rw [h.1 h7]; exact Below.refl _ _
  | true =>
    cases h15 : f 15 with
    | false => obtain ⟨_, _, _, hB⟩ := h.2.1 h7 h15; exact hB
    | true => obtain ⟨_, _, _, hB⟩ := h.2.2.1 h15 h18; exact hB
/-- an appended stretch, behind what W was -/
theorem DrQ.step {W w w' : World} {B B' : Option Nat} {v' : Value} {l : List It} (h0 : ∀ g, B = some g → W.heap.size ≤ g) (hb : Below W.heap.size W w) (hI : ItR w' v' l B') (hf : ∀ g, B' = some g → B = some g ∨ w.heap.size ≤ g) (hu : Upd (fun k => B = some k) w w') : DrQ W l v' w' := by
  have hsz := hb.size
  exact ⟨B', hI, fun g hg => (hf g hg).elim (h0 g) (fun h => Nat.le_trans hsz h), hb.trans (hu.below hsz (fun k hk => by have := h0 k hk; omega))⟩
theorem DrQ.slice {W w : World} {l : List It} {v : Value} (h : DrQ W l v w) : ∃ a l c, v = .slice a l c := by
  obtain ⟨B, hI, _⟩ := h
  obtain ⟨a, c, e⟩ := hI.slice
  exact ⟨a, _, c, e⟩
def RDropP (bh : Nat) (b : Option Nat) (w : World) (l : List It) (e : Ending) (w' : World) : Prop := e = .returned (.bool true) ∧ ∃ b', Rh w' bh l b' ∧ HFr bh b b' w w'
theorem DropJ.fin {bh : Nat} {b : Option Nat} {w W : World} {l : List It} {v0 v : Value} {w0 : World} (hlt : bh < W.heap.size) (hb : Blk W bh #[v0] 39) (hw : Below w.heap.size w W) (hI : DrQ W l v w0) (hl : l.length ≤ 1000) : RDropP bh b w l (.returned (.bool true)) (w0.setCell ⟨bh, 0, none⟩ v) := by
  obtain ⟨B, h3, h4, h5⟩ := hI
  have hb0 : Blk w0 bh #[v0] 39 := Blk.below h5 hb hlt
  have hu : Upd (fun k => k = bh) w0 (w0.setCell ⟨bh, 0, none⟩ v) := (Upd.refl (fun k => k = bh) w0).setCell (p := ⟨bh, 0, none⟩) (fun _ => rfl) _
  have hs1 := hw.size
  refine ⟨rfl, B, ⟨v, Blk.of (hb0.set 0 v) rfl, h3.upd hu (fun g hg e => by have := h4 g hg; omega), fun g hg e => by have := h4 g hg; omega, hl⟩, ?_, fun g hg => Or.inr (by have := h4 g hg; omega)⟩
  have h6 : Below w.heap.size w w0 := hw.trans (h5.mono hs1)
  exact (show Upd (fun k => k = bh ∨ b = some k) w w0 from ⟨h6.os, h6.tape, h6.output, h6.size, fun k hk _ => h6.block k hk⟩).trans hu (fun _ _ e => Or.inl e)
theorem rdrop_no {w : World} {bh : Nat} {xs : List It} {b : Option Nat} (h : Rh w bh xs b) (id : Int) (hno : hasB xs id = false) :
    Calls Try.prog 15 #[.pointer (some ⟨bh, 0, none⟩), .int .i64 id] w fun e w' => e = .returned (.bool false) ∧ w = w' := by
  have ha := rat_no h id hno
  clear h hno
  go_enter Try.func15, Try.ntmps15
  go_wp2_with (go_at_call 28; refine ha.mono ?_; rintro e w' ⟨rfl, rfl⟩)
  go_ret
  exact ⟨rfl, rfl⟩
/-- the rest of Drop: behind at -/
theorem cut_len (xs : List It) (m : Nat) (h : m < xs.length) : (xs.take m ++ xs.drop (m + 1)).length + 1 = xs.length := by simp; omega
set_option maxRecDepth 100000 in
set_option maxHeartbeats 2000000 in
theorem rdrop_yes {w : World} {bh : Nat} {xs : List It} {b : Option Nat} (h : Rh w bh xs b) (id : Int) (hy : hasB xs id = true) :
    Calls Try.prog 15 #[.pointer (some ⟨bh, 0, none⟩), .int .i64 id] w fun e w' => ∃ m, m < xs.length ∧ (X xs m).1 = id ∧ RDropP bh b w (xs.take m ++ xs.drop (m + 1)) e w' := by
  have ha := rat_yes h id hy
  clear hy
  go_enter Try.func15, Try.ntmps15
  go_wp2_with (go_at_call 28; refine ha.mono ?_; rintro e w' ⟨⟨m, rfl, hm, hx⟩, rfl⟩; have d1 : decide ((m : Int) < 0) = false := (by simp); have HX := Lib.hid hx; clear hx ha)
  obtain ⟨v, hb, hI, hne, hmax⟩ := h
  rcases hI with ⟨_, rfl, _⟩ | ⟨g, cap, rest, rfl, rfl, hB, hc, hcm⟩
  · simp at hm
  have HL := Lib.hid (cut_len xs m hm)
  have hcap : xs.length ≤ cap := by
    have := pcells_len xs
    rw [List.length_append, this] at hc; omega
  have hsp : xs = xs.take m ++ (xs.drop m).take 1 ++ xs.drop (m + 1) := by
    rw [List.append_assoc, ← List.drop_drop, List.take_append_drop, List.take_append_drop]
  have HB := Lib.hid hB
  obtain ⟨n, hn⟩ : ∃ n, xs.length = n := ⟨_, rfl⟩
  rw [hn] at hb hcap hmax hm
  have i1 : (0 : Int) ≤ m := by omega
  have i2 : (m : Int) ≤ n := by omega
  have i3 : (m : Int) + 1 ≤ n := by omega
  have i4 : (n : Int) ≤ cap := by omega
  have i5 : m ≤ cap := by omega
  have i6 : m + 1 ≤ n := by omega
  have i7 : (m : Int) ≤ cap := by omega
  have i8 : (0 : Int) ≤ (m : Int) + 1 := by omega
  have i9 : (m : Int) < (maxLen : Int) := by unfold maxLen at *; omega
  have i10 : (m : Int) + 1 ≤ 9223372036854775807 := by omega
  have i11 : ((m : Int) + 1).toNat = m + 1 := by omega
  obtain ⟨M, hM⟩ : ∃ M, M = m + 1 := ⟨_, rfl⟩
  have i12 : (0 : Int) ≤ M := by omega
  have j1 : (m : Int) + 1 = (M : Int) := by omega
  have i13 : (M : Int) ≤ n := by omega
  have i14 : M ≤ n := by omega
  have i15 : M ≤ cap := by omega
  obtain ⟨W, hW⟩ : ∃ W, W = w.drew := ⟨_, rfl⟩
  have hWb : Below w.heap.size w W := by rw [hW]; exact (Below.refl _ _).drew
  have hblt : bh < w.heap.size := hb.lt
  have hglt : g < w.heap.size := hB.lt
  have hsW := hWb.size
  have hbW : Blk W bh #[.slice (some ⟨g, 0, none⟩) n cap] 39 := Blk.below hWb hb hb.lt
  have hBW : Blk W g (pcells xs ++ rest).toArray 44 := Blk.below hWb hB hB.lt
  have HW := Lib.hid hW
  have HM := Lib.hid hM
  have hM0 : ¬ M = 0 := by omega
  obtain ⟨ad, had⟩ : ∃ ad : Addr, (if cap = M then some (⟨g, 0, none⟩ : Addr) else some ⟨g, M * 2, none⟩) = some ad := by split <;> exact ⟨_, rfl⟩
  have hnews : ∀ (w' : World), Blk w' g (pcells xs ++ rest).toArray 44 → ∀ (j : Nat) (u : Value), (pcells (xs.drop (m + 1)))[j]? = some u → w'.cell? (ad.add j) = some u := fun w' hB j u hj => by
    by_cases hcM : cap = M
    · have : xs.drop (m + 1) = [] := List.drop_eq_nil_of_le (by rw [hn]; omega)
      rw [this] at hj
      simp [pcells] at hj
    · rw [if_neg hcM] at had
      cases had
      have hl : (xs.take m ++ (xs.drop m).take 1).length = m + 1 := by rw [List.length_append, List.length_take, List.length_take, List.length_drop, hn]; omega
      rw [hM]
      exact blk_cut hB (m + 1) (xs.take m ++ (xs.drop m).take 1) (xs.drop (m + 1)) [] (by rw [List.append_nil]; exact hsp) hl j u hj
  have HNW := Lib.hid hnews
  clear hnews
  clear hM i3 i6 i8 i10 i11
  have HBW := Lib.hid hBW
  have HSP := Lib.hid hsp
  have HN := Lib.hid hn
  clear hW hb hne hB hBW hc hsp hn
  refine region_E (DropJ bh W (xs.take m) (xs.take m ++ xs.drop (m + 1))) [Is 29 (some 11) (.pointer (some ⟨bh, 0, none⟩)), Is 29 (some 12) (.pointer (some ⟨bh, 0, none⟩)), Is 29 (some 13) (.pointer (some ⟨bh, 0, none⟩)), Is 29 (some 14) (.pointer (some ⟨bh, 0, none⟩)), Is 29 (some 15) (.slice (some ⟨g, 0, none⟩) n cap), Is 29 (some 16) (.int .i64 (m : Nat)), Is 29 (some 17) (.slice (some ⟨g, 0, none⟩) m cap), (fun u => ∃ a l c, u = .slice a l c), Is 29 (some 19) (.pointer (some ⟨bh, 0, none⟩)), Is 29 (some 20) (.pointer (some ⟨bh, 0, none⟩)), Is 29 (some 21) (.pointer (some ⟨bh, 0, none⟩)), Is 29 (some 22) (.slice (some ⟨g, 0, none⟩) n cap), Is 29 (some 23) (.int .i64 (m : Nat)), Is 29 (some 24) (.int .i64 (M : Nat)), Is 29 (some 25) (.slice (some ad) (n - M) (cap - M)), (fun u => ∃ a l c, u = .slice a l c), Is 29 (some 27) (.pointer (some ⟨bh, 0, none⟩)), Is 29 (some 28) (.pointer (some ⟨bh, 0, none⟩)), Is 29 (none) (undef)] (by kernel_rfl) (by kernel_rfl) ?_ ?_
  · exact ⟨fun _ => HW.out.symm, fun h => (by cases h), fun h => (by cases h), fun h => (by cases h)⟩
  · apply wpE_op (by rfl) (by rfl) (by rfl)
    · intro f a' w' ha hf hJ Q1 hQ
      simp only [Act.put, List.setIfInBounds_toArray, List.set_cons_zero, List.set_cons_succ] at hQ
      go_wp2
      exact hQ _ _ rfl (hJ.put rfl rfl rfl (slot_put_ne (a := a') (by decide) _) (slot_put_ne (a := a') (by decide) _))
    simp only [Act.put, List.setIfInBounds_toArray, List.set_cons_zero, List.set_cons_succ]
    apply wpE_op (by rfl) (by rfl) (by rfl)
    · intro f a' w' ha hf hJ Q1 hQ
      simp only [Act.put, List.setIfInBounds_toArray, List.set_cons_zero, List.set_cons_succ] at hQ
      go_wp2
      exact hQ _ _ rfl (hJ.put rfl rfl rfl (slot_put_ne (a := a') (by decide) _) (slot_put_ne (a := a') (by decide) _))
    simp only [Act.put, List.setIfInBounds_toArray, List.set_cons_zero, List.set_cons_succ]
    apply wpE_op (by rfl) (by rfl) (by rfl)
    · intro f a' w' ha hf hJ Q1 hQ
      simp only [Act.put, List.setIfInBounds_toArray, List.set_cons_zero, List.set_cons_succ] at hQ
      go_wp2
      exact hQ _ _ rfl (hJ.put rfl rfl rfl (slot_put_ne (a := a') (by decide) _) (slot_put_ne (a := a') (by decide) _))
    simp only [Act.put, List.setIfInBounds_toArray, List.set_cons_zero, List.set_cons_succ]
    apply wpE_op (by rfl) (by rfl) (by rfl)
    · intro f a' w' ha hf hJ Q1 hQ
      simp only [Act.put, List.setIfInBounds_toArray, List.set_cons_zero, List.set_cons_succ] at hQ
      go_wp2
      exact hQ _ _ rfl (hJ.put rfl rfl rfl (slot_put_ne (a := a') (by decide) _) (slot_put_ne (a := a') (by decide) _))
    simp only [Act.put, List.setIfInBounds_toArray, List.set_cons_zero, List.set_cons_succ]
    apply wpE_op (by rfl) (by rfl) (by rfl)
    · intro f a' w' ha hf hJ Q1 hQ
      have h6 : f 6 = false := by
        cases h5 : f 6 with
        | false => rfl
        | true => exact absurd ((hf.1.1).symm.trans (hf.2.step 6 4 rfl (by kernel_rfl) h5)) (by decide)
      have h7 : f 7 = false := by
        cases h5 : f 7 with
        | false => rfl
        | true => exact absurd ((h6).symm.trans (hf.2.step 7 6 rfl (by kernel_rfl) h5)) (by decide)
      have h15 : f 15 = false := by
        cases h5 : f 15 with
        | false => rfl
        | true => exact absurd ((h7).symm.trans (hf.2.step 15 7 rfl (by kernel_rfl) h5)) (by decide)
      have h18 : f 18 = false := by
        cases h5 : f 18 with
        | false => rfl
        | true => exact absurd ((h15).symm.trans (hf.2.step 18 15 rfl (by kernel_rfl) h5)) (by decide)
      have hbw := hJ.upto h18
      have c1 := (Blk.below hbw hbW hbW.lt).rd
      simp only [Act.put, List.setIfInBounds_toArray, List.set_cons_zero, List.set_cons_succ] at hQ
      go_wp2
      exact hQ _ _ rfl (hJ.put rfl rfl rfl (slot_put_ne (a := a') (by decide) _) (slot_put_ne (a := a') (by decide) _))
    simp only [Act.put, List.setIfInBounds_toArray, List.set_cons_zero, List.set_cons_succ]
    apply wpE_op (by rfl) (by rfl) (by rfl)
    · intro f a' w' ha hf hJ Q1 hQ
      simp only [Act.put, List.setIfInBounds_toArray, List.set_cons_zero, List.set_cons_succ] at hQ
      go_wp2
      exact hQ _ _ rfl (hJ.put rfl rfl rfl (slot_put_ne (a := a') (by decide) _) (slot_put_ne (a := a') (by decide) _))
    simp only [Act.put, List.setIfInBounds_toArray, List.set_cons_zero, List.set_cons_succ]
    apply wpE_op (by rfl) (by rfl) (by rfl)
    · intro f a' w' ha hf hJ Q1 hQ
      simp only [Act.put, List.setIfInBounds_toArray, List.set_cons_zero, List.set_cons_succ] at hQ
      go_wp2
      exact hQ _ _ rfl (hJ.put rfl rfl rfl (slot_put_ne (a := a') (by decide) _) (slot_put_ne (a := a') (by decide) _))
    simp only [Act.put, List.setIfInBounds_toArray, List.set_cons_zero, List.set_cons_succ]
    apply wpE_any (d := 18) rfl (by simp) ⟨_, none, 0, 0, rfl⟩ (by rfl)
    · intro f a' w' ha hf hJ Q1 hQ
      have h7 : f 7 = false := hf.1.1
      have h15 : f 15 = false := by
        cases h5 : f 15 with
        | false => rfl
        | true => exact absurd ((h7).symm.trans (hf.2.step 15 7 rfl (by kernel_rfl) h5)) (by decide)
      have h18 : f 18 = false := by
        cases h5 : f 18 with
        | false => rfl
        | true => exact absurd ((h15).symm.trans (hf.2.step 18 15 rfl (by kernel_rfl) h5)) (by decide)
      have hw' : w' = W := hJ.1 h7
      subst hw'
      have hsz : 18 < a'.tmps.size := by rw [ha.1]; simp
      simp only [Act.put, List.setIfInBounds_toArray, List.set_cons_zero, List.set_cons_succ] at hQ
      go_wp2_with (at_builtin; refine wp_appM rfl _ _ rfl _ [] none rfl (Or.inl ⟨rfl, rfl, rfl⟩) ⟨g, 0, none⟩ m cap (xs.take m) (by rw [List.length_take, HN.out]; omega) rfl (fun j u hj => by have := blk_cut HBW.out 0 [] (xs.take m) (xs.drop m) (by simp) rfl j u hj; simpa using this) (by rw [List.length_take, HN.out]; simp; omega) ?_; intro v' w3 B' hI3 hB3 hU3; rw [List.nil_append] at hI3)
      have hq := DrQ.step (fun g hg => by cases hg) (Below.refl _ _) hI3 hB3 hU3
      exact hQ _ _ _ rfl hq.slice ⟨fun h5 => (by cases h5), fun _ _ => (show DrQ _ _ (slot (a'.put (some 18) v') 18) w3 by rw [slot_put (a := a') hsz v']; exact hq), fun h5 => absurd (h15.symm.trans h5) (by decide), fun h5 => absurd (h18.symm.trans h5) (by decide)⟩
    rintro _ ⟨ua, ul, uc, rfl⟩
    simp only [Act.put, List.setIfInBounds_toArray, List.set_cons_zero, List.set_cons_succ]
    apply wpE_op (by rfl) (by rfl) (by rfl)
    · intro f a' w' ha hf hJ Q1 hQ
      simp only [Act.put, List.setIfInBounds_toArray, List.set_cons_zero, List.set_cons_succ] at hQ
      go_wp2
      exact hQ _ _ rfl (hJ.put rfl rfl rfl (slot_put_ne (a := a') (by decide) _) (slot_put_ne (a := a') (by decide) _))
    simp only [Act.put, List.setIfInBounds_toArray, List.set_cons_zero, List.set_cons_succ]
    apply wpE_op (by rfl) (by rfl) (by rfl)
    · intro f a' w' ha hf hJ Q1 hQ
      simp only [Act.put, List.setIfInBounds_toArray, List.set_cons_zero, List.set_cons_succ] at hQ
      go_wp2
      exact hQ _ _ rfl (hJ.put rfl rfl rfl (slot_put_ne (a := a') (by decide) _) (slot_put_ne (a := a') (by decide) _))
    simp only [Act.put, List.setIfInBounds_toArray, List.set_cons_zero, List.set_cons_succ]
    apply wpE_op (by rfl) (by rfl) (by rfl)
    · intro f a' w' ha hf hJ Q1 hQ
      simp only [Act.put, List.setIfInBounds_toArray, List.set_cons_zero, List.set_cons_succ] at hQ
      go_wp2
      exact hQ _ _ rfl (hJ.put rfl rfl rfl (slot_put_ne (a := a') (by decide) _) (slot_put_ne (a := a') (by decide) _))
    simp only [Act.put, List.setIfInBounds_toArray, List.set_cons_zero, List.set_cons_succ]
    apply wpE_op (by rfl) (by rfl) (by rfl)
    · intro f a' w' ha hf hJ Q1 hQ
      have h14 : f 14 = false := by
        cases h5 : f 14 with
        | false => rfl
        | true => exact absurd ((hf.1.1).symm.trans (hf.2.step 14 11 rfl (by kernel_rfl) h5)) (by decide)
      have h15 : f 15 = false := by
        cases h5 : f 15 with
        | false => rfl
        | true => exact absurd ((h14).symm.trans (hf.2.step 15 14 rfl (by kernel_rfl) h5)) (by decide)
      have h18 : f 18 = false := by
        cases h5 : f 18 with
        | false => rfl
        | true => exact absurd ((h15).symm.trans (hf.2.step 18 15 rfl (by kernel_rfl) h5)) (by decide)
      have hbw := hJ.upto h18
      have c1 := (Blk.below hbw hbW hbW.lt).rd
      simp only [Act.put, List.setIfInBounds_toArray, List.set_cons_zero, List.set_cons_succ] at hQ
      go_wp2
      exact hQ _ _ rfl (hJ.put rfl rfl rfl (slot_put_ne (a := a') (by decide) _) (slot_put_ne (a := a') (by decide) _))
    simp only [Act.put, List.setIfInBounds_toArray, List.set_cons_zero, List.set_cons_succ]
    apply wpE_op (by rfl) (by rfl) (by rfl)
    · intro f a' w' ha hf hJ Q1 hQ
      simp only [Act.put, List.setIfInBounds_toArray, List.set_cons_zero, List.set_cons_succ] at hQ
      go_wp2
      exact hQ _ _ rfl (hJ.put rfl rfl rfl (slot_put_ne (a := a') (by decide) _) (slot_put_ne (a := a') (by decide) _))
    simp only [Act.put, List.setIfInBounds_toArray, List.set_cons_zero, List.set_cons_succ]
    apply wpE_op (by rfl) (by rfl) (by rfl)
    · intro f a' w' ha hf hJ Q1 hQ
      simp only [Act.put, List.setIfInBounds_toArray, List.set_cons_zero, List.set_cons_succ] at hQ
      go_wp2
      exact hQ _ _ rfl (hJ.put rfl rfl rfl (slot_put_ne (a := a') (by decide) _) (slot_put_ne (a := a') (by decide) _))
    simp only [Act.put, List.setIfInBounds_toArray, List.set_cons_zero, List.set_cons_succ]
    apply wpE_op (by rfl) (by rfl) (by rfl)
    · intro f a' w' ha hf hJ Q1 hQ
      simp only [Act.put, List.setIfInBounds_toArray, List.set_cons_zero, List.set_cons_succ] at hQ
      go_wp2
      exact hQ _ _ rfl (hJ.put rfl rfl rfl (slot_put_ne (a := a') (by decide) _) (slot_put_ne (a := a') (by decide) _))
    simp only [Act.put, List.setIfInBounds_toArray, List.set_cons_zero, List.set_cons_succ]
    apply wpE_any (d := 26) rfl (by simp) ⟨_, none, 0, 0, rfl⟩ (by rfl)
    · intro f a' w' ha hf hJ Q1 hQ
      have h15 : f 15 = false := hf.1.1
      have h7 : f 7 = true := hf.1.2 ⟨7, .data⟩ (by simp) rfl
      have h18 : f 18 = false := by
        cases h5 : f 18 with
        | false => rfl
        | true => exact absurd ((h15).symm.trans (hf.2.step 18 15 rfl (by kernel_rfl) h5)) (by decide)
      obtain ⟨B0, hI0, hB0, hbl⟩ := hJ.2.1 h7 h15
      have e1 : slot a' 18 = .slice ua ul uc := by
        have := ha.2 18 (by decide)
        simp only [slot, Array.getD_eq_getD_getElem?, this]; rfl
      rw [e1] at hI0
      have hsz : 26 < a'.tmps.size := by rw [ha.1]; simp
      simp only [Act.put, List.setIfInBounds_toArray, List.set_cons_zero, List.set_cons_succ] at hQ
      go_wp2_with (at_builtin; refine wp_appM rfl _ _ rfl _ (xs.take m) B0 rfl hI0 ad (n - M) (cap - M) (xs.drop (m + 1)) (by rw [List.length_drop, HN.out, HM.out]) rfl (HNW.out _ (Blk.below hbl HBW.out HBW.out.lt)) (by rw [List.length_take, List.length_drop, HN.out]; omega) ?_; intro v' w3 B' hI3 hB3 hU3)
      have hq := DrQ.step hB0 hbl hI3 hB3 hU3
      exact hQ _ _ _ rfl hq.slice ⟨fun h5 => absurd (h7.symm.trans h5) (by decide), fun _ h5 => (by cases h5), fun _ _ => (show DrQ _ _ (slot (a'.put (some 26) v') 26) w3 by rw [slot_put (a := a') hsz v']; exact hq), fun h5 => absurd (h18.symm.trans h5) (by decide)⟩
    rintro _ ⟨va, vl, vc, rfl⟩
    simp only [Act.put, List.setIfInBounds_toArray, List.set_cons_zero, List.set_cons_succ]
    apply wpE_op (by rfl) (by rfl) (by rfl)
    · intro f a' w' ha hf hJ Q1 hQ
      simp only [Act.put, List.setIfInBounds_toArray, List.set_cons_zero, List.set_cons_succ] at hQ
      go_wp2
      exact hQ _ _ rfl (hJ.put rfl rfl rfl (slot_put_ne (a := a') (by decide) _) (slot_put_ne (a := a') (by decide) _))
    simp only [Act.put, List.setIfInBounds_toArray, List.set_cons_zero, List.set_cons_succ]
    apply wpE_op (by rfl) (by rfl) (by rfl)
    · intro f a' w' ha hf hJ Q1 hQ
      simp only [Act.put, List.setIfInBounds_toArray, List.set_cons_zero, List.set_cons_succ] at hQ
      go_wp2
      exact hQ _ _ rfl (hJ.put rfl rfl rfl (slot_put_ne (a := a') (by decide) _) (slot_put_ne (a := a') (by decide) _))
    simp only [Act.put, List.setIfInBounds_toArray, List.set_cons_zero, List.set_cons_succ]
    apply wpE_op (v := undef) (by rfl) (by rfl) (by rfl)
    · intro f a' w' ha hf hJ Q1 hQ
      have h18 : f 18 = false := hf.1.1
      have h15 : f 15 = true := hf.1.2 ⟨15, .data⟩ (by simp) rfl
      have h7 : f 7 = true := hf.2.step 15 7 rfl (by kernel_rfl) h15
      have hq := hJ.2.2.1 h15 h18
      have hbl : Blk w' bh #[.slice (some ⟨g, 0, none⟩) n cap] 39 := Blk.below (hJ.upto h18) hbW hbW.lt
      have e1 : slot a' 26 = .slice va vl vc := by
        have := ha.2 26 (by decide)
        simp only [slot, Array.getD_eq_getD_getElem?, this]; rfl
      have c1 := hbl.rd
      have f1 := hbl.nf
      simp only [Act.put, List.setIfInBounds_toArray, List.set_cons_zero, List.set_cons_succ] at hQ
      go_wp2
      refine hQ _ _ rfl ⟨fun h5 => absurd (h7.symm.trans h5) (by decide), fun _ h5 => absurd (h15.symm.trans h5) (by decide), fun _ h5 => (by cases h5), fun _ => ⟨w', hq, ?_⟩⟩
      rw [e1]
    simp only [Act.put, List.setIfInBounds_toArray, List.set_cons_zero, List.set_cons_succ]
    refine wpE_nil ?_
    intro w4 hJ
    obtain ⟨w3, hq, hw4⟩ := hJ.2.2.2 rfl
    have hq1 : DrQ W (xs.take m ++ xs.drop (m + 1)) (.slice va vl vc) w3 := hq
    have hw5 : w4 = w3.setCell ⟨bh, 0, none⟩ (.slice va vl vc) := hw4
    have HF : RDropP bh (some g) w (xs.take m ++ xs.drop (m + 1)) (.returned (.bool true)) w4 := by
      rw [hw5]
      exact DropJ.fin hbW.lt hbW hWb hq1 (by have h9 := HL.out; have h8 := HN.out; omega)
    clear hq hq1 hw4 hw5 hJ
    go_wp2
    go_ret
    exact ⟨m, by rw [HN.out]; omega, HX.out, HF⟩
end Go.Proofs.Ytamgaklbkefejaa
