/-
  The members of a set in a word, falling; rows of integers in the making.
-/
import Derived.Test.YtpajebedeacpgaaWord
import Derived.Test.YtpajebedeacpgaaApps
namespace Go.Proofs.Ytpajebedeacpgaa
set_option linter.unusedSimpArgs false
set_option linter.unusedVariables false
open Go.RowKit Own RegJ

theorem infoInt : (Try.prog.info? 3).map (fun i => (i.zero, i.size, i.bytes)) = some (some (.int .i64 0), 1, 8) := by kernel_rfl
/-- a row of integers of the call's own, in the making -/
def IQ (w wr : World) (v : Value) (l : List Int) : Prop := ∃ b, Ints wr 3 v l b ∧ (∀ g, b = some g → w.heap.size ≤ g) ∧ Below w.heap.size w wr
theorem IQ.nil (w : World) : IQ w w (.slice none 0 0) [] := ⟨none, Or.inl ⟨rfl, rfl, rfl⟩, (fun g hg => by cases hg), Below.refl _ _⟩
theorem IQ.slice {w wr : World} {v : Value} {l : List Int} (h : IQ w wr v l) : ∃ a c, v = .slice a l.length c := by
  obtain ⟨b, h, _⟩ := h
  rcases h with ⟨rfl, rfl, _⟩ | ⟨g, cap, rest, rfl, _⟩
  · exact ⟨_, _, rfl⟩
  · exact ⟨_, _, rfl⟩
theorem IQ.below {w wr w' : World} {v : Value} {l : List Int} (h : IQ w wr v l) (hB : Below wr.heap.size wr w') : IQ w w' v l := by
  obtain ⟨b, h1, h2, h3⟩ := h
  exact ⟨b, h1.upd (Upd.of_below (F := fun _ => False) hB) (fun _ _ h => h), h2, h3.trans (hB.mono h3.size)⟩
theorem add0' (g : Nat) (j : Nat) : (⟨g, 0, none⟩ : Addr).add j = ⟨g, j, none⟩ := by
  unfold Addr.add; by_cases h0 : j = 0
  · subst h0; rfl
  · rw [if_neg h0]; simp
/-- one more, out of a block just made -/
theorem wp_one {ops : Array Oper} {rest : List Oper} {o : Oper} {a : Act} {Q : Exit → Act → World → Prop} {w0 wr : World} (hgd : o.guard = none) (s x : Operand)
    (ho : o.op = .call { callee := .builtin .append, args := #[s, x], argTypes := #[39, 39] }) (v : Value) (l : List Int) (y : Int) (hq : IQ w0 wr v l) (hl : l.length ≤ 2000)
    (hs : a.eval s = v) (hx : a.eval x = .slice (some ⟨wr.heap.size, 0, none⟩) 1 1) (h : ∀ v' w', IQ w0 w' v' (l ++ [y]) → wpList Try.prog ops Q rest (a.put o.dst v') w') :
    wpList Try.prog ops Q (o :: rest) a (wr.alloc (.cells #[.int .i64 y] 3)) := by
  obtain ⟨b, hr, hb, hB⟩ := hq
  refine wp_apps hgd s x 39 3 _ 8 infoInt rfl (by decide) Try.underlying39 ho v l b hs (hr.upd ((Upd.refl (fun _ => False) wr).alloc _) (fun _ _ h => h)) (some ⟨wr.heap.size, 0, none⟩) 1 1 [y] rfl hx (fun _ => ⟨_, rfl, ?_⟩) (by rw [List.length_cons, List.length_nil]; omega) ?_
  · intro j u hj
    rw [add0', (Blk.new wr #[.int .i64 y] 3).rd]
    exact List.getElem?_toArray.trans hj
  · intro v' w' b' hr' hb' hu'
    have hz := hB.size
    refine h v' w' ⟨b', hr', fun g hg => ?_, ?_⟩
    · rcases hb' g hg with h1 | h1
      · exact hb g h1
      · have : wr.heap.size ≤ g := by simp at h1; omega
        omega
    · have hBa := hB.alloc hB.size (.cells #[.int .i64 y] 3)
      exact hBa.trans (hu'.below hBa.size hb)
/-- another row's, behind one of the call's own -/
theorem wp_row {ops : Array Oper} {rest : List Oper} {o : Oper} {a : Act} {Q : Exit → Act → World → Prop} {w0 wr : World} (hgd : o.guard = none) (s x : Operand)
    (ho : o.op = .call { callee := .builtin .append, args := #[s, x], argTypes := #[39, 39] }) (v : Value) (l : List Int) (hq : IQ w0 wr v l) (v2 : Value) (ys : List Int) (b2 : Option Nat) (hy : Ints wr 3 v2 ys b2) (hl : l.length + ys.length ≤ 3000)
    (hs : a.eval s = v) (hx : a.eval x = v2) (h : ∀ v' w', IQ w0 w' v' (l ++ ys) → wpList Try.prog ops Q rest (a.put o.dst v') w') :
    wpList Try.prog ops Q (o :: rest) a wr := by
  obtain ⟨b, hr, hb, hB⟩ := hq
  obtain ⟨ad, c, hv2, hnw⟩ : ∃ ad c, v2 = .slice ad ys.length c ∧ (0 < ys.length → ∃ A, ad = some A ∧ ∀ (j : Nat) (u : Value), (icells ys)[j]? = some u → wr.cell? (A.add j) = some u) := by
    rcases hy with ⟨rfl, rfl, _⟩ | ⟨g, cap, rst, rfl, _, hBg, _⟩
    · exact ⟨none, 0, rfl, fun h => by simp at h⟩
    · refine ⟨some ⟨g, 0, none⟩, cap, rfl, fun _ => ⟨_, rfl, fun j u hj => ?_⟩⟩
      have hjl : j < (icells ys).length := (List.getElem?_eq_some_iff.1 hj).1
      rw [add0', hBg.rd, List.getElem?_toArray, List.getElem?_append_left hjl]
      exact hj
  refine wp_apps hgd s x 39 3 _ 8 infoInt rfl (by decide) Try.underlying39 ho v l b hs hr ad ys.length c ys rfl (hx.trans hv2) hnw hl ?_
  intro v' w' b' hr' hb' hu'
  have hz := hB.size
  refine h v' w' ⟨b', hr', fun g hg => ?_, hB.trans (hu'.below hB.size hb)⟩
  rcases hb' g hg with h1 | h1
  · exact hb g h1
  · omega
def lvI (l : List Nat) : List Int := l.map fun (x : Nat) => (x : Int)
def AllW (f : Nat → Bool) (w : World) (e : Ending) (w' : World) : Prop := ∃ v, e = .returned v ∧ IQ w w' v (lvI (levF f 64))
set_option maxRecDepth 100000 in
theorem wall_is (m : Nat) (f : Nat → Bool) (h : WD m f) (w : World) :
    Calls Try.prog 49 #[.int .u64 m] w (AllW f w) := by
  have H := Lib.hid h
  have ht := top_is m h.1
  clear h
  obtain ⟨L, hL⟩ : ∃ L, Lib.bitLen m = L := ⟨_, rfl⟩
  rw [hL] at ht
  have HL := Lib.hid hL
  clear hL
  go_enter Try.func49, Try.ntmps49
  go_wp2_with (go_at_call 36; refine (ht _).mono ?_; rintro e w' ⟨rfl, rfl⟩)
  clear ht
  go_loopw [0, 3, 4] (fun v0 v3 v4 wr => ∃ (m' : Nat) (f' : Nat → Bool) (l : List Nat) (L' : Nat), v0 = .int .u64 m' ∧ v4 = .int .i64 ((L' : Int) - 1) ∧ Hid (WD m' f' ∧ Lib.bitLen m' = L' ∧ IQ w wr v3 (lvI l) ∧ l ++ levF f' 64 = levF f 64)) (fun _ _ v4 _ => (intOf v4 + 1).toNat)
  case atStart => exact ⟨m, f, [], L, rfl, rfl, Lib.hid ⟨H.out, HL.out, IQ.nil w, rfl⟩⟩
  case round =>
    obtain ⟨m', f', l, L', rfl, rfl, HJ⟩ := hrel
    by_cases hm0 : m' = 0
    · have hL0 : L' = 0 := by have := HJ.out.2.1; rw [hm0] at this; rw [← this]; rfl
      have d1 : decide ((L' : Int) - 1 ≥ 0) = false := by simp; omega
      have d1n : decide (1 ≤ L') = false := by simp; omega
      have d1i : decide ((1 : Int) ≤ L') = false := by simp; omega
      have HF : Hid (levF f' 64 = []) := Lib.hid (levF_none 64 (fun j hj => by rw [← HJ.out.1.2 j hj, hm0]; exact Nat.zero_testBit j))
      clear hm0 hL0
      go_wp2_with (fail)
      go_ret
      refine ⟨_, rfl, ?_⟩
      have := HJ.out.2.2.2
      rw [HF.out, List.append_nil] at this
      rw [← this]; exact HJ.out.2.2.1
    · obtain ⟨n, hn, hn64, hfn, hup⟩ := HJ.out.1.top hm0
      have hLn : L' = n + 1 := HJ.out.2.1.symm.trans hn
      subst hLn
      have e1 : ((n + 1 : Nat) : Int) - 1 = n := by omega
      rw [e1]
      have d1 : decide ((n : Int) ≥ 0) = true := by simp
      have hcl := wclr_is m' n HJ.out.1.1 hn64
      have hW2 := HJ.out.1.clr hn64
      have ht2 := top_is (wclr m' n) hW2.1
      have hlev : (l ++ [n]) ++ levF (fun j => if j = n then false else f' j) 64 = levF f 64 := by
        rw [List.append_assoc, List.singleton_append, ← levF_top hn64 hfn hup]; exact HJ.out.2.2.2
      have hlen : (lvI l).length ≤ 2000 := by
        have h1 := congrArg List.length HJ.out.2.2.2
        have h2 := levF_len (f := f) 64
        unfold lvI
        rw [List.length_map]
        rw [List.length_append] at h1; omega
      have hb2 : Lib.bitLen (wclr m' n) ≤ n := by
        by_cases h0 : wclr m' n = 0
        · rw [h0]; exact Nat.zero_le _
        · obtain ⟨n2, e2, h64, hf2, _⟩ := hW2.top h0
          rw [e2]
          by_cases en : n2 = n
          · subst en; simp at hf2
          · rw [if_neg en] at hf2
            rcases Nat.lt_or_ge n2 n with h | h
            · exact h
            · have := hup n2 (by omega) h64
              rw [this] at hf2; cases hf2
      obtain ⟨a2, q2, rfl⟩ := HJ.out.2.2.1.slice
      generalize hNL : (lvI l).length = NL at *
      have HNL := Lib.hid hNL
      clear hNL
      have HN := Lib.hid (And.intro hW2 (And.intro hlev hlen))
      clear hW2 hlev hlen hfn hup hm0 hn
      obtain ⟨M2, hM2⟩ : ∃ M2, wclr m' n = M2 := ⟨_, rfl⟩
      rw [hM2] at hcl ht2 hb2
      obtain ⟨L2, hL2⟩ : ∃ L2, Lib.bitLen M2 = L2 := ⟨_, rfl⟩
      rw [hL2] at ht2 hb2
      have HM := Lib.hid (And.intro hM2 hL2)
      clear hM2 hL2
      go_wp2_with (first
        | (at_builtin; refine wp_one rfl _ _ rfl _ _ (n : Int) HJ.out.2.2.1 (by rw [HNL.out]; exact HN.out.2.2) rfl rfl ?_; intro v2 w2 hq2; have HQ2 := Lib.hid hq2; clear hq2)
        | (go_at_call 46; (with_reducible refine (hcl _).mono ?_); rintro e w' ⟨rfl, rfl⟩)
        | (go_at_call 36; (with_reducible refine (ht2 _).mono ?_); rintro e w' ⟨rfl, rfl⟩))
      go_roundw
      case rel => exact ⟨M2, _, l ++ [n], L2, rfl, rfl, Lib.hid ⟨by rw [← HM.out.1]; exact HN.out.1, HM.out.2, by unfold lvI at *; rw [List.map_append]; exact HQ2.out, HN.out.2.1⟩⟩
      case measure => simp [intOf]; omega
end Go.Proofs.Ytpajebedeacpgaa
