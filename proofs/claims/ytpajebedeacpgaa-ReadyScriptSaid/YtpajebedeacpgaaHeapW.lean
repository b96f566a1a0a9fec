/-
  container/heap's up and down over items, as they lie in memory.
-/
import Derived.Test.YtpajebedeacpgaaHeapL
namespace Go.Proofs.Ytpajebedeacpgaa
set_option linter.unusedSimpArgs false
set_option linter.unusedVariables false
open Go.RowKit Go.Lib Own RegJ

abbrev PV (bh : Nat) : Value := .pointer (some ⟨bh, 0, none⟩)
theorem m_less (bh : Nat) (v : Value) (w : World) (h : w.cell? ⟨bh, 0, none⟩ = some v) : (method 250 89 (.pointer (some ⟨bh, 0, none⟩)) "Less").run Try.prog w = .ok (114, v) w := by
  have e1 : (method 250 89 (.pointer (some ⟨bh, 0, none⟩)) "Less").run Try.prog w = (do let a ← receiverAt 89 (.val (.pointer (some ⟨bh, 0, none⟩))) false (some "Less"); pure (114, a) : Sem (FuncId × Value)).run Try.prog w := by kernel_rfl
  have e2 : (receiverAt 89 (.val (.pointer (some ⟨bh, 0, none⟩))) false (some "Less")).run Try.prog w = (loadVar 81 ⟨bh, 0, none⟩).run Try.prog w := by kernel_rfl
  rw [e1]
  simp [go_sem, e2, h]
theorem m_swap (bh : Nat) (v : Value) (w : World) (h : w.cell? ⟨bh, 0, none⟩ = some v) : (method 250 89 (.pointer (some ⟨bh, 0, none⟩)) "Swap").run Try.prog w = .ok (115, v) w := by
  have e1 : (method 250 89 (.pointer (some ⟨bh, 0, none⟩)) "Swap").run Try.prog w = (do let a ← receiverAt 89 (.val (.pointer (some ⟨bh, 0, none⟩))) false (some "Swap"); pure (115, a) : Sem (FuncId × Value)).run Try.prog w := by kernel_rfl
  have e2 : (receiverAt 89 (.val (.pointer (some ⟨bh, 0, none⟩))) false (some "Swap")).run Try.prog w = (loadVar 81 ⟨bh, 0, none⟩).run Try.prog w := by kernel_rfl
  rw [e1]
  simp [go_sem, e2, h]
theorem m_len (bh : Nat) (v : Value) (w : World) (h : w.cell? ⟨bh, 0, none⟩ = some v) : (method 250 89 (.pointer (some ⟨bh, 0, none⟩)) "Len").run Try.prog w = .ok (113, v) w := by
  have e1 : (method 250 89 (.pointer (some ⟨bh, 0, none⟩)) "Len").run Try.prog w = (do let a ← receiverAt 89 (.val (.pointer (some ⟨bh, 0, none⟩))) false (some "Len"); pure (113, a) : Sem (FuncId × Value)).run Try.prog w := by kernel_rfl
  have e2 : (receiverAt 89 (.val (.pointer (some ⟨bh, 0, none⟩))) false (some "Len")).run Try.prog w = (loadVar 81 ⟨bh, 0, none⟩).run Try.prog w := by kernel_rfl
  rw [e1]
  simp [go_sem, e2, h]
theorem m_push (v : Value) (w : World) : (method 250 89 v "Push").run Try.prog w = .ok (117, v) w := by kernel_rfl
theorem m_pop (v : Value) (w : World) : (method 250 89 v "Pop").run Try.prog w = .ok (116, v) w := by kernel_rfl

/-- N items in block g, told in block bh -/
structure HS (w : World) (bh g cap N : Nat) (xs : List It) (rest : List Value) : Prop where
  hb : Blk w bh #[.slice (some ⟨g, 0, none⟩) N cap] 83
  hg : Blk w g (pcells xs ++ rest).toArray 72
  ne : g ≠ bh
  len : xs.length = N
  max : N ≤ 4000
section
variable {w w' : World} {bh g cap N : Nat} {xs : List It} {rest : List Value}
theorem HS.below (h : HS w bh g cap N xs rest) (hb : Below w.heap.size w w') : HS w' bh g cap N xs rest :=
  ⟨Blk.upd (Upd.of_below (F := fun _ => False) hb) h.hb (fun h => h), Blk.upd (Upd.of_below (F := fun _ => False) hb) h.hg (fun h => h), h.ne, h.len, h.max⟩
def LessP (b : Bool) (w : World) (e : Ending) (w' : World) : Prop := e = .returned (.bool b) ∧ Below w.heap.size w w'
theorem less_hs (h : HS w bh g cap N xs rest) (i k : Nat) (I K : Int) (hI : I = i) (hK : K = k) (hi : i < N) (hk : k < N) (b : Bool) (hb : decide (lt (X xs i) (X xs k)) = b) :
    Calls Try.prog 114 #[.slice (some ⟨g, 0, none⟩) N cap, .int .i64 I, .int .i64 K] w (LessP b w) := by
  subst hI hK
  obtain ⟨c1, c2⟩ := blk_its h.hg i (by rw [h.len]; exact hi)
  obtain ⟨c3, c4⟩ := blk_its h.hg k (by rw [h.len]; exact hk)
  have hm := h.max
  refine (less_raw g N cap i k _ _ _ _ w (by unfold maxLen; omega) hi hk c1 c2 c3 c4).mono ?_
  rintro e w' ⟨rfl, hB⟩
  exact ⟨by subst hb; rfl, hB⟩
def SwP (bh g cap N : Nat) (xs : List It) (rest : List Value) (w : World) (e : Ending) (w' : World) : Prop := (∃ v, e = .returned v) ∧ HS w' bh g cap N xs rest ∧ Upd (fun k => k = g) w w'
theorem swap_hs (h : HS w bh g cap N xs rest) (i k : Nat) (I K : Int) (hI : I = i) (hK : K = k) (hi : i < N) (hk : k < N) :
    Calls Try.prog 115 #[.slice (some ⟨g, 0, none⟩) N cap, .int .i64 I, .int .i64 K] w (SwP bh g cap N (swapL xs i k) rest w) := by
  subst hI hK
  obtain ⟨c1, c2⟩ := blk_its h.hg i (by rw [h.len]; exact hi)
  obtain ⟨c3, c4⟩ := blk_its h.hg k (by rw [h.len]; exact hk)
  have hm := h.max
  refine (swap_raw g N cap i k _ _ _ _ w (by unfold maxLen; omega) hi hk h.hg.nf c1 c2 c3 c4).mono ?_
  rintro e w' ⟨⟨v, rfl⟩, q, rfl⟩
  have hu : Upd (fun k => k = g) w (((((w.setCell ⟨g, i * 2, none⟩ (.int .i64 (xs.getD k (0, 0)).1)).setCell ⟨g, i * 2 + 1, none⟩ (.int .i64 (xs.getD k (0, 0)).2)).setCell ⟨g, k * 2, none⟩ (.int .i64 (xs.getD i (0, 0)).1)).setCell ⟨g, k * 2 + 1, none⟩ (.int .i64 (xs.getD i (0, 0)).2)).drewN q) :=
    ((((((Upd.refl (fun k => k = g) w).setCell (p := ⟨g, i * 2, none⟩) (fun _ => rfl) _).setCell (p := ⟨g, i * 2 + 1, none⟩) (fun _ => rfl) _).setCell (p := ⟨g, k * 2, none⟩) (fun _ => rfl) _).setCell (p := ⟨g, k * 2 + 1, none⟩) (fun _ => rfl) _).drewN q)
  refine ⟨⟨v, rfl⟩, ⟨Blk.upd hu h.hb (fun e => h.ne e.symm), ?_, h.ne, by rw [swapL_len]; exact h.len, h.max⟩, hu⟩
  have h1 := blk_set h.hg i (by rw [h.len]; exact hi) (X xs k)
  have h2 := blk_set h1 k (by simp; rw [h.len]; exact hk) (X xs i)
  exact h2.drewN q
theorem len_hs (v : Value) (a : Option Addr) (n c : Nat) (w : World) : Calls Try.prog 113 #[.slice a n c] w fun e w' => e = .returned (.int .i64 n) ∧ w = w' := by
  go_enter Try.func113, Try.ntmps113
  go_wp2
  go_ret
  exact ⟨rfl, rfl⟩
end
theorem half (j : Nat) (hj : 1 ≤ j) : ((j : Int) - 1) / 2 = (((j - 1) / 2 : Nat) : Int) ∧ (((j : Int) - 1) / 2 == (j : Int)) = false := by
  refine ⟨by omega, by simp; omega⟩
def UpP (n : Nat) (xs : List It) (w : World) (bh g cap N : Nat) (rest : List Value) (e : Ending) (w' : World) : Prop := (∃ v, e = .returned v) ∧ ∃ ys, ys.Perm xs ∧ ys.drop n = xs.drop n ∧ HeapOk ys n ∧ HS w' bh g cap N ys rest ∧ Upd (fun k => k = g) w w'
set_option maxRecDepth 100000 in
set_option maxHeartbeats 1000000 in
theorem up_is {w : World} {bh g cap N : Nat} {xs : List It} {rest : List Value} (h : HS w bh g cap N xs rest) (n j : Nat) (hn : n ≤ N) (hj : j < n) (ho : OkUp xs n j) :
    Calls Try.prog 68 #[.iface 89 (.pointer (some ⟨bh, 0, none⟩)), .int .i64 j] w (UpP n xs w bh g cap N rest) := by
  have hm1 := m_less bh (.slice (some ⟨g, 0, none⟩) N cap)
  have hm2 := m_swap bh (.slice (some ⟨g, 0, none⟩) N cap)
  have hmax := h.max
  have H := Lib.hid (And.intro h ho)
  clear h ho
  go_enter Try.func68, Try.ntmps68
  go_wp2
  go_loopw [1] (fun jx wr => ∃ (j : Nat) (ys : List It), jx = .int .i64 j ∧ j < n ∧ ys.Perm xs ∧ ys.drop n = xs.drop n ∧ OkUp ys n j ∧ HS wr bh g cap N ys rest ∧ Upd (fun k => k = g) w wr) (fun jx _ => (intOf jx).toNat)
  case atStart => exact ⟨j, xs, rfl, hj, List.Perm.refl _, rfl, H.out.2, H.out.1, Upd.refl _ _⟩
  case round =>
    obtain ⟨i, ys, rfl, hin, hp, hd, ho, hs, hu⟩ := hrel
    have c1 := hs.hb.rd
    have HY := Lib.hid (And.intro hp (And.intro hd (And.intro ho (And.intro hs hu))))
    clear hp hd ho hu
    by_cases h0 : i = 0
    · subst h0
      clear hs
      go_wp2
      go_returns
      exact ⟨⟨_, rfl⟩, ys, HY.out.1, HY.out.2.1, up_stop HY.out.2.2.1 (Or.inl rfl), HY.out.2.2.2.1, HY.out.2.2.2.2⟩
    · obtain ⟨q2, q3⟩ := half i (by omega)
      have hp1 : (i - 1) / 2 < N := by omega
      have hi1 : i < N := by omega
      generalize hpp : (i - 1) / 2 = p at q2 hp1
      have Q2 := Lib.hid q2
      clear q2
      have HQ := Lib.hid hpp
      clear hpp
      by_cases hl : lt (X ys i) (X ys p)
      · have hc := less_hs hs i p _ _ rfl Q2.out hi1 hp1 true (by simpa using hl)
        have HL := Lib.hid hl
        clear hl hs
        go_wp2_with (first
          | (go_at_call 114; (with_reducible refine hc.mono ?_); rintro e w1 ⟨rfl, hb1⟩; clear hc; have hs1 := HY.out.2.2.2.1.below hb1; have c1 := hs1.hb.rd; have hsw := swap_hs hs1 p i _ _ Q2.out rfl hp1 hi1; clear hs1)
          | (go_at_call 115; (with_reducible refine hsw.mono ?_); rintro e w2 ⟨⟨v, rfl⟩, hs2, hu2⟩; clear hsw; have HS2 := Lib.hid (And.intro hs2 hu2); clear hs2 hu2))
        go_roundw
        case rel => exact ⟨p, swapL ys p i, by rw [Q2.out], by have := HQ.out; omega, (swapL_perm ys p i (by rw [HY.out.2.2.2.1.len]; exact hp1) (by rw [HY.out.2.2.2.1.len]; exact hi1)).trans HY.out.1, by rw [swapL_drop ys p i n (by have := HQ.out; omega) hin]; exact HY.out.2.1, by have := up_step HY.out.2.2.1 (by rw [HY.out.2.2.2.1.len]; exact hn) (by omega) hin (by rw [HQ.out]; exact HL.out); rw [HQ.out] at this; exact this, HS2.out.1, (HY.out.2.2.2.2.trans ((Upd.of_below hb1).trans HS2.out.2 (fun _ _ h => h)) (fun _ _ h => h))⟩
        case measure => have := HQ.out; have := Q2.out; simp [intOf]; omega
      · have hc := less_hs hs i p _ _ rfl Q2.out hi1 hp1 false (by simpa using hl)
        have HL := Lib.hid hl
        clear hl hs
        go_wp2_with (go_at_call 114; (with_reducible refine hc.mono ?_); rintro e w1 ⟨rfl, hb1⟩; clear hc)
        go_returns
        exact ⟨⟨_, rfl⟩, ys, HY.out.1, HY.out.2.1, up_stop HY.out.2.2.1 (Or.inr (by rw [HQ.out]; exact HL.out)), HY.out.2.2.2.1.below hb1, HY.out.2.2.2.2.trans (Upd.of_below (F := fun _ => False) hb1) (fun _ _ h => h.elim)⟩
end Go.Proofs.Ytpajebedeacpgaa
