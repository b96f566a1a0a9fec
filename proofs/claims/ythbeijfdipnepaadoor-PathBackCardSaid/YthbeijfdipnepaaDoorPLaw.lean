/-
  Paths: SameTexts, OverTexts, awake.
-/
import Derived.Test.YthbeijfdipnepaaDoorPPar
namespace Go.Proofs.YthbeijfdipnepaaDoor
set_option linter.unusedSimpArgs false
set_option linter.unusedVariables false
open Go.RowKit Own RegJ
open Go.Lib hiding intOf

theorem num_is (e : Int) (w : World) : Calls Tryd.prog 12 #[.int .i64 e] w fun r w' => r = .returned (.int .i64 e) ∧ w = w' := by
  go_enter Tryd.func12, Tryd.ntmps12
  go_wp2
  go_ret
  exact ⟨rfl, rfl⟩
set_option maxRecDepth 100000 in
theorem sameT_is {w : World} {a1 a2 : Option Addr} {xs : List Txt} (n c1 c2 : Nat) (h1 : RdT w a1 xs) (h2 : RdT w a2 xs) (hn : xs.length = n) (hm : n ≤ 100000) :
    Calls Tryd.prog 11 #[.slice a1 n c1, .slice a2 n c2] w (ValB (.bool true) w) := by
  have HR := Lib.hid (And.intro h1 (And.intro h2 hn))
  clear h1 h2 hn
  go_enter Tryd.func11, Tryd.ntmps11
  go_wp2_with (fail)
  go_loopw [5] (fun ix wr => ∃ i q : Nat, i ≤ n ∧ ix = .int .i64 i ∧ wr = w.drewN q) (fun ix _ => n - (intOf ix).toNat)
  case atStart => exact ⟨0, 0, Nat.zero_le _, rfl, rfl⟩
  case round =>
    obtain ⟨i, q, hi, rfl, rfl⟩ := hrel
    by_cases hil : i < n
    · obtain ⟨x, hx⟩ : ∃ x, xs[i]? = some x := ⟨xs[i]'(by rw [HR.out.2.2]; exact hil), List.getElem?_eq_getElem _⟩
      obtain ⟨g, o, rfl, k0⟩ := HR.out.1 i x hx
      obtain ⟨g2, o2, rfl, k1⟩ := HR.out.2.1 i x hx
      clear hx
      have d1 : decide ((i : Int) < (n : Int)) = true := by simp; omega
      have i1 : (i : Int) < (n : Int) := by omega
      have i2 : (0 : Int) ≤ i := by omega
      generalize B x = s at *
      go_wp2_with (fail)
      go_quiet (fail)
      go_wp2_with (fail)
      go_roundw
      case rel => exact ⟨i + 1, q + nq, by omega, by go_num, by first | rfl | rw [World.drewN_drewN]⟩
      case measure => simp [intOf]; omega
    · have d1 : decide ((i : Int) < (n : Int)) = false := by simp; omega
      have d2 : decide (i < n) = false := by simp; omega
      clear hil hi
      go_wp2_with (fail)
      go_ret
      exact ⟨rfl, below_dn (Below.refl _ _) q⟩
theorem txts_set {w : World} {g : Nat} {xs : List Txt} {rest : List Value} (hB : Blk w g (tcells xs ++ rest).toArray 9) (k : Nat) (hk : k < xs.length) (y : Txt) : Blk (w.setCell ⟨g, k, none⟩ (.string (B y))) g (tcells (xs.set k y) ++ rest).toArray 9 := by
  refine Blk.of (hB.set k (.string (B y))) ?_
  simp only [List.setIfInBounds_toArray]
  congr 1
  rw [List.set_append_left _ _ (by simpa using hk)]
  simp
theorem txts_cell {w : World} {g : Nat} {xs : List Txt} {rest : List Value} (hB : Blk w g (tcells xs ++ rest).toArray 9) (k : Nat) (hk : k < xs.length) : ∃ y, w.cell? ⟨g, k, none⟩ = some (.string (B y)) := by
  refine ⟨xs[k], ?_⟩
  rw [hB.rd, List.getElem?_toArray, List.getElem?_append_left (by simpa using hk), List.getElem?_map, List.getElem?_eq_getElem hk]
  rfl
abbrev overT : Txt := [111, 118, 101, 114]
def OverP (b : Option Nat) (w : World) (e : Ending) (w' : World) : Prop := (∃ v, e = .returned v) ∧ Upd (fun k => b = some k) w w'
set_option maxRecDepth 100000 in
theorem overT_is {w : World} {a : Option Addr} {n c : Nat} {xs : List Txt} {b : Option Nat} (h : Txts w (.slice a n c) xs b) (hlen : xs.length ≤ 1000) :
    Calls Tryd.prog 15 #[.slice a n c] w (OverP b w) := by
  rcases h with ⟨hv, rfl, rfl⟩ | ⟨g, cap, rest, hv, rfl, hB, hc, hm⟩
  · cases hv
    go_enter Tryd.func15, Tryd.ntmps15
    go_wp2
    go_loopw [2] (fun ix wr => ix = .int .i64 0 ∧ wr = w) (fun ix _ => 0)
    case atStart => exact ⟨rfl, rfl⟩
    case round =>
      obtain ⟨rfl, rfl⟩ := hrel
      have HI := Lib.hid (show Txts wr (.slice none 0 0) [] none from Or.inl ⟨rfl, rfl, rfl⟩)
      go_wp2_with (at_builtin; refine wp_appT rfl _ _ rfl _ [] none rfl (HI.out.upd ((Upd.refl (fun _ => False) wr).alloc _) (fun _ h => by cases h)) wr.heap.size overT rfl (Blk.cell (Blk.new _ _ _) rfl) (by simp) ?_; intro v' w1 b' _ _ hu1)
      go_returns
      exact ⟨⟨_, rfl⟩, (((Upd.refl (fun k => none = some k) wr).alloc _).trans hu1 (fun _ _ h => h))⟩
  · simp only [Value.slice.injEq] at hv
    obtain ⟨rfl, hnl, rfl⟩ := hv
    have HB0 := Lib.hid (And.intro hnl (And.intro hB hc))
    have hgs := hB.lt
    clear hB hc
    rw [← hnl] at hlen
    clear hnl
    go_enter Tryd.func15, Tryd.ntmps15
    go_wp2
    go_loopw [2] (fun ix wr => ∃ (k : Nat) (ys : List Txt), k ≤ n ∧ ix = .int .i64 k ∧ ys.length = n ∧ Blk wr g (tcells ys ++ rest).toArray 9 ∧ Upd (fun j => some g = some j) w wr) (fun ix _ => n - (intOf ix).toNat)
    case atStart => exact ⟨0, xs, Nat.zero_le _, rfl, HB0.out.1.symm, HB0.out.2.1, Upd.refl _ _⟩
    case round =>
      obtain ⟨k, ys, hk, rfl, hyl, hB, hu⟩ := hrel
      have HY := Lib.hid (And.intro hyl hu)
      by_cases hkl : k < n
      · have d1 : decide ((k : Int) < (n : Int)) = true := by simp; omega
        have i1 : (k : Int) < (n : Int) := by omega
        obtain ⟨y0, c1⟩ := txts_cell hB k (by omega)
        have nf := hB.nf
        have HB := Lib.hid hB
        clear hB hyl hu
        go_wp2
        go_roundw
        case rel => exact ⟨k + 1, ys.set k overT, by omega, by go_num, by simp [HY.out.1], txts_set HB.out k (by rw [HY.out.1]; omega) _, HY.out.2.setCell (p := ⟨g, k, none⟩) (fun _ => rfl) _⟩
        case measure => simp [intOf]; omega
      · have hkL : k = n := by omega
        subst hkL
        have d1 : decide ((k : Int) < (k : Int)) = false := by simp
        have hI : Txts wr (.slice (some ⟨g, 0, none⟩) k c) ys (some g) := Or.inr ⟨g, c, rest, by rw [hyl], rfl, hB, by rw [HB0.out.2.2]; simp [hyl, HB0.out.1], hm⟩
        have HI := Lib.hid hI
        have HK := Lib.hid hyl
        clear hI hB hyl hu
        go_wp2_with (at_builtin; refine wp_appT rfl _ _ rfl _ ys (some g) rfl (HI.out.upd ((Upd.refl (fun _ => False) wr).alloc _) (fun _ _ h => h)) wr.heap.size overT rfl (Blk.cell (Blk.new _ _ _) rfl) (by rw [HK.out]; omega) ?_; intro v' w1 b' _ _ hu1)
        go_returns
        exact ⟨⟨_, rfl⟩, ((HY.out.2.alloc _).trans hu1 (fun _ _ h => h))⟩
/-! ### awake -/
theorem max_below {w w' : World} {m : Int} (hB : Below w.heap.size w w') (hm : w.cell? ⟨0, 0, none⟩ = some (.int .i64 m)) : w'.cell? ⟨0, 0, none⟩ = some (.int .i64 m) := (hB.cell (cell_lt' hm)).trans hm
theorem aw1 : splitE [47, 97, 47, 98, 99] = 0 ∧ splitL [47, 97, 47, 98, 99] = [[97], [98, 99]] ∧ splitE [47, 97, 47, 47, 98] = 9 ∧ parE [47, 97, 47, 98, 99] = 0 ∧ parD [47, 97, 47, 98, 99] = [47, 97] ∧ parN [47, 97, 47, 98, 99] = [98, 99] := by decide
theorem rd_two (w : World) : RdT (w.alloc (.cells #[.string (B [97]), .string (B [98, 99])] 9)) (some ⟨w.heap.size, 0, none⟩) (splitL [47, 97, 47, 98, 99]) := by
  rw [aw1.2.1]
  exact (Txts.new (w := w) (xs := [[97], [98, 99]]) (by simp) (by simp)).rd
set_option maxRecDepth 100000 in
theorem awake_any (w : World) (m : Int) (hm : w.cell? ⟨0, 0, none⟩ = some (.int .i64 m)) : Calls Tryd.prog 6 #[] w (ValB (.bool true) w) := by
  have hs1 := split_is [47, 97, 47, 98, 99] w (by simp) m hm
  have HM := Lib.hid hm
  clear hm
  go_enter Tryd.func6, Tryd.ntmps6
  go_wp2_with (first
    | (go_at_call 7; refine hs1.mono ?_; intro e w1 hq; obtain ⟨a, c, b, rfl, hT, hb, hB⟩ := hq.at (n := 2) (by rw [aw1.2.1]; rfl) aw1.1; clear hq hs1; have hs2 := split_is [47, 97, 47, 47, 98] w1 (by simp) m (max_below hB HM.out); have H1 := Lib.hid (And.intro hT hB); clear hT hb hB)
    | (go_at_call 7; refine hs2.mono ?_; intro e w2 hq; obtain ⟨a2, c2, b2, rfl, hT, hb, hB⟩ := hq.at (n := 0) (by rw [splitL_bad (by rw [aw1.2.2.1]; decide)]; rfl) aw1.2.2.1; clear hq hs2; have H2 := Lib.hid (H1.out.2.trans (hB.mono H1.out.2.size)); have hp := par_is [47, 97, 47, 98, 99] w2 (by simp) m (max_below H2.out HM.out); unfold ParV at hp; rw [aw1.2.2.2.1, aw1.2.2.2.2.1, aw1.2.2.2.2.2] at hp; have H3 := Lib.hid (H1.out.1.below hB); clear hT hb hB)
    | (go_at_call 9; (with_reducible refine hp.mono ?_); rintro e w3 ⟨rfl, hB⟩; clear hp; have H4 := Lib.hid hB; clear hB)
    | (go_at_call 11; refine (sameT_is 2 c 2 (((H3.out.below H4.out).below ((Below.refl _ _).alloc (Nat.le_refl _) _)).rd) (rd_two w3) (by rw [aw1.2.1]; rfl) (by omega)).mono ?_; rintro e w4 ⟨rfl, hB⟩))
  go_ret
  refine ⟨rfl, ?_⟩
  have h1 := H2.out.trans (H4.out.mono H2.out.size)
  have h2 := h1.alloc h1.size (.cells #[.string (B [97]), .string (B [98, 99])] 9)
  exact h2.trans (hB.mono h2.size)
end Go.Proofs.YthbeijfdipnepaaDoor
