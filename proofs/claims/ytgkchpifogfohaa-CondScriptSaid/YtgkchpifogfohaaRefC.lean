/-
  The document's conditions, as they lie in memory: New, Of, List.
-/
import Derived.Test.YtgkchpifogfohaaCondP
import Derived.Test.YtgkchpifogfohaaSame
namespace Go.Proofs.Ytgkchpifogfohaa
set_option linter.unusedSimpArgs false
set_option linter.unusedVariables false
open Go.RowKit Go.Lib Own Sl
open RegJ hiding Up
open RegF hiding put_size

/-- n conditions: the object (bc), its list of lists (bl), the rows -/
structure RR (w : World) (n bc bl : Nat) (vs : Nat → Value) (bs : Nat → Option Nat) (ls : Nat → List Int) : Prop where
  hc : Blk w bc #[.slice (some ⟨bl, 0, none⟩) n n] 61
  hl : Blk w bl ((List.range n).map vs).toArray 46
  ne : bc ≠ bl
  row : ∀ i, Ints w 3 (vs i) (ls i) (bs i)
  own : ∀ i g, bs i = some g → g ≠ bc ∧ g ≠ bl
  inj : ∀ i j g, bs i = some g → bs j = some g → i = j
  out : ∀ i, n ≤ i → ls i = []

theorem RR.lt {w : World} {n bc bl : Nat} {vs : Nat → Value} {bs : Nat → Option Nat} {ls : Nat → List Int} (h : RR w n bc bl vs bs ls) (k : Nat) (hk : CFoot bc bl bs k) : k < w.heap.size := by
  rcases hk with rfl | rfl | ⟨i, hi⟩
  · exact h.hc.lt
  · exact h.hl.lt
  · exact (h.row i).lt k hi
theorem RR.upd {w w' : World} {n bc bl : Nat} {vs : Nat → Value} {bs : Nat → Option Nat} {ls : Nat → List Int} {F : Nat → Prop} (h : RR w n bc bl vs bs ls) (hu : Upd F w w') (hf : ∀ k, CFoot bc bl bs k → ¬ F k) : RR w' n bc bl vs bs ls :=
  ⟨Blk.upd hu h.hc (hf _ (Or.inl rfl)), Blk.upd hu h.hl (hf _ (Or.inr (Or.inl rfl))), h.ne, fun i => (h.row i).upd hu (fun g hg => hf g (Or.inr (Or.inr ⟨i, hg⟩))), h.own, h.inj, h.out⟩
theorem RR.below {w w' : World} {n bc bl : Nat} {vs : Nat → Value} {bs : Nat → Option Nat} {ls : Nat → List Int} (h : RR w n bc bl vs bs ls) (hb : Below w.heap.size w w') : RR w' n bc bl vs bs ls :=
  h.upd (Upd.of_below (F := fun _ => False) hb) (fun _ _ hf => hf)
theorem RR.cell {w : World} {n bc bl : Nat} {vs : Nat → Value} {bs : Nat → Option Nat} {ls : Nat → List Int} (h : RR w n bc bl vs bs ls) (i : Nat) (hi : i < n) : w.cell? ⟨bl, i, none⟩ = some (vs i) := by
  rw [h.hl.rd]; simp [hi]

theorem RR.put {W w0 : World} {n bc bl : Nat} {vs : Nat → Value} {bs : Nat → Option Nat} {ls : Nat → List Int} (h : RR W n bc bl vs bs ls) {i : Nat} (hi : i < n) (hu : Upd (fun k => bs i = some k) W w0) {v : Value} {xs : List Int} {b' : Option Nat}
    (hv : Ints w0 3 v xs b') (hb' : ∀ g, b' = some g → bs i = some g ∨ W.heap.size ≤ g) :
    RR (w0.setCell ⟨bl, i, none⟩ v) n bc bl (put vs i v) (put bs i b') (put ls i xs) ∧ Upd (CFoot bc bl bs) W (w0.setCell ⟨bl, i, none⟩ v) ∧ ∀ k, CFoot bc bl (put bs i b') k → CFoot bc bl bs k ∨ W.heap.size ≤ k := by
  have hbc : Blk w0 bc _ _ := Blk.upd hu h.hc (fun e => (h.own i _ e).1 rfl)
  have hbl : Blk w0 bl _ _ := Blk.upd hu h.hl (fun e => (h.own i _ e).2 rfl)
  have hnew : ∀ g, b' = some g → g ≠ bc ∧ g ≠ bl := fun g hg => by
    rcases hb' g hg with h1 | h1
    · exact h.own i g h1
    · have h2 := h.hc.lt; have h3 := h.hl.lt; constructor <;> omega
  have hoth : ∀ j g, j ≠ i → bs j = some g → b' ≠ some g := fun j g hj hg hb => by
    rcases hb' g hb with h1 | h1
    · exact hj (h.inj j i g hg h1)
    · have := (h.row j).lt g hg; omega
  refine ⟨⟨hbc.set_ne h.ne _, ?_, h.ne, fun j => ?_, fun j g hg => ?_, fun j k g hj hk => ?_, fun j hj => ?_⟩, ?_, fun k hk => ?_⟩
  · exact Blk.of (hbl.set i v) (range_put vs n i v hi)
  · have keep : ∀ {E v' xs' b''}, Ints w0 E v' xs' b'' → (∀ g, b'' = some g → g ≠ bl) → Ints (w0.setCell ⟨bl, i, none⟩ v) E v' xs' b'' := fun hI hg => hI.keep (fun g hg' => Below.heap_setCell _ _ _ _ (hg g hg'))
    by_cases hj : j = i
    · subst hj
      rw [put_same, put_same, put_same]
      exact keep hv (fun g hg => (hnew g hg).2)
    · rw [put_ne _ _ hj, put_ne _ _ hj, put_ne _ _ hj]
      exact keep ((h.row j).upd hu (fun g hg e => hj (h.inj j i g hg e))) (fun g hg => (h.own j g hg).2)
  · by_cases hj : j = i
    · subst hj; rw [put_same] at hg; exact hnew g hg
    · rw [put_ne _ _ hj] at hg; exact h.own j g hg
  · by_cases hji : j = i
    · by_cases hki : k = i
      · omega
      · subst hji
        rw [put_same] at hj; rw [put_ne _ _ hki] at hk
        exact absurd hj (hoth k g hki hk)
    · by_cases hki : k = i
      · subst hki
        rw [put_same] at hk; rw [put_ne _ _ hji] at hj
        exact absurd hk (hoth j g hji hj)
      · rw [put_ne _ _ hji] at hj; rw [put_ne _ _ hki] at hk
        exact h.inj j k g hj hk
  · have : j ≠ i := by omega
    rw [put_ne _ _ this]; exact h.out j hj
  · exact Upd.setCell (F := CFoot bc bl bs) (p := ⟨bl, i, none⟩) (hu.mono fun k _ (hk : bs i = some k) => (Or.inr (Or.inr ⟨i, hk⟩) : CFoot bc bl bs k)) (fun _ => (Or.inr (Or.inl rfl) : CFoot bc bl bs bl)) v
  · rcases hk with rfl | rfl | ⟨j, hj⟩
    · exact Or.inl (Or.inl rfl)
    · exact Or.inl (Or.inr (Or.inl rfl))
    · by_cases hji : j = i
      · subst hji
        rw [put_same] at hj
        rcases hb' k hj with h1 | h1
        · exact Or.inl (Or.inr (Or.inr ⟨j, h1⟩))
        · exact Or.inr h1
      · rw [put_ne _ _ hji] at hj
        exact Or.inl (Or.inr (Or.inr ⟨j, hj⟩))

def TurnedR (W w' : World) (n br rl : Nat) (bs : Nat → Option Nat) (ls' : Nat → List Int) : Prop := ∃ vs' bs', RR w' n br rl vs' bs' ls' ∧ Upd (CFoot br rl bs) W w' ∧ ∀ k, CFoot br rl bs' k → CFoot br rl bs k ∨ W.heap.size ≤ k
/-- a row as the walk reads it -/
structure View (w : World) (bl i : Nat) (xs : List Int) (a : Option Addr) (c L : Nat) (X : Nat → Int) : Prop where
  cell : w.cell? ⟨bl, i, none⟩ = some (.slice a L c)
  max : L ≤ maxLen
  at' : ∀ j, j < L → ∃ g o, a = some ⟨g, o, none⟩ ∧ w.cell? ⟨g, o + j, none⟩ = some (.int .i64 (X j))
  is : xs = (List.range L).map X
theorem RR.view {w : World} {n bc bl : Nat} {vs : Nat → Value} {bs : Nat → Option Nat} {ls : Nat → List Int} (h : RR w n bc bl vs bs ls) (i : Nat) (hi : i < n) : ∃ a c L X, View w bl i (ls i) a c L X := by
  obtain ⟨a, c, hv, hm, hr⟩ := (h.row i).rdI
  refine ⟨a, c, (ls i).length, fun j => (ls i).getD j 0, by rw [h.cell i hi, hv], hm, hr, ?_⟩
  apply List.ext_getElem (by simp)
  intro j h1 h2
  simp [h1]
theorem View.mem {w : World} {bl i c L : Nat} {xs : List Int} {a : Option Addr} {X : Nat → Int} (h : View w bl i xs a c L X) (t : Int) : t ∈ xs ↔ ∃ j, j < L ∧ X j = t := by
  rw [h.is]; simp
theorem View.len {w : World} {bl i c L : Nat} {xs : List Int} {a : Option Addr} {X : Nat → Int} (h : View w bl i xs a c L X) : xs.length = L := by
  rw [h.is]; simp

def NewPostR (n : Nat) (w : World) (e : Ending) (w' : World) : Prop := ∃ br rl, e = .returned (.tuple #[.pointer (some ⟨br, 0, none⟩), .int .i64 0]) ∧ RR w' n br rl (fun _ => .slice none 0 0) (fun _ => none) (fun _ => []) ∧ w.heap.size ≤ br ∧ w.heap.size ≤ rl ∧ Below w.heap.size w w'
theorem rnew_any (n : Nat) (h1 : 1 ≤ n) (h2 : n ≤ 4) (w : World) :
    Calls Try.prog 13 #[.int .i64 n] w (NewPostR n w) := by
  have hmk := fun w => made_rows w n (by omega)
  have i1 : ¬ (n : Int) < 1 := by omega
  have i2 : ¬ 4 < (n : Int) := by omega
  go_enter Try.func13, Try.ntmps13
  go_wp2
  go_ret2
  refine ⟨w.heap.size + 1, w.heap.size, rfl, ⟨Blk.new' (by simp), (Blk.new _ _ _).alloc _, by omega, fun i => Or.inl ⟨rfl, rfl, rfl⟩, fun i g hg => (by cases hg), fun i j g hg => (by cases hg), fun i _ => rfl⟩, by omega, by omega, ((Below.refl _ _).alloc (Nat.le_refl _) _).alloc (by simp) _⟩
theorem rnew_no (n : Int) (h : n < 1 ∨ 4 < n) (w : World) :
    Calls Try.prog 13 #[.int .i64 n] w fun e w' => e = .returned (.tuple #[.pointer none, .int .i64 2]) ∧ w = w' := by
  by_cases h0 : n < 1
  · clear h
    go_enter Try.func13, Try.ntmps13
    go_wp2
    go_ret2
    exact ⟨rfl, rfl⟩
  · have h1 : 4 < n := by omega
    clear h
    go_enter Try.func13, Try.ntmps13
    go_wp2
    go_ret2
    exact ⟨rfl, rfl⟩

set_option maxRecDepth 100000 in
theorem rof_is {w : World} {n bc bl : Nat} {vs : Nat → Value} {bs : Nat → Option Nat} {ls : Nat → List Int} (h : RR w n bc bl vs bs ls) (hn : n ≤ 64) (t v : Int) (hv : ofF n ls t = v) :
    Calls Try.prog 22 #[.pointer (some ⟨bc, 0, none⟩), .int .i64 t] w fun e w' => e = .returned (.int .i64 v) ∧ w = w' := by
  have c1 := h.hc.rd
  have hvw := h.view
  have hv := Lib.hid hv
  clear h
  go_enter Try.func22, Try.ntmps22
  go_wp2
  go_loop [5, 6] (fun ix _ => ∃ i : Nat, i ≤ n ∧ ix = .int .i64 i ∧ ∀ j, j < i → t ∉ ls j) (fun ix _ => n - (intOf ix).toNat)
  case atStart => exact ⟨0, Nat.zero_le _, rfl, fun j hj => by omega⟩
  case round =>
    obtain ⟨i, hi, rfl, hno⟩ := hrel
    by_cases hin : i < n
    · obtain ⟨a, c, L, X, hV⟩ := hvw i hin
      have c2 := hV.cell
      have hm := hV.max
      unfold maxLen at hm
      have hat := hV.at'
      have HV := Lib.hid hV
      have hno := Lib.hid hno
      clear hV hvw
      have d1 : decide ((i : Int) < (n : Int)) = true := by simp; omega
      have i1 : (i : Int) < (n : Int) := by omega
      go_wp2
      go_loop [6] (fun kx => ∃ k : Nat, k ≤ L ∧ kx = .int .i64 k ∧ ∀ j, j < k → X j ≠ t) (fun kx => L - (intOf kx).toNat)
      case atStart => exact ⟨0, Nat.zero_le _, rfl, fun j hj => by omega⟩
      case round =>
        obtain ⟨k, hk, rfl, hne⟩ := hrel
        by_cases hkl : k < L
        · obtain ⟨g, o, rfl, c3⟩ := hat k hkl
          have d2 : decide ((k : Int) < (L : Int)) = true := by simp; omega
          have i2 : (k : Int) < (L : Int) := by omega
          clear hat
          have hne := Lib.hid hne
          by_cases hx : X k = t
          · rw [hx] at c3
            have e : ofF n ls t = (i : Nat) := ofF_hit i hin ((HV.out.mem t).2 ⟨k, hkl, hx⟩) (fun j hj => hno.out j hj)
            have e2 := hv.out.symm.trans e
            subst e2
            clear e hx
            go_wp2
            go_ret
            exact ⟨rfl, rfl⟩
          · have d3 : (X k == t) = false := by simpa using hx
            have HX := Lib.hid hx
            clear hx
            go_wp2
            go_round
            case rel => exact ⟨k + 1, by omega, by go_num, fun j hj => by
              by_cases hjk : j = k
              · subst hjk; exact HX.out
              · exact hne.out j (by omega)⟩
            case measure => simp [intOf]; omega
        · have d2 : decide ((k : Int) < (L : Int)) = false := by simp; omega
          have hne := Lib.hid hne
          clear hat
          go_wp2
          go_round
          case rel => exact ⟨i + 1, by omega, by go_num, fun j hj => by
            by_cases hji : j = i
            · subst hji
              intro hm
              obtain ⟨j', hj', he⟩ := (HV.out.mem t).1 hm
              exact hne.out j' (by omega) he
            · exact hno.out j (by omega)⟩
          case measure => simp [intOf]; omega
    · have d1 : decide ((i : Int) < (n : Int)) = false := by simp; omega
      have e : ofF n ls t = -1 := ofF_miss (fun j hj => hno j (by omega))
      have e2 := hv.out.symm.trans e
      subst e2
      clear e hno hvw
      go_wp2
      go_ret
      exact ⟨rfl, rfl⟩
theorem rlist_yes {w : World} {n bc bl : Nat} {vs : Nat → Value} {bs : Nat → Option Nat} {ls : Nat → List Int} (h : RR w n bc bl vs bs ls) (hn : n ≤ 64) (i : Nat) (hi : i < n) :
    Calls Try.prog 24 #[.pointer (some ⟨bc, 0, none⟩), .int .i64 i] w fun e w' => e = .returned (vs i) ∧ w = w' := by
  have c1 := h.hc.rd
  have c2 := h.cell i hi
  have d1 : decide ((i : Int) < (n : Int)) = true := by simp; omega
  have i1 : (i : Int) < (n : Int) := by omega
  have d2 : decide ((i : Int) ≥ (n : Int)) = false := by simp; omega
  clear h
  go_enter Try.func24, Try.ntmps24
  go_wp2
  go_ret
  exact ⟨rfl, rfl⟩
theorem rlist_no {w : World} {n bc bl : Nat} {vs : Nat → Value} {bs : Nat → Option Nat} {ls : Nat → List Int} (h : RR w n bc bl vs bs ls) (hn : n ≤ 64) (i : Int) (hi : i < 0 ∨ n ≤ i) :
    Calls Try.prog 24 #[.pointer (some ⟨bc, 0, none⟩), .int .i64 i] w fun e w' => e = .returned (.slice none 0 0) ∧ w = w' := by
  have c1 := h.hc.rd
  clear h
  by_cases h0 : i < 0
  · clear hi
    go_enter Try.func24, Try.ntmps24
    go_wp2
    all_goals go_ret
    all_goals exact ⟨rfl, rfl⟩
  · have d2 : decide (i ≥ (n : Int)) = true := by simp; omega
    have h1 : (n : Int) ≤ i := by omega
    have h2 : 0 ≤ i := by omega
    clear hi h0
    go_enter Try.func24, Try.ntmps24
    go_wp2
    all_goals go_ret
    all_goals exact ⟨rfl, rfl⟩
end Go.Proofs.Ytgkchpifogfohaa
