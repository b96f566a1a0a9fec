/-
  Rows of the document's items, and what is appended to them.
-/
import Derived.Test.YtamgaklbkefejaaPartsP
namespace Go.Proofs.Ytamgaklbkefejaa
set_option linter.unusedSimpArgs false
set_option linter.unusedVariables false
open Go.RowKit Go.Lib Own
open RegJ hiding Up
open RegF hiding put_size

/-- a row of items in a block of its own (b), or none at all -/
def ItR (w : World) (v : Value) (xs : List It) (b : Option Nat) : Prop :=
  (v = .slice none 0 0 ∧ xs = [] ∧ b = none) ∨
  ∃ g cap rest, v = .slice (some ⟨g, 0, none⟩) xs.length cap ∧ b = some g ∧ Blk w g (pcells xs ++ rest).toArray 44 ∧ cap * 2 = (pcells xs ++ rest).length ∧ cap ≤ maxLen
theorem ItR.upd {w w' : World} {F : Nat → Prop} {v : Value} {xs : List It} {b : Option Nat} (h : ItR w v xs b) (hu : Upd F w w') (hf : ∀ g, b = some g → ¬ F g) : ItR w' v xs b := by
  rcases h with h | ⟨g, cap, rest, hv, hb, hB, hc, hm⟩
  · exact Or.inl h
  · exact Or.inr ⟨g, cap, rest, hv, hb, Blk.upd hu hB (hf g hb), hc, hm⟩
theorem ItR.below {w w' : World} {v : Value} {xs : List It} {b : Option Nat} (h : ItR w v xs b) (hb : Below w.heap.size w w') : ItR w' v xs b := h.upd (Upd.of_below (F := fun _ => False) hb) (fun _ _ h => h)
theorem ItR.lt {w : World} {v : Value} {xs : List It} {b : Option Nat} (h : ItR w v xs b) (g : Nat) (hg : b = some g) : g < w.heap.size := by
  rcases h with ⟨_, _, hb⟩ | ⟨g', cap, rest, hv, hb, hB, hc, hm⟩
  · rw [hb] at hg; cases hg
  · rw [hb] at hg; cases hg; exact hB.lt
theorem blk_itr {w : World} {g : Nat} {xs : List It} {rest : List Value} (hB : Blk w g (pcells xs ++ rest).toArray 44) (j : Nat) (h : j < xs.length) :
    w.cell? ⟨g, j * 2, none⟩ = some (.int .i64 (xs.getD j (0, 0)).1) ∧ w.cell? ⟨g, j * 2 + 1, none⟩ = some (.int .i64 (xs.getD j (0, 0)).2) := by
  have hl := pcells_len xs
  have := pcells_at xs j h
  rw [hB.rd, hB.rd]
  simp only [List.getElem?_toArray]
  rw [List.getElem?_append_left (by omega), List.getElem?_append_left (by omega)]
  exact this
theorem Try.infoItemR : (Try.prog.info? 44).map (fun i => (i.zero, i.size, i.bytes)) = some (some (.agg #[.int .i64 0, .int .i64 0]), 2, 16) := by kernel_rfl
theorem ItR.of_own {w : World} {base : Nat} {v : Value} {xs : List It} {n : Nat} (hn : xs.length = n) (h : w.ownsRow base 44 2 v n (pcells xs)) : ∃ b, ItR w v xs b ∧ ∀ g, b = some g → base ≤ g := by
  obtain ⟨hl, h⟩ := h
  rcases h with ⟨hv, h0⟩ | ⟨g, cap, cur, hv, hg, hh, hnc, hm, hs, ht⟩
  · refine ⟨none, Or.inl ⟨hv, ?_, rfl⟩, fun g hg => by cases hg⟩
    apply List.eq_nil_of_length_eq_zero; omega
  · refine ⟨some g, Or.inr ⟨g, cap, cur.toList.drop (n * 2), by rw [hn]; exact hv, rfl, ?_, ?_, hm⟩, fun g' hg' => by cases hg'; exact hg⟩
    · show w.heap[g]? = _
      rw [hh]
      have e : pcells xs ++ cur.toList.drop (n * 2) = cur.toList := by rw [← ht]; exact List.take_append_drop _ _
      rw [e]
    · have hp := pcells_len xs
      have hcs : cur.toList.length = cap * 2 := by simpa using hs
      rw [List.length_append, hp, List.length_drop, hcs]; omega
theorem ItR.own {w : World} {v : Value} {xs : List It} {b : Option Nat} (h : ItR w v xs b) : w.ownsRow 0 44 2 v xs.length (pcells xs) := by
  have hp := pcells_len xs
  refine ⟨hp, ?_⟩
  rcases h with ⟨hv, h0, _⟩ | ⟨g, cap, rest, hv, hg, hB, hc, hm⟩
  · exact Or.inl ⟨hv, by rw [h0]; rfl⟩
  · refine Or.inr ⟨g, cap, _, hv, Nat.zero_le _, hB, ?_, hm, ?_, ?_⟩
    · rw [List.length_append, hp] at hc; omega
    · simpa using hc.symm
    · rw [← hp]; simp
/-- one more item behind a row of the call's own -/
theorem wp_appR {ops : Array Oper} {rest : List Oper} {o : Oper} {a : Act} {Q : Exit → Act → World → Prop} {w : World} (hgd : o.guard = none) (s x : Operand)
    (ho : o.op = .call { callee := .builtin .append, args := #[s, x], argTypes := #[37, 37] }) (v : Value) (xs : List It) (B : Option Nat) (hs : a.eval s = v) (hI : ItR w v xs B)
    (b : Nat) (y : It) (hx : a.eval x = .slice (some ⟨b, 0, none⟩) 1 1) (hB : Blk w b #[.int .i64 y.1, .int .i64 y.2] 44) (hlen : xs.length ≤ 2000)
    (h : ∀ v' w' B', ItR w' v' (xs ++ [y]) B' → (∀ g, B' = some g → B = some g ∨ w.heap.size ≤ g) → Upd (fun k => B = some k) w w' → wpList Try.prog ops Q rest (a.put o.dst v') w') : wpList Try.prog ops Q (o :: rest) a w := by
  obtain ⟨i0, hi, hz0, hz1, hz2⟩ := info_parts Try.infoItemR
  have hp := pcells_len xs
  have hnews : ∀ (j : Nat) (u : Value), ([.int .i64 y.1, .int .i64 y.2] : List Value)[j]? = some u → w.cell? (Addr.add ⟨b, 0, none⟩ j) = some u := by
    intro j u hj
    match j, hj with
    | 0, hj => simp at hj; subst hj; simpa [Addr.add] using (hB.cell (i := 0) rfl)
    | 1, hj => simp at hj; subst hj; simpa [Addr.add] using (hB.cell (i := 1) rfl)
  have hone : ∀ u ∈ ([.int .i64 y.1, .int .i64 y.2] : List Value), u.oneCell' = true := by
    intro u hu; simp at hu; rcases hu with rfl | rfl <;> rfl
  have hpy : pcells xs ++ [.int .i64 y.1, .int .i64 y.2] = pcells (xs ++ [y]) := by rw [pcells_app]; rfl
  have hown := hI.own
  rcases hI with ⟨rfl, rfl, rfl⟩ | ⟨g, cap, rst, rfl, rfl, hBg, hc, hm⟩
  · refine wpList_append_grows w hgd s x 37 ho 44 i0 _ 2 16 Try.underlying37 hi hz0 hz1 hz2 rfl (by decide) none 0 0 [] hs (fun _ => ⟨rfl, rfl⟩) rfl (fun b hb => by cases hb) ⟨b, 0, none⟩ 1 1 _ hx rfl hnews hone (by omega) (by unfold maxLen; omega) (by omega) ?_
    intro v' w' h1 h2
    obtain ⟨B', hI', hb'⟩ := ItR.of_own (xs := [y]) rfl h1
    exact h v' w' B' hI' (fun g hg => Or.inr (hb' g hg)) (Upd.grown h2 (fun k hk => by cases hk))
  · by_cases hf : xs.length + 1 ≤ cap
    · refine wpList_append_fits w hgd s x 37 ho 0 44 i0 2 Try.underlying37 hi hz1 g xs.length cap (pcells xs) hs hown ⟨b, 0, none⟩ 1 1 _ hx rfl hnews hone hf ?_
      intro w' h1 h2
      rw [hpy] at h1
      obtain ⟨B', hI', hb'⟩ := ItR.of_own (xs := xs ++ [y]) (by simp) h1
      have hB' : B' = some g := by
        rcases hI' with ⟨hv, _⟩ | ⟨g', _, _, hv, rfl, _⟩
        · cases hv
        · simp only [Value.slice.injEq, Option.some.injEq, Addr.mk.injEq] at hv
          rw [hv.1.1]
      exact h _ w' B' hI' (fun g' hg' => Or.inl (by rw [← hg', hB'])) (Upd.grown h2 (fun k hk => by cases hk; rfl))
    · refine wpList_append_grows w hgd s x 37 ho 44 i0 _ 2 16 Try.underlying37 hi hz0 hz1 hz2 rfl (by decide) (some ⟨g, 0, none⟩) xs.length cap (pcells xs) hs (fun h => by cases h) hp ?_ ⟨b, 0, none⟩ 1 1 _ hx rfl hnews hone (by omega) (by unfold maxLen; omega) (by omega) ?_
      · intro b' hb' j u hj
        cases hb'
        have hjl : j < (pcells xs).length := (List.getElem?_eq_some_iff.1 hj).1
        have : (⟨g, 0, none⟩ : Addr).add j = ⟨g, j, none⟩ := by
          unfold Addr.add; by_cases h0 : j = 0
          · subst h0; rfl
          · rw [if_neg h0]; simp
        rw [this, hBg.rd]
        simp only [List.getElem?_toArray]
        rw [List.getElem?_append_left hjl]; exact hj
      · intro v' w' h1 h2
        rw [hpy] at h1
        obtain ⟨B', hI', hb'⟩ := ItR.of_own (xs := xs ++ [y]) (by simp) h1
        exact h v' w' B' hI' (fun g' hg' => Or.inr (hb' g' hg')) (Upd.grown h2 (fun k hk => by cases hk))
theorem ItR.slice {w : World} {v : Value} {xs : List It} {b : Option Nat} (h : ItR w v xs b) : ∃ a c, v = .slice a xs.length c := by
  rcases h with ⟨rfl, rfl, _⟩ | ⟨g, cap, rest, rfl, _⟩
  · exact ⟨_, _, rfl⟩
  · exact ⟨_, _, rfl⟩

/-- the document's heap: its list (b: the block) -/
def Rh (w : World) (bh : Nat) (xs : List It) (b : Option Nat) : Prop := ∃ v, Blk w bh #[v] 39 ∧ ItR w v xs b ∧ (∀ g, b = some g → g ≠ bh) ∧ xs.length ≤ 1000
theorem Rh.upd {w w' : World} {bh : Nat} {xs : List It} {b : Option Nat} {F : Nat → Prop} (h : Rh w bh xs b) (hu : Upd F w w') (h1 : ¬ F bh) (h2 : ∀ g, b = some g → ¬ F g) : Rh w' bh xs b := by
  obtain ⟨v, k1, k2, k3, k4⟩ := h
  exact ⟨v, Blk.upd hu k1 h1, k2.upd hu h2, k3, k4⟩
theorem Rh.below {w w' : World} {bh : Nat} {xs : List It} {b : Option Nat} (h : Rh w bh xs b) (hb : Below w.heap.size w w') : Rh w' bh xs b := h.upd (Upd.of_below (F := fun _ => False) hb) (fun h => h) (fun _ _ h => h)
/-- as the walk reads it -/
theorem Rh.view {w : World} {bh : Nat} {xs : List It} {b : Option Nat} (h : Rh w bh xs b) : ∃ a c, Blk w bh #[.slice a xs.length c] 39 ∧ ∀ k, k < xs.length → ∃ g, a = some ⟨g, 0, none⟩ ∧ w.cell? ⟨g, k * 2, none⟩ = some (.int .i64 (X xs k).1) ∧ w.cell? ⟨g, k * 2 + 1, none⟩ = some (.int .i64 (X xs k).2) := by
  obtain ⟨v, hb, hI, hn, hl⟩ := h
  rcases hI with ⟨rfl, rfl, _⟩ | ⟨g, cap, rest, rfl, rfl, hB, _, _⟩
  · exact ⟨none, 0, hb, fun k hk => by simp at hk⟩
  · exact ⟨_, _, hb, fun k hk => by
      obtain ⟨k1, k2⟩ := blk_itr hB k hk
      exact ⟨g, rfl, k1, k2⟩⟩
set_option maxRecDepth 100000 in
theorem rless_is (a b c d : Int) (w : World) (r : Bool) (hr : decide (lt (a, b) (c, d)) = r) : Calls Try.prog 29 #[.agg #[.int .i64 a, .int .i64 b], .agg #[.int .i64 c, .int .i64 d]] w (BoolB r w) := by
  subst hr
  by_cases h1 : b < d
  · have e1 : decide (b < d) = true := by simpa using h1
    have e : decide (lt (a, b) (c, d)) = true := by simp [lt, h1]
    rw [e]
    clear h1 e
    go_enter Try.func29, Try.ntmps29
    go_wp2
    go_ret
    exact ⟨rfl, ((Below.refl _ _).alloc (Nat.le_refl _) _).alloc (by simp) _⟩
  · have e1 : decide (b < d) = false := by simpa using h1
    by_cases h2 : b = d
    · have e2 : (b == d) = true := by simpa using h2
      have e : decide (lt (a, b) (c, d)) = decide (a < c) := by simp [lt, h1, h2]
      rw [e]
      clear h1 h2 e
      go_enter Try.func29, Try.ntmps29
      go_wp2
      go_ret
      exact ⟨by simp, ((Below.refl _ _).alloc (Nat.le_refl _) _).alloc (by simp) _⟩
    · have e2 : (b == d) = false := by simpa using h2
      have e : decide (lt (a, b) (c, d)) = false := by simp [lt, h1, h2]
      rw [e]
      clear h1 h2 e
      go_enter Try.func29, Try.ntmps29
      go_wp2
      go_ret
      exact ⟨rfl, ((Below.refl _ _).alloc (Nat.le_refl _) _).alloc (by simp) _⟩
def RAt (id : Int) (xs : List It) (w : World) (e : Ending) (w' : World) : Prop := ∃ j : Int, e = .returned (.int .i64 j) ∧ ((j = -1 ∧ ∀ c, c < xs.length → (X xs c).1 ≠ id) ∨ ∃ m, m < xs.length ∧ j = (m : Nat) ∧ (X xs m).1 = id) ∧ w = w'
set_option maxRecDepth 100000 in
theorem rat_is {w : World} {bh : Nat} {xs : List It} {b : Option Nat} (h : Rh w bh xs b) (id : Int) :
    Calls Try.prog 28 #[.pointer (some ⟨bh, 0, none⟩), .int .i64 id] w (RAt id xs w) := by
  have hmx := h
  obtain ⟨_, _, _, _, hmax⟩ := hmx
  obtain ⟨a, c, hb, hv⟩ := h.view
  have c1 := hb.rd
  have HV := Lib.hid hv
  generalize hL : xs.length = L at *
  clear h hb hv
  go_enter Try.func28, Try.ntmps28
  go_wp2
  go_loop [5] (fun kx => ∃ k : Nat, k ≤ L ∧ kx = .int .i64 k ∧ ∀ j, j < k → (X xs j).1 ≠ id) (fun kx => L - (intOf kx).toNat)
  case atStart => exact ⟨0, Nat.zero_le _, rfl, fun j hj => by omega⟩
  case round =>
    obtain ⟨k, hk, rfl, hno⟩ := hrel
    have HN := Lib.hid hno
    clear hno
    by_cases hkl : k < L
    · obtain ⟨g, rfl, k1, k2⟩ := HV.out k hkl
      have d1 : decide ((k : Int) < (L : Int)) = true := by simp; omega
      have i1 : (k : Int) < (L : Int) := by omega
      obtain ⟨p, hp⟩ : ∃ p, (X xs k).1 = p := ⟨_, rfl⟩
      rw [hp] at k1
      have HP := Lib.hid hp
      clear hp k2
      by_cases hx : p = id
      · have e1 : (p == id) = true := by simpa using hx
        have HX := Lib.hid hx
        clear hx
        go_wp2
        go_ret
        exact ⟨k, rfl, Or.inr ⟨k, by omega, rfl, by rw [HP.out]; exact HX.out⟩, rfl⟩
      · have e1 : (p == id) = false := by simpa using hx
        have HX := Lib.hid hx
        clear hx
        go_wp2
        go_round
        case rel => exact ⟨k + 1, by omega, by go_num, fun j hj => by
          by_cases hjk : j = k
          · subst hjk; rw [HP.out]; exact HX.out
          · exact HN.out j (by omega)⟩
        case measure => simp [intOf]; omega
    · have d1 : decide ((k : Int) < (L : Int)) = false := by simp; omega
      go_wp2
      go_ret
      exact ⟨-1, rfl, Or.inl ⟨rfl, fun j hj => HN.out j (by omega)⟩, rfl⟩
end Go.Proofs.Ytamgaklbkefejaa
