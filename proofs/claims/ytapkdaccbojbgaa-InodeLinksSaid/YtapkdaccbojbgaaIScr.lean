/-
  InodeScript: both tables at the start, great, and the script's walk.
-/
import Derived.Test.YtapkdaccbojbgaaISame
namespace Go.Proofs.Ytapkdaccbojbgaa
set_option linter.unusedSimpArgs false
set_option linter.unusedVariables false
open Go.RowKit Own Two Pair
open RegJ hiding Up
open RegF hiding put_size
open Go.Lib hiding intOf

/-- the acts, as they lie -/
def Acts5 (w : World) (av : Option Addr) (len : Nat) : Prop := ∀ i, i < len → ∃ g o d id dir nm isd, av = some ⟨g, o, none⟩ ∧ w.cell? ⟨g, o + i * 5, none⟩ = some (.int .i64 d) ∧ w.cell? ⟨g, o + i * 5 + 1, none⟩ = some (.int .i64 id) ∧ w.cell? ⟨g, o + i * 5 + 2, none⟩ = some (.int .i64 dir) ∧ w.cell? ⟨g, o + i * 5 + 3, none⟩ = some (.string (B nm)) ∧ w.cell? ⟨g, o + i * 5 + 4, none⟩ = some (.bool isd)
def GrP (len : Nat) (w : World) (e : Ending) (w' : World) : Prop := ∃ b, e = .returned (.bool b) ∧ (b = false → len ≤ 80) ∧ w = w'
set_option maxRecDepth 100000 in
theorem great_is {w : World} {av : Option Addr} {len cap : Nat} (hA : Acts5 w av len) (hm : len ≤ maxLen) : Calls Try.prog 16 #[.slice av len cap, .int .i64 80] w (GrP len w) := by
  unfold maxLen at hm
  have HA := Lib.hid hA
  clear hA
  by_cases hl : len ≤ 80
  · have d1 : decide ((len : Int) ≤ 80) = true := by simp; omega
    have d2 : decide ((len : Int) > 80) = false := by simp; omega
    have d2n : decide (len > 80) = false := by simp; omega
    have d1n : decide (len ≤ 80) = true := by simp; omega
    go_enter Try.func16, Try.ntmps16
    go_wp2_with (fail)
    go_loopw [5] (fun v5 wr => ∃ i : Nat, i ≤ len ∧ v5 = .int .i64 i ∧ wr = w) (fun v5 _ => len - (intOf v5).toNat)
    case atStart => exact ⟨0, Nat.zero_le _, rfl, rfl⟩
    case round =>
      obtain ⟨i, hi, rfl, rfl⟩ := hrel
      by_cases hil : i < len
      · obtain ⟨g, o, d, id, dir, nm, isd, rfl, -, -, -, k3, -⟩ := HA.out i hil
        have d5 : decide ((i : Int) < (len : Int)) = true := by simp; omega
        have i5 : (i : Int) < (len : Int) := by omega
        have i6 : (0 : Int) ≤ i := by omega
        generalize B nm = s at *
        by_cases hs : s.size > 100
        · have d6 : decide ((s.size : Int) > 100) = true := by simp; omega
          have d6n : decide (s.size > 100) = true := by simpa using hs
          clear hs
          go_wp2_with (fail)
          go_ret
          exact ⟨true, rfl, (fun h => by cases h), rfl⟩
        · have d6 : decide ((s.size : Int) > 100) = false := by simp; omega
          have d6n : decide (s.size > 100) = false := by simpa using hs
          clear hs
          go_wp2_with (fail)
          go_roundw
          case rel => exact ⟨i + 1, by omega, by go_num, by trivial⟩
          case measure => simp [intOf]; omega
      · have d5 : decide ((i : Int) < (len : Int)) = false := by simp; omega
        have d5n : decide (i < len) = false := by simp; omega
        have HLL := Lib.hid hl
        clear hil hi
        go_wp2_with (fail)
        go_ret
        exact ⟨false, rfl, fun _ => HLL.out, rfl⟩
  · have d1 : decide ((len : Int) ≤ 80) = false := by simp; omega
    have d2 : decide ((len : Int) > 80) = true := by simp; omega
    have d1n : decide (len ≤ 80) = false := by simp; omega
    have d2n : decide (len > 80) = true := by simp; omega
    have d5 : decide ((0 : Int) < (len : Int)) = true := by simp; omega
    have d5n : decide (0 < len) = true := by simp; omega
    have i5 : (0 : Int) < (len : Int) := by omega
    clear hl
    go_enter Try.func16, Try.ntmps16
    go_wp2_with (fail)
    go_loopw [5] (fun v5 wr => v5 = .int .i64 0 ∧ wr = w) (fun v5 _ => 0)
    case atStart => exact ⟨rfl, rfl⟩
    case round =>
      obtain ⟨rfl, rfl⟩ := hrel
      go_wp2_with (fail)
      go_ret
      exact ⟨true, rfl, (fun h => by cases h), rfl⟩
def vs0 : Nat → Value := fun _ => .slice none 0 0
set_option maxRecDepth 100000 in
theorem ref21_new2 (sb : Nat) (w : World) : Calls Try.prog 27 #[.pointer (some ⟨sb, 0, none⟩)] w fun e w' => e = .returned (.pointer (some ⟨w.heap.size, 0, none⟩)) ∧ w' = w.alloc (.cells (refC sb ns0 vs0) 100) := by
  go_enter Try.func27, Try.ntmps27
  go_wp2
  go_ret
  exact ⟨rfl, rfl⟩
theorem rt0 {w : World} {mb sb : Nat} (h : Blk w sb #[.pointer (some ⟨mb, 0, none⟩), .slice none 0 0] 70) : RT (w.alloc (.cells (refC sb ns0 vs0) 100)) w.heap.size sb ns0 vs0 (fun _ => none) [] none := by
  have hl := h.lt
  refine ⟨Blk.new _ _ _, ⟨⟨_, _, h.alloc _, Or.inl ⟨rfl, rfl, rfl⟩⟩, fun g hg => by cases hg⟩, fun i nd hi => ⟨?_, ?_⟩, fun i hi => rfl, fun i hi => by unfold ns0; rw [if_neg (by omega)], by omega, (fun g hg => by cases hg), (fun i g hg => by cases hg), Nat.zero_le _, (fun i g hg => by cases hg)⟩
  · unfold ns0 at hi
    split at hi
    · cases hi; exact Or.inl ⟨rfl, rfl, rfl⟩
    · cases hi
  · unfold ns0 at hi
    split at hi
    · cases hi; exact Nat.zero_le _
    · cases hi
def Both2 (w : World) (e : Ending) (w' : World) : Prop := ∃ tb rb, e = .returned (.tuple #[.pointer (some ⟨tb, 0, none⟩), .pointer (some ⟨rb, 0, none⟩)]) ∧ Pair.Two w w' (TPa tb ns0 0) (RPa rb ns0 0) (fun _ => False)
set_option maxRecDepth 100000 in
theorem both2 (w : World) : Calls Try.prog 8 #[] w (Both2 w) := by
  go_enter Try.func8, Try.ntmps8
  go_wp2_with (first
    | (go_at_call 23; refine (frames_new _).mono ?_; rintro e w1 ⟨⟨fb, rfl⟩, hB⟩; have H1 := Lib.hid hB; clear hB)
    | (go_at_call 24; refine (ref4_new _).mono ?_; rintro e w2 ⟨⟨mb, rfl⟩, hB⟩; have H2 := Lib.hid (H1.out.trans (hB.mono H1.out.size)); clear hB)
    | (go_at_call 26; refine (store_new _ _).mono ?_; rintro e w' ⟨rfl, rfl⟩; have HT := Lib.hid (tb0 w2 fb w2.heap.size rfl))
    | (go_at_call 25; refine (inode_new _ _).mono ?_; rintro e w' ⟨rfl, rfl⟩)
    | (go_at_call 27; refine (ref21_new2 _ _).mono ?_; rintro e w' ⟨rfl, rfl⟩))
  go_returns
  have hs := H2.out.size
  have hT := HT.out
  have hB4 : Below w.heap.size w ((((w2.alloc (.map #[] 0)).alloc (.cells #[.pointer (some ⟨fb, 0, none⟩), .map (some w2.heap.size)] 113)).alloc (.cells (tab0 (w2.heap.size + 1) (.pointer (some ⟨w2.heap.size + 3, 0, none⟩))) 76)).alloc (.cells #[.bool true, .int .i64 0, .int .i64 0, .slice none 0 0] 78)) := (((H2.out.alloc hs _).alloc (by simp; omega) _).alloc (by simp; omega) _).alloc (by simp; omega) _
  have hs4 : ((((w2.alloc (.map #[] 0)).alloc (.cells #[.pointer (some ⟨fb, 0, none⟩), .map (some w2.heap.size)] 113)).alloc (.cells (tab0 (w2.heap.size + 1) (.pointer (some ⟨w2.heap.size + 3, 0, none⟩))) 76)).alloc (.cells #[.bool true, .int .i64 0, .int .i64 0, .slice none 0 0] 78)).heap.size = w2.heap.size + 4 := by simp
  generalize hw4 : (((w2.alloc (.map #[] 0)).alloc (.cells #[.pointer (some ⟨fb, 0, none⟩), .map (some w2.heap.size)] 113)).alloc (.cells (tab0 (w2.heap.size + 1) (.pointer (some ⟨w2.heap.size + 3, 0, none⟩))) 76)).alloc (.cells #[.bool true, .int .i64 0, .int .i64 0, .slice none 0 0] 78) = w4 at *
  have hb := Blk.new w4 #[.pointer (some ⟨mb, 0, none⟩), .slice none 0 0] 70
  have hr := rt0 hb
  have hs5 : (w4.alloc (.cells #[.pointer (some ⟨mb, 0, none⟩), .slice none 0 0] 70)).heap.size = w2.heap.size + 5 := by simp; omega
  have hBB := (hB4.alloc hB4.size (.cells #[.pointer (some ⟨mb, 0, none⟩), .slice none 0 0] 70)).alloc (by omega) (.cells (refC w4.heap.size ns0 vs0) 100)
  have hT2 := (hT.below ((Below.refl _ _).alloc (Nat.le_refl _) (.cells #[.pointer (some ⟨mb, 0, none⟩), .slice none 0 0] 70))).below ((Below.refl _ _).alloc (Nat.le_refl _) (.cells (refC w4.heap.size ns0 vs0) 100))
  rw [hs5] at hr
  rw [hs4] at hr hT2 hBB
  refine ⟨w2.heap.size + 2, w2.heap.size + 5, rfl, ⟨_, _, ⟨lo0 w2.heap.size, hT2, rfl⟩, ⟨fun k => k = w2.heap.size + 5 ∨ k = w2.heap.size + 4, fun _ => False, ⟨w2.heap.size + 4, vs0, fun _ => none, [], none, hr, Nat.le_refl _, fun k hk => ?_, fun i k hk => by cases hk⟩, rfl, fun k hk => ?_⟩, fun k ⟨r, hk⟩ hk' => ?_, fun k hk => ⟨?_, fun h => h⟩⟩, (fun k h => h.elim), hBB⟩
  · rcases hk with h | h | h
    · exact Or.inl h
    · exact Or.inr h
    · cases h
  · have : ((w4.alloc (.cells #[.pointer (some ⟨mb, 0, none⟩), .slice none 0 0] 70)).alloc (.cells (refC (w2.heap.size + 4) ns0 vs0) 100)).heap.size = w2.heap.size + 6 := by simp; omega
    rw [this]
    rcases hk with (h | h) | h
    · omega
    · omega
    · exact h.elim
  · have : k ≤ w2.heap.size + 3 := by cases r <;> simp [lo0] at hk <;> omega
    rcases hk' with (h | h) | h
    · omega
    · omega
    · exact h
  · rcases hk with ⟨r, hk⟩ | (h | h) | h
    · have : w2.heap.size ≤ k := by cases r <;> simp [lo0] at hk <;> omega
      omega
    · omega
    · omega
    · exact h.elim
section
variable {W w : World} {tb rb c : Nat} {ns : NSt} {E : Nat → Prop}
theorem same_two (h : Pair.Two W w (TPa tb ns c) (RPa rb ns c) E) (id : Int) : Calls Try.prog 18 #[.pointer (some ⟨tb, 0, none⟩), .pointer (some ⟨rb, 0, none⟩), .int .i64 id] w (SmP w) := by
  obtain ⟨O1, lo, hT, _⟩ := h.atl
  obtain ⟨O2, W', A', hR, _⟩ := h.atr
  exact same_is hT hR id
end
set_option maxRecDepth 100000 in
set_option maxHeartbeats 4000000 in
theorem script_walk (av : Option Addr) (len cap : Nat) (w : World) (hm : len ≤ maxLen) (hA : Acts5 w av len) :
    Calls Try.prog 4 #[.slice av len cap] w (SmP w) := by
  have hgr := great_is (cap := cap) hA hm
  have HA := Lib.hid hA
  clear hA hm
  go_enter Try.func4, Try.ntmps4
  go_upto_if 7 with (go_at_call 16; (with_reducible refine hgr.mono ?_); rintro e w' ⟨b, rfl, hb, rfl⟩; clear hgr; have HB := Lib.hid hb; clear hb)
  cases b with
  | true =>
    go_wp2_with (go_at_call 7; refine (awake_any _).mono ?_; rintro e w1 ⟨rfl, hB⟩)
    go_ret
    exact ⟨rfl, hB⟩
  | false =>
    have HL := Lib.hid (HB.out rfl)
    clear HB
    go_wp2_with (go_at_call 8; refine (both2 _).mono ?_; rintro e w1 ⟨tb, rb, rfl, hT⟩; have H1 := Lib.hid hT; clear hT)
    go_loopw [5] (fun v5 wr => ∃ (i : Nat) (ns : NSt), i ≤ len ∧ v5 = .int .i64 i ∧ Hid (IV ns i ∧ Pair.Two w wr (TPa tb ns i) (RPa rb ns i) (fun _ => False))) (fun v5 _ => len - (intOf v5).toNat)
    case atStart => exact ⟨0, ns0, Nat.zero_le _, rfl, Lib.hid ⟨IV.zero, H1.out⟩⟩
    case round =>
      obtain ⟨i, ns, hi, rfl, HS⟩ := hrel
      by_cases hil : i < len
      · obtain ⟨g, o, d, id, dir, nm, isd, rfl, k0, k1, k2, k3, k4⟩ := HA.out i hil
        have d5 : decide ((i : Int) < (len : Int)) = true := by simp; omega
        have i5 : (i : Int) < (len : Int) := by omega
        have i6 : (0 : Int) ≤ i := by omega
        have i7 : (len : Int) ≤ 80 := by have := HL.out; omega
        have j0 := HS.out.2.cell k0
        have j1 := HS.out.2.cell k1
        have j2 := HS.out.2.cell k2
        have j3 := HS.out.2.cell k3
        have j4 := HS.out.2.cell k4
        have hdo := done_is HS.out.1 (by have := HL.out; omega) HS.out.2 d id dir nm isd
        have HK := Lib.hid (And.intro k1 k2)
        clear k0 k1 k2 k3 k4
        generalize B nm = s at *
        go_upto_if 50 with (first
          | (go_at_call 17; (with_reducible refine hdo.mono ?_); rintro e w2 ⟨rfl, ns2, hV2, hT2⟩; have H2 := Lib.hid (And.intro hV2 hT2); clear hdo hV2 hT2 j0 j1 j2 j3 j4; have j1 := H2.out.2.cell HK.out.1; have hs1 := same_two H2.out.2 id)
          | (go_at_call 18; (with_reducible refine hs1.mono ?_); rintro e w3 ⟨rfl, hB⟩; have H3 := Lib.hid (H2.out.2.below hB); clear hs1 hB j1; have j2 := H3.out.cell HK.out.2; have hs2 := same_two H3.out dir)
          | (go_at_call 18; (with_reducible refine hs2.mono ?_); rintro e w4 ⟨rfl, hB⟩; have H4 := Lib.hid (H3.out.below hB); clear hs2 hB j2))
        go_wp2_with (fail)
        go_roundw
        case rel => exact ⟨i + 1, ns2, by omega, by go_num, Lib.hid ⟨H2.out.1, H4.out⟩⟩
        case measure => simp [intOf]; omega
      · have d5 : decide ((i : Int) < (len : Int)) = false := by simp; omega
        have d5n : decide (i < len) = false := by simp; omega
        clear hil hi
        go_wp2_with (go_at_call 7; refine (awake_any _).mono ?_; rintro e w7 ⟨rfl, hB⟩)
        go_ret
        exact ⟨rfl, HS.out.2.bel.trans (hB.mono HS.out.2.bel.size)⟩
end Go.Proofs.Ytapkdaccbojbgaa
