/-
  OverInts: a list of one's own is written over. Num.
-/
import Derived.Test.YtpajebedeacpgaaWAll
import Derived.Test.YtpajebedeacpgaaRegF
import Derived.Lib.Hide
import Derived.Handy
import Derived.Deep.QuietTactic
namespace Go.Proofs.Ytpajebedeacpgaa
set_option linter.unusedSimpArgs false
set_option linter.unusedVariables false
open Go.RowKit Go.Lib Own
open RegJ hiding Up
open RegF hiding put_size

theorem num_is (e : Int) (w : World) : Calls Try.prog 9 #[.int .i64 e] w fun r w' => r = .returned (.int .i64 e) ∧ w = w' := by
  go_enter Try.func9, Try.ntmps9
  go_wp2
  go_ret
  exact ⟨rfl, rfl⟩
/-- one more integer behind a row: which block turns -/
theorem wp_appU {ops : Array Oper} {rest : List Oper} {o : Oper} {a : Act} {Q : Exit → Act → World → Prop} {w : World} (hgd : o.guard = none) (s x : Operand)
    (ho : o.op = .call { callee := .builtin .append, args := #[s, x], argTypes := #[39, 39] }) (v : Value) (xs : List Int) (B : Option Nat) (hs : a.eval s = v) (hI : Ints w 3 v xs B)
    (b : Nat) (y : Int) (hx : a.eval x = .slice (some ⟨b, 0, none⟩) 1 1) (hc : w.cell? ⟨b, 0, none⟩ = some (.int .i64 y)) (hlen : xs.length ≤ 2000)
    (h : ∀ v' w', Upd (fun k => B = some k) w w' → wpList Try.prog ops Q rest (a.put o.dst v') w') : wpList Try.prog ops Q (o :: rest) a w := by
  obtain ⟨i0, hi, hz0, hz1, hz2⟩ := info_parts infoInt
  refine wpList_append_own _ hgd s x 39 ho 0 3 i0 (.int .i64 0) 1 8 Try.underlying39 hi hz0 hz1 hz2 rfl (by decide) v xs.length (icells xs) hs (hI.own (fun _ _ => Nat.zero_le _)) ⟨b, 0, none⟩ 1 1 [.int .i64 y] hx rfl ?_ ?_ (by unfold maxLen; omega) (by omega) (Nat.zero_le _) ?_
  · intro j u hj
    match j, hj with
    | 0, hj => simp at hj; subst hj; simpa [Addr.add] using hc
  · intro u hu; simp at hu; subst hu; rfl
  · intro v' w' h1 h2 _
    refine h v' w' (Upd.grown h2 ?_)
    intro k hk
    rcases hI with ⟨rfl, _, rfl⟩ | ⟨g, cap, rest, rfl, rfl, _⟩
    · simp [Value.ownBlock] at hk
    · simp [Value.ownBlock] at hk; exact congrArg some hk
theorem ints_set {w : World} {g cap : Nat} {xs : List Int} {rest : List Value} (hB : Blk w g (icells xs ++ rest).toArray 3) (k : Nat) (hk : k < xs.length) (y : Int) : Blk (w.setCell ⟨g, k, none⟩ (.int .i64 y)) g (icells (xs.set k y) ++ rest).toArray 3 := by
  refine Blk.of (hB.set k (.int .i64 y)) ?_
  simp only [List.setIfInBounds_toArray]
  congr 1
  rw [List.set_append_left _ _ (by simpa using hk)]
  simp [icells]
def OverP (b : Option Nat) (w : World) (e : Ending) (w' : World) : Prop := (∃ v, e = .returned v) ∧ Upd (fun k => b = some k) w w'
set_option maxRecDepth 100000 in
theorem over_is {w : World} {v : Value} {xs : List Int} {b : Option Nat} (h : Ints w 3 v xs b) (hlen : xs.length ≤ 1000) :
    Calls Try.prog 23 #[v] w (OverP b w) := by
  rcases h with ⟨rfl, rfl, rfl⟩ | ⟨g, cap, rest, rfl, rfl, hB, hc, hm⟩
  · go_enter Try.func23, Try.ntmps23
    go_wp2
    go_loopw [2] (fun ix wr => ix = .int .i64 0 ∧ wr = w) (fun ix _ => 0)
    case atStart => exact ⟨rfl, rfl⟩
    case round =>
      obtain ⟨rfl, rfl⟩ := hrel
      have hI : Ints wr 3 (.slice none 0 0) [] none := Or.inl ⟨rfl, rfl, rfl⟩
      have HI := Lib.hid hI
      clear hI
      go_wp2_with (at_builtin; refine wp_appU rfl _ _ rfl _ [] none rfl (HI.out.upd ((Upd.refl (fun _ => False) wr).alloc _) (fun _ h => by cases h)) wr.heap.size (-999) rfl (Blk.cell (Blk.new _ _ _) rfl) (by simp) ?_; intro v' w1 hu1)
      go_returns
      exact ⟨⟨_, rfl⟩, (((Upd.refl (fun k => none = some k) wr).alloc _).trans hu1 (fun _ _ h => h))⟩
  · generalize hL : xs.length = L at *
    have HB0 := Lib.hid (And.intro hL (And.intro hB hc))
    have hgs := hB.lt
    clear hB hL hc
    go_enter Try.func23, Try.ntmps23
    go_wp2
    go_loopw [2] (fun ix wr => ∃ (k : Nat) (ys : List Int), k ≤ L ∧ ix = .int .i64 k ∧ ys.length = L ∧ Blk wr g (icells ys ++ rest).toArray 3 ∧ Upd (fun j => some g = some j) w wr) (fun ix _ => L - (intOf ix).toNat)
    case atStart => exact ⟨0, xs, Nat.zero_le _, rfl, HB0.out.1, HB0.out.2.1, Upd.refl _ _⟩
    case round =>
      rename_i wr _
      obtain ⟨k, ys, hk, rfl, hyl, hB, hu⟩ := hrel
      have HY := Lib.hid (And.intro hyl hu)
      by_cases hkl : k < L
      · have d1 : decide ((k : Int) < (L : Int)) = true := by simp; omega
        have i1 : (k : Int) < (L : Int) := by omega
        have c1 := Ints.cells hB k (by omega)
        have nf := hB.nf
        have HB := Lib.hid hB
        rw [Nat.zero_add] at c1
        clear hB hyl hu
        go_wp2
        go_roundw
        case rel => exact ⟨k + 1, ys.set k (-999), by omega, by go_num, by simp [HY.out.1], ints_set (cap := cap) HB.out k (by rw [HY.out.1]; omega) _, HY.out.2.setCell (p := ⟨g, k, none⟩) (fun _ => rfl) _⟩
        case measure => simp [intOf]; omega
      · have hkL : k = L := by omega
        subst hkL
        have d1 : decide ((k : Int) < (k : Int)) = false := by simp
        have hI : Ints wr 3 (.slice (some ⟨g, 0, none⟩) k cap) ys (some g) := Or.inr ⟨g, cap, rest, by rw [hyl], rfl, hB, by rw [HB0.out.2.2]; simp [hyl, HB0.out.1], hm⟩
        have HI := Lib.hid hI
        have HK := Lib.hid hyl
        clear hI hB hyl hu
        go_wp2_with (at_builtin; refine wp_appU rfl _ _ rfl _ ys (some g) rfl (HI.out.upd ((Upd.refl (fun _ => False) wr).alloc _) (fun _ _ h => h)) wr.heap.size (-999) rfl (Blk.cell (Blk.new _ _ _) rfl) (by rw [HK.out]; omega) ?_; intro v' w1 hu1)
        go_returns
        exact ⟨⟨_, rfl⟩, ((HY.out.2.alloc _).trans hu1 (fun _ _ h => h))⟩
end Go.Proofs.Ytpajebedeacpgaa
