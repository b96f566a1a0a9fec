/-
  Scripts printed: a line of numbers that were just laid, by the program; a task's numbers and its uses in one row.
-/
import Derived.Test.YtefaaginedideaaGreatDoorPrN
import Derived.Test.YtefaaginedideaaGreatDoorCfg
import Derived.Deep.Upon
namespace Go.Proofs.YtefaaginedideaaGreatDoor
set_option linter.unusedSimpArgs false
set_option linter.unusedVariables false
open Go.RowKit Own RegJ
open Go.Lib hiding intOf

theorem RdC.rdb {B : Nat} {w w' : World} {a : Option Addr} {cs : List Value} (h : RdC w a cs) (hB : w.heap.size ≤ B) (hb : Below w.heap.size w w') : RdB B w' a cs := fun k v hk => by
  obtain ⟨g, o, ha, hc⟩ := h k v hk
  have hg := World.block_lt_of_cell? _ _ hc
  exact ⟨g, o, ha, (hb.cell (p := ⟨g, o + k, none⟩) hg).trans hc, Nat.lt_of_lt_of_le hg hB⟩
theorem RdB.rdc {B : Nat} {w : World} {a : Option Addr} {cs : List Value} (h : RdB B w a cs) : RdC w a cs := fun k v hk => by
  obtain ⟨g, o, ha, hc, _⟩ := h k v hk
  exact ⟨g, o, ha, hc⟩
theorem rds_new {B b : Nat} {w : World} (hb : b < w.heap.size) (ns : List Int) (cs : Array Value) (hcs : cs = (icells ns).toArray) : RdS B b (w.alloc (.cells cs 3)) (some ⟨w.heap.size, 0, none⟩) ns := fun k n hk => by
  subst hcs
  refine ⟨w.heap.size, 0, rfl, ?_, .inr ⟨by omega, .cells (icells ns).toArray 3 (0, 0), ?_, fun c fz => by simp⟩⟩
  · rw [(Blk.new w _ _).rd, Nat.zero_add, List.getElem?_toArray, List.getElem?_map, hk]; rfl
  · exact Blk.new w (icells ns).toArray 3
theorem pline_new {B b : Nat} {bad : Bool} {l word : Txt} {w : World} (ns : List Int) (n c : Nat) (cs : Array Value) (hcs : cs = (icells ns).toArray) (hE : Env w) (h8 : 8 ≤ B) (hBw : B ≤ w.heap.size) (h : Pr B b bad l w) (hn : ns.length = n) (hrg : Rng ns) (hlen : l.length + word.length + 22 * n + 1 ≤ 140737488355328) :
    Calls Tryz.prog 22 #[.pointer (some ⟨b, 0, none⟩), .string (Go.Proofs.YtefaaginedideaaGreatDoor.B word), .slice (some ⟨w.heap.size, 0, none⟩) n c] (w.alloc (.cells cs 3)) fun e w' => e = .returned (.tuple #[]) ∧ PrR B b (bad || badB ns) (l ++ lineT word ns ++ [10]) w w' := by
  have hal := (Below.refl w.heap.size w).alloc (Nat.le_refl _) (.cells cs 3)
  refine (pline_is n c (hE.bel hal) h8 (Nat.le_trans hBw hal.size) (h.alloc _) (rds_new h.lt ns cs hcs) hn hrg hlen).mono ?_
  rintro e w' ⟨he, hr⟩
  exact ⟨he, BldR.bel hBw hal hr⟩
/-- next, its world told -/
theorem pnext_ex {B b : Nat} {bad : Bool} {l : Txt} {w : World} (x : Int) (h : Pr B b bad l w) :
    Calls Tryz.prog 36 #[.pointer (some ⟨b, 0, none⟩), .int .i64 x] w fun e w' => e = .returned (.int .i64 (nextV x)) ∧ w' = if nextB x = true then w.setCell ⟨b, 2, none⟩ (.bool true) else w := by
  have c2 : w.cell? ⟨b, 2, none⟩ = some (.bool bad) := h.tl 0
  have f2 := h.nf 2
  clear h
  by_cases h1 : x < -1
  · have e1 : nextB x = true := by unfold nextB; rw [decide_eq_true h1]; rfl
    have e2 : nextV x = 0 := by unfold nextV; rw [if_pos e1]
    rw [if_pos e1, e2]
    clear e1 e2
    go_enter Tryz.func36, Tryz.ntmps36
    go_wp2_with (fail)
    go_ret
    exact ⟨rfl, rfl⟩
  · have d1 : decide (x < -1) = false := decide_eq_false h1
    by_cases h2 : 999999 ≤ x
    · have e1 : nextB x = true := by unfold nextB; rw [decide_eq_true h2]; simp
      have e2 : nextV x = 0 := by unfold nextV; rw [if_pos e1]
      rw [if_pos e1, e2]
      have d2 : x ≥ 999999 := h2
      clear e1 e2 h1
      go_enter Tryz.func36, Tryz.ntmps36
      go_wp2_with (fail)
      go_ret
      exact ⟨rfl, rfl⟩
    · have e1 : nextB x = false := by unfold nextB; rw [d1, decide_eq_false h2]; rfl
      have e2 : nextV x = x + 1 := by unfold nextV; rw [e1]; rfl
      rw [e1, e2, if_neg (by decide)]
      have d2 : decide (x ≥ 999999) = false := decide_eq_false h2
      have d3 : -1 ≤ x := by omega
      have d4 : x ≤ 999998 := by omega
      clear e1 e2 h1 h2
      go_enter Tryz.func36, Tryz.ntmps36
      go_wp2_with (fail)
      go_ret
      exact ⟨rfl, rfl⟩
theorem nextW {B b : Nat} {bad : Bool} {l : Txt} {w w1 : World} (x : Int) (h : PrR B b bad l w w1) : PrR B b (bad || nextB x) l w (if nextB x = true then w1.setCell ⟨b, 2, none⟩ (.bool true) else w1) := by
  cases hx : nextB x
  · rw [if_neg (by decide), Bool.or_false]; exact h
  · rw [if_pos rfl, Bool.or_true]; exact PrR.bad h
/-- six numbers and a row behind them: the append's outcome told ahead -/
theorem app_uses {w : World} {xs us : List Int} {ua : Option Addr} {uc g : Nat} {v : Value} {n : Nat} (hI : Rw w 3 1 v n (icells xs) (some g)) (hxs : xs.length = n) (hr : RdC w ua (icells us)) (nu : Nat) (hnu : us.length = nu) (hlen : n + nu ≤ 1000000) :
    ∃ v' w', (Builtin.append_ #[39, 39] 39 #[v, .slice ua nu uc]).run Tryz.prog w = .ok v' w' ∧ AppR w 3 1 (n + nu) (icells xs ++ icells us) (some g) v' w' := by
  by_cases h0 : nu = 0
  · subst h0
    have hus : us = [] := List.eq_nil_of_length_eq_zero hnu
    subst hus
    obtain ⟨cap, rest, rfl, hB, hc, hcn, hm⟩ := hI.blk g rfl
    obtain ⟨i0, hi, hz0, hz1, hzb⟩ := info_parts infoInt'
    have hrun := fun (hs : Src Tryz.prog i0.size 39 (.slice ua 0 uc) 0 [] w) => run_append_nothing w 39 39 39 3 i0 Tryz.underlying39 hi (some ⟨g, 0, none⟩) n cap hcn _ hs
    refine ⟨_, w, hrun ?_, some g, by simpa using hI, Upd.refl _ _, fun g' hg' => .inl hg'⟩
    cases ua with
    | none => exact Src.ofNil w Tryz.underlying39 uc
    | some ad => exact Src.ofSlice w Tryz.underlying39 ad 0 uc [] (by simp) (fun j u hj => by cases hj) (fun u hu => by cases hu) 
  · obtain ⟨x, hx⟩ : ∃ x, us[0]? = some x := ⟨us[0]'(by omega), List.getElem?_eq_getElem _⟩
    obtain ⟨gu, o, rfl, hk⟩ := hr.at (i := 0) (v := .int .i64 x) (by rw [List.getElem?_map, hx]; rfl)
    refine app_run (P := Tryz.prog) (S := 39) 39 _ 1 8 infoInt' rfl (by decide) (by decide) Tryz.underlying39 hI ⟨gu, o, none⟩ nu uc (icells us) (by rw [List.length_map, hnu, Nat.mul_one]) (fun j u hj => ?_) (fun u hu => ?_) hlen
    · have h1 := hk j u hj
      rw [← h1]
      congr 1
      unfold Addr.add
      by_cases hj0 : j = 0
      · subst hj0; rfl
      · rw [if_neg hj0]
    · rw [List.mem_map] at hu
      obtain ⟨y, _, rfl⟩ := hu
      rfl
end Go.Proofs.YtefaaginedideaaGreatDoor
