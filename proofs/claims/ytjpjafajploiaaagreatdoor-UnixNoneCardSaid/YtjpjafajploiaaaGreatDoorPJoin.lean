/-
  Paths: Join, of the program and of the document.
-/
import Derived.Test.YtjpjafajploiaaaGreatDoorPRef
namespace Go.Proofs.YtjpjafajploiaaaGreatDoor
set_option linter.unusedSimpArgs false
set_option linter.unusedVariables false
open Go.RowKit Own RegJ
open Go.Lib hiding intOf

def ValB (v : Value) (w : World) (e : Ending) (w' : World) : Prop := e = .returned v ∧ Below w.heap.size w w'
theorem B_app (a b : Txt) : B a ++ B b = B (a ++ b) := by
  apply ByteArray.ext; simp
theorem ljoin (xs : List Txt) : 47 :: Lib.join xs [47] = joinT xs := by
  unfold joinT
  cases xs with
  | nil => rfl
  | cons x r =>
    rw [if_neg (by simp), join_cons, List.flatMap_cons]
    unfold joinTail
    rw [List.flatMap_def]
    simp [Function.comp_def]
theorem flat_len (ys : List Txt) (h : everyE ys = 0) : (ys.flatMap fun x => (47 : UInt8) :: x).length ≤ 54 := by
  have : ∀ ys : List Txt, (∀ x ∈ ys, nameE x = 0) → (ys.flatMap fun x => (47 : UInt8) :: x).length ≤ 9 * ys.length := by
    intro ys
    induction ys with
    | nil => intro _; simp
    | cons y r ih =>
      intro hy
      have h2 := ih (fun x hx => hy x (by simp [hx]))
      have h3 := (name_ok (hy y (by simp))).2.2
      rw [List.flatMap_cons, List.length_append, List.length_cons, List.length_cons]
      omega
  have h1 := this ys (first_mem (every_ok h).1)
  have h2 := (every_ok h).2
  omega
theorem ljoin_len (xs : List Txt) (h : everyE xs = 0) : (Lib.join xs [47]).length ≤ 60 := by
  have h1 : (joinT xs).length ≤ 60 := by
    unfold joinT
    by_cases he : xs = []
    · rw [if_pos he]; simp
    · rw [if_neg he]; have := flat_len xs h; omega
  have h3 := congrArg List.length (ljoin xs)
  simp at h3
  omega
theorem cell_lt' {w : World} {a : Addr} {v : Value} (h : w.cell? a = some v) : a.block < w.heap.size := by
  rcases Nat.lt_or_ge a.block w.heap.size with h1 | h1
  · exact h1
  · unfold World.cell? at h; simp [Array.getElem?_eq_none h1] at h
theorem sjoin {w : World} {a : Option Addr} {xs : List Txt} (n c : Nat) (h : RdT w a xs) (hn : xs.length = n) (hc : n ≤ c) (hE : everyE xs = 0) :
    Calls Tryz.prog 229 #[.slice a n c, .string (B [47])] w (ValB (.string (B (Lib.join xs [47]))) w) := by
  subst hn
  cases xs with
  | nil =>
    refine (Tryz.strings_Join_none a c (B [47]) w).mono ?_
    rintro e w' ⟨rfl, rfl⟩
    exact ⟨rfl, Below.refl _ _⟩
  | cons x r =>
    obtain ⟨g, o, rfl, k0⟩ := h 0 x rfl
    have h2 := (every_ok hE).2
    have hjl := ljoin_len _ hE
    have hmap : ((x :: r).map B).map (·.data.toList) = x :: r := by
      rw [List.map_map]
      have : ((fun s : ByteArray => s.data.toList) ∘ B) = id := by funext l; exact data_B l
      rw [this, List.map_id]
    have hx := Tryz.strings_Join g o c ((x :: r).map B) (B [47]) w (by
      intro j y hj
      rw [List.getElem?_map] at hj
      obtain ⟨t, ht, rfl⟩ := Option.map_eq_some_iff.1 hj
      obtain ⟨g', o', he, k1⟩ := h j t ht
      cases he
      exact k1) (cell_lt' k0) (by rw [List.length_map]; omega) (by rw [List.length_map]; exact hc) (by rw [hmap]; show (Lib.join (x :: r) (B [47]).data.toList).length ≤ _; rw [data_B]; omega)
    rw [hmap, List.length_map] at hx
    refine hx.mono ?_
    rintro e w' ⟨rfl, hB⟩
    exact ⟨rfl, hB⟩
set_option maxRecDepth 100000 in
theorem join_is {w : World} {a : Option Addr} {xs : List Txt} (n c : Nat) (h : RdT w a xs) (hn : xs.length = n) (hc : n ≤ c) (hm : n ≤ maxLen) :
    Calls Tryz.prog 195 #[.slice a n c] w (ValB (.tuple #[.string (B (joinR xs)), .int .i64 (everyE xs)]) w) := by
  have hev := every_is n c h hn hm
  unfold joinR
  by_cases hE : everyE xs = 0
  · rw [if_pos hE]
    have hj := sjoin n c h hn hc hE
    have happ := B_app [47] (Lib.join xs [47])
    rw [show ([47] : Txt) ++ Lib.join xs [47] = joinT xs from ljoin xs] at happ
    rw [hE] at hev ⊢
    have hz1 := B_size (Lib.join xs [47])
    have hz2 := ljoin_len xs hE
    have hz : ¬ 9223372036854775807 < 1 + (B (Lib.join xs [47])).size := by omega
    clear hz1 hz2
    generalize B (Lib.join xs [47]) = j at *
    generalize B (joinT xs) = q at *
    clear hE h hn
    go_enter Tryz.func195, Tryz.ntmps195
    go_wp2_with (first
      | (go_at_call 180; refine hev.mono ?_; rintro e w1 ⟨rfl, rfl⟩)
      | (go_at_call 229; refine hj.mono ?_; rintro e w2 ⟨rfl, hB⟩))
    go_returns
    exact ⟨rfl, hB⟩
  · rw [if_neg hE]
    have d1 : (everyE xs == 0) = false := by simpa using hE
    have d2 : (everyE xs != 0) = true := by simpa using hE
    generalize everyE xs = N at *
    clear hE h hn
    go_enter Tryz.func195, Tryz.ntmps195
    go_wp2_with (go_at_call 180; refine hev.mono ?_; rintro e w1 ⟨rfl, rfl⟩)
    go_returns
    exact ⟨rfl, Below.refl _ _⟩
/-- the doc's text, as it grows -/
def accT (xs : List Txt) (i : Nat) : Txt := (xs.take i).flatMap fun x => 47 :: x
theorem accT_next (xs : List Txt) (i : Nat) (x : Txt) (h : xs[i]? = some x) : accT xs (i + 1) = accT xs i ++ [47] ++ x := by
  unfold accT
  have hi : i < xs.length := (List.getElem?_eq_some_iff.1 h).1
  rw [List.take_succ_eq_append_getElem hi, List.flatMap_append]
  rw [List.getElem?_eq_getElem hi] at h
  rw [Option.some.inj h]
  simp
theorem accT_nil (xs : List Txt) : accT xs xs.length = [] ↔ xs = [] := by
  unfold accT
  rw [List.take_length]
  cases xs <;> simp
set_option maxRecDepth 100000 in
theorem rjoin_is {w : World} {a : Option Addr} {xs : List Txt} (n c : Nat) (h : RdT w a xs) (hn : xs.length = n) (hm : n ≤ maxLen) :
    Calls Tryz.prog 240 #[.slice a n c] w (ValB (.tuple #[.string (B (joinR xs)), .int .i64 (everyE xs)]) w) := by
  unfold maxLen at hm
  obtain ⟨J, hJ⟩ : ∃ J, joinR xs = J := ⟨_, rfl⟩
  obtain ⟨N, hN⟩ : ∃ N, everyE xs = N := ⟨_, rfl⟩
  rw [hJ, hN]
  have HN := Lib.hid hN
  have HJ := Lib.hid hJ
  have HR := Lib.hid (And.intro h hn)
  clear h hn hN hJ
  go_enter Tryz.func240, Tryz.ntmps240
  go_wp2_with (fail)
  go_loopw [5] (fun ix wr => ∃ i : Nat, i ≤ n ∧ ix = .int .i64 i ∧ wr = w ∧ Hid (Upto xs i)) (fun ix _ => n - (intOf ix).toNat)
  case atStart => exact ⟨0, Nat.zero_le _, rfl, rfl, Lib.hid (fun j y hj => by omega)⟩
  case round =>
    obtain ⟨i, hi, rfl, rfl, HU⟩ := hrel
    by_cases hil : i < n
    · obtain ⟨x, hx⟩ : ∃ x, xs[i]? = some x := ⟨xs[i]'(by rw [HR.out.2]; exact hil), List.getElem?_eq_getElem _⟩
      obtain ⟨g, o, rfl, k0⟩ := HR.out.1 i x hx
      have HX := Lib.hid hx
      clear hx
      have d1 : decide ((i : Int) < (n : Int)) = true := by simp; omega
      have i1 : (i : Int) < (n : Int) := by omega
      have i2 : (0 : Int) ≤ i := by omega
      have hnm := rname_is x
      by_cases hE : nameE x = 0
      · rw [hE] at hnm
        have HE := Lib.hid hE
        clear hE
        go_wp2_with (go_at_call 213; refine (hnm _).mono ?_; rintro e w' ⟨rfl, rfl⟩)
        go_roundw
        case rel => exact ⟨i + 1, by omega, by go_num, by trivial, Lib.hid (HU.out.next HX.out HE.out)⟩
        case measure => simp [intOf]; omega
      · have hNx : N = nameE x := by rw [← HN.out]; exact HU.out.bad HX.out hE
        have hJx : J = [] := by rw [← HJ.out]; unfold joinR; rw [if_neg (by rw [HN.out, hNx]; exact hE)]
        subst hJx
        rw [← hNx] at hnm hE
        have d2 : (N == 0) = false := by simpa using hE
        have d3 : (N != 0) = true := by simpa using hE
        clear hNx HN HJ
        go_wp2_with (go_at_call 213; refine (hnm _).mono ?_; rintro e w' ⟨rfl, rfl⟩)
        go_returns
        exact ⟨rfl, Below.refl _ _⟩
    · have hNx : N = if 6 < n then 20 else 0 := by
        have := HU.out.all (by rw [HR.out.2]; omega)
        rw [HN.out, HR.out.2] at this; exact this
      have d1 : decide ((i : Int) < (n : Int)) = false := by simp; omega
      have d2 : decide (i < n) = false := by simp; omega
      by_cases h6 : 6 < n
      · rw [if_pos h6] at hNx
        have hJx : J = [] := by rw [← HJ.out]; unfold joinR; rw [if_neg (by rw [HN.out, hNx]; omega)]
        subst hJx
        subst hNx
        have d3 : decide ((n : Int) > 6) = true := by simp; omega
        clear hil hi HN HU HR
        go_wp2_with (fail)
        go_returns
        exact ⟨rfl, Below.refl _ _⟩
      · rw [if_neg h6] at hNx
        have hJx : J = joinT xs := by rw [← HJ.out]; unfold joinR; rw [if_pos (by rw [HN.out, hNx])]
        subst hNx
        have HJ2 := Lib.hid hJx
        have d3 : decide ((n : Int) > 6) = false := by simp; omega
        clear hil hi HU hJx
        go_wp2_with (fail)
        go_loopw [4, 7] (fun v4 kx wq => ∃ k : Nat, k ≤ n ∧ kx = .int .i64 k ∧ v4 = .string (B (accT xs k)) ∧ wq = wr) (fun _ kx _ => n - (intOf kx).toNat)
        case atStart => exact ⟨0, Nat.zero_le _, rfl, rfl, rfl⟩
        case round =>
          obtain ⟨k, hk, rfl, rfl, rfl⟩ := hrel
          by_cases hkl : k < n
          · obtain ⟨x, hx⟩ : ∃ x, xs[k]? = some x := ⟨xs[k]'(by rw [HR.out.2]; exact hkl), List.getElem?_eq_getElem _⟩
            obtain ⟨g, o, rfl, k0⟩ := HR.out.1 k x hx
            have e1 := B_app (accT xs k) [47]
            have e2 := B_app (accT xs k ++ [47]) x
            have HA := Lib.hid (accT_next xs k x hx)
            clear hx
            have d4 : decide ((k : Int) < (n : Int)) = true := by simp; omega
            have i1 : (k : Int) < (n : Int) := by omega
            have i2 : (0 : Int) ≤ k := by omega
            have z1 := B_size (accT xs k)
            have z2 := B_size (accT xs k ++ [47])
            have z3 := B_size x
            have z4 := flat_len _ (every_take (k + 1) HN.out)
            rw [show (xs.take (k + 1)).flatMap (fun x => (47 : UInt8) :: x) = accT xs (k + 1) from rfl, HA.out, List.length_append, List.length_append] at z4
            rw [List.length_append] at z2
            have hz1 : ¬ 9223372036854775807 < (B (accT xs k)).size + 1 := by omega
            have hz2 : ¬ 9223372036854775807 < (B (accT xs k ++ [47])).size + (B x).size := by omega
            clear z1 z2 z3 z4
            generalize B x = bx at *
            generalize B (accT xs k) = b0 at *
            generalize B (accT xs k ++ [47]) = b1 at *
            go_wp2_with (fail)
            go_roundw
            case rel => exact ⟨k + 1, by omega, by go_num, by rw [HA.out]; simp, by trivial⟩
            case measure => simp [intOf]; omega
          · have hkn : k = n := by omega
            have d4 : decide ((k : Int) < (n : Int)) = false := by simp; omega
            have d5 : decide (k < n) = false := by simp; omega
            have hE2 : (B (accT xs k)).toList.isEmpty = decide (xs = []) := by
              rw [B_list, hkn, ← HR.out.2]
              by_cases he : xs = []
              · rw [decide_eq_true he, (accT_nil xs).2 he]; rfl
              · rw [decide_eq_false he]
                have := fun h => he ((accT_nil xs).1 h)
                cases hc : accT xs xs.length with
                | nil => exact absurd hc this
                | cons _ _ => rfl
            by_cases he : xs = []
            · rw [decide_eq_true he] at hE2
              have hJx : J = [47] := by rw [HJ2.out]; unfold joinT; rw [if_pos he]
              subst hJx
              clear hkn hkl hk he HR HJ HJ2 HN
              generalize B (accT xs k) = b0 at *
              go_wp2_with (fail)
              go_returns
              exact ⟨rfl, Below.refl _ _⟩
            · rw [decide_eq_false he] at hE2
              have hJx : J = accT xs k := by rw [HJ2.out, hkn, ← HR.out.2]; unfold joinT accT; rw [if_neg he, List.take_length]
              subst hJx
              clear hkn hkl hk he HR HJ HJ2 HN
              generalize B (accT xs k) = b0 at *
              go_wp2_with (fail)
              go_returns
              exact ⟨rfl, Below.refl _ _⟩
end Go.Proofs.YtjpjafajploiaaaGreatDoor
