/-
  The document's queue: at, Has, All; a One is appended.
-/
import Derived.Test.YtpajebedeacpgaaRD7
import Derived.Test.YtpajebedeacpgaaFour
namespace Go.Proofs.Ytpajebedeacpgaa
set_option linter.unusedSimpArgs false
set_option linter.unusedVariables false
open Go.RowKit Own Sl Four
open RegJ hiding Up
open RegF hiding put_size

abbrev OneT : TypeId := 66
theorem infoOne : (Try.prog.info? 66).map (fun i => (i.zero, i.size, i.bytes)) = some (some (.agg #[.int .i64 0, .int .i64 0, .int .i64 0, .int .i64 0]), 4, 32) := by kernel_rfl
/-- the document's queue, its row in block b -/
def RQ (w : World) (rb : Nat) (L : List One) (b : Option Nat) : Prop := ∃ v, Blk w rb #[v] 29 ∧ Row4 w 66 v L b ∧ b ≠ some rb
theorem RQ.upd {w w' : World} {rb : Nat} {L : List One} {b : Option Nat} {F : Nat → Prop} (h : RQ w rb L b) (hu : Upd F w w') (h1 : ¬ F rb) (h2 : ∀ g, b = some g → ¬ F g) : RQ w' rb L b := by
  obtain ⟨v, k1, k2, k3⟩ := h
  exact ⟨v, Blk.upd hu k1 h1, k2.upd hu h2, k3⟩
theorem RQ.below {w w' : World} {rb : Nat} {L : List One} {b : Option Nat} (h : RQ w rb L b) (hb : Below w.heap.size w w') : RQ w' rb L b := h.upd (Upd.of_below (F := fun _ => False) hb) (fun h => h) (fun _ _ h => h)
/-- the ones of a row can be read -/
def RdO (w : World) (a : Option Addr) (L : List One) : Prop := ∀ (k : Nat) (x : One), L[k]? = some x → ∃ g, a = some ⟨g, 0, none⟩ ∧ w.cell? ⟨g, k * 4, none⟩ = some (.int .i64 x.1) ∧ w.cell? ⟨g, k * 4 + 1, none⟩ = some (.int .i64 x.2.1) ∧ w.cell? ⟨g, k * 4 + 2, none⟩ = some (.int .i64 x.2.2.1) ∧ w.cell? ⟨g, k * 4 + 3, none⟩ = some (.int .i64 x.2.2.2)
theorem RQ.view {w : World} {rb : Nat} {L : List One} {b : Option Nat} (h : RQ w rb L b) : ∃ a c, Blk w rb #[.slice a L.length c] 29 ∧ RdO w a L := by
  obtain ⟨v, hb, hI, _⟩ := h
  rcases hI with ⟨rfl, rfl, _⟩ | ⟨g, cap, rest, rfl, rfl, hB, _, _⟩
  · exact ⟨none, 0, hb, fun k x hx => by simp at hx⟩
  · exact ⟨_, _, hb, fun k x hx => ⟨g, rfl, blk_row hB k x hx⟩⟩
theorem RdO.keep {w w' : World} {a : Option Addr} {L : List One} (h : RdO w a L) {B : Nat} (hb : Below B w w') (hB : w.heap.size ≤ B) : RdO w' a L := fun k x hx => by
  obtain ⟨g, h1, h2, h3, h4, h5⟩ := h k x hx
  exact ⟨g, h1, below_cell hb hB h2, below_cell hb hB h3, below_cell hb hB h4, below_cell hb hB h5⟩
theorem iq_below' {w w1 : World} {v : Value} {l : List Int} (h : IQ w w1 v l) : Below w.heap.size w w1 := by
  obtain ⟨b, _, _, hB⟩ := h
  exact hB
/-- where somebody stands -/
def AtP (L : List One) (id : Int) (w : World) (e : Ending) (w' : World) : Prop := (∃ r : Int, e = .returned (.int .i64 r) ∧ ((r = -1 ∧ hasO L id = false) ∨ ∃ (i : Nat) (x : One), r = i ∧ L[i]? = some x ∧ x.1 = id)) ∧ w' = w
set_option maxRecDepth 100000 in
theorem rat_is {w : World} {rb : Nat} {L : List One} {b : Option Nat} (h : RQ w rb L b) (hl : L.length ≤ 1000) (id : Int) : Calls Try.prog 30 #[.pointer (some ⟨rb, 0, none⟩), .int .i64 id] w (AtP L id w) := by
  obtain ⟨a, c, hb, hr⟩ := h.view
  have c0 := hb.rd
  have H := Lib.hid hr
  clear h hb hr
  generalize hnn : L.length = n at *
  have HN := Lib.hid hnn
  clear hnn
  go_enter Try.func30, Try.ntmps30
  go_wp2_with (fail)
  go_loopw [5] (fun v5 wr => ∃ i : Nat, i ≤ n ∧ v5 = .int .i64 i ∧ Hid (∀ (j : Nat) (x : One), j < i → L[j]? = some x → x.1 ≠ id) ∧ wr = w) (fun v5 _ => n - (intOf v5).toNat)
  case atStart => exact ⟨0, Nat.zero_le _, rfl, Lib.hid (fun j x hj => by omega), rfl⟩
  case round =>
    obtain ⟨i, hi, rfl, HA, rfl⟩ := hrel
    by_cases hil : i < n
    · have d1 : decide ((i : Int) < (n : Int)) = true := by simp; omega
      have i1 : (i : Int) < (n : Int) := by omega
      have i2 : (0 : Int) ≤ i := by omega
      obtain ⟨x, hx⟩ : ∃ x, L[i]? = some x := ⟨_, List.getElem?_eq_getElem (by rw [HN.out]; exact hil)⟩
      obtain ⟨g, rfl, r1, _⟩ := H.out i x hx
      by_cases hxi : x.1 = id
      · have d2 : (x.1 == id) = true := by simpa using hxi
        have HX := Lib.hid (And.intro hx hxi)
        clear hx hxi
        go_wp2_with (fail)
        go_ret
        exact ⟨⟨_, rfl, Or.inr ⟨i, x, rfl, HX.out.1, HX.out.2⟩⟩, rfl⟩
      · have d2 : (x.1 == id) = false := by simpa using hxi
        have HX := Lib.hid (And.intro hx hxi)
        clear hx hxi
        go_wp2_with (fail)
        go_roundw
        case rel => exact ⟨i + 1, by omega, by go_num, Lib.hid (fun j y hj hy => by
          by_cases hji : j < i
          · exact HA.out j y hji hy
          · have : j = i := by omega
            subst this; rw [HX.out.1] at hy; cases hy; exact HX.out.2), by trivial⟩
        case measure => simp [intOf]; omega
    · have d1 : decide ((i : Int) < (n : Int)) = false := by simp; omega
      go_wp2_with (fail)
      go_ret
      refine ⟨⟨_, rfl, Or.inl ⟨rfl, ?_⟩⟩, rfl⟩
      cases hh : hasO L id with
      | false => rfl
      | true =>
        obtain ⟨y, hy, he⟩ := List.mem_map.1 (hasO_iff.1 hh)
        obtain ⟨k, hk, hke⟩ := List.getElem_of_mem hy
        exact absurd he (HA.out k y (by rw [HN.out] at hk; omega) (by rw [List.getElem?_eq_getElem hk, hke]))
theorem hasO_at {L : List One} {i : Nat} {x : One} (h : L[i]? = some x) : hasO L x.1 = true := hasO_iff.2 (List.mem_map_of_mem (List.mem_of_getElem? h))
set_option maxRecDepth 100000 in
theorem rhas_is {w : World} {rb : Nat} {L : List One} {b : Option Nat} (h : RQ w rb L b) (hl : L.length ≤ 1000) (id : Int) : Calls Try.prog 20 #[.pointer (some ⟨rb, 0, none⟩), .int .i64 id] w (fun e w' => e = .returned (.bool (hasO L id)) ∧ w' = w) := by
  have ha := rat_is h hl id
  clear h
  go_enter Try.func20, Try.ntmps20
  go_wp2_with (go_at_call 30; (with_reducible refine ha.mono ?_); rintro e w1 ⟨⟨r, rfl, hr⟩, rfl⟩; have HR := Lib.hid hr; clear ha hr)
  go_ret
  refine ⟨?_, rfl⟩
  rcases HR.out with ⟨rfl, h1⟩ | ⟨i, x, rfl, hx, he⟩
  · rw [h1]; rfl
  · rw [← he, hasO_at hx]
    simp
set_option maxRecDepth 100000 in
theorem dall_is {w : World} {rb : Nat} {L : List One} {b : Option Nat} (h : RQ w rb L b) (hl : L.length ≤ 1000) : Calls Try.prog 17 #[.pointer (some ⟨rb, 0, none⟩)] w (RAllP w (L.map Prod.fst)) := by
  obtain ⟨a, c, hb, hr⟩ := h.view
  have H := Lib.hid (And.intro hb hr)
  clear h hb hr
  generalize hnn : L.length = n at *
  have HN := Lib.hid hnn
  clear hnn
  have hq0 : IQ w w (.slice none 0 0) [] := ⟨none, Or.inl ⟨rfl, rfl, rfl⟩, (fun g hg => by cases hg), Below.refl _ _⟩
  go_enter Try.func17, Try.ntmps17
  go_wp2_with (fail)
  go_loopw [3, 4] (fun v3 v4 wr => ∃ i : Nat, i ≤ n ∧ v4 = .int .i64 i ∧ IQ w wr v3 ((L.take i).map Prod.fst)) (fun _ v4 _ => n - (intOf v4).toNat)
  case atStart => exact ⟨0, Nat.zero_le _, rfl, hq0⟩
  case round =>
    obtain ⟨i, hi, rfl, hq⟩ := hrel
    clear hq0
    have hB := iq_below' hq
    have c0 := (Blk.below hB H.out.1 H.out.1.lt).rd
    by_cases hil : i < n
    · have d1 : decide ((i : Int) < (n : Int)) = true := by simp; omega
      have i1 : (i : Int) < (n : Int) := by omega
      have i2 : (0 : Int) ≤ i := by omega
      obtain ⟨x, hx⟩ : ∃ x, L[i]? = some x := ⟨_, List.getElem?_eq_getElem (by rw [HN.out]; exact hil)⟩
      obtain ⟨g, rfl, r1, _⟩ := H.out.2.keep hB (Nat.le_refl _) i x hx
      have HX := Lib.hid (And.intro hx hq)
      clear hx hq hB
      go_wp2_with (at_builtin; refine wp_one rfl _ _ rfl _ _ x.1 HX.out.2 (by rw [List.length_map, List.length_take]; omega) rfl rfl ?_; intro v2 w2 hq2; have HQ2 := Lib.hid hq2; clear hq2)
      go_roundw
      case rel => exact ⟨i + 1, by omega, by go_num, by
        have h1 := HQ2.out
        have e : (L.take (i + 1)).map Prod.fst = (L.take i).map Prod.fst ++ [x.1] := by
          rw [List.take_add_one, HX.out.1, List.map_append]; rfl
        rw [e]; exact h1⟩
      case measure => simp [intOf]; omega
    · have hii : i = n := by omega
      subst hii
      have d1 : decide ((i : Int) < (i : Int)) = false := by simp
      rw [List.take_of_length_le (by rw [HN.out]; exact Nat.le_refl _)] at hq
      have HQ := Lib.hid hq
      clear hq hB
      go_wp2_with (fail)
      go_returns
      exact ⟨_, rfl, HQ.out⟩
end Go.Proofs.Ytpajebedeacpgaa
