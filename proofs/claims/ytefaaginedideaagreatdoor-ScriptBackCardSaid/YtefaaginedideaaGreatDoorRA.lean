/-
  Script, the document's telling: Decimal, Quote, line.
-/
import Derived.Test.YtefaaginedideaaGreatDoorSB
namespace Go.Proofs.YtefaaginedideaaGreatDoor
set_option linter.unusedSimpArgs false
set_option linter.unusedVariables false
open Go.RowKit Own RegJ
open Go.Lib hiding intOf

theorem good_is (n : Int) (w : World) : Calls Tryz.prog 49 #[.int .i64 n] w fun e w' => e = .returned (.bool (goodB n)) ∧ w = w' := by
  unfold goodB
  by_cases h : 0 ≤ n
  · rw [decide_eq_true h]
    go_enter Tryz.func49, Tryz.ntmps49
    go_wp2
    go_ret
    exact ⟨ret_bool (by simp), rfl⟩
  · rw [decide_eq_false h]
    have h' : decide (n ≥ 0) = false := by simp; omega
    go_enter Tryz.func49, Tryz.ntmps49
    go_wp2
    go_ret
    exact ⟨ret_bool (by simp), rfl⟩
theorem dig_at {n : Nat} (hn : n < 10) : (⟨#[48, 49, 50, 51, 52, 53, 54, 55, 56, 57]⟩ : ByteArray).extract n (n + 1) = B (decDigits n) := by
  rw [decDigits, dif_pos hn]
  have : n = 0 ∨ n = 1 ∨ n = 2 ∨ n = 3 ∨ n = 4 ∨ n = 5 ∨ n = 6 ∨ n = 7 ∨ n = 8 ∨ n = 9 := by omega
  rcases this with rfl | rfl | rfl | rfl | rfl | rfl | rfl | rfl | rfl | rfl <;> rfl
theorem dec_big {n : Nat} (h : ¬ n < 10) : B (decDigits (n / 10)) ++ B (decDigits (n % 10)) = B (decDigits n) := by
  rw [B_app]
  congr 2
  conv => rhs; rw [decDigits, dif_neg h]
  congr 1
  rw [decDigits, dif_pos (by omega)]
theorem dec_size {n : Nat} (h : n ≤ 999999) : (B (decDigits n)).size ≤ 6 := by rw [B_size]; exact digits_len 5 n (by omega)
set_option maxRecDepth 100000 in
theorem dec_is : ∀ (n : Nat), n ≤ 999999 → ∀ w, Calls Tryz.prog 50 #[.int .i64 n] w fun e w' => e = .returned (.string (B (decDigits n))) ∧ w = w' := by
  intro n
  induction n using Nat.strongRecOn with
  | _ n ih =>
    intro hn w
    by_cases h : n < 10
    · have g1 := dig_at h
      have i1 : (n : Int) < 10 := by omega
      have i2 : (0 : Int) ≤ n := by omega
      clear ih
      generalize B (decDigits n) = x at *
      go_enter Tryz.func50, Tryz.ntmps50
      go_wp2
      go_ret
      exact ⟨rfl, rfl⟩
    · have h1 := ih (n / 10) (by omega) (by omega)
      have h2 := ih (n % 10) (by omega) (by omega)
      rw [show ((n / 10 : Nat) : Int) = (n : Int) / 10 by omega] at h1
      rw [show ((n % 10 : Nat) : Int) = (n : Int) % 10 by omega] at h2
      have g1 := dec_big h
      have z1 := dec_size (n := n / 10) (by omega)
      have z2 := dec_size (n := n % 10) (by omega)
      have i1 : decide ((n : Int) < 10) = false := by simp; omega
      have i2 : (0 : Int) ≤ n := by omega
      have hz : ¬ 9223372036854775807 < (B (decDigits (n / 10))).size + (B (decDigits (n % 10))).size := by omega
      clear ih z1 z2
      generalize B (decDigits (n / 10)) = x at *
      generalize B (decDigits (n % 10)) = y at *
      generalize B (decDigits n) = z at *
      go_enter Tryz.func50, Tryz.ntmps50
      go_wp2_with (first
        | (go_at_call 50; (with_reducible refine (h1 _).mono ?_); rintro e w' ⟨rfl, rfl⟩)
        | (go_at_call 50; (with_reducible refine (h2 _).mono ?_); rintro e w' ⟨rfl, rfl⟩))
      go_ret
      exact ⟨rfl, rfl⟩
theorem goodB_nat {n : Int} (h : goodB n = true) : ∃ u : Nat, n = u ∧ u ≤ 999999 ∧ itoa n = decDigits u := by
  simp only [goodB, Bool.and_eq_true, decide_eq_true_eq] at h
  refine ⟨n.toNat, by omega, by omega, ?_⟩
  unfold itoa; rw [if_neg (by omega)]
def rlineT (word : Txt) (ns : List Int) : Txt := if badB ns = true then [] else lineT word ns
theorem bad_upto {ns : List Int} {i : Nat} {x : Int} (h : ns[i]? = some x) (hx : goodB x = false) : badB ns = true := by
  unfold badB
  rw [List.any_eq_true]
  exact ⟨x, List.mem_of_getElem? h, by rw [hx]; rfl⟩
theorem bad_none {ns : List Int} {n : Nat} (hn : ns.length = n) (h : ∀ i x, i < n → ns[i]? = some x → goodB x = true) : badB ns = false := by
  unfold badB
  rw [List.any_eq_false]
  intro x hx
  obtain ⟨i, hi, he⟩ := List.getElem_of_mem hx
  rw [h i x (by omega) (by rw [List.getElem?_eq_getElem hi, he])]
  simp
/-- a row of integers that can be read -/
def RdI (w : World) (a : Option Addr) (ns : List Int) : Prop := ∀ k n, ns[k]? = some n → ∃ g o, a = some ⟨g, o, none⟩ ∧ w.cell? ⟨g, o + k, none⟩ = some (.int .i64 n)
theorem RdI.below {w w' : World} {a : Option Addr} {ns : List Int} (h : RdI w a ns) (hb : Below w.heap.size w w') : RdI w' a ns := fun k n hn => by
  obtain ⟨g, o, ha, hc⟩ := h k n hn
  refine ⟨g, o, ha, ?_⟩
  have hl : g < w.heap.size := by
    rcases Nat.lt_or_ge g w.heap.size with h1 | h1
    · exact h1
    · unfold World.cell? at hc; simp [Array.getElem?_eq_none h1] at hc
  rw [hb.cell (p := ⟨g, o + k, none⟩) hl]; exact hc
/-- all numbers ahead of i may be written -/
def GoodTo (ns : List Int) (i : Nat) : Prop := ∀ j x, j < i → ns[j]? = some x → goodB x = true
theorem GoodTo.next {ns : List Int} {i : Nat} {x : Int} (h : GoodTo ns i) (hx : ns[i]? = some x) (hg : goodB x = true) : GoodTo ns (i + 1) := fun j y hj hy => by
  by_cases hji : j < i
  · exact h j y hji hy
  · have : j = i := by omega
    subst this; rw [hx] at hy; cases hy; exact hg
theorem numsT_lenG {ns : List Int} {i : Nat} (h : GoodTo ns i) : (numsT (ns.take i)).length ≤ 7 * i := by
  induction i with
  | zero => simp [numsT]
  | succ i ih =>
    have h1 := ih (fun j x hj hx => h j x (by omega) hx)
    by_cases hi : i < ns.length
    · have hx : ns[i]? = some ns[i] := List.getElem?_eq_getElem hi
      rw [numsT_next hx]
      obtain ⟨u, _, hu, he⟩ := goodB_nat (h i _ (by omega) hx)
      have := digits_len 5 u (by omega)
      simp only [List.length_append, List.length_cons, List.length_nil, he]; omega
    · rw [List.take_of_length_le (by omega)] at h1 ⊢; omega
set_option maxRecDepth 100000 in
set_option maxHeartbeats 1000000 in
theorem rline_is {word : Txt} {w : World} {a : Option Addr} {ns : List Int} (n c : Nat) (hr : RdI w a ns) (hn : ns.length = n) (hm : n ≤ 1000000) (hw : word.length ≤ 1000000) :
    Calls Tryz.prog 27 #[.string (B word), .slice a n c] w fun e w' => e = .returned (.tuple #[.string (B (rlineT word ns)), .bool (!badB ns)]) ∧ w = w' := by
  have HR := Lib.hid (And.intro hr hn)
  obtain ⟨R, hR⟩ : ∃ R, rlineT word ns = R := ⟨_, rfl⟩
  obtain ⟨bv, hbv⟩ : ∃ bv, (!badB ns) = bv := ⟨_, rfl⟩
  rw [hR, hbv]
  have HV := Lib.hid (And.intro hR hbv)
  clear hr hn hR hbv
  go_enter Tryz.func27, Tryz.ntmps27
  go_wp2_with (fail)
  go_loopw [0, 6] (fun v0 ix wr => ∃ i : Nat, i ≤ n ∧ ix = .int .i64 i ∧ v0 = .string (B (word ++ numsT (ns.take i))) ∧ wr = w ∧ Hid (GoodTo ns i)) (fun _ ix _ => n - (intOf ix).toNat)
  case atStart => exact ⟨0, Nat.zero_le _, rfl, by rw [List.take_zero]; simp [numsT], rfl, Lib.hid (fun j x hj => by omega)⟩
  case round =>
    obtain ⟨i, hi, rfl, rfl, rfl, HG⟩ := hrel
    by_cases hil : i < n
    · obtain ⟨x, hx⟩ : ∃ x, ns[i]? = some x := ⟨ns[i]'(by rw [HR.out.2]; exact hil), List.getElem?_eq_getElem _⟩
      obtain ⟨g, o, rfl, k0⟩ := HR.out.1 i x hx
      have d1 : decide ((i : Int) < (n : Int)) = true := by simp; omega
      have i1 : (i : Int) < (n : Int) := by omega
      have i2 : (0 : Int) ≤ i := by omega
      have hgd := good_is x
      by_cases hg : goodB x = true
      · have HX := Lib.hid (And.intro (numsT_next hx) (HG.out.next hx hg))
        obtain ⟨u, hu, hu6, he⟩ := goodB_nat hg
        have hl := numsT_lenG HG.out
        have hdc := dec_is u hu6
        have hdl := dec_size hu6
        rw [hg] at hgd
        rw [hu] at k0 hgd
        have HU := Lib.hid (And.intro hu he)
        have z1 : (B (word ++ numsT (ns.take i))).size ≤ 8000000 := by rw [B_size, List.length_append]; omega
        have z2 : (B (word ++ numsT (ns.take i) ++ [32])).size ≤ 8000001 := by rw [B_size, List.length_append] at *; simp at *; omega
        have e1 := B_app (word ++ numsT (ns.take i)) [32]
        have e2 := B_app (word ++ numsT (ns.take i) ++ [32]) (decDigits u)
        have hz1 : ¬ 9223372036854775807 < (B (word ++ numsT (ns.take i))).size + 1 := by omega
        have hz2 : ¬ 9223372036854775807 < (B (word ++ numsT (ns.take i) ++ [32])).size + (B (decDigits u)).size := by omega
        have hfin : B (word ++ numsT (ns.take i) ++ [32] ++ decDigits u) = B (word ++ numsT (ns.take (i + 1))) := by rw [HX.out.1, HU.out.2]; simp
        have HF := Lib.hid hfin
        clear hx hg hu he hl hdl z1 z2 hfin
        generalize B (word ++ numsT (ns.take i) ++ [32] ++ decDigits u) = b3 at *
        generalize B (word ++ numsT (ns.take i) ++ [32]) = b2 at *
        generalize B (word ++ numsT (ns.take i)) = b1 at *
        generalize B (decDigits u) = bd at *
        go_wp2_with (first
          | (go_at_call 49; refine (hgd _).mono ?_; rintro e w' ⟨rfl, rfl⟩)
          | (go_at_call 50; refine (hdc _).mono ?_; rintro e w' ⟨rfl, rfl⟩))
        go_roundw
        case rel => exact ⟨i + 1, by omega, by go_num, by rw [HF.out], by trivial, Lib.hid HX.out.2⟩
        case measure => simp [intOf]; omega
      · have hg' : goodB x = false := by simpa using hg
        have hb := bad_upto hx hg'
        rw [hg'] at hgd
        have hT : rlineT word ns = [] := by unfold rlineT; rw [if_pos hb]
        obtain rfl : R = [] := HV.out.1.symm.trans hT
        obtain rfl : bv = false := by rw [← HV.out.2, hb]; rfl
        clear hx hg hg' hT hb HV
        generalize B (word ++ numsT (ns.take i)) = b1 at *
        go_wp2_with (first
          | (go_at_call 49; refine (hgd _).mono ?_; rintro e w' ⟨rfl, rfl⟩))
        go_ret2
        exact ⟨rfl, rfl⟩
    · have hie : i = n := by omega
      have hb := bad_none HR.out.2 (fun j x hj hx => HG.out j x (by omega) hx)
      have hT : rlineT word ns = word ++ numsT (ns.take i) := by unfold rlineT lineT; rw [hb, if_neg (by simp), hie, ← HR.out.2, List.take_length]
      obtain rfl : R = word ++ numsT (ns.take i) := HV.out.1.symm.trans hT
      obtain rfl : bv = true := by rw [← HV.out.2, hb]; rfl
      have d1 : decide ((i : Int) < (n : Int)) = false := by simp; omega
      have d2 : decide (i < n) = false := by simp; omega
      clear hT hb hie HR HG HV
      generalize hb1 : B (word ++ numsT (ns.take i)) = b1 at *
      have HB1 := Lib.hid hb1
      clear hb1
      go_wp2_with (fail)
      go_ret2
      exact ⟨by rw [HB1.out]; rfl, rfl⟩
/-! ### Quote -/
theorem ext_one {l : Txt} {i : Nat} {c : UInt8} (h : l[i]? = some c) : (B l).extract i (i + 1) = B [c] := by
  have hi : i < l.length := (List.getElem?_eq_some_iff.1 h).1
  apply ByteArray.ext
  apply Array.ext'
  have := Lib.extract_toList (B l) i (i + 1)
  rw [toList_data, data_B] at this
  rw [this]
  rw [List.drop_eq_getElem_cons hi, show i + 1 - i = 1 by omega]
  rw [List.getElem?_eq_getElem hi] at h
  rw [Option.some.inj h]
  simp
theorem hex_ext {n : Nat} (hn : n < 16) : (⟨#[48, 49, 50, 51, 52, 53, 54, 55, 56, 57, 97, 98, 99, 100, 101, 102]⟩ : ByteArray).extract n (n + 1) = B [hexd n] := by
  have : n = 0 ∨ n = 1 ∨ n = 2 ∨ n = 3 ∨ n = 4 ∨ n = 5 ∨ n = 6 ∨ n = 7 ∨ n = 8 ∨ n = 9 ∨ n = 10 ∨ n = 11 ∨ n = 12 ∨ n = 13 ∨ n = 14 ∨ n = 15 := by omega
  rcases this with rfl | rfl | rfl | rfl | rfl | rfl | rfl | rfl | rfl | rfl | rfl | rfl | rfl | rfl | rfl | rfl <;> rfl
set_option maxRecDepth 100000 in
set_option maxHeartbeats 1000000 in
theorem rquote_is (l : Txt) (w : World) (hl : l.length ≤ 10000000) : Calls Tryz.prog 28 #[.string (B l)] w fun e w' => e = .returned (.string (B (quoteT l))) ∧ ∃ n, w' = w.drewN n := by
  have hsz := B_size l
  have hdat := data_B l
  have hext := fun i c (h : l[i]? = some c) => ext_one h
  generalize hsB : B l = s at *
  have HD := Lib.hid (And.intro hsz (And.intro hdat (And.intro hsB hext)))
  clear hsz hdat hsB hext
  go_enter Tryz.func28, Tryz.ntmps28
  go_wp2_with (fail)
  go_loopw [3, 4] (fun v3 ix wr => ∃ i : Nat, i ≤ l.length ∧ ix = .int .i64 i ∧ v3 = .string (B ([34] ++ qbody (l.take i))) ∧ ∃ n, wr = w.drewN n) (fun _ ix _ => l.length - (intOf ix).toNat)
  case atStart => exact ⟨0, Nat.zero_le _, rfl, rfl, 0, rfl⟩
  case round =>
    obtain ⟨i, hi, rfl, rfl, nd, rfl⟩ := hrel
    by_cases hil : i < l.length
    · obtain ⟨c, hc⟩ : ∃ c, l[i]? = some c := ⟨l[i], List.getElem?_eq_getElem hil⟩
      have hx := byte_at (s := s) (l := l) HD.out.2.1 hc
      have hcl := UInt8.toNat_lt c
      have hnx := Lib.hid (qbody_next hc)
      have d1 : decide ((i : Int) < (s.size : Int)) = true := by rw [HD.out.1]; simp; omega
      have i1 : (i : Int) < (s.size : Int) := by rw [HD.out.1]; omega
      have i3 : (i : Int) + 1 ≤ (s.size : Int) := by rw [HD.out.1]; omega
      have hlt : i < s.size := by rw [HD.out.1]; omega
      have i2 : (0 : Int) ≤ i := by omega
      have hlen := qbody_len (l.take i)
      have hlen2 : (l.take i).length ≤ l.length := by simp; omega
      have hxx := hx hlt
      have hex := HD.out.2.2.2 i c hc
      have z1 : (B ([34] ++ qbody (l.take i))).size ≤ 30000001 := by rw [B_size]; simp; omega
      clear hx hc
      by_cases hp : plainB c = true
      · have hq2 : qb c = [c] := by unfold qb; rw [if_pos hp]
        have z2 := B_size [c]
        have hz : ¬ 9223372036854775807 < (B ([34] ++ qbody (l.take i))).size + (B [c]).size := by simp only [List.length_cons, List.length_nil] at z2; omega
        have e1 := B_app ([34] ++ qbody (l.take i)) [c]
        rw [List.append_assoc, ← hq2, ← hnx.out, hq2] at e1
        simp only [plainB, Bool.and_eq_true, decide_eq_true_eq] at hp
        have j1 : (c.toNat : Int) ≥ 33 := by omega
        have j2 : (c.toNat : Int) ≤ 126 := by omega
        have j3 : ((c.toNat : Int) != 34) = true := by simp; omega
        have j4 : ((c.toNat : Int) != 92) = true := by simp; omega
        have j5 : ((c.toNat : Int) == 34) = false := by simp; omega
        have j6 : ((c.toNat : Int) == 92) = false := by simp; omega
        clear hq2 z1 z2 hp
        generalize hb2 : B ([34] ++ qbody (l.take (i + 1))) = b2 at *
        generalize B ([34] ++ qbody (l.take i)) = b1 at *
        generalize B [c] = bc at *
        have HB2 := Lib.hid hb2
        clear hb2
        go_wp2_with (fail)
        go_roundw
        case rel => exact ⟨i + 1, by omega, by go_num, by rw [HB2.out], nd, rfl⟩
        case measure => simp [intOf]; omega
      · have hq2 : qb c = [92, hexd (c.toNat / 16), hexd (c.toNat % 16)] := by unfold qb; rw [if_neg hp]
        have g1 := hex_ext (n := c.toNat / 16) (by omega)
        have g2 := hex_ext (n := c.toNat % 16) (by omega)
        have e1 := B_app ([34] ++ qbody (l.take i)) [92]
        have e2 := B_app ([34] ++ qbody (l.take i) ++ [92]) [hexd (c.toNat / 16)]
        have e3 := B_app ([34] ++ qbody (l.take i) ++ [92] ++ [hexd (c.toNat / 16)]) [hexd (c.toNat % 16)]
        have e4 : [34] ++ qbody (l.take i) ++ [92] ++ [hexd (c.toNat / 16)] ++ [hexd (c.toNat % 16)] = [34] ++ qbody (l.take (i + 1)) := by rw [hnx.out, hq2]; simp
        rw [e4] at e3
        have z2 := B_size ([34] ++ qbody (l.take i) ++ [92])
        have z3 := B_size ([34] ++ qbody (l.take i) ++ [92] ++ [hexd (c.toNat / 16)])
        have z4 := B_size ([hexd (c.toNat / 16)])
        have z5 := B_size ([hexd (c.toNat % 16)])
        simp only [List.length_append, List.length_cons, List.length_nil] at z2 z3 z4 z5
        have hz1 : ¬ 9223372036854775807 < (B ([34] ++ qbody (l.take i))).size + 1 := by omega
        have hz2 : ¬ 9223372036854775807 < (B ([34] ++ qbody (l.take i) ++ [92])).size + (B [hexd (c.toNat / 16)]).size := by omega
        have hz3 : ¬ 9223372036854775807 < (B ([34] ++ qbody (l.take i) ++ [92] ++ [hexd (c.toNat / 16)])).size + (B [hexd (c.toNat % 16)]).size := by omega
        have hpl : plainB c = false := by simpa using hp
        clear z1 z2 z3 z4 z5 e4 hq2
        generalize hb2 : B ([34] ++ qbody (l.take (i + 1))) = b2 at *
        generalize B ([34] ++ qbody (l.take i) ++ [92] ++ [hexd (c.toNat / 16)]) = b4 at *
        generalize B ([34] ++ qbody (l.take i) ++ [92]) = b3 at *
        generalize B ([34] ++ qbody (l.take i)) = b1 at *
        generalize B [hexd (c.toNat / 16)] = x1 at *
        generalize B [hexd (c.toNat % 16)] = x2 at *
        have HB2 := Lib.hid hb2
        have j7 : (c.toNat : Int) / 16 ≤ 15 := by omega
        have j8 : (c.toNat : Int) % 16 ≤ 15 := by omega
        have j9 : (0 : Int) ≤ (c.toNat : Int) / 16 := by omega
        have j10 : (0 : Int) ≤ (c.toNat : Int) % 16 := by omega
        clear hb2 hp
        have hcases : c.toNat < 33 ∨ 126 < c.toNat ∨ c.toNat = 34 ∨ c.toNat = 92 := by
          simp only [plainB, Bool.and_eq_false_iff, decide_eq_false_iff_not] at hpl
          omega
        clear hpl
        have e0 : B [92] = ⟨#[92]⟩ := rfl
        rw [e0] at e1
        clear e0
        have k0 : ((c.toNat : Int) ≥ 33 ∧ (c.toNat : Int) ≤ 126 ∧ ((c.toNat : Int) != 34) = true ∧ ((c.toNat : Int) != 92) = false) ∨ ((c.toNat : Int) ≥ 33 ∧ (c.toNat : Int) ≤ 126 ∧ ((c.toNat : Int) != 34) = false) ∨ ((c.toNat : Int) ≥ 33 ∧ decide ((c.toNat : Int) ≤ 126) = false) ∨ decide ((c.toNat : Int) ≥ 33) = false := by
          rcases hcases with h | h | h | h
          · exact .inr (.inr (.inr (by simp; omega)))
          · exact .inr (.inr (.inl ⟨by omega, by simp; omega⟩))
          · exact .inr (.inl ⟨by omega, by omega, by simp; omega⟩)
          · exact .inl ⟨by omega, by omega, by simp; omega, by simp; omega⟩
        clear hcases
        rcases k0 with ⟨k1, k2, k3, k4⟩ | ⟨k1, k2, k3⟩ | ⟨k1, k2⟩ | k1
        all_goals
          go_wp2_with (fail)
          go_quiet (fail)
          go_wp2_with (fail)
          go_roundw
          case rel => exact ⟨i + 1, by omega, by go_num, by rw [HB2.out], _, rfl⟩
          case measure => simp [intOf]; omega
    · have hie : i = l.length := by omega
      have d1 : decide ((i : Int) < (s.size : Int)) = false := by rw [HD.out.1]; simp; omega
      have d1n : decide (i < s.size) = false := by rw [HD.out.1]; simp; omega
      have hT : l.take i = l := by rw [hie]; simp
      have hql := qbody_len l
      have e1 := B_app ([34] ++ qbody (l.take i)) [34]
      have e2 : [34] ++ qbody (l.take i) ++ [34] = quoteT l := by rw [hT]; simp [quoteT]
      rw [e2] at e1
      have z1 := B_size ([34] ++ qbody (l.take i))
      rw [hT] at z1
      simp only [List.length_append, List.length_cons, List.length_nil] at z1
      have hz1 : ¬ 9223372036854775807 < (B ([34] ++ qbody (l.take i))).size + 1 := by rw [hT]; omega
      clear hT e2 z1 hql hie
      generalize B ([34] ++ qbody (l.take i)) = b1 at *
      generalize hb2 : B (quoteT l) = b2 at *
      have HB2 := Lib.hid hb2
      clear hb2
      go_wp2_with (fail)
      go_ret
      exact ⟨by rw [HB2.out]; rfl, nd, rfl⟩
end Go.Proofs.YtefaaginedideaaGreatDoor
