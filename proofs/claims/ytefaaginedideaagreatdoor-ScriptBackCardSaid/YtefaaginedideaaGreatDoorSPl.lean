/-
  Scripts, plain: how a line is told and read; what Print and Parse answer.
-/
import Derived.Test.YtefaaginedideaaGreatDoorMayP
import Derived.Lib.AtoiTie
import Derived.Lib.ItoaLen
namespace Go.Proofs.YtefaaginedideaaGreatDoor
set_option linter.unusedSimpArgs false
set_option linter.unusedVariables false
open Go.RowKit
open Go.Lib hiding intOf

/-! ### telling -/
def plainB (c : UInt8) : Bool := decide (33 ≤ c.toNat) && decide (c.toNat ≤ 126) && decide (c.toNat ≠ 34) && decide (c.toNat ≠ 92)
/-- a digit of base 16 -/
def hexd (n : Nat) : UInt8 := if n < 10 then UInt8.ofNat (48 + n) else UInt8.ofNat (87 + n)
def qb (c : UInt8) : Txt := if plainB c = true then [c] else [92, hexd (c.toNat / 16), hexd (c.toNat % 16)]
def qbody (s : Txt) : Txt := s.flatMap qb
def quoteT (s : Txt) : Txt := 34 :: qbody s ++ [34]
def numsT (ns : List Int) : Txt := ns.flatMap fun n => 32 :: itoa n
def lineT (word : Txt) (ns : List Int) : Txt := word ++ numsT ns
def goodB (n : Int) : Bool := decide (0 ≤ n) && decide (n ≤ 999999)
def opW : Txt := [111, 112]
def callW : Txt := [99, 97, 108, 108]
def opT (o : OpV) : Txt := if o.k = 10 then lineT callW [o.y, o.p, o.q] ++ [32] ++ quoteT o.s ++ [32] ++ quoteT o.t else lineT opW [o.k, o.a, o.b, o.c]
/-- what Op answers -/
def opR (o : OpV) : Txt := if mayO o = true then opT o else []
def opE (o : OpV) : Int := if mayO o = true then 0 else 19

theorem qb_len (c : UInt8) : 1 ≤ (qb c).length ∧ (qb c).length ≤ 3 := by unfold qb; split <;> simp
theorem qbody_len : ∀ s : Txt, (qbody s).length ≤ 3 * s.length
  | [] => by simp [qbody]
  | c :: r => by
    have h1 := qbody_len r
    have h2 := qb_len c
    unfold qbody at *
    rw [List.flatMap_cons, List.length_append, List.length_cons]; omega
theorem quote_len (s : Txt) : (quoteT s).length ≤ 3 * s.length + 2 := by
  have := qbody_len s
  unfold quoteT; simp; omega
theorem itoa_len (n : Int) (h0 : -9223372036854775808 ≤ n) (h1 : n ≤ 9223372036854775807) : (itoa n).length ≤ 21 := itoa_length_le n h0 h1

/-! ### reading -/
/-- the value of a digit of base 16; -1: it is none -/
def hexv (c : UInt8) : Int := if 48 ≤ c.toNat ∧ c.toNat ≤ 57 then (c.toNat : Int) - 48 else if 97 ≤ c.toNat ∧ c.toNat ≤ 102 then (c.toNat : Int) - 87 else -1
theorem hexv_le (c : UInt8) : -1 ≤ hexv c ∧ hexv c ≤ 15 := by unfold hexv; split <;> (try split) <;> omega
theorem hexv_d {n : Nat} (h : n < 16) : hexv (hexd n) = n := by
  have : n = 0 ∨ n = 1 ∨ n = 2 ∨ n = 3 ∨ n = 4 ∨ n = 5 ∨ n = 6 ∨ n = 7 ∨ n = 8 ∨ n = 9 ∨ n = 10 ∨ n = 11 ∨ n = 12 ∨ n = 13 ∨ n = 14 ∨ n = 15 := by omega
  rcases this with rfl | rfl | rfl | rfl | rfl | rfl | rfl | rfl | rfl | rfl | rfl | rfl | rfl | rfl | rfl | rfl <;> rfl
theorem hexd_ne {n : Nat} (h : n < 16) : hexd n ≠ 32 ∧ hexd n ≠ 10 ∧ hexd n ≠ 92 ∧ hexd n ≠ 34 := by
  have : n = 0 ∨ n = 1 ∨ n = 2 ∨ n = 3 ∨ n = 4 ∨ n = 5 ∨ n = 6 ∨ n = 7 ∨ n = 8 ∨ n = 9 ∨ n = 10 ∨ n = 11 ∨ n = 12 ∨ n = 13 ∨ n = 14 ∨ n = 15 := by omega
  rcases this with rfl | rfl | rfl | rfl | rfl | rfl | rfl | rfl | rfl | rfl | rfl | rfl | rfl | rfl | rfl | rfl <;> decide
/-- what stands between the quotation marks, read -/
def unq : Nat → Txt → Option Txt
  | 0, _ => none
  | _ + 1, [] => some []
  | f + 1, c :: r =>
    if c ≠ 92 then (unq f r).map (c :: ·)
    else match r with
      | h :: l :: r2 => if 0 ≤ hexv h ∧ 0 ≤ hexv l then (unq f r2).map (UInt8.ofNat (16 * hexv h + hexv l).toNat :: ·) else none
      | _ => none
def inner (s : Txt) : Txt := (s.drop 1).take (s.length - 2)
def quoted (s : Txt) : Bool := decide (2 ≤ s.length) && decide (s[0]? = some 34) && decide (s[s.length - 1]? = some 34)
def unquoteF (s : Txt) : Option Txt :=
  if quoted s = true then match unq ((inner s).length + 1) (inner s) with
    | some b => if quoteT b = s then some b else none
    | none => none
  else none
/-- more fuel does no harm -/
theorem unq_fuel : ∀ (f g : Nat) (l : Txt), l.length < f → f ≤ g → unq g l = unq f l
  | 0, _, _, h, _ => by omega
  | f + 1, 0, _, _, h => by omega
  | f + 1, g + 1, [], _, _ => rfl
  | f + 1, g + 1, c :: r, h, hg => by
    simp only [List.length_cons] at h
    unfold unq
    split
    · rw [unq_fuel f g r (by omega) (by omega)]
    · match r, h with
      | [], _ => rfl
      | [_], _ => rfl
      | x :: y :: r2, h =>
        simp only [List.length_cons] at h
        simp only
        rw [unq_fuel f g r2 (by omega) (by omega)]
theorem unq_plain (f : Nat) {c : UInt8} (r : Txt) (h : c ≠ 92) : unq (f + 1) (c :: r) = (unq f r).map (c :: ·) := by
  show (if c ≠ 92 then _ else _) = _
  rw [if_pos h]
theorem unq_esc (f : Nat) (h l : UInt8) (r : Txt) (hh : 0 ≤ hexv h ∧ 0 ≤ hexv l) : unq (f + 1) (92 :: h :: l :: r) = (unq f r).map (UInt8.ofNat (16 * hexv h + hexv l).toNat :: ·) := by
  show (if (92 : UInt8) ≠ 92 then _ else if 0 ≤ hexv h ∧ 0 ≤ hexv l then _ else _) = _
  rw [if_neg (by simp), if_pos hh]
theorem qb_body (f : Nat) (c : UInt8) (r : Txt) : unq (f + 1) (qb c ++ r) = (unq f r).map (c :: ·) := by
  unfold qb
  by_cases h : plainB c = true
  · rw [if_pos h]
    simp only [List.cons_append, List.nil_append]
    have hc : c ≠ 92 := by
      intro e; subst e; revert h; decide
    exact unq_plain f r hc
  · rw [if_neg h]
    simp only [List.cons_append, List.nil_append]
    have hc := UInt8.toNat_lt c
    have h1 := hexv_d (n := c.toNat / 16) (by omega)
    have h2 := hexv_d (n := c.toNat % 16) (by omega)
    rw [unq_esc f _ _ _ ⟨by omega, by omega⟩, h1, h2]
    have e : (16 * ((c.toNat / 16 : Nat) : Int) + ((c.toNat % 16 : Nat) : Int)).toNat = c.toNat := by omega
    rw [e]
    have e2 : UInt8.ofNat c.toNat = c := by simp
    rw [e2]
theorem unq_qbody : ∀ (s : Txt) (f : Nat), s.length < f → unq f (qbody s) = some s
  | [], f, h => by
    cases f with
    | zero => omega
    | succ f => rfl
  | c :: r, f, h => by
    cases f with
    | zero => omega
    | succ f =>
      simp only [List.length_cons] at h
      have ih := unq_qbody r f (by omega)
      unfold qbody at *
      rw [List.flatMap_cons, qb_body, ih]; rfl
theorem qbody_ge : ∀ s : Txt, s.length ≤ (qbody s).length
  | [] => by simp [qbody]
  | c :: r => by
    have h1 := qbody_ge r
    have h2 := qb_len c
    unfold qbody at *
    rw [List.flatMap_cons, List.length_append, List.length_cons]; omega
theorem inner_quote (s : Txt) : inner (quoteT s) = qbody s := by unfold inner quoteT; simp
theorem quoted_quote (s : Txt) : quoted (quoteT s) = true := by
  unfold quoted
  have h1 : 2 ≤ (quoteT s).length := by unfold quoteT; simp
  have h2 : (quoteT s)[0]? = some 34 := rfl
  have h3 : (quoteT s)[(quoteT s).length - 1]? = some 34 := by
    unfold quoteT
    have : (34 :: qbody s ++ [34]).length - 1 = (34 :: qbody s).length := by simp
    rw [this, List.getElem?_append_right (Nat.le_refl _), Nat.sub_self]; rfl
  rw [decide_eq_true h1, decide_eq_true h2, decide_eq_true h3]; rfl
theorem unquote_quote (s : Txt) : unquoteF (quoteT s) = some s := by
  unfold unquoteF
  rw [if_pos (quoted_quote s), inner_quote, unq_qbody s _ (by have := qbody_ge s; omega)]
  simp
theorem unquote_back {s b : Txt} (h : unquoteF s = some b) : quoteT b = s := by
  unfold unquoteF at h
  split at h
  · split at h
    · split at h
      · rename_i hq; cases h; exact hq
      · cases h
    · cases h
  · cases h
/-- no blank and no new line stands in a quoted text -/
theorem qb_no (c : UInt8) : (32 : UInt8) ∉ qb c ∧ (10 : UInt8) ∉ qb c := by
  unfold qb
  by_cases h : plainB c = true
  · rw [if_pos h]
    constructor <;> (simp; intro e; subst e; revert h; decide)
  · rw [if_neg h]
    have hc := UInt8.toNat_lt c
    have h1 := hexd_ne (n := c.toNat / 16) (by omega)
    have h2 := hexd_ne (n := c.toNat % 16) (by omega)
    simp
    exact ⟨⟨fun e => h1.1 e.symm, fun e => h2.1 e.symm⟩, ⟨fun e => h1.2.1 e.symm, fun e => h2.2.1 e.symm⟩⟩
theorem quote_no (s : Txt) : (32 : UInt8) ∉ quoteT s ∧ (10 : UInt8) ∉ quoteT s := by
  unfold quoteT qbody
  constructor
  · intro h
    simp at h
    obtain ⟨a, _, h⟩ := h
    exact (qb_no a).1 h
  · intro h
    simp at h
    obtain ⟨a, _, h⟩ := h
    exact (qb_no a).2 h

/-! ### numbers -/
def numF (l : Txt) : Option Int := match atoiAll l with
  | .ok n => if 0 ≤ n ∧ n ≤ 999999 ∧ itoa n = l then some n else none
  | _ => none
theorem digitVal_of {d : Nat} (h : d < 10) : digitVal (UInt8.ofNat (48 + d)) = some d := by
  have : d = 0 ∨ d = 1 ∨ d = 2 ∨ d = 3 ∨ d = 4 ∨ d = 5 ∨ d = 6 ∨ d = 7 ∨ d = 8 ∨ d = 9 := by omega
  rcases this with rfl | rfl | rfl | rfl | rfl | rfl | rfl | rfl | rfl | rfl <;> rfl
theorem decFrom_snoc : ∀ (l : Txt) (acc m : Nat) (c : UInt8) (d : Nat), decFrom acc l = some m → digitVal c = some d → decFrom acc (l ++ [c]) = some (m * 10 + d)
  | [], acc, m, c, d, h, hd => by
    simp [decFrom] at h; subst h
    simp [decFrom, hd]
  | x :: r, acc, m, c, d, h, hd => by
    simp only [decFrom, List.cons_append] at h ⊢
    split at h
    · rename_i v hv
      exact decFrom_snoc r _ m c d h hd
    · cases h
theorem decFrom_digits (u : Nat) : decFrom 0 (decDigits u) = some u := by
  induction u using Nat.strongRecOn with
  | _ u ih =>
    by_cases h : u < 10
    · rw [decDigits, dif_pos h]
      have := digitVal_of h
      unfold decFrom
      rw [this]
      simp [decFrom]
    · rw [decDigits, dif_neg h, decFrom_snoc _ _ _ _ _ (ih (u / 10) (by omega)) (digitVal_of (d := u % 10) (by omega))]
      congr 1; omega
theorem decDigits_ne (u : Nat) : decDigits u ≠ [] := by
  rw [decDigits]
  split <;> simp
theorem decNat_digits (u : Nat) : decNat (decDigits u) = some u := by
  unfold decNat
  rw [if_neg (by simp [decDigits_ne u]), decFrom_digits]
theorem decDigits_head : ∀ (u : Nat) (c : UInt8) (r : Txt), decDigits u = c :: r → 48 ≤ c.toNat ∧ c.toNat ≤ 57 := by
  intro u
  induction u using Nat.strongRecOn with
  | _ u ih =>
    intro c r h
    by_cases hu : u < 10
    · rw [decDigits, dif_pos hu] at h
      cases h
      have : u = 0 ∨ u = 1 ∨ u = 2 ∨ u = 3 ∨ u = 4 ∨ u = 5 ∨ u = 6 ∨ u = 7 ∨ u = 8 ∨ u = 9 := by omega
      rcases this with rfl | rfl | rfl | rfl | rfl | rfl | rfl | rfl | rfl | rfl <;> decide
    · rw [decDigits, dif_neg hu] at h
      cases hd : decDigits (u / 10) with
      | nil => exact absurd hd (decDigits_ne _)
      | cons x xs =>
        rw [hd] at h
        cases h
        exact ih (u / 10) (by omega) _ _ hd
theorem digits_all : ∀ (u : Nat), ∀ c ∈ decDigits u, 48 ≤ c.toNat ∧ c.toNat ≤ 57 := by
  intro u
  induction u using Nat.strongRecOn with
  | _ u ih =>
    intro c hc
    have hd : ∀ d, d < 10 → 48 ≤ (UInt8.ofNat (48 + d)).toNat ∧ (UInt8.ofNat (48 + d)).toNat ≤ 57 := fun d h => by
      have : d = 0 ∨ d = 1 ∨ d = 2 ∨ d = 3 ∨ d = 4 ∨ d = 5 ∨ d = 6 ∨ d = 7 ∨ d = 8 ∨ d = 9 := by omega
      rcases this with rfl | rfl | rfl | rfl | rfl | rfl | rfl | rfl | rfl | rfl <;> decide
    by_cases hu : u < 10
    · rw [decDigits, dif_pos hu] at hc
      rw [List.mem_singleton] at hc; subst hc; exact hd u hu
    · rw [decDigits, dif_neg hu, List.mem_append, List.mem_singleton] at hc
      rcases hc with hc | rfl
      · exact ih _ (by omega) c hc
      · exact hd _ (by omega)
theorem digits_len : ∀ (k u : Nat), u < 10 ^ (k + 1) → (decDigits u).length ≤ k + 1 := by
  intro k
  induction k with
  | zero => intro u h; rw [decDigits, dif_pos (by omega)]; simp
  | succ k ih =>
    intro u h
    by_cases hu : u < 10
    · rw [decDigits, dif_pos hu]; simp
    · rw [decDigits, dif_neg hu, List.length_append, List.length_singleton]
      have := ih (u / 10) (by rw [Nat.pow_succ] at h; omega)
      omega
/-- a number that is told is read again -/
theorem num_itoa {n : Int} (h0 : 0 ≤ n) (h1 : n ≤ 999999) : numF (itoa n) = some n := by
  obtain ⟨u, rfl⟩ : ∃ u : Nat, n = u := ⟨n.toNat, by omega⟩
  have e : itoa (u : Int) = decDigits u := by unfold itoa; rw [if_neg (by omega)]; simp
  have hl := digits_len 5 u (by omega)
  have ha : atoiAll (decDigits u) = .ok (u : Int) := by
    cases hd : decDigits u with
    | nil => exact absurd hd (decDigits_ne u)
    | cons c r =>
      have hc := decDigits_head u c r hd
      rw [atoiAll_plain c r (by omega) (by omega), ← hd, signless_short (by omega), decNat_digits]
      rfl
  unfold numF
  rw [e, ha]
  simp only
  rw [if_pos ⟨h0, h1, e⟩]
theorem num_some {l : Txt} {n : Int} (h : numF l = some n) : 0 ≤ n ∧ n ≤ 999999 ∧ itoa n = l := by
  unfold numF at h
  split at h
  · split at h
    · rename_i hh; cases h; exact hh
    · cases h
  · cases h
/-- what of a number's text the document asks -/
theorem numF_of {l : Txt} {u : Nat} (h : l = decDigits u) (hu : u ≤ 999999) : numF l = some (u : Int) := by
  have e : itoa (u : Int) = decDigits u := by unfold itoa; rw [if_neg (by omega)]; simp
  rw [h, ← e]; exact num_itoa (by omega) (by omega)
theorem itoa_nat {l : Txt} {n : Int} (h : numF l = some n) : ∃ u : Nat, n = u ∧ u ≤ 999999 ∧ l = decDigits u := by
  obtain ⟨h0, h1, h2⟩ := num_some h
  refine ⟨n.toNat, by omega, by omega, ?_⟩
  rw [← h2]; unfold itoa; rw [if_neg (by omega)]
theorem itoa_no {n : Int} (h0 : 0 ≤ n) : (32 : UInt8) ∉ itoa n ∧ (10 : UInt8) ∉ itoa n := by
  unfold itoa
  rw [if_neg (by omega)]
  exact ⟨fun h => by have := digits_all _ _ h; simp at this, fun h => by have := digits_all _ _ h; simp at this⟩

/-! ### the document's reading of a number -/
def isDig (c : UInt8) : Prop := 48 ≤ c.toNat ∧ c.toNat ≤ 57
instance (c : UInt8) : Decidable (isDig c) := by unfold isDig; infer_instance
def valF (acc : Nat) (l : Txt) : Nat := l.foldl (fun a c => a * 10 + (c.toNat - 48)) acc
theorem valF_snoc (acc : Nat) (l : Txt) (c : UInt8) : valF acc (l ++ [c]) = valF acc l * 10 + (c.toNat - 48) := by unfold valF; rw [List.foldl_append]; rfl
theorem valF_lt : ∀ (l : Txt) (acc : Nat), (∀ c ∈ l, isDig c) → valF acc l < (acc + 1) * 10 ^ l.length
  | [], acc, _ => by simp [valF]
  | c :: r, acc, h => by
    have h1 := valF_lt r (acc * 10 + (c.toNat - 48)) (fun x hx => h x (by simp [hx]))
    have h2 := h c (by simp)
    unfold isDig at h2
    show valF _ r < _
    refine Nat.lt_of_lt_of_le h1 ?_
    rw [List.length_cons, Nat.pow_succ, Nat.mul_comm (10 ^ r.length) 10, ← Nat.mul_assoc]
    exact Nat.mul_le_mul_right _ (by omega)
/-- digits without a needless zero ahead are the numeral of their value -/
theorem digits_val : ∀ (n : Nat) (l : Txt), l.length = n → l ≠ [] → (∀ c ∈ l, isDig c) → (2 ≤ l.length → l[0]? ≠ some 48) → l = decDigits (valF 0 l) ∧ (2 ≤ l.length → 1 ≤ valF 0 l) := by
  intro n
  induction n with
  | zero => intro l hl hne; exact absurd (List.eq_nil_of_length_eq_zero hl) hne
  | succ n ih =>
    intro l hl hne hd hz
    obtain ⟨r, c, rfl⟩ : ∃ r c, l = r ++ [c] := ⟨l.dropLast, l.getLast hne, (List.dropLast_concat_getLast hne).symm⟩
    have hc : isDig c := hd c (by simp)
    unfold isDig at hc
    rw [valF_snoc]
    rw [List.length_append, List.length_singleton] at hl
    have hcc : UInt8.ofNat (48 + (c.toNat - 48)) = c := by
      rw [show 48 + (c.toNat - 48) = c.toNat by omega]; simp
    by_cases hr : r = []
    · subst hr
      have : valF 0 ([] : Txt) = 0 := rfl
      rw [this, Nat.zero_mul, Nat.zero_add, decDigits, dif_pos (by omega), hcc]
      exact ⟨rfl, fun h => by simp at h⟩
    · have hrl : 1 ≤ r.length := by cases r with
        | nil => exact absurd rfl hr
        | cons _ _ => simp
      have hz' : r[0]? ≠ some 48 := by
        have := hz (by rw [List.length_append, List.length_singleton]; omega)
        rwa [List.getElem?_append_left (by omega)] at this
      obtain ⟨i1, i2⟩ := ih r (by omega) hr (fun x hx => hd x (by simp [hx])) (fun _ => hz')
      have hp : 1 ≤ valF 0 r := by
        by_cases h2 : 2 ≤ r.length
        · exact i2 h2
        · match r, hr, hz', h2, hd with
          | [x], _, hz', _, hd =>
            have hx := hd x (by simp)
            unfold isDig at hx
            show 1 ≤ 0 * 10 + (x.toNat - 48)
            have : x.toNat ≠ 48 := fun e => hz' (by
              have : x = 48 := UInt8.toNat_inj.1 (by rw [e]; rfl)
              rw [this]; rfl)
            omega
          | _ :: _ :: _, _, _, h2, _ => simp at h2
      constructor
      · rw [decDigits, dif_neg (by omega)]
        rw [show (valF 0 r * 10 + (c.toNat - 48)) / 10 = valF 0 r by omega, show (valF 0 r * 10 + (c.toNat - 48)) % 10 = c.toNat - 48 by omega, hcc, ← i1]
      · intro _; omega
/-- the document's Number -/
def numOk (l : Txt) : Prop := 1 ≤ l.length ∧ l.length ≤ 6 ∧ (2 ≤ l.length → l[0]? ≠ some 48) ∧ ∀ c ∈ l, isDig c
theorem num_ok {l : Txt} (h : numOk l) : numF l = some (valF 0 l : Int) := by
  have hne : l ≠ [] := fun e => by have := h.1; rw [e] at this; simp at this
  obtain ⟨h1, _⟩ := digits_val l.length l rfl hne h.2.2.2 h.2.2.1
  refine numF_of h1 ?_
  have := valF_lt l 0 h.2.2.2
  have h6 : 10 ^ l.length ≤ 10 ^ 6 := Nat.pow_le_pow_right (by omega) h.2.1
  omega
theorem digits_first : ∀ (u : Nat), 10 ≤ u → (decDigits u)[0]? ≠ some 48 := by
  intro u
  induction u using Nat.strongRecOn with
  | _ u ih =>
    intro hu
    rw [decDigits, dif_neg (by omega)]
    have hl : 0 < (decDigits (u / 10)).length := by
      cases hd : decDigits (u / 10) with
      | nil => exact absurd hd (decDigits_ne _)
      | cons _ _ => simp
    rw [List.getElem?_append_left hl]
    by_cases h : u / 10 < 10
    · rw [decDigits, dif_pos h]
      intro e
      have e1 : UInt8.ofNat (48 + u / 10) = 48 := by simpa using e
      have : u / 10 = 1 ∨ u / 10 = 2 ∨ u / 10 = 3 ∨ u / 10 = 4 ∨ u / 10 = 5 ∨ u / 10 = 6 ∨ u / 10 = 7 ∨ u / 10 = 8 ∨ u / 10 = 9 := by omega
      rcases this with h | h | h | h | h | h | h | h | h <;> (rw [h] at e1; revert e1; decide)
    · exact ih _ (by omega) (by omega)
theorem num_no {l : Txt} (h : ¬ numOk l) : numF l = none := by
  cases hn : numF l with
  | none => rfl
  | some n =>
    obtain ⟨u, rfl, hu, rfl⟩ := itoa_nat hn
    refine absurd ⟨?_, digits_len 5 u (by omega), fun h2 => ?_, digits_all u⟩ h
    · cases hd : decDigits u with
      | nil => exact absurd hd (decDigits_ne u)
      | cons _ _ => simp
    · refine digits_first u ?_
      rcases Nat.lt_or_ge u 10 with h9 | h9
      · rw [decDigits, dif_pos h9] at h2; simp at h2
      · exact h9

/-! ### configurations -/
structure TaskV where
  cl : Int
  lv : Int
  pe : Int
  de : Int
  bu : Int
  li : Int
  uses : List Int
  prog : List OpV
structure EffV where
  lv : Int
  prog : List OpV
structure CfgV where
  tasks : List TaskV
  best : List EffV
  mtx : List (Int × Int)
  gaps : List Int
  frames : Int
  dog : Int
structure EvV where
  tick : Int
  line : Int
  task : Int
structure PSt where
  c : CfgV
  es : List EvV
  act : Nat
def cfg0 : CfgV := ⟨[], [], [], [], 0, 0⟩
def pst0 : PSt := ⟨cfg0, [], 0⟩
def modLast {α : Type} (f : α → α) (l : List α) : List α := match l.getLast? with
  | some x => l.dropLast ++ [f x]
  | none => []
/-- a step for the task or thread ahead -/
def addOp (st : PSt) (o : OpV) : PSt :=
  if st.act = 1 then { st with c := { st.c with tasks := modLast (fun t => { t with prog := t.prog ++ [o] }) st.c.tasks } }
  else { st with c := { st.c with best := modLast (fun t => { t with prog := t.prog ++ [o] }) st.c.best } }
def numsF : List Txt → Option (List Int)
  | [] => some []
  | x :: r => match numF x with
    | some n => (numsF r).map (n :: ·)
    | none => none
def framesW : Txt := [102, 114, 97, 109, 101, 115]
def dogW : Txt := [100, 111, 103]
def mutexW : Txt := [109, 117, 116, 101, 120]
def gapW : Txt := [103, 97, 112]
def taskW : Txt := [116, 97, 115, 107]
def bestW : Txt := [98, 101, 115, 116]
def atW : Txt := [97, 116]
def opNums (k a b c : Int) : OpV := ⟨k, a, b, c, 0, 0, 0, [], []⟩
def opCall (y p q : Int) (s t : Txt) : OpV := ⟨10, 0, 0, 0, y, p, q, s, t⟩
/-- the step of a line -/
def stepF : List Txt → Option OpV
  | w :: r =>
    if w = opW then match numsF r with
      | some [k, a, b, c] => if k ≠ 10 ∧ mayO (opNums k a b c) = true then some (opNums k a b c) else none
      | _ => none
    else match r with
      | [x1, x2, x3, x4, x5] => match numsF [x1, x2, x3], unquoteF x4, unquoteF x5 with
        | some [y, p, q], some s, some t => if mayO (opCall y p q s t) = true then some (opCall y p q s t) else none
        | _, _, _ => none
      | _ => none
  | [] => none
/-- what a line of numbers does -/
def doF (st : PSt) (w : Txt) (n : List Int) : Option PSt :=
  if w = framesW then match n with | [a] => some { st with c := { st.c with frames := a } } | _ => none
  else if w = dogW then match n with | [a] => some { st with c := { st.c with dog := a } } | _ => none
  else if w = mutexW then match n with | [a, b] => some { st with c := { st.c with mtx := st.c.mtx ++ [(a, b)] } } | _ => none
  else if w = gapW then match n with | [a] => some { st with c := { st.c with gaps := st.c.gaps ++ [a] } } | _ => none
  else if w = taskW then match n with | a :: b :: c :: d :: e :: f :: us => some { st with c := { st.c with tasks := st.c.tasks ++ [⟨a, b, c, d, e, f - 1, us, []⟩] }, act := 1 } | _ => none
  else if w = bestW then match n with | [a] => some { st with c := { st.c with best := st.c.best ++ [⟨a, []⟩] }, act := 2 } | _ => none
  else if w = atW then match n with | [a, b, c] => some { st with es := st.es ++ [⟨a, b - 1, c⟩] } | _ => none
  else none
def lineF (st : PSt) (l : Txt) : Option PSt := match spc 32 l with
  | [] => none
  | w :: r =>
    if w = opW ∨ w = callW then (if st.act = 0 then none else (stepF (w :: r)).map (addOp st))
    else match numsF r with
      | some n => doF st w n
      | none => none
/-- the lines of a text -/
def linesF (s : Txt) : List Txt := if s = [] then [] else if (spc 10 s).getLast? = some [] then (spc 10 s).dropLast else spc 10 s
/-- what the lines say; or the number of the first that is wrong -/
def readF : PSt → Nat → List Txt → Except Nat PSt
  | st, _, [] => .ok st
  | st, i, l :: r => match lineF st l with
    | some st' => readF st' (i + 1) r
    | none => .error i
def parseF (s : Txt) : CfgV × List EvV × Int × Int :=
  if 65536 < s.length then (cfg0, [], 0, 3)
  else match readF pst0 1 (linesF s) with
    | .ok st => (st.c, st.es, 0, 0)
    | .error i => (cfg0, [], i, 19)
/-! ### printing -/
def okOps (l : List OpV) : Bool := l.all mayO
def opsT (l : List OpV) : Txt := l.flatMap fun o => opT o ++ [10]
def taskNs (t : TaskV) : List Int := [t.cl, t.lv, t.pe, t.de, t.bu, t.li + 1] ++ t.uses
def okTask (t : TaskV) : Bool := (taskNs t).all goodB && okOps t.prog
def okEff (b : EffV) : Bool := goodB b.lv && okOps b.prog
def okEv (e : EvV) : Bool := goodB e.tick && goodB (e.line + 1) && goodB e.task
def okCfg (c : CfgV) (es : List EvV) : Bool :=
  goodB c.frames && goodB c.dog && c.mtx.all (fun m => goodB m.1 && goodB m.2) && c.gaps.all goodB && c.tasks.all okTask && c.best.all okEff && es.all okEv
def taskT (t : TaskV) : Txt := lineT taskW (taskNs t) ++ [10] ++ opsT t.prog
def effT (b : EffV) : Txt := lineT bestW [b.lv] ++ [10] ++ opsT b.prog
def evT (e : EvV) : Txt := lineT atW [e.tick, e.line + 1, e.task] ++ [10]
def cfgT (c : CfgV) (es : List EvV) : Txt :=
  lineT framesW [c.frames] ++ [10] ++ lineT dogW [c.dog] ++ [10] ++ c.mtx.flatMap (fun m => lineT mutexW [m.1, m.2] ++ [10]) ++ c.gaps.flatMap (fun g => lineT gapW [g] ++ [10]) ++ c.tasks.flatMap taskT ++ c.best.flatMap effT ++ es.flatMap evT
def printE (c : CfgV) (es : List EvV) : Int := if okCfg c es = false then 19 else if 65536 < (cfgT c es).length then 3 else 0
def printT (c : CfgV) (es : List EvV) : Txt := if printE c es = 0 then cfgT c es else []
end Go.Proofs.YtefaaginedideaaGreatDoor
