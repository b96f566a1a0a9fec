/-
  Texts as lists of bytes; the pieces of a text at a byte: plain facts.
-/
import Derived.WalkKit
import Derived.Lib.Strings
import Derived.Lib.IndexLaws
import Derived.Lib.SplitLaws
import Derived.Lib.IndexMore
import Derived.Lib.Hide
import Derived.Lib.Agree
namespace Go.Proofs.YtefaaginedideaaGreatDoor
set_option linter.unusedSimpArgs false
set_option linter.unusedVariables false
open Go.RowKit
open Go.Lib hiding intOf

abbrev Txt := List UInt8
/-- a text out of its letters -/
abbrev B (l : Txt) : ByteArray := ⟨l.toArray⟩
theorem B_data (s : ByteArray) : B s.data.toList = s := by cases s; simp
theorem B_inj {a b : Txt} (h : B a = B b) : a = b := by
  have := congrArg (fun s : ByteArray => s.data.toList) h; simpa using this
theorem data_B (l : Txt) : (B l).data.toList = l := by simp
theorem B_size (l : Txt) : (B l).size = l.length := by simp [ByteArray.size]
theorem beq_dec (a b : Txt) : (a == b) = decide (a = b) := by by_cases h : a = b <;> simp [h]
theorem B_list (l : Txt) : (B l).toList = l := by rw [toList_data]
theorem B_app (a b : Txt) : B a ++ B b = B (a ++ b) := by
  apply ByteArray.ext; simp
theorem u8_eq (c : UInt8) (k : Nat) (hk : k < 256) : ((c.toNat : Int) == k) = decide (c = UInt8.ofNat k) := by
  rw [Bool.eq_iff_iff, beq_iff_eq, decide_eq_true_iff]
  constructor
  · intro h
    apply UInt8.toNat_inj.1
    rw [UInt8.toNat_ofNat']; omega
  · intro h
    subst h
    rw [UInt8.toNat_ofNat']; omega

/-- the pieces at a byte -/
def spc (d : UInt8) : Txt → List Txt
  | [] => [[]]
  | c :: r => if c = d then [] :: spc d r else match spc d r with
    | [] => [[c]]
    | x :: xs => (c :: x) :: xs
theorem spc_no (d : UInt8) : ∀ a : Txt, d ∉ a → spc d a = [a]
  | [], _ => rfl
  | c :: r, h => by
    rw [List.mem_cons] at h
    have h1 : ¬ c = d := fun e => h (Or.inl e.symm)
    unfold spc
    rw [if_neg h1, spc_no d r (fun e => h (Or.inr e))]
theorem spc_app (d : UInt8) : ∀ (a r : Txt), d ∉ a → spc d (a ++ d :: r) = a :: spc d r
  | [], r, _ => by simp [spc]
  | c :: a, r, h => by
    rw [List.mem_cons] at h
    have h1 : ¬ c = d := fun e => h (Or.inl e.symm)
    rw [List.cons_append, spc, if_neg h1, spc_app d a r (fun e => h (Or.inr e))]
theorem spc_flat (d : UInt8) : ∀ l : Txt, (spc d l).flatMap (fun x => d :: x) = d :: l
  | [] => rfl
  | c :: r => by
    have ih := spc_flat d r
    by_cases h : c = d
    · rw [spc, if_pos h, List.flatMap_cons, ih, h]; rfl
    · rw [spc, if_neg h]
      split
      · rename_i hs; rw [hs] at ih; simp at ih
      · rename_i x xs hs
        rw [hs, List.flatMap_cons] at ih
        rw [List.flatMap_cons]
        simp at ih ⊢
        exact ih
theorem spc_ne (d : UInt8) (l : Txt) : spc d l ≠ [] := by
  intro h
  have := spc_flat d l
  rw [h] at this; simp at this
theorem spc_len (d : UInt8) : ∀ l : Txt, (spc d l).length ≤ l.length + 1
  | [] => Nat.le_refl _
  | c :: r => by
    have ih := spc_len d r
    by_cases h : c = d
    · rw [spc, if_pos h]; simp; exact ih
    · rw [spc, if_neg h]
      split
      · simp
      · rename_i x xs hs; rw [hs] at ih; simp at ih ⊢; omega
theorem spc_mem (d : UInt8) : ∀ (l x : Txt), x ∈ spc d l → d ∉ x ∧ x.length ≤ l.length
  | [], x, h => by simp [spc] at h; subst h; simp
  | c :: r, x, h => by
    by_cases hc : c = d
    · rw [spc, if_pos hc, List.mem_cons] at h
      rcases h with rfl | h
      · simp
      · have := spc_mem d r x h; simp; exact ⟨this.1, by omega⟩
    · rw [spc, if_neg hc] at h
      split at h
      · rename_i hs; exact absurd hs (spc_ne d r)
      · rename_i y ys hs
        rw [List.mem_cons] at h
        rcases h with rfl | h
        · have := spc_mem d r y (by rw [hs]; simp)
          rw [List.mem_cons]
          refine ⟨fun e => ?_, by simp; exact this.2⟩
          rcases e with e | e
          · exact hc e.symm
          · exact this.1 e
        · have := spc_mem d r x (by rw [hs]; simp [h])
          simp; exact ⟨this.1, by omega⟩
/-- the first piece and the rest -/
theorem spc_head (d : UInt8) : ∀ l : Txt, d ∈ l → ∃ a r, l = a ++ d :: r ∧ d ∉ a
  | [], h => by cases h
  | c :: r, h => by
    by_cases hc : c = d
    · exact ⟨[], r, by rw [hc]; rfl, by simp⟩
    · rw [List.mem_cons] at h
      obtain ⟨a, r', e, hn⟩ := spc_head d r (by rcases h with h | h; exact absurd h.symm hc; exact h)
      refine ⟨c :: a, r', by rw [e]; rfl, fun hm => ?_⟩
      rw [List.mem_cons] at hm
      rcases hm with hm | hm
      · exact hc hm.symm
      · exact hn hm
theorem splitK_spc (d : UInt8) : ∀ (n : Nat) (l : Txt), l.length ≤ n → splitK [d] 0 (count l [d]) l = spc d l := by
  intro n
  induction n with
  | zero =>
    intro l hl
    have : l = [] := List.eq_nil_of_length_eq_zero (by omega)
    subst this
    rw [count_miss (by rw [index_one]; rfl)]; rfl
  | succ n ih =>
    intro l hl
    have hge := indexByte_ge l d
    have hi := index_one l d
    by_cases h1 : indexByte l d = -1
    · rw [count_miss (by rw [hi, h1])]
      rw [spc_no d l (fun hm => by
        obtain ⟨k, hk, he⟩ := List.getElem_of_mem hm
        exact indexByte_none h1 k (by rw [List.getElem?_eq_getElem hk, he]))]
      rfl
    · obtain ⟨i, hi0⟩ : ∃ i : Nat, indexByte l d = i := ⟨(indexByte l d).toNat, by omega⟩
      obtain ⟨h2, h3⟩ := indexByte_some hi0
      have hil : i < l.length := (List.getElem?_eq_some_iff.1 h2).1
      have e : l = l.take i ++ d :: l.drop (i + 1) := by
        have h4 : l[i] = d := by rw [List.getElem?_eq_getElem hil] at h2; exact Option.some.inj h2
        conv => lhs; rw [← List.take_append_drop i l]
        rw [List.drop_eq_getElem_cons hil, h4]
      have hno : d ∉ l.take i := fun hm => by
        obtain ⟨k, hk, he⟩ := List.getElem_of_mem hm
        rw [List.length_take] at hk
        rw [List.getElem_take] at he
        exact h3 k (by omega) (by rw [List.getElem?_eq_getElem (by omega), he])
      rw [count_hit (by simp) (show index l [d] = (i : Int) by rw [hi, hi0])]
      rw [Nat.add_comm 1]
      unfold splitK
      rw [if_neg (by rw [hi, hi0]; intro h; have := beq_iff_eq.1 h; omega), hi, hi0]
      show l.take (i + 0) :: splitK [d] 0 (count (l.drop (i + 1)) [d]) (l.drop (i + 1)) = spc d l
      rw [ih (l.drop (i + 1)) (by rw [List.length_drop]; omega), Nat.add_zero]
      conv => rhs; rw [e]
      rw [spc_app d _ _ hno]
theorem splitB_spc (d : UInt8) (l : Txt) : splitB (B [d]) 0 (countB (B l) (B [d])) (B l) = (spc d l).map B := by
  have h := splitB_data (B [d]) 0 (countB (B l) (B [d])) (B l)
  rw [data_B, data_B] at h
  have h2 : countB (B l) (B [d]) = count l [d] := by unfold countB; rw [data_B, data_B]
  rw [h2] at h ⊢
  rw [splitK_spc d l.length l (Nat.le_refl _)] at h
  rw [← h, List.map_map]
  have : ((fun x => B x) ∘ fun s : ByteArray => s.data.toList) = id := by funext s; exact B_data s
  rw [show (B ∘ fun s : ByteArray => s.data.toList) = id from this, List.map_id]
theorem count_spc (d : UInt8) (l : Txt) : countB (B l) (B [d]) + 1 = (spc d l).length := by
  have h := splitB_all (B [d]) (by rw [B_size]; simp) 0 _ (B l) rfl
  rw [splitB_spc, List.length_map] at h
  exact h.symm
/-- strings.Cut at a byte -/
theorem cut_no (d : UInt8) (l : Txt) (h : d ∉ l) : cut l [d] = (l, [], false) := by
  unfold cut
  have hi := index_one l d
  have hge := indexByte_ge l d
  rw [if_neg]
  rw [hi]
  intro h0
  obtain ⟨i, hi0⟩ : ∃ i : Nat, indexByte l d = i := ⟨(indexByte l d).toNat, by omega⟩
  exact h (List.mem_of_getElem? (indexByte_some hi0).1)
theorem cut_app (d : UInt8) (a r : Txt) (h : d ∉ a) : cut (a ++ d :: r) [d] = (a, r, true) := by
  unfold cut
  have hi := index_one (a ++ d :: r) d
  have hge := indexByte_ge (a ++ d :: r) d
  have hx : indexByte (a ++ d :: r) d = (a.length : Int) := by
    by_cases h1 : indexByte (a ++ d :: r) d = -1
    · exact absurd (by simp) (indexByte_none h1 a.length)
    · obtain ⟨i, hi0⟩ : ∃ i : Nat, indexByte (a ++ d :: r) d = i := ⟨(indexByte (a ++ d :: r) d).toNat, by omega⟩
      obtain ⟨h2, h3⟩ := indexByte_some hi0
      rw [hi0]
      have h4 : ¬ a.length < i := fun hl => h3 a.length hl (by simp)
      have h5 : ¬ i < a.length := fun hl => by
        rw [List.getElem?_append_left hl] at h2
        exact h (List.mem_of_getElem? h2)
      omega
  rw [hi, hx, if_pos (by omega)]
  simp
end Go.Proofs.YtefaaginedideaaGreatDoor
