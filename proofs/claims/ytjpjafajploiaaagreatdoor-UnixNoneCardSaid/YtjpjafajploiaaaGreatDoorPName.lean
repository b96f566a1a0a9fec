/-
  A name: the program's Name and the document's Name answer alike.
-/
import Derived.Test.YtjpjafajploiaaaGreatDoorOwn
import Derived.Test.YtjpjafajploiaaaGreatDoorShelf
import Derived.Still
import Derived.Tactics
import Derived.WalkKit
import Derived.Lib.IndexLaws
import Derived.Lib.Hide
namespace Go.Proofs.YtjpjafajploiaaaGreatDoor
set_option linter.unusedSimpArgs false
set_option linter.unusedVariables false
open Go.RowKit Own RegJ
open Go.Lib hiding intOf

abbrev Txt := List UInt8
/-- a text out of its letters -/
abbrev B (l : Txt) : ByteArray := ⟨l.toArray⟩
theorem B_data (s : ByteArray) : B s.data.toList = s := by cases s; simp
theorem B_inj {a b : Txt} (h : B a = B b) : a = b := by
  have := congrArg (fun s : ByteArray => s.data.toList) h; simpa using this
theorem data_B (l : Txt) : (B l).data.toList = l := by simp
theorem B_size (l : Txt) : (B l).size = l.length := by simp [ByteArray.size]
theorem beq_dec (a b : Txt) : (a == b) = decide (a = b) := by by_cases h : a = b <;> simp [h]
def nameE (l : Txt) : Int :=
  if l = [] then 9 else if 8 < l.length then 20 else if l = [46] ∨ l = [46, 46] ∨ 47 ∈ l ∨ 0 ∈ l then 19 else 0
theorem idx_mem (l : Txt) (c : UInt8) : decide (indexByte l c ≥ 0) = decide (c ∈ l) := by
  congr 1
  rw [eq_iff_iff]
  have hge := indexByte_ge l c
  constructor
  · intro h
    obtain ⟨o, ho⟩ : ∃ o : Nat, indexByte l c = o := ⟨(indexByte l c).toNat, by omega⟩
    have := (indexByte_some ho).1
    exact List.mem_of_getElem? this
  · intro h
    rcases Int.lt_or_le (indexByte l c) 0 with hn | hn
    · have h1 : indexByte l c = -1 := by omega
      obtain ⟨k, hk, he⟩ := List.getElem_of_mem h
      exact absurd (by rw [List.getElem?_eq_getElem hk, he]) (indexByte_none h1 k)
    · exact hn
theorem B_list (l : Txt) : (B l).toList = l := by rw [toList_data]
set_option maxRecDepth 100000 in
theorem name_is (l : Txt) (w : World) :
    Calls Tryz.prog 147 #[.string (B l)] w fun e w' => e = .returned (.int .i64 (nameE l)) ∧ w = w' := by
  have e0 : (B l).toList.isEmpty = decide (l = []) := by rw [B_list]; cases l <;> rfl
  have e1 : ((B l).toList == [46]) = decide (l = [46]) := by rw [B_list, beq_dec]
  have e2 : ((B l).toList == [46, 46]) = decide (l = [46, 46]) := by rw [B_list, beq_dec]
  have e3 : decide (((B l).size : Int) > 8) = decide (8 < l.length) := by rw [B_size]; congr 1; rw [eq_iff_iff]; omega
  have k1 := idx_mem l 47
  have k2 := idx_mem l 0
  have hi : ∀ c w, Calls Tryz.prog 196 #[.string (B l), .int .u8 c] w fun e w' => e = .returned (.int .i64 (indexByte l c.toNat.toUInt8)) ∧ w' = w := fun c w => by
    have := Tryz.strings_IndexByte (B l) c w
    rw [data_B] at this; exact this
  unfold nameE
  by_cases h0 : l = []
  · rw [if_pos h0]
    rw [decide_eq_true h0] at e0
    clear hi e1 e2 e3 k1 k2 h0
    generalize B l = s at *
    go_enter Tryz.func147, Tryz.ntmps147
    go_wp2_with (fail)
    go_ret
    exact ⟨rfl, rfl⟩
  · rw [if_neg h0]
    rw [decide_eq_false h0] at e0
    by_cases h1 : 8 < l.length
    · rw [if_pos h1]
      rw [decide_eq_true h1] at e3
      clear hi e1 e2 k1 k2 h0 h1
      generalize B l = s at *
      go_enter Tryz.func147, Tryz.ntmps147
      go_wp2_with (fail)
      go_ret
      exact ⟨rfl, rfl⟩
    · rw [if_neg h1]
      rw [decide_eq_false h1] at e3
      clear h1
      by_cases q1 : l = [46]
      · rw [decide_eq_true q1] at e1
        rw [if_pos (Or.inl q1)]
        have e1' := beq_iff_eq.1 e1
        clear q1 hi h0 k1 k2
        generalize B l = s at *
        go_enter Tryz.func147, Tryz.ntmps147
        go_wp2_with (fail)
        go_ret
        exact ⟨rfl, rfl⟩
      · rw [decide_eq_false q1] at e1
        by_cases q2 : l = [46, 46]
        · rw [decide_eq_true q2] at e2
          rw [if_pos (Or.inr (Or.inl q2))]
          clear q1 q2 hi h0 k1 k2
          generalize B l = s at *
          go_enter Tryz.func147, Tryz.ntmps147
          go_wp2_with (fail)
          go_ret
          exact ⟨rfl, rfl⟩
        · rw [decide_eq_false q2] at e2
          have i1 : ∀ w, Calls Tryz.prog 196 #[.string (B l), .int .u8 47] w fun e w' => e = .returned (.int .i64 (indexByte l 47)) ∧ w' = w := fun w => hi 47 w
          have i2 : ∀ w, Calls Tryz.prog 196 #[.string (B l), .int .u8 0] w fun e w' => e = .returned (.int .i64 (indexByte l 0)) ∧ w' = w := fun w => hi 0 w
          generalize indexByte l 47 = a at k1 i1
          generalize indexByte l 0 = b at k2 i2
          clear hi
          by_cases q3 : 47 ∈ l
          · rw [decide_eq_true q3] at k1
            rw [if_pos (Or.inr (Or.inr (Or.inl q3)))]
            clear q1 q2 q3 h0 k2
            generalize B l = s at *
            go_enter Tryz.func147, Tryz.ntmps147
            go_wp2_with (first
              | (go_at_call 196; refine (i1 _).mono ?_; rintro e w' ⟨rfl, rfl⟩)
              | (go_at_call 196; refine (i2 _).mono ?_; rintro e w' ⟨rfl, rfl⟩))
            go_ret
            exact ⟨rfl, rfl⟩
          · rw [decide_eq_false q3] at k1
            by_cases q4 : 0 ∈ l
            · rw [decide_eq_true q4] at k2
              rw [if_pos (Or.inr (Or.inr (Or.inr q4)))]
              clear q1 q2 q3 q4 h0
              generalize B l = s at *
              go_enter Tryz.func147, Tryz.ntmps147
              go_wp2_with (first
                | (go_at_call 196; refine (i1 _).mono ?_; rintro e w' ⟨rfl, rfl⟩)
                | (go_at_call 196; refine (i2 _).mono ?_; rintro e w' ⟨rfl, rfl⟩))
              go_ret
              exact ⟨rfl, rfl⟩
            · rw [decide_eq_false q4] at k2
              rw [if_neg (by intro h; rcases h with h | h | h | h; exact q1 h; exact q2 h; exact q3 h; exact q4 h)]
              clear q1 q2 q3 q4 h0
              generalize B l = s at *
              go_enter Tryz.func147, Tryz.ntmps147
              go_wp2_with (first
                | (go_at_call 196; refine (i1 _).mono ?_; rintro e w' ⟨rfl, rfl⟩)
                | (go_at_call 196; refine (i2 _).mono ?_; rintro e w' ⟨rfl, rfl⟩))
              go_ret
              exact ⟨rfl, rfl⟩
theorem byte_at {s : ByteArray} {l : Txt} (hd : s.data.toList = l) {i : Nat} {c : UInt8} (h : l[i]? = some c) (hs : i < s.size) : s[i] = c := by
  subst hd
  have : s.data[i]? = some c := by rw [← Array.getElem?_toList]; exact h
  obtain ⟨h1, h2⟩ := Array.getElem?_eq_some_iff.1 this
  exact h2
theorem u8_eq (c : UInt8) (k : Nat) (hk : k < 256) : ((c.toNat : Int) == (k : Int)) = decide (c = UInt8.ofNat k) := by
  have : (c.toNat : Int) = (k : Int) ↔ c = UInt8.ofNat k := by
    constructor
    · intro h
      apply UInt8.toNat_inj.1
      have h1 : c.toNat = k := by omega
      rw [h1, UInt8.toNat_ofNat']; omega
    · intro h; subst h; rw [UInt8.toNat_ofNat']; omega
  by_cases h : c = UInt8.ofNat k
  · rw [decide_eq_true h, beq_iff_eq]; exact this.2 h
  · rw [decide_eq_false h, beq_eq_false_iff_ne]; exact fun e => h (this.1 e)
set_option maxRecDepth 100000 in
theorem rname_is (l : Txt) (w : World) :
    Calls Tryz.prog 213 #[.string (B l)] w fun e w' => e = .returned (.int .i64 (nameE l)) ∧ w = w' := by
  have e0 : (B l).toList.isEmpty = decide (l = []) := by rw [B_list]; cases l <;> rfl
  have e1 : ((B l).toList == [46]) = decide (l = [46]) := by rw [B_list, beq_dec]
  have e2 : ((B l).toList == [46, 46]) = decide (l = [46, 46]) := by rw [B_list, beq_dec]
  have e3 : decide (((B l).size : Int) > 8) = decide (8 < l.length) := by rw [B_size]; congr 1; rw [eq_iff_iff]; omega
  have hsz := B_size l
  have hdat := data_B l
  obtain ⟨N, hN⟩ : ∃ N, nameE l = N := ⟨_, rfl⟩
  rw [hN]
  unfold nameE at hN
  generalize B l = s at *
  by_cases h0 : l = []
  · rw [if_pos h0] at hN
    rw [decide_eq_true h0] at e0
    subst hN
    clear e1 e2 e3 h0 hsz
    go_enter Tryz.func213, Tryz.ntmps213
    go_wp2_with (fail)
    go_ret
    exact ⟨rfl, rfl⟩
  · rw [if_neg h0] at hN
    rw [decide_eq_false h0] at e0
    by_cases h1 : 8 < l.length
    · rw [if_pos h1] at hN
      rw [decide_eq_true h1] at e3
      subst hN
      clear e1 e2 h0 h1 hsz
      go_enter Tryz.func213, Tryz.ntmps213
      go_wp2_with (fail)
      go_ret
      exact ⟨rfl, rfl⟩
    · rw [if_neg h1] at hN
      rw [decide_eq_false h1] at e3
      have HE := Lib.hid (And.intro e1 e2)
      have HN := Lib.hid hN
      have HS := Lib.hid (And.intro hsz hdat)
      clear e1 e2 hN hsz hdat
      go_enter Tryz.func213, Tryz.ntmps213
      go_wp2_with (fail)
      go_loopw [3] (fun ix wr => ∃ i : Nat, i ≤ l.length ∧ ix = .int .i64 i ∧ wr = w ∧ ∀ k, k < i → l[k]? ≠ some 47 ∧ l[k]? ≠ some 0) (fun ix _ => l.length - (intOf ix).toNat)
      case atStart => exact ⟨0, Nat.zero_le _, rfl, rfl, fun k hk => by omega⟩
      case round =>
        obtain ⟨i, hi, rfl, rfl, hno⟩ := hrel
        have HNO := Lib.hid hno
        clear hno
        by_cases hil : i < l.length
        · have d1 : decide ((i : Int) < (s.size : Int)) = true := by rw [HS.out.1]; simp; omega
          have i1 : (i : Int) < (s.size : Int) := by rw [HS.out.1]; omega
          have i2 : (0 : Int) ≤ i := by omega
          obtain ⟨c, hc⟩ : ∃ c, l[i]? = some c := ⟨l[i], List.getElem?_eq_getElem hil⟩
          have hg := fun h => byte_at HS.out.2 hc h
          have u1 : ((c.toNat : Int) == 47) = decide (c = UInt8.ofNat 47) := u8_eq c 47 (by omega)
          have u2 : ((c.toNat : Int) == 0) = decide (c = UInt8.ofNat 0) := u8_eq c 0 (by omega)
          have HC := Lib.hid hc
          clear hc
          by_cases q1 : c = UInt8.ofNat 47
          · rw [decide_eq_true q1] at u1
            have hN19 : N = 19 := by rw [← HN.out, if_pos (Or.inr (Or.inr (Or.inl (List.mem_of_getElem? (by rw [HC.out, q1]; rfl)))))]
            subst hN19
            clear q1
            go_wp2_with (fail)
            go_ret
            exact ⟨rfl, rfl⟩
          · rw [decide_eq_false q1] at u1
            by_cases q2 : c = UInt8.ofNat 0
            · rw [decide_eq_true q2] at u2
              have hN19 : N = 19 := by rw [← HN.out, if_pos (Or.inr (Or.inr (Or.inr (List.mem_of_getElem? (by rw [HC.out, q2]; rfl)))))]
              subst hN19
              clear q1 q2
              go_wp2_with (fail)
              go_ret
              exact ⟨rfl, rfl⟩
            · rw [decide_eq_false q2] at u2
              have HQ := Lib.hid (And.intro q1 q2)
              clear q1 q2
              go_wp2_with (fail)
              go_roundw
              case rel =>
                refine ⟨i + 1, by omega, by go_num, by trivial, fun k hk => ?_⟩
                by_cases hki : k < i
                · exact HNO.out k hki
                · have : k = i := by omega
                  subst this
                  rw [HC.out]
                  exact ⟨fun h => HQ.out.1 (Option.some.inj h), fun h => HQ.out.2 (Option.some.inj h)⟩
              case measure => simp [intOf]; omega
        · have hil' : i = l.length := by omega
          have d1 : decide ((i : Int) < (s.size : Int)) = false := by rw [HS.out.1]; simp; omega
          have d2 : decide (i < s.size) = false := by rw [HS.out.1]; simp; omega
          have m1 : ∀ c, (c = 47 ∨ c = 0) → ¬ c ∈ l := fun c hc hm => by
            obtain ⟨k, hk, he⟩ := List.getElem_of_mem hm
            have := HNO.out k (by omega)
            rw [List.getElem?_eq_getElem hk, he] at this
            rcases hc with h | h
            · exact this.1 (by rw [h])
            · exact this.2 (by rw [h])
          clear hil' hil hi
          have e1 := HE.out.1
          have e2 := HE.out.2
          by_cases q1 : l = [46]
          · have hN19 : N = 19 := by rw [← HN.out, if_pos (Or.inl q1)]
            subst hN19
            rw [decide_eq_true q1] at e1
            have e1' := beq_iff_eq.1 e1
            clear q1 e2
            go_wp2_with (fail)
            go_ret
            exact ⟨rfl, rfl⟩
          · rw [decide_eq_false q1] at e1
            by_cases q2 : l = [46, 46]
            · have hN19 : N = 19 := by rw [← HN.out, if_pos (Or.inr (Or.inl q2))]
              subst hN19
              rw [decide_eq_true q2] at e2
              clear q1 q2
              go_wp2_with (fail)
              go_ret
              exact ⟨rfl, rfl⟩
            · rw [decide_eq_false q2] at e2
              have hN0 : N = 0 := by
                rw [← HN.out, if_neg]
                intro h
                rcases h with h | h | h | h
                · exact q1 h
                · exact q2 h
                · exact m1 _ (Or.inl rfl) h
                · exact m1 _ (Or.inr rfl) h
              subst hN0
              clear q1 q2
              go_wp2_with (fail)
              go_ret
              exact ⟨rfl, rfl⟩
end Go.Proofs.YtjpjafajploiaaaGreatDoor
