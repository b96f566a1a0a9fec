/-
  Script, the program's telling: Itoa, plain, quote, line, Op. Conditions: the package variables that the library reads lie as the text lays them (Env).
-/
import Derived.Test.YtefaaginedideaaGreatDoorBld
import Derived.Test.YtefaaginedideaaGreatDoorSPl
import Derived.Test.YtefaaginedideaaGreatDoorJone
import Derived.Test.YtefaaginedideaaGreatDoorShelf
import Derived.Test.YtefaaginedideaaGreatDoorForms
import Derived.Lib.LaidTab
import Derived.Deep.QuietTactic
import Derived.BigQuiet
import Derived.StillTailTactics
namespace Go.Proofs.YtefaaginedideaaGreatDoor
set_option linter.unusedSimpArgs false
set_option linter.unusedVariables false
open Go.RowKit Own RegJ
open Go.Lib hiding intOf

/-- what the calls read of the package variables -/
structure Env (w : World) : Prop where
  mx : ∃ m, w.cell? ⟨0, 0, none⟩ = some (.int .i64 m)
  tab : TabIs Tryz.prog w "internal/strconv.uint64pow10" .u64 pow10Tab
  e1 : ∃ ev, w.cell? ⟨4, 0, none⟩ = some ev ∧ (ev = .nilIface ∨ ∃ te pe, ev = .iface te pe)
  e2 : ∃ ev, w.cell? ⟨5, 0, none⟩ = some ev ∧ (ev = .nilIface ∨ ∃ te pe, ev = .iface te pe)
  size : 8 ≤ w.heap.size
theorem pow_at : Tryz.prog.globalNamed "internal/strconv.uint64pow10" = some 1 := by kernel_rfl
theorem Env.kept {w w' : World} (h : Env w) (hs : w.heap.size ≤ w'.heap.size) (hk : ∀ k, k < 8 → w'.heap[k]? = w.heap[k]?) : Env w' := by
  have hc : ∀ g, g < 8 → w'.cell? ⟨g, 0, none⟩ = w.cell? ⟨g, 0, none⟩ := fun g hg => by unfold World.cell?; simp only [hk g hg]
  obtain ⟨m, hm⟩ := h.mx
  obtain ⟨v1, h1, h2⟩ := h.e1
  obtain ⟨v2, h3, h4⟩ := h.e2
  refine ⟨⟨m, by rw [hc _ (by decide)]; exact hm⟩, ?_, ⟨v1, by rw [hc _ (by decide)]; exact h1, h2⟩, ⟨v2, by rw [hc _ (by decide)]; exact h3, h4⟩, Nat.le_trans h.size hs⟩
  have ht := h.tab
  unfold TabIs World.var? at ht ⊢
  rw [pow_at] at ht ⊢
  simp only [Option.bind_some] at ht ⊢
  rw [hk _ (by decide)]; exact ht
theorem Env.below {w w' : World} {B : Nat} (h : Env w) (hB : 8 ≤ B) (hb : Below B w w') : Env w' := h.kept hb.size (fun k hk => hb.block k (by omega))
theorem Env.bel {w w' : World} (h : Env w) (hb : Below w.heap.size w w') : Env w' := h.below h.size hb
theorem grow_below (w : World) (k : Nat) (os : Array Obj) : Below w.heap.size w (Go.Sort.grow (w.drewN k) os) := by
  refine ⟨rfl, rfl, rfl, ?_, fun i hi => ?_⟩
  · simp [Go.Sort.grow]
  · have : (Go.Sort.grow (w.drewN k) os).heap = w.heap ++ os := rfl
    rw [this, Array.getElem?_append_left hi]
/-- a value handed back; new memory alone -/
def ValB (v : Value) (w : World) (e : Ending) (w' : World) : Prop := e = .returned v ∧ Below w.heap.size w w'
theorem sitoa {n : Int} {w : World} (h : Env w) (h0 : -9223372036854775808 ≤ n) (h1 : n ≤ 9223372036854775807) : Calls Tryz.prog 42 #[.int .i64 n] w (ValB (.string (B (itoa n))) w) := by
  refine (Tryz.strconv_Itoa n h0 h1 w h.tab).mono ?_
  rintro e w' ⟨rfl, k, os, rfl⟩
  exact ⟨rfl, grow_below w k os⟩
theorem kept_bel {e : TypeId} {b : Option Nat} {w w' : World} (h : Below w.heap.size w w') : OthersKept e b w w' := fun k o hk _ _ => by rw [h.block k (Array.getElem?_eq_some_iff.1 hk).1]; exact hk
theorem BldR.bel {T : TypeId} {tl : List Value} {B b : Nat} {l : List Value} {w w1 w2 : World} (hB : B ≤ w.heap.size) (h : Below w.heap.size w w1) (k : BldR T tl B b l w1 w2) : BldR T tl B b l w w2 := ⟨k.1, (h.mono hB).trans k.2.1, (kept_bel h).trans k.2.2⟩
theorem BldR.then {T : TypeId} {tl : List Value} {B b : Nat} {l : List Value} {w w1 w2 : World} (h : BldR T tl B b l w w1) (hB : B ≤ w1.heap.size) (k : Below w1.heap.size w1 w2) : BldR T tl B b l w w2 := ⟨h.1.below k, h.2.1.trans (k.mono hB), h.2.2.trans (kept_bel k)⟩

/-! ### plain, quote -/
theorem plain_is (c : UInt8) (w : World) : Calls Tryz.prog 45 #[.int .u8 c.toNat] w fun e w' => e = .returned (.bool (plainB c)) ∧ w = w' := by
  have hc := UInt8.toNat_lt c
  unfold plainB
  by_cases h1 : 33 ≤ c.toNat
  · by_cases h2 : c.toNat ≤ 126
    · go_enter Tryz.func45, Tryz.ntmps45
      go_wp2
      all_goals
        go_ret
        refine ⟨ret_bool ?_, rfl⟩
        refine Bool.eq_iff_iff.2 ?_
        first | (simp; done) | (simp; omega) | omega
    · go_enter Tryz.func45, Tryz.ntmps45
      go_wp2
      all_goals
        go_ret
        refine ⟨ret_bool ?_, rfl⟩
        refine Bool.eq_iff_iff.2 ?_
        first | (simp; done) | (simp; omega) | omega
  · go_enter Tryz.func45, Tryz.ntmps45
    go_wp2
    all_goals
      go_ret
      refine ⟨ret_bool ?_, rfl⟩
      refine Bool.eq_iff_iff.2 ?_
      first | (simp; done) | (simp; omega) | omega

theorem byte_at {s : ByteArray} {l : Txt} (hs : s.data.toList = l) {i : Nat} {c : UInt8} (h : l[i]? = some c) (hlt : i < s.size) : (s[i]'hlt) = c := by
  subst hs
  rw [List.getElem?_eq_getElem (by simpa using hlt)] at h
  have := Option.some.inj h
  rw [← this]
  show s.data[i] = _
  simp
theorem qbody_next {l : Txt} {i : Nat} {c : UInt8} (h : l[i]? = some c) : qbody (l.take (i + 1)) = qbody (l.take i) ++ qb c := by
  have hi : i < l.length := (List.getElem?_eq_some_iff.1 h).1
  unfold qbody
  rw [List.take_succ_eq_append_getElem hi, List.flatMap_append]
  rw [List.getElem?_eq_getElem hi] at h
  rw [Option.some.inj h]
  simp
theorem hexs_at {n : Nat} (hn : n < 16) (h : n < (⟨#[48, 49, 50, 51, 52, 53, 54, 55, 56, 57, 97, 98, 99, 100, 101, 102]⟩ : ByteArray).size) : (⟨#[48, 49, 50, 51, 52, 53, 54, 55, 56, 57, 97, 98, 99, 100, 101, 102]⟩ : ByteArray)[n]'h = hexd n := by
  have : n = 0 ∨ n = 1 ∨ n = 2 ∨ n = 3 ∨ n = 4 ∨ n = 5 ∨ n = 6 ∨ n = 7 ∨ n = 8 ∨ n = 9 ∨ n = 10 ∨ n = 11 ∨ n = 12 ∨ n = 13 ∨ n = 14 ∨ n = 15 := by omega
  rcases this with rfl | rfl | rfl | rfl | rfl | rfl | rfl | rfl | rfl | rfl | rfl | rfl | rfl | rfl | rfl | rfl <;> rfl
theorem new_row {W : World} {cs : List Value} {T : TypeId} {b : Nat} (hb : b = W.heap.size) (j : Nat) (u : Value) (h : cs[j]? = some u) : (W.alloc (.cells cs.toArray T)).cell? (Addr.add ⟨b, 0, none⟩ j) = some u := by
  subst hb
  have := (Blk.new W cs.toArray T).rd j
  rw [List.getElem?_toArray, h] at this
  rw [← this]
  congr 1
  unfold Addr.add
  by_cases h0 : j = 0
  · subst h0; rfl
  · rw [if_neg h0]; simp
theorem cells_snoc (l : Txt) (c : UInt8) : byteCells l ++ [.int .u8 c.toNat] = byteCells (l ++ [c]) := by simp [byteCells]
set_option maxRecDepth 100000 in
set_option maxHeartbeats 1000000 in
theorem quote_is (l : Txt) (w : World) (hl : l.length ≤ 10000000) : Calls Tryz.prog 25 #[.string (B l)] w (ValB (.string (B (quoteT l))) w) := by
  have hsz := B_size l
  have hdat := data_B l
  have hq := qbody_len l
  generalize hsB : B l = s at *
  have HD := Lib.hid (And.intro hsz (And.intro hdat hsB))
  clear hsz hdat hsB
  have hn : BldV 62 [] w.heap.size w.heap.size [] (w.alloc (.cells #[.pointer none, .slice none 0 0] 62)) := BldV.new _ [] w
  have hw1 := wbyte_is 34 atB hn (by simp) (by simp)
  clear hn
  go_enter Tryz.func25, Tryz.ntmps25
  go_wp2_with (go_at_call 44; (with_reducible refine hw1.mono ?_); rintro e w1 ⟨rfl, h1⟩; clear hw1)
  have h2 : BldR 62 [] w.heap.size w.heap.size (byteCells ([34] ++ qbody (l.take 0))) (w.alloc (.cells #[.pointer none, .slice none 0 0] 62)) w1 := h1
  have H2 := Lib.hid h2
  clear h1 h2
  go_loopw [9] (fun ix wr => ∃ i : Nat, i ≤ l.length ∧ ix = .int .i64 i ∧ Hid (BldR 62 [] w.heap.size w.heap.size (byteCells ([34] ++ qbody (l.take i))) (w.alloc (.cells #[.pointer none, .slice none 0 0] 62)) wr)) (fun ix _ => l.length - (intOf ix).toNat)
  case atStart => exact ⟨0, Nat.zero_le _, rfl, H2⟩
  case round =>
    obtain ⟨i, hi, rfl, H⟩ := hrel
    clear H2
    by_cases hil : i < l.length
    · obtain ⟨c, hc⟩ : ∃ c, l[i]? = some c := ⟨l[i], List.getElem?_eq_getElem hil⟩
      have hx := byte_at (s := s) (l := l) HD.out.2.1 hc
      have hcl := UInt8.toNat_lt c
      have hnx := Lib.hid (qbody_next hc)
      have hpl := plain_is c
      have d1 : decide ((i : Int) < (s.size : Int)) = true := by rw [HD.out.1]; simp; omega
      have i1 : (i : Int) < (s.size : Int) := by rw [HD.out.1]; omega
      have hlt : i < s.size := by rw [HD.out.1]; omega
      have i2 : (0 : Int) ≤ i := by omega
      have hlen := qbody_len (l.take i)
      have hlen2 : (l.take i).length ≤ l.length := by simp; omega
      have hB : w.heap.size ≤ wr.heap.size := by have := H.out.2.1.size; simp at this; omega
      have hxx := hx hlt
      clear hx hc
      by_cases hp : plainB c = true
      · rw [hp] at hpl
        have hq2 : qb c = [c] := by unfold qb; rw [if_pos hp]
        have hwb := wbyte_is (c.toNat : Int) atB H.out.1 (by rw [byteCells_length]; simp; omega) hB
        rw [cells_snoc] at hwb
        have HW := Lib.hid hwb
        rw [List.append_assoc, ← hq2, ← hnx.out] at hwb
        clear hp hq2 HW
        go_wp2_with (first
          | (go_at_call 45; refine (hpl _).mono ?_; rintro e w' ⟨rfl, rfl⟩)
          | (go_at_call 44; (with_reducible refine hwb.mono ?_); rintro e w' ⟨rfl, h1⟩; have H1 := Lib.hid h1; clear h1))
        go_roundw
        case rel => exact ⟨i + 1, by omega, by go_num, Lib.hid (H.out.trans H1.out)⟩
        case measure => simp [intOf]; omega
      · have hp' : plainB c = false := by simpa using hp
        rw [hp'] at hpl
        have hq2 : qb c = [92, hexd (c.toNat / 16), hexd (c.toNat % 16)] := by unfold qb; rw [if_neg hp]
        go_wp2_with (first
          | (go_at_call 45; refine (hpl _).mono ?_; rintro e w' ⟨rfl, rfl⟩))
        have g1 := fun h => hexs_at (n := c.toNat / 16) (by omega) h
        have g2 := fun h => hexs_at (n := c.toNat % 16) (by omega) h
        have j1 : (c.toNat : Int) / 16 < 16 := by omega
        have j2 : (c.toNat : Int) % 16 < 16 := by omega
        have j3 : c.toNat / 16 < 16 := by omega
        have j4 : c.toNat % 16 < 16 := by omega
        have h16 := UInt8.toNat_lt (hexd (c.toNat / 16))
        have h17 := UInt8.toNat_lt (hexd (c.toNat % 16))
        generalize hexd (c.toNat / 16) = x1 at *
        generalize hexd (c.toNat % 16) = x2 at *
        refine region_J (JJ 6 7 (fun a b w1 => (a = false ∧ b = false ∧ w1 = wr.drew) ∨ (a = true ∧ b = false ∧ w1 = (wr.alloc (.cells #[.int .u8 92, .int .u8 x1.toNat, .int .u8 x2.toNat] 5)).drew) ∨ (a = true ∧ b = true ∧ BldR 62 [] w.heap.size w.heap.size (byteCells ([34] ++ qbody (l.take (i + 1)))) wr w1))) (by kernel_rfl) (by kernel_rfl) ?_ ?_
        · exact .inl ⟨rfl, rfl, rfl⟩
        · iterate 6
            apply wpJ_op rfl (by rfl)
            · intro f w1 hf hJ Q1 hQ
              simp only [Act.put, List.setIfInBounds_toArray, List.set_cons_zero, List.set_cons_succ] at hQ
              go_wp2_with (fail)
              exact hQ _ _ rfl (hJ.other (by decide) (by decide))
            simp only [Act.put, List.setIfInBounds_toArray, List.set_cons_zero, List.set_cons_succ]
          apply wpJ_op rfl (by rfl)
          · intro f w1 hf hJ Q1 hQ
            simp only [Act.put, List.setIfInBounds_toArray, List.set_cons_zero, List.set_cons_succ] at hQ
            have h1 := hJ.one hf.1
            rcases h1 with ⟨_, h7, rfl⟩ | ⟨h, _⟩ | ⟨h, _⟩
            · go_wp2_with (fail)
              exact hQ _ _ rfl (JJ.fin1 (.inr (.inl ⟨rfl, h7, rfl⟩)) (by decide))
            · cases h
            · cases h
          simp only [Act.put, List.setIfInBounds_toArray, List.set_cons_zero, List.set_cons_succ]
          apply wpJ_op rfl (by rfl)
          · intro f w1 hf hJ Q1 hQ
            simp only [Act.put, List.setIfInBounds_toArray, List.set_cons_zero, List.set_cons_succ] at hQ
            have h6 := up_dep hf 6 (by kernel_rfl)
            have h1 := hJ.two hf.1
            rw [h6] at h1
            rcases h1 with ⟨h, _⟩ | ⟨_, _, rfl⟩ | ⟨_, h, _⟩
            · cases h
            · have hAl : Below wr.heap.size wr ((wr.alloc (.cells #[.int .u8 92, .int .u8 x1.toNat, .int .u8 x2.toNat] 5)).drew) := ((Below.refl _ wr).alloc (Nat.le_refl _) _).drew
              have hwr := write_is (w := (wr.alloc (.cells #[.int .u8 92, .int .u8 x1.toNat, .int .u8 x2.toNat] 5)).drew) ⟨wr.heap.size, 0, none⟩ 3 3 [.int .u8 92, .int .u8 x1.toNat, .int .u8 x2.toNat] rfl (new_row (W := wr) rfl) (by have := H.out.1.lt; simp; omega) (by intro u hu; simp at hu; rcases hu with rfl | rfl | rfl <;> rfl) atB ((H.out.1.alloc _).drew) (by rw [byteCells_length]; simp; omega) (by have := hAl.size; omega)
              go_wp2_with (go_at_call 46; (with_reducible refine hwr.mono ?_); rintro e w' ⟨rfl, h1⟩; have H1 := Lib.hid h1; clear h1)
              refine hQ _ _ rfl (JJ.fin2 (.inr (.inr ⟨h6, rfl, ?_⟩)) (by decide))
              have e : byteCells ([34] ++ qbody (l.take (i + 1))) = byteCells ([34] ++ qbody (l.take i)) ++ [.int .u8 92, .int .u8 x1.toNat, .int .u8 x2.toNat] := by
                rw [hnx.out, hq2, ← List.append_assoc]; simp [byteCells]
              rw [e]
              exact BldR.bel hB hAl H1.out
            · cases h
          simp only [Act.put, List.setIfInBounds_toArray, List.set_cons_zero, List.set_cons_succ]
          refine wpJ_nil ?_
          intro w1 hJ1
          have h1 := hJ1.over rfl rfl
          rcases h1 with ⟨h, _⟩ | ⟨_, h, _⟩ | ⟨_, _, h1⟩
          · cases h
          · cases h
          · have H1 := Lib.hid h1
            clear h1 hJ1
            go_wp2_with (fail)
            go_roundw
            case rel => exact ⟨i + 1, by omega, by go_num, Lib.hid (H.out.trans H1.out)⟩
            case measure => simp [intOf]; omega
    · have hie : i = l.length := by omega
      have d1 : decide ((i : Int) < (s.size : Int)) = false := by rw [HD.out.1]; simp; omega
      have d1n : decide (i < s.size) = false := by rw [HD.out.1]; simp; omega
      have hB : w.heap.size ≤ wr.heap.size := by have := H.out.2.1.size; simp at this; omega
      have hT : l.take i = l := by rw [hie]; simp
      have H3 := H.out
      rw [hT] at H3
      have hwb := wbyte_is 34 atB H3.1 (by rw [byteCells_length]; simp; omega) hB
      have e34 : byteCells ([34] ++ qbody l) ++ [.int .u8 34] = byteCells (quoteT l) := by simp [byteCells, quoteT]
      rw [e34] at hwb
      have H4 := Lib.hid H3
      clear hie hT H3 e34 hil
      go_wp2_with (first
        | (go_at_call 44; (with_reducible refine hwb.mono ?_); rintro e w2 ⟨rfl, h1⟩; have hst := bstr_is (by decide) h1.1 (by unfold quoteT; simp); have H1 := Lib.hid h1; clear h1)
        | (go_at_call 24; (with_reducible refine hst.mono ?_); rintro e w3 ⟨rfl, h2, _⟩; have H2 := Lib.hid h2; clear h2))
      go_ret
      refine ⟨rfl, ?_⟩
      have hb0 : Below w.heap.size w (w.alloc (.cells #[.pointer none, .slice none 0 0] 62)) := (Below.refl _ _).alloc (Nat.le_refl _) _
      exact ((hb0.trans H4.out.2.1).trans H1.out.2.1).trans H2.out
end Go.Proofs.YtefaaginedideaaGreatDoor
