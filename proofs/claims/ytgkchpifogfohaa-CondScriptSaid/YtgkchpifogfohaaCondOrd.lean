/-
  CondOrder: the walk.
-/
import Derived.Test.YtgkchpifogfohaaCondB
import Derived.Deep.QuietTactic
import Derived.BigQuiet
namespace Go.Proofs.Ytgkchpifogfohaa
set_option linter.unusedSimpArgs false
set_option linter.unusedVariables false
open Go.RowKit Go.Lib Own Sl
open RegJ hiding Up
open RegF hiding put_size

/-- sixteen keys, literally -/
theorem keys16 (Q : Nat → Int) : ((List.range 16).map fun j => Value.int .i64 (Q j)).toArray = #[.int .i64 (Q 0), .int .i64 (Q 1), .int .i64 (Q 2), .int .i64 (Q 3), .int .i64 (Q 4), .int .i64 (Q 5), .int .i64 (Q 6), .int .i64 (Q 7), .int .i64 (Q 8), .int .i64 (Q 9), .int .i64 (Q 10), .int .i64 (Q 11), .int .i64 (Q 12), .int .i64 (Q 13), .int .i64 (Q 14), .int .i64 (Q 15)] := by rfl
/-- what is known of the conditions while they are filled from above: k are left -/
def Fill (x : Int) (W wr : World) (bc kb bk : Nat) (Q : Nat → Int) (k : Nat) (m : Nat) (P : (Nat → List Int) → Prop) : Prop := ∃ ls, P ls ∧ Cd wr (fun j => j < W.heap.size ∨ j = kb ∨ j = bk) 1 bc ls ∧ KR wr bk Q ∧ Blk wr kb #[.int .i64 (Q 0), .int .i64 (Q 1), .int .i64 (Q 2), .int .i64 (Q 3), .int .i64 (Q 4), .int .i64 (Q 5), .int .i64 (Q 6), .int .i64 (Q 7), .int .i64 (Q 8), .int .i64 (Q 9), .int .i64 (Q 10), .int .i64 (Q 11), .int .i64 (Q 12), .int .i64 (Q 13), .int .i64 (Q 14), .int .i64 (Q 15)] 23 ∧ (ls 0).length = m ∧ (∀ y ∈ ls 0, (k : Int) ≤ y ∧ y < 16 ∧ bitF x y.toNat = true) ∧ Keep (fun j => j < W.heap.size) W wr

theorem Cd.anti {w : World} {K K' : Nat → Prop} {n bc : Nat} {ls : Nat → List Int} (h : Cd w K n bc ls) (hK : ∀ j, K' j → K j) : Cd w K' n bc ls := by
  obtain ⟨bl, vs, bs, h1, h2, h3, h4⟩ := h
  exact ⟨bl, vs, bs, h1, fun k hk hk' => h2 k hk (hK k hk'), fun k hk => h3 k (hK k hk), h4⟩
theorem fill0 {x : Int} {w w1 : World} {bc : Nat} {Q : Nat → Int} {o : Obj} (hC : Cd w1 (fun k => k < (w.alloc o).heap.size) 1 bc (fun _ => [])) (hB : Below (w.alloc o).heap.size (w.alloc o) w1) (hkb : Blk w1 w.heap.size #[.int .i64 (Q 0), .int .i64 (Q 1), .int .i64 (Q 2), .int .i64 (Q 3), .int .i64 (Q 4), .int .i64 (Q 5), .int .i64 (Q 6), .int .i64 (Q 7), .int .i64 (Q 8), .int .i64 (Q 9), .int .i64 (Q 10), .int .i64 (Q 11), .int .i64 (Q 12), .int .i64 (Q 13), .int .i64 (Q 14), .int .i64 (Q 15)] 23) :
    Fill x w (w1.alloc (.cells #[.int .i64 (Q 0), .int .i64 (Q 1), .int .i64 (Q 2), .int .i64 (Q 3), .int .i64 (Q 4), .int .i64 (Q 5), .int .i64 (Q 6), .int .i64 (Q 7), .int .i64 (Q 8), .int .i64 (Q 9), .int .i64 (Q 10), .int .i64 (Q 11), .int .i64 (Q 12), .int .i64 (Q 13), .int .i64 (Q 14), .int .i64 (Q 15)] 30)) bc w.heap.size w1.heap.size Q 16 0 (fun _ => True) := by
  have hb : Below w1.heap.size w1 (w1.alloc (.cells #[.int .i64 (Q 0), .int .i64 (Q 1), .int .i64 (Q 2), .int .i64 (Q 3), .int .i64 (Q 4), .int .i64 (Q 5), .int .i64 (Q 6), .int .i64 (Q 7), .int .i64 (Q 8), .int .i64 (Q 9), .int .i64 (Q 10), .int .i64 (Q 11), .int .i64 (Q 12), .int .i64 (Q 13), .int .i64 (Q 14), .int .i64 (Q 15)] 30)) := (Below.refl _ _).alloc (Nat.le_refl _) _
  have hs : (w.alloc o).heap.size = w.heap.size + 1 := by simp
  refine ⟨_, trivial, (hC.more hb).anti (fun j hj => ?_), ?_, hkb.alloc _, rfl, fun y hy => by simp at hy, ?_⟩
  · rcases hj with hj | hj | hj
    · exact Or.inl (by omega)
    · exact Or.inl (by omega)
    · exact Or.inr ⟨by omega, by subst hj; simp⟩
  · unfold KR; rw [keys16]; exact Blk.new _ _ _
  · have h1 : Below w.heap.size w w1 := ((Below.refl _ _).alloc (Nat.le_refl _) _).trans (hB.mono (by omega))
    exact (Keep.of_below h1).trans ((Keep.of_below hb).mono (fun _ h => h))

def Filled (v : Value) (x : Int) (W : World) (bc kb bk : Nat) (Q : Nat → Int) (k m : Nat) (P : (Nat → List Int) → Prop) (e : Ending) (w' : World) : Prop := e = .returned v ∧ Fill x W w' bc kb bk Q k m P
theorem fill_wait {x : Int} {W wr : World} {bc kb bk i n : Nat} {Q : Nat → Int} (h : Fill x W wr bc kb bk Q (i + 1) n (fun _ => True)) (hk : ¬ kb < W.heap.size) (hi : i < 16) (hb : bitF x i = true) :
    Calls Try.prog 9 #[.pointer (some ⟨bc, 0, none⟩), .int .i64 i, .int .i64 0] wr (Filled (.int .i64 0) x W bc kb bk Q i (n + 1) (fun ls => (i : Int) ∈ ls 0)) := by
  obtain ⟨ls, -, hC, hK, hB, hl, hm, hw⟩ := h
  have hne : ∀ j, (i : Int) ∉ ls j := fun j hj => by
    by_cases h0 : j = 0
    · subst h0; have := hm i hj; omega
    · obtain ⟨bl, vs, bs, h1, h2, h3, h4⟩ := hC
      rw [h1.out j (by omega)] at hj; simp at hj
  refine (wait_cd hC (by omega) i 0 0 rfl (by omega) (by omega) hne).mono ?_
  rintro e w' ⟨rfl, hC', hK'⟩
  refine ⟨rfl, _, (mem_insF hC.good 0 i 0 i).2 (Or.inr ⟨rfl, rfl⟩), hC', hK.keep hK' (Or.inr (Or.inr rfl)), Blk.upd hK' hB (fun h => h (Or.inr (Or.inl rfl))), by rw [ins_len, hl], fun y hy => ?_, hw.trans (hK'.mono (fun j hj => Or.inl hj))⟩
  rw [mem_insF hC.good] at hy
  rcases hy with hy | ⟨_, rfl⟩
  · have := hm y hy; exact ⟨by omega, this.2⟩
  · exact ⟨by omega, by omega, by simpa using hb⟩
theorem fill_busy {x : Int} {W wr : World} {bc kb bk i n : Nat} {Q : Nat → Int} (h : Fill x W wr bc kb bk Q i n (fun ls => (i : Int) ∈ ls 0)) (hi : i < 16) :
    Calls Try.prog 9 #[.pointer (some ⟨bc, 0, none⟩), .int .i64 i, .int .i64 0] wr (Filled (.int .i64 5) x W bc kb bk Q i n (fun _ => True)) := by
  obtain ⟨ls, hin, hC, hK, hB, hl, hm, hw⟩ := h
  refine (busy_cd hC (by omega) i 0 0 0 rfl (by omega) (by omega) (by omega) hin).mono ?_
  rintro e w' ⟨rfl, hC', hK'⟩
  exact ⟨rfl, _, trivial, hC', hK.keep hK' (Or.inr (Or.inr rfl)), Blk.upd hK' hB (fun h => h (Or.inr (Or.inl rfl))), hl, hm, hw.trans (hK'.mono (fun j hj => Or.inl hj))⟩
theorem Fill.down {x : Int} {W wr : World} {bc kb bk i n : Nat} {Q : Nat → Int} {P : (Nat → List Int) → Prop} (h : Fill x W wr bc kb bk Q (i + 1) n P) : Fill x W wr bc kb bk Q i n P := by
  obtain ⟨ls, h0, hC, hK, hB, hl, hm, hw⟩ := h
  exact ⟨ls, h0, hC, hK, hB, hl, fun y hy => by have := hm y hy; exact ⟨by omega, this.2⟩, hw⟩
/-- what is left: who was signalled last was ahead of it -/
def Emp (x : Int) (W wr : World) (bc kb bk : Nat) (Q : Nat → Int) (l : Option Nat) (m : Nat) : Prop := Fill x W wr bc kb bk Q 0 m (fun ls => ∀ i, l = some i → ∀ y ∈ ls 0, Q y.toNat < Q i ∨ (Q y.toNat = Q i ∧ (i : Int) < y))
def lastV (l : Option Nat) : Int := match l with | none => -1 | some i => i
def Sigd (x : Int) (W : World) (bc kb bk : Nat) (Q : Nat → Int) (l : Option Nat) (m : Nat) (e : Ending) (w' : World) : Prop := ∃ z : Nat, e = .returned (.tuple #[.int .i64 z, .bool true]) ∧ z < 16 ∧ bitF x z = true ∧ (∀ i, l = some i → Q z < Q i ∨ (Q z = Q i ∧ i < z)) ∧ Emp x W w' bc kb bk Q (some z) m
theorem emp_sig {x : Int} {W wr : World} {bc kb bk m : Nat} {Q : Nat → Int} {l : Option Nat} (h : Emp x W wr bc kb bk Q l (m + 1)) :
    Calls Try.prog 10 #[.pointer (some ⟨bc, 0, none⟩), .int .i64 0, .func (.func 11) #[.pointer (some ⟨bk, 0, none⟩)] #[]] wr (Sigd x W bc kb bk Q l m) := by
  obtain ⟨ls, h0, hC, hK, hB, hl, hm, hw⟩ := h
  obtain ⟨y, r, he⟩ : ∃ y r, ls 0 = y :: r := by
    cases hls : ls 0 with
    | nil => rw [hls] at hl; simp at hl
    | cons y r => exact ⟨y, r, rfl⟩
  have hin : bestF Q y r ∈ ls 0 := by rw [he]; exact bestF_mem Q y r
  have hbm := hm _ hin
  have hs := hC.good.sorted 0
  have hah := best_ahead Q y r (by rw [← he]; exact hs)
  rw [← he] at hah
  have hdl := del_len hC.good 0 _ hin
  refine (sig_cd hC (by omega) 0 0 rfl (by omega) y r he bk Q hK (fun t ht => ⟨by have := hm t ht; omega, (hm t ht).2.1⟩)).mono ?_
  rintro e w' ⟨rfl, hC', hK'⟩
  generalize bestF Q y r = z at *
  obtain ⟨zn, rfl⟩ : ∃ zn : Nat, z = zn := ⟨z.toNat, by omega⟩
  refine ⟨zn, rfl, by omega, by simpa using hbm.2.2, fun i hi => by have := h0 i hi _ hin; simpa using this, _, fun i hi t ht => ?_, hC', hK.keep hK' (Or.inr (Or.inr rfl)), Blk.upd hK' hB (fun h => h (Or.inr (Or.inl rfl))), by omega, fun t ht => ?_, hw.trans (hK'.mono (fun j hj => Or.inl hj))⟩
  · cases hi
    rw [mem_delF] at ht
    have := hah t ht.1
    unfold Ahead at this
    simp only [Int.toNat_natCast] at this
    have hne : t ≠ zn := fun h => ht.2 ⟨rfl, h⟩
    omega
  · rw [mem_delF] at ht
    exact hm t ht.1
theorem Fill.drewN {x : Int} {W wr : World} {bc kb bk i n : Nat} {Q : Nat → Int} {P : (Nat → List Int) → Prop} (q : Nat) (h : Fill x W wr bc kb bk Q i n P) : Fill x W (wr.drewN q) bc kb bk Q i n P := by
  obtain ⟨ls, h0, hC, hK, hB, hl, hm, hw⟩ := h
  exact ⟨ls, h0, hC.other ((Upd.refl (fun _ => False) wr).drewN q) (fun _ h => h.elim), hK, hB, hl, hm, Upd.drewN hw q⟩
theorem emp_cells {x : Int} {W wr : World} {bc kb bk m : Nat} {Q : Nat → Int} {l : Option Nat} (h : Emp x W wr bc kb bk Q l m) (i : Nat) (hi : i < 16) : wr.cell? ⟨kb, i, none⟩ = some (.int .i64 (Q i)) := by
  obtain ⟨ls, h0, hC, hK, hB, hl, hm, hw⟩ := h
  rw [← keys16] at hB
  rw [hB.rd]; simp [hi]
theorem emp_nil {x : Int} {W wr : World} {bc kb bk : Nat} {Q : Nat → Int} {l : Option Nat} (h : Emp x W wr bc kb bk Q l 0) (bf : Value) :
    Calls Try.prog 10 #[.pointer (some ⟨bc, 0, none⟩), .int .i64 0, bf] wr (fun e w' => e = .returned (.tuple #[.int .i64 (-1), .bool false]) ∧ Keep (fun j => j < W.heap.size) W w') := by
  obtain ⟨ls, h0, hC, hK, hB, hl, hm, hw⟩ := h
  refine (snil_cd hC (by omega) 0 0 rfl (by omega) (List.eq_nil_of_length_eq_zero hl) bf).mono ?_
  rintro e w' ⟨rfl, hC', hK'⟩
  exact ⟨rfl, hw.trans (hK'.mono (fun j hj => Or.inl hj))⟩
set_option maxRecDepth 100000 in
set_option maxHeartbeats 1000000 in
theorem order_walk (x : Int) (cs : Array Value) (Q : Nat → Int) (hx : 0 ≤ x ∧ x < 65536) (hcs : cs = ((List.range 16).map fun j => Value.int .i64 (Q j)).toArray) (w : World) : Calls Try.prog 3 #[.int .u16 x, .agg cs] w fun e w' => e = .returned (.bool true) ∧ Below w.heap.size w w' := by
  have hnew := fun w => new_cd 1 (by omega) (by omega) w
  obtain ⟨hx0, hx1⟩ := hx
  rw [keys16] at hcs
  subst hcs
  go_enter Try.func3, Try.ntmps3
  go_wp2_with (first
    | (go_at_call 8; refine (hnew _).mono ?_; rintro e w1 ⟨bc, rfl, hC1, hB1⟩; have hkb := Blk.below hB1 (Blk.new _ _ _) (by simp); have c1 := hkb.rd))
  go_loopw [8, 9] (fun m ix wr => ∃ k n : Nat, n + k ≤ 16 ∧ ix = .int .i64 ((k : Int) - 1) ∧ m = .int .i64 n ∧ Fill x w wr bc w.heap.size w1.heap.size Q k n (fun _ => True)) (fun _ ix _ => (intOf ix + 1).toNat)
  case atStart => exact ⟨16, 0, by omega, rfl, rfl, fill0 hC1 hB1 hkb⟩
  case round =>
    obtain ⟨k, n, hk, rfl, rfl, hF⟩ := hrel
    clear hC1 hkb c1 hnew
    have HB1 := Lib.hid hB1
    clear hB1
    by_cases hk0 : k = 0
    · subst hk0
      rw [show (((0 : Nat) : Int) - 1) = -1 from rfl]
      go_wp2
      go_loopw [10, 11] (fun la j wr => ∃ (l : Option Nat) (i : Nat), i ≤ n ∧ j = .int .i64 i ∧ la = .int .i64 (lastV l) ∧ (∀ k, l = some k → k < 16) ∧ Emp x w wr bc w.heap.size w1.heap.size Q l (n - i)) (fun _ j _ => n - (intOf j).toNat)
      case atStart => exact ⟨none, 0, by omega, rfl, rfl, by simp, hF.imp (fun ls h => ⟨by simp, h.2⟩)⟩
      case round =>
        obtain ⟨l, i, hi, rfl, rfl, hl16, hE⟩ := hrel
        clear hF
        by_cases hin : i < n
        · have hm : n - i = (n - i - 1) + 1 := by omega
          rw [hm] at hE
          have hs := emp_sig hE
          have hd : decide ((i : Int) < (n : Int)) = true := by simp; omega
          clear hE hm
          cases l with
          | none =>
            simp only [lastV]
            go_wp2_with (go_at_call 10; (with_reducible refine hs.mono ?_); rintro e w2 ⟨z, rfl, hz, hbz, hlz, hE2⟩; clear hs hlz; have b1 : bits BinOp.and IntKind.u16 (x / 2 ^ z) 1 = 1 := (by simpa [bitF] using hbz); have HE := Lib.hid hE2; clear hE2; have z1 : (0 : Int) ≤ z := (by omega); have z2 : (z : Int) < 16 := (by omega); have d1 : decide ((z : Int) < 0) = false := (by simp); have d2 : decide ((z : Int) > 15) = false := (by simp; omega); have d3 : (bits BinOp.and IntKind.u16 (x / 2 ^ z) 1 == 0) = false := (by rw [b1]; rfl))
            go_quiet (fail)
            go_wp2
            go_roundw
            case rel => exact ⟨some z, i + 1, by omega, by go_num, rfl, by simp; omega, by rw [show n - (i + 1) = n - i - 1 by omega]; exact Fill.drewN _ HE.out⟩
            case measure => simp [intOf]; omega
          | some l =>
            simp only [lastV]
            have l1 : (0 : Int) ≤ l := by omega
            have l2 : l < 16 := hl16 l rfl
            have l3 : (l : Int) < 16 := by omega
            have d4 : decide ((l : Int) ≥ 0) = true := by simp
            clear hl16
            go_wp2_with (go_at_call 10; (with_reducible refine hs.mono ?_); rintro e w2 ⟨z, rfl, hz, hbz, hlz, hE2⟩; clear hs; replace hlz := Lib.hid (hlz l rfl); have b1 : bits BinOp.and IntKind.u16 (x / 2 ^ z) 1 = 1 := (by simpa [bitF] using hbz); have c1 := emp_cells hE2 l l2; have c2 := emp_cells hE2 z hz; have HE := Lib.hid hE2; clear hE2; have z1 : (0 : Int) ≤ z := (by omega); have z2 : (z : Int) < 16 := (by omega); have d1 : decide ((z : Int) < 0) = false := (by simp); have d2 : decide ((z : Int) > 15) = false := (by simp; omega); have d3 : (bits BinOp.and IntKind.u16 (x / 2 ^ z) 1 == 0) = false := (by rw [b1]; rfl); have d5 : decide (Q l < Q z) = false := (by have := hlz.out; simp; omega); clear b1)
            by_cases hq : Q z < Q l
            · have d6 : (Q l == Q z) = false := by simp; omega
              go_quiet (fail)
              go_wp2
              go_roundw
              case rel => exact ⟨some z, i + 1, by omega, by go_num, rfl, by simp; omega, by rw [show n - (i + 1) = n - i - 1 by omega]; exact Fill.drewN _ HE.out⟩
              case measure => simp [intOf]; omega
            · have hq2 := hlz.out
              have hq3 : l < z := by omega
              have hq4 : Q z = Q l := by omega
              have d6 : (Q l == Q z) = true := by simp; omega
              have d7 : decide ((l : Int) ≥ (z : Int)) = false := by simp; omega
              clear hq2 hq4
              go_quiet (fail)
              go_wp2
              go_roundw
              case rel => exact ⟨some z, i + 1, by omega, by go_num, rfl, by simp; omega, by rw [show n - (i + 1) = n - i - 1 by omega]; exact Fill.drewN _ HE.out⟩
              case measure => simp [intOf]; omega
        · have hm : n - i = 0 := by omega
          have hn : i = n := by omega
          subst hn
          rw [hm] at hE
          have hs := emp_nil hE
          clear hE hm hin
          go_wp2_with (first
            | (go_at_call 10; (with_reducible refine (hs _).mono ?_); rintro e w2 ⟨rfl, hK2⟩; clear hs; have haw := awake_any w2)
            | (go_at_call 12; (with_reducible refine haw.mono ?_); rintro e w3 ⟨rfl, hB3⟩; clear haw))
          go_ret
          exact ⟨rfl, (hK2.below (Nat.le_refl _)).trans (hB3.mono hK2.size)⟩
    · obtain ⟨i, rfl⟩ : ∃ i, k = i + 1 := ⟨k - 1, by omega⟩
      have HF := Lib.hid hF
      clear hF hk0
      rw [show ((i + 1 : Nat) : Int) - 1 = (i : Nat) by omega]
      have i1 : (i : Int) < 16 := by omega
      have hlt : ¬ w.heap.size < w.heap.size := by omega
      by_cases hb : bitF x i = true
      · have hw1 := fill_wait HF.out hlt (by omega) hb
        have hb' : (bits BinOp.and IntKind.u16 (x / 2 ^ i) 1 == 1) = true := hb
        clear hlt
        go_wp2_with (first
          | (go_at_call 9; (with_reducible refine hw1.mono ?_); rintro e w2 ⟨rfl, hF2⟩; clear hw1 HF; have hw2 := fill_busy hF2 (by omega); have HF := Lib.hid hF2; clear hF2)
          | (go_at_call 9; (with_reducible refine hw2.mono ?_); rintro e w3 ⟨rfl, hF3⟩; clear hw2; have HF3 := Lib.hid hF3; clear hF3))
        go_roundw
        case rel => exact ⟨i, n + 1, by omega, by go_num, by go_num, HF3.out⟩
        case measure => simp [intOf]
      · have hb' : (bits BinOp.and IntKind.u16 (x / 2 ^ i) 1 == 1) = false := by simpa [bitF] using hb
        clear hlt
        go_wp2
        go_roundw
        case rel => exact ⟨i, n, by omega, by go_num, by go_num, HF.out.down⟩
        case measure => simp [intOf]
end Go.Proofs.Ytgkchpifogfohaa
