/-
  HeapParts: the walk.
-/
import Derived.Test.YtamgaklbkefejaaPartsP
namespace Go.Proofs.Ytamgaklbkefejaa
set_option linter.unusedSimpArgs false
set_option linter.unusedVariables false
open Go.RowKit Go.Lib Own
open RegJ hiding Up
open RegF hiding put_size

theorem T.congr {w wr : World} {h : Nat → Nat} {xs xs' : Nat → List It} (t : T w wr h xs) (hp : ∀ j, j < 3 → (xs j).Perm (xs' j)) : T w wr h xs' := by
  obtain ⟨b, ys, h1, h2, h3, h4⟩ := t
  exact ⟨b, ys, fun j hj => ⟨(h1 j hj).1.trans (hp j hj), (h1 j hj).2⟩, h2, h3, h4⟩
def cut (K : Nat → Int) (kk i : Nat) : List It := (allL K i).filter fun p => !(p.1 == (kk : Int))
theorem cut_succ (K : Nat → Int) (kk i : Nat) (h : i ≠ kk) : cut K kk (i + 1) = cut K kk i ++ [((i : Int), K i)] := by
  unfold cut; rw [allL_succ, List.filter_append]
  congr 1
  have : ¬ (i : Int) = (kk : Int) := by omega
  simp [this]
theorem cut_at (K : Nat → Int) (kk : Nat) : cut K kk (kk + 1) = cut K kk kk := by
  unfold cut; rw [allL_succ, List.filter_append]; simp
theorem cut_no (K : Nat → Int) (kk i : Nat) : hasB (cut K kk i) i = false := by
  rw [Bool.eq_false_iff]; intro h
  have h0 := allL_no K i
  unfold hasB at h h0
  rw [List.any_eq_true] at h
  obtain ⟨p, hp, he⟩ := h
  rw [List.any_eq_false] at h0
  exact h0 p (List.mem_filter.1 hp).1 he
theorem cut_kk (K : Nat → Int) (kk i : Nat) : hasB (cut K kk i) kk = false := by
  rw [Bool.eq_false_iff]; intro h
  unfold hasB cut at h
  rw [List.any_eq_true] at h
  obtain ⟨p, hp, he⟩ := h
  have := (List.mem_filter.1 hp).2
  rw [he] at this; cases this
theorem cut_len (K : Nat → Int) (kk i : Nat) : (cut K kk i).length ≤ i := by
  unfold cut; refine Nat.le_trans (List.length_filter_le _ _) ?_; rw [allL_len]; exact Nat.le_refl _
theorem cut_perm (K : Nat → Int) (kk n : Nat) (h : kk < n) : (cut K kk n ++ [((kk : Int), K kk)]).Perm (allL K n) := by
  induction n with
  | zero => omega
  | succ n ih =>
    by_cases hn : kk = n
    · subst hn
      rw [cut_at, allL_succ]
      have : cut K kk kk = allL K kk := by
        unfold cut
        rw [List.filter_eq_self]
        intro p hp
        obtain ⟨j, hj, rfl⟩ := (allL_mem K kk p).1 hp
        have : ¬ (j : Int) = (kk : Int) := by omega
        simp [this]
      rw [this]
    · rw [cut_succ K kk n (Ne.symm hn), allL_succ]
      have := ih (by omega)
      have h2 := this.append_right [((n : Int), K n)]
      refine List.Perm.trans ?_ h2
      rw [List.append_assoc, List.append_assoc]
      exact List.Perm.append_left _ List.perm_append_comm
def st (K : Nat → Int) (kk i : Nat) : Nat → List It := fun j => if j = 2 then cut K kk i else allL K i
theorem t0 (w : World) {o1 o2 o3 : Obj} (h1 : o1 = .cells #[.slice none 0 0] 58) (h2 : o2 = o1) (h3 : o3 = o1) : T w (((w.alloc o1).alloc o2).alloc o3) (fun j => w.heap.size + j) (fun _ => []) := by
  subst h2; subst h3; subst h1
  have b0 := (Blk.new w #[.slice none 0 0] 58)
  refine ⟨fun _ => none, fun _ => [], fun j hj => ⟨List.Perm.refl _, ⟨⟨_, ?_, Or.inl ⟨rfl, rfl, rfl⟩, (fun g hg => by cases hg), by simp⟩, (fun c h1 h2 => by simp at h2)⟩⟩, fun i j k hi hj hne hk hk' => ?_, fun j k hj hk => ?_, ?_⟩
  · have hc : j = 0 ∨ j = 1 ∨ j = 2 := by omega
    rcases hc with rfl | rfl | rfl
    · exact (b0.alloc _).alloc _
    · exact (Blk.new' (by simp)).alloc _
    · exact Blk.new' (by simp)
  · dsimp only at hk hk'
    rcases hk with hk | hk
    · rcases hk' with hk' | hk'
      · omega
      · cases hk'
    · cases hk
  · dsimp only at hk
    rcases hk with hk | hk
    · omega
    · cases hk
  · exact (((Below.refl _ _).alloc (Nat.le_refl _) _).alloc (by simp) _).alloc (by simp; omega) _
section
variable {w wr : World} {h : Nat → Nat} {xs : Nat → List It}
theorem t_push' (t : T w wr h xs) (j A : Nat) (hj : j < 3) (hA : A = h j) (l : List It) (hxl : xs j = l) (hl : l.length ≤ 1000) (id k : Int) (hid : 0 ≤ id) (hno : hasB l id = false) :
    Calls Try.prog 9 #[.pointer (some ⟨A, 0, none⟩), .int .i64 id, .int .i64 k] wr (TP (.int .i64 0) w h (putX xs j (l ++ [(id, k)]))) := by
  subst hxl; exact t_push t j A hj hA hl id k hid hno
end
def PartsM (w : World) (e : Ending) (w' : World) : Prop := e = .returned (.bool true) ∧ Below w.heap.size w w'
set_option maxRecDepth 100000 in
theorem parts_short (av : Option Addr) (len cap : Nat) (who key : Int) (hm : len ≤ maxLen) (hl : 60 < len ∨ len = 0) (w : World) :
    Calls Try.prog 6 #[.slice av len cap, .int .i64 who, .int .i64 key] w (PartsM w) := by
  unfold maxLen at hm
  by_cases h0 : 60 < len
  · have d1 : decide ((len : Int) > 60) = true := by simp; omega
    clear hl
    go_enter Try.func6, Try.ntmps6
    go_wp2_with (go_at_call 7; refine (awake_any _).mono ?_; rintro e w' ⟨rfl, hB⟩)
    go_ret
    exact ⟨rfl, hB⟩
  · have h1 : len = 0 := by omega
    subst h1
    clear hl h0
    go_enter Try.func6, Try.ntmps6
    go_wp2_with (go_at_call 7; refine (awake_any _).mono ?_; rintro e w' ⟨rfl, hB⟩)
    go_ret
    exact ⟨rfl, hB⟩
set_option maxRecDepth 100000 in
set_option maxHeartbeats 4000000 in
theorem parts_walk (av : Option Addr) (len cap : Nat) (K : Nat → Int) (who key : Int) (h1 : 1 ≤ len) (hl : len ≤ 60) (w : World) (hK : KeysAt w av len K) :
    Calls Try.prog 6 #[.slice av len cap, .int .i64 who, .int .i64 key] w (PartsM w) := by
  have d1 : decide ((len : Int) > 60) = false := by simp; omega
  have d2 : ((len : Int) == 0) = false := by simp; omega
  have hlo := low_any who len (by omega) (by omega)
  have hlb := low_bd who len (by omega)
  obtain ⟨kk, hkk⟩ : ∃ kk : Nat, lowF who len = kk := ⟨(lowF who len).toNat, by omega⟩
  rw [hkk] at hlo hlb
  have hkl : kk < len := by omega
  clear hkk hlb
  have HK := Lib.hid hK
  clear hK
  go_enter Try.func6, Try.ntmps6
  go_wp2_with (first
    | (go_at_call 8; refine (hnew _).mono ?_; rintro e w' ⟨rfl, rfl⟩)
    | (go_at_call 24; (with_reducible refine (hlo _).mono ?_); rintro e w' ⟨rfl, rfl⟩))
  clear hlo
  have HT := Lib.hid (t0 w rfl rfl rfl)
  go_loopw [11] (fun ix wr => ∃ i : Nat, i ≤ len ∧ ix = .int .i64 i ∧ T w wr (fun j => w.heap.size + j) (st K kk i)) (fun ix _ => len - (intOf ix).toNat)
  case atStart =>
    refine ⟨0, Nat.zero_le _, rfl, HT.out.congr (fun j hj => ?_)⟩
    have : st K kk 0 j = [] := by unfold st cut allL; split <;> rfl
    rw [this]
  case round =>
    obtain ⟨i, hi, rfl, ht⟩ := hrel
    clear HT
    by_cases hil : i < len
    · obtain ⟨g, o, rfl, k0⟩ := HK.out i hil
      have hBw : Below w.heap.size w wr := by obtain ⟨_, _, _, _, _, h4⟩ := ht; exact h4
      have c1 := below_cell hBw (Nat.le_refl _) k0
      have i1 : (i : Int) < (len : Int) := by omega
      have d3 : decide ((i : Int) < (len : Int)) = true := by simp; omega
      have hp0 := t_push' ht 0 w.heap.size (by omega) rfl (allL K i) rfl (by rw [allL_len]; omega) i (K i) (by omega) (allL_no K i)
      have K0 := Lib.hid k0
      clear ht hBw k0
      by_cases hik : i = kk
      · have d4 : ((i : Int) != (kk : Int)) = false := by simp; omega
        have HE := Lib.hid hik
        clear hik
        go_wp2_with (first
          | (go_at_call 9; (with_reducible refine hp0.mono ?_); rintro e w1 ⟨rfl, t1⟩; clear hp0; have c1 := below_cell (show Below w.heap.size w w1 by obtain ⟨_, _, _, _, _, h4⟩ := t1; exact h4) (Nat.le_refl _) K0.out; have hp1 := t_push' t1 1 (w.heap.size + 1) (by omega) rfl (allL K i) rfl (by rw [allL_len]; omega) i (K i) (by omega) (allL_no K i); clear t1)
          | (go_at_call 9; (with_reducible refine hp1.mono ?_); rintro e w2 ⟨rfl, t2⟩; clear hp1; have T2 := Lib.hid t2; clear t2))
        go_roundw
        case rel =>
          refine ⟨i + 1, by omega, by go_num, T2.out.congr (fun j hj => ?_)⟩
          have hc : j = 0 ∨ j = 1 ∨ j = 2 := by omega
          rcases hc with rfl | rfl | rfl
          · show (allL K i ++ [((i : Int), K i)]).Perm (allL K (i + 1)); rw [allL_succ]
          · show (allL K i ++ [((i : Int), K i)]).Perm (allL K (i + 1)); rw [allL_succ]
          · show (cut K kk i).Perm (cut K kk (i + 1)); rw [HE.out, cut_at]
        case measure => simp [intOf]; omega
      · have d4 : ((i : Int) != (kk : Int)) = true := by simp; omega
        have HE := Lib.hid hik
        clear hik
        go_wp2_with (first
          | (go_at_call 9; (with_reducible refine hp0.mono ?_); rintro e w1 ⟨rfl, t1⟩; clear hp0; have c1 := below_cell (show Below w.heap.size w w1 by obtain ⟨_, _, _, _, _, h4⟩ := t1; exact h4) (Nat.le_refl _) K0.out; have hp1 := t_push' t1 1 (w.heap.size + 1) (by omega) rfl (allL K i) rfl (by rw [allL_len]; omega) i (K i) (by omega) (allL_no K i); clear t1)
          | (go_at_call 9; (with_reducible refine hp1.mono ?_); rintro e w2 ⟨rfl, t2⟩; clear hp1; have c1 := below_cell (show Below w.heap.size w w2 by obtain ⟨_, _, _, _, _, h4⟩ := t2; exact h4) (Nat.le_refl _) K0.out; have hp2 := t_push' t2 2 (w.heap.size + 2) (by omega) rfl (cut K kk i) rfl (by have := cut_len K kk i; omega) i (K i) (by omega) (cut_no K kk i); clear t2)
          | (go_at_call 9; (with_reducible refine hp2.mono ?_); rintro e w3 ⟨rfl, t3⟩; clear hp2; have T3 := Lib.hid t3; clear t3))
        go_roundw
        case rel =>
          refine ⟨i + 1, by omega, by go_num, T3.out.congr (fun j hj => ?_)⟩
          have hc : j = 0 ∨ j = 1 ∨ j = 2 := by omega
          rcases hc with rfl | rfl | rfl
          · show (allL K i ++ [((i : Int), K i)]).Perm (allL K (i + 1)); rw [allL_succ]
          · show (allL K i ++ [((i : Int), K i)]).Perm (allL K (i + 1)); rw [allL_succ]
          · show (cut K kk i ++ [((i : Int), K i)]).Perm (cut K kk (i + 1)); rw [cut_succ K kk i HE.out]
        case measure => simp [intOf]; omega
    · have hil' : i = len := by omega
      subst hil'
      have d3 : decide ((i : Int) < (i : Int)) = false := by simp
      have hdr := t_drop ht 0 w.heap.size (by omega) rfl kk (K kk) (cut K kk i) (allL_nd K i) (cut_perm K kk i hkl)
      clear ht hil
      go_wp2_with (first
        | (go_at_call 16; (with_reducible refine hdr.mono ?_); rintro e w1 ⟨rfl, t1⟩; clear hdr; have hdn := t_drop_no t1 0 w.heap.size (by omega) rfl kk (show hasB (cut K kk i) kk = false from cut_kk K kk i); clear t1)
        | (go_at_call 16; (with_reducible refine hdn.mono ?_); rintro e w2 ⟨rfl, t2⟩; clear hdn; have hal := t_all t2 0 w.heap.size (by omega) rfl; clear t2)
        | (go_at_call 20; (with_reducible refine hal.mono ?_); rintro e w3 ⟨a3, c3, b3, y3, rfl, hp3, ho3, hI3, t3, hB3⟩; clear hal; have H3 := Lib.hid (And.intro hp3 (And.intro ho3 hI3)); have hal2 := t_all t3 2 (w.heap.size + 2) (by omega) rfl; clear hp3 ho3 hI3 t3 hB3)
        | (go_at_call 20; (with_reducible refine hal2.mono ?_); rintro e w4 ⟨a4, c4, b4, y4, rfl, hp4, ho4, hI4, t4, hB4⟩; clear hal2; have he : y4 = y3 := order_eq ho4 H3.out.2.1 ((show y4.Perm (cut K kk i) from hp4).trans (show y3.Perm (cut K kk i) from H3.out.1).symm); subst he; have hsm := same_items (H3.out.2.2.below hB4) hI4 (by have := (show y4.Perm (cut K kk i) from hp4).length_eq; have := cut_len K kk i; omega); have T4 := Lib.hid t4; clear hp4 ho4 hI4 t4 hB4 H3)
        | (go_at_call 25; (with_reducible refine hsm.mono ?_); rintro e w5 ⟨rfl, hB5⟩; clear hsm; have hmv := t_move (T4.out.below hB5) 1 (w.heap.size + 1) (by omega) rfl kk (K kk) key (cut K kk i) (allL_nd K i) (cut_perm K kk i hkl); clear hB5)
        | (go_at_call 17; (with_reducible refine hmv.mono ?_); rintro e w6 ⟨rfl, t6⟩; clear hmv; have hpc := t_push' t6 2 (w.heap.size + 2) (by omega) rfl (cut K kk i) rfl (by have := cut_len K kk i; omega) kk key (by omega) (cut_kk K kk i); clear t6)
        | (go_at_call 9; (with_reducible refine hpc.mono ?_); rintro e w7 ⟨rfl, t7⟩; clear hpc; have hal3 := t_all t7 1 (w.heap.size + 1) (by omega) rfl; clear t7)
        | (go_at_call 20; (with_reducible refine hal3.mono ?_); rintro e w8 ⟨a8, c8, b8, y8, rfl, hp8, ho8, hI8, t8, hB8⟩; clear hal3; have H8 := Lib.hid (And.intro hp8 (And.intro ho8 hI8)); have hal4 := t_all t8 2 (w.heap.size + 2) (by omega) rfl; clear hp8 ho8 hI8 t8 hB8)
        | (go_at_call 20; (with_reducible refine hal4.mono ?_); rintro e w9 ⟨a9, c9, b9, y9, rfl, hp9, ho9, hI9, t9, hB9⟩; clear hal4; have he : y9 = y8 := order_eq ho9 H8.out.2.1 ((show y9.Perm (cut K kk i ++ [((kk : Int), key)]) from hp9).trans (show y8.Perm (cut K kk i ++ [((kk : Int), key)]) from H8.out.1).symm); subst he; have hsm2 := same_items (H8.out.2.2.below hB9) hI9 (by have h1 := (show y9.Perm (cut K kk i ++ [((kk : Int), key)]) from hp9).length_eq; have h2 := cut_len K kk i; rw [List.length_append, List.length_singleton] at h1; omega); have T9 := Lib.hid t9; clear hp9 ho9 hI9 t9 hB9 H8)
        | (go_at_call 25; (with_reducible refine hsm2.mono ?_); rintro e w10 ⟨rfl, hB10⟩; clear hsm2; have hmn := t_move_no (T9.out.below hB10) 0 w.heap.size (by omega) rfl kk 1 (show hasB (cut K kk i) kk = false from cut_kk K kk i); clear hB10)
        | (go_at_call 17; (with_reducible refine hmn.mono ?_); rintro e w11 ⟨rfl, t11⟩; clear hmn; have T11 := Lib.hid (show Below w.heap.size w w11 by obtain ⟨_, _, _, _, _, h4⟩ := t11; exact h4); clear t11)
        | (go_at_call 7; refine (awake_any _).mono ?_; rintro e w12 ⟨rfl, hB12⟩))
      go_ret
      exact ⟨rfl, T11.out.trans (hB12.mono T11.out.size)⟩
theorem parts_all (av : Option Addr) (len cap : Nat) (K : Nat → Int) (who key : Int) (w : World) (hm : len ≤ maxLen) (hK : KeysAt w av len K) :
    Calls Try.prog 6 #[.slice av len cap, .int .i64 who, .int .i64 key] w fun e w' => e = .returned (.bool true) ∧ Below w.heap.size w w' := by
  by_cases hl : 60 < len ∨ len = 0
  · exact parts_short av len cap who key hm hl w
  · exact parts_walk av len cap K who key (by omega) (by omega) w hK
end Go.Proofs.Ytamgaklbkefejaa
