/-
  HeapSorts: the walk.
-/
import Derived.Test.YtamgaklbkefejaaHeapV
namespace Go.Proofs.Ytamgaklbkefejaa
set_option linter.unusedSimpArgs false
set_option linter.unusedVariables false
open Go.RowKit Go.Lib Own
open RegJ hiding Up
open RegF hiding put_size

/-- the keys, as they lie -/
def KeysAt (w : World) (av : Option Addr) (len : Nat) (K : Nat → Int) : Prop := ∀ j, j < len → ∃ g o, av = some ⟨g, o, none⟩ ∧ w.cell? ⟨g, o + j, none⟩ = some (.int .i64 (K j))
theorem cell_lt {w : World} {a : Addr} {v : Value} (h : w.cell? a = some v) : a.block < w.heap.size := by
  rcases Nat.lt_or_ge a.block w.heap.size with h' | h'
  · exact h'
  · unfold World.cell? at h; simp [Array.getElem?_eq_none h'] at h
theorem below_cell {B : Nat} {w w' : World} (hb : Below B w w') (hB : w.heap.size ≤ B) {a : Addr} {v : Value} (h : w.cell? a = some v) : w'.cell? a = some v := (hb.cell (Nat.lt_of_lt_of_le (cell_lt h) hB)).trans h
def allL (K : Nat → Int) (i : Nat) : List It := (List.range i).map fun (j : Nat) => ((j : Int), K j)
theorem allL_len (K : Nat → Int) (i : Nat) : (allL K i).length = i := by unfold allL; simp
theorem allL_succ (K : Nat → Int) (i : Nat) : allL K (i + 1) = allL K i ++ [((i : Int), K i)] := by unfold allL; rw [List.range_succ]; simp
theorem allL_mem (K : Nat → Int) (i : Nat) (p : It) : p ∈ allL K i ↔ ∃ j : Nat, j < i ∧ p = ((j : Int), K j) := by
  unfold allL; rw [List.mem_map]
  constructor
  · rintro ⟨j, hj, rfl⟩; exact ⟨j, by simpa using hj, rfl⟩
  · rintro ⟨j, hj, rfl⟩; exact ⟨j, by simpa using hj, rfl⟩
theorem allL_no (K : Nat → Int) (i : Nat) : hasB (allL K i) i = false := by
  rw [Bool.eq_false_iff]; intro h
  unfold hasB at h
  rw [List.any_eq_true] at h
  obtain ⟨p, hp, he⟩ := h
  obtain ⟨j, hj, rfl⟩ := (allL_mem K i p).1 hp
  simp at he; omega
theorem allL_yes (K : Nat → Int) (i : Nat) : hasB (allL K i ++ [((i : Int), K i)]) i = true := by
  unfold hasB; simp
theorem allL_nd (K : Nat → Int) (i : Nat) : ((allL K i).map (·.1)).Nodup := by
  unfold allL
  rw [List.map_map, List.nodup_iff_pairwise_ne, List.pairwise_map]
  refine (List.nodup_range (n := i)).imp ?_
  intro a b hab h
  simp at h; exact hab (by omega)
def seenC (S : Nat → Bool) : Array Value := ((List.range 100).map fun j => Value.bool (S j)).toArray
theorem zero28 : Try.zeroCells28 = seenC (fun _ => false) := by kernel_rfl
theorem seen_at (S : Nat → Bool) (j : Nat) (h : j < 100) : (seenC S)[j]? = some (.bool (S j)) := by unfold seenC; simp [h]
def putS (S : Nat → Bool) (j : Nat) : Nat → Bool := fun k => if k = j then true else S k
theorem seen_set (S : Nat → Bool) (j : Nat) : (seenC S).setIfInBounds j (.bool true) = seenC (putS S j) := by
  unfold seenC putS
  apply Array.ext_getElem?
  intro k
  rw [Array.getElem?_setIfInBounds]
  by_cases hk : j = k
  · subst hk; by_cases hj : j < 100 <;> simp [hj]
  · rw [if_neg hk]
    by_cases hk100 : k < 100
    · have : ¬ k = j := fun e => hk e.symm
      simp [hk100, this]
    · simp [hk100]
/-- who is left -/
structure SI (K : Nat → Int) (len i : Nat) (xs : List It) (S : Nat → Bool) (l1 l2 : Int) : Prop where
  cnt : xs.length + i = len
  mem : ∀ p ∈ xs, ∃ j : Nat, j < len ∧ p = ((j : Int), K j)
  nd : (xs.map (·.1)).Nodup
  seen : ∀ p ∈ xs, S p.1.toNat = false
  last : 0 < i → ∀ p ∈ xs, le (l1, l2) p
theorem SI.step {K : Nat → Int} {len i : Nat} {xs ys : List It} {S : Nat → Bool} {l1 l2 : Int} {j : Nat} (h : SI K len i xs S l1 l2) (hp : (ys ++ [((j : Int), K j)]).Perm xs) (hf : ∀ p ∈ xs, le ((j : Int), K j) p) : SI K len (i + 1) ys (putS S j) j (K j) := by
  have hsub : ∀ p ∈ ys, p ∈ xs := fun p hp' => hp.mem_iff.1 (by simp [hp'])
  have hl := hp.length_eq
  have hnd : ((ys ++ [((j : Int), K j)]).map (·.1)).Nodup := (hp.map _).nodup_iff.2 h.nd
  rw [List.map_append, List.nodup_append] at hnd
  refine ⟨by have := h.cnt; simp at hl; omega, fun p hp' => h.mem p (hsub p hp'), hnd.1, fun p hp' => ?_, fun _ p hp' => hf p (hsub p hp')⟩
  unfold putS
  have hne : p.1.toNat ≠ j := by
    intro e
    obtain ⟨m, _, rfl⟩ := h.mem p (hsub p hp')
    have := hnd.2.2 (m : Int) (by rw [List.mem_map]; exact ⟨_, hp', rfl⟩) (j : Int) (by simp)
    simp at e; omega
  rw [if_neg hne]; exact h.seen p (hsub p hp')
theorem SI.first {K : Nat → Int} {len i : Nat} {xs : List It} {S : Nat → Bool} {l1 l2 : Int} (h : SI K len i xs S l1 l2) (hne : xs ≠ []) : ∃ j : Nat, j < len ∧ X xs 0 = ((j : Int), K j) ∧ S j = false ∧ (0 < i → ¬ (K j < l2 ∨ (K j = l2 ∧ (j : Int) < l1))) := by
  obtain ⟨j, hj, he⟩ := h.mem _ (X0_mem hne)
  refine ⟨j, hj, he, ?_, fun h0 => ?_⟩
  · have := h.seen _ (X0_mem hne); rw [he] at this; simpa using this
  · have := h.last h0 _ (X0_mem hne); rw [he] at this; exact this
/-- the world of the second loop -/
def SW (w wr : World) (b : Option Nat) (bs : Nat) (xs : List It) (S : Nat → Bool) (l1 l2 : Int) : Prop := Hp wr w.heap.size xs b ∧ Blk wr bs (seenC S) 28 ∧ Blk wr (bs + 1) #[.int .i64 l1, .int .i64 l2] 30 ∧ Below w.heap.size w wr ∧ w.heap.size < bs ∧ ∀ g, b = some g → w.heap.size ≤ g ∧ g < bs
theorem sw_start {w wr : World} {b : Option Nat} {xs : List It} {o : Obj} (hh : Hp wr w.heap.size xs b) (hf : HFr w.heap.size none b (w.alloc o) wr) : SW w ((wr.alloc (.cells Try.zeroCells28 28)).alloc (.cells #[.int .i64 0, .int .i64 0] 30)) b wr.heap.size xs (fun _ => false) 0 0 := by
  have hlt := hh.1.lt
  have hb := hfr_below hf
  have hB : Below wr.heap.size wr ((wr.alloc (.cells Try.zeroCells28 28)).alloc (.cells #[.int .i64 0, .int .i64 0] 30)) := ((Below.refl _ _).alloc (Nat.le_refl _) _).alloc (by simp) _
  refine ⟨⟨hh.1.below hB, hh.2⟩, ?_, Blk.new' (by simp), hb.trans (hB.mono hb.size), hlt.1, fun g hg => ⟨?_, hlt.2 g hg⟩⟩
  · rw [← zero28]; exact (Blk.new _ _ _).alloc _
  · rcases hf.2 g hg with h | h
    · cases h
    · simp at h; omega
theorem sw_pop {w wr w' : World} {b : Option Nat} {bs : Nat} {xs ys : List It} {S : Nat → Bool} {l1 l2 : Int} (h : SW w wr b bs xs S l1 l2) (hp : Hp w' w.heap.size ys b) (hf : HFr w.heap.size b b wr w') : SW w w' b bs ys S l1 l2 := by
  obtain ⟨h1, h2, h3, h4, h5, h6⟩ := h
  refine ⟨hp, Blk.upd hf.1 h2 ?_, Blk.upd hf.1 h3 ?_, h4.trans (hf.1.below h4.size (fun k hk => ?_)), h5, h6⟩
  · rintro (e | e)
    · omega
    · have := h6 _ e; omega
  · rintro (e | e)
    · omega
    · have := h6 _ e; omega
  · rcases hk with e | e
    · omega
    · exact (h6 _ e).1
theorem sw_below {w wr w' : World} {b : Option Nat} {bs : Nat} {xs : List It} {S : Nat → Bool} {l1 l2 : Int} (h : SW w wr b bs xs S l1 l2) (hB : Below wr.heap.size wr w') : SW w w' b bs xs S l1 l2 := by
  obtain ⟨h1, h2, h3, h4, h5, h6⟩ := h
  exact ⟨⟨h1.1.below hB, h1.2⟩, Blk.below hB h2 h2.lt, Blk.below hB h3 h3.lt, h4.trans (hB.mono h4.size), h5, h6⟩
/-- who came out is marked, and remembered -/
theorem sw_mark {w wr : World} {b : Option Nat} {bs : Nat} {xs : List It} {S : Nat → Bool} {l1 l2 : Int} (h : SW w wr b bs xs S l1 l2) (j : Nat) (p q : Int) :
    SW w (((wr.setCell ⟨bs, j, none⟩ (.bool true)).setCell ⟨bs + 1, 0, none⟩ (.int .i64 p)).setCell ⟨bs + 1, 1, none⟩ (.int .i64 q)) b bs xs (putS S j) p q := by
  obtain ⟨h1, h2, h3, h4, h5, h6⟩ := h
  have hu : Upd (fun k => k = bs ∨ k = bs + 1) wr (((wr.setCell ⟨bs, j, none⟩ (.bool true)).setCell ⟨bs + 1, 0, none⟩ (.int .i64 p)).setCell ⟨bs + 1, 1, none⟩ (.int .i64 q)) :=
    (((Upd.refl (fun k => k = bs ∨ k = bs + 1) wr).setCell (p := ⟨bs, j, none⟩) (fun _ => Or.inl rfl) _).setCell (p := ⟨bs + 1, 0, none⟩) (fun _ => Or.inr rfl) _).setCell (p := ⟨bs + 1, 1, none⟩) (fun _ => Or.inr rfl) _
  refine ⟨⟨h1.1.upd hu (by omega) (fun g hg e => by have := h6 g hg; omega), h1.2⟩, ?_, ?_, h4.trans (hu.below h4.size (fun k hk => by omega)), h5, h6⟩
  · have := ((h2.set j (.bool true)).set_ne (a := ⟨bs + 1, 0, none⟩) (by show bs ≠ bs + 1; omega) (.int .i64 p)).set_ne (a := ⟨bs + 1, 1, none⟩) (by show bs ≠ bs + 1; omega) (.int .i64 q)
    rw [seen_set] at this; exact this
  · exact Blk.of (((h3.set_ne (a := ⟨bs, j, none⟩) (by show bs + 1 ≠ bs; omega) (.bool true)).set 0 (.int .i64 p)).set 1 (.int .i64 q)) rfl
def SortsP (w : World) (e : Ending) (w' : World) : Prop := e = .returned (.bool true) ∧ Below w.heap.size w w'
set_option maxRecDepth 100000 in
theorem sorts_long (av : Option Addr) (len cap : Nat) (hm : len ≤ maxLen) (hl : 100 < len) (w : World) :
    Calls Try.prog 3 #[.slice av len cap] w (SortsP w) := by
  unfold maxLen at hm
  have d1 : decide ((len : Int) > 100) = true := by simp; omega
  go_enter Try.func3, Try.ntmps3
  go_wp2_with (go_at_call 7; refine (awake_any _).mono ?_; rintro e w' ⟨rfl, hB⟩)
  go_ret
  exact ⟨rfl, hB⟩
set_option maxRecDepth 100000 in
set_option maxHeartbeats 4000000 in
theorem sorts_walk (av : Option Addr) (len cap : Nat) (K : Nat → Int) (hl : len ≤ 100) (w : World) (hK : KeysAt w av len K) :
    Calls Try.prog 3 #[.slice av len cap] w (SortsP w) := by
  have d1 : decide ((len : Int) > 100) = false := by simp; omega
  have HK := Lib.hid hK
  clear hK
  go_enter Try.func3, Try.ntmps3
  go_wp2_with (go_at_call 8; refine (hnew _).mono ?_; rintro e w' ⟨rfl, rfl⟩)
  go_loopw [4] (fun ix wr => ∃ (i : Nat) (xs : List It) (b : Option Nat), i ≤ len ∧ ix = .int .i64 i ∧ xs.Perm (allL K i) ∧ Hp wr w.heap.size xs b ∧ HFr w.heap.size none b (w.alloc (.cells #[.slice none 0 0] 58)) wr) (fun ix _ => len - (intOf ix).toNat)
  case atStart => exact ⟨0, [], none, Nat.zero_le _, rfl, List.Perm.refl _, hp_new w, HFr.of_below (Below.refl _ _)⟩
  case round =>
    obtain ⟨i, xs, b, hi, rfl, hp, hh, hf⟩ := hrel
    have hxl : xs.length = i := by rw [hp.length_eq, allL_len]
    by_cases hil : i < len
    · obtain ⟨g, o, rfl, k0⟩ := HK.out i hil
      have c1 := below_cell (hfr_below hf) (Nat.le_refl _) k0
      have i1 : (i : Int) < (len : Int) := by omega
      have d2 : decide ((i : Int) < (len : Int)) = true := by simp; omega
      have hpu := push_ok hh (by omega) i (K i) (by omega) (by rw [hasB_perm hp]; exact allL_no K i)
      have H := Lib.hid (And.intro hp hf)
      clear hp hh hf k0 hxl
      go_wp2_with (first
        | (go_at_call 9; (with_reducible refine hpu.mono ?_); rintro e w1 ⟨rfl, ys, b1, hp1, hh1, hf1⟩; clear hpu; have hbu := push_busy hh1 i 0 (by omega) (by rw [hasB_perm (hp1.trans (H.out.1.append_right _))]; exact allL_yes K i); have H1 := Lib.hid (And.intro hp1 (And.intro hh1 hf1)); clear hp1 hh1 hf1)
        | (go_at_call 9; (with_reducible refine hbu.mono ?_); rintro e w2 ⟨rfl, hB2⟩; clear hbu; have HB2 := Lib.hid hB2; clear hB2))
      go_roundw
      case rel => exact ⟨i + 1, ys, b1, by omega, by go_num, by rw [allL_succ]; exact H1.out.1.trans (H.out.1.append_right _), ⟨H1.out.2.1.1.below HB2.out, H1.out.2.1.2⟩, (H.out.2.trans H1.out.2.2).trans (HFr.of_below HB2.out)⟩
      case measure => simp [intOf]; omega
    · have hil' : i = len := by omega
      subst hil'
      have d2 : decide ((i : Int) < (i : Int)) = false := by simp
      have H := Lib.hid (And.intro hp (And.intro hh hf))
      clear hp hh hf hil
      go_wp2
      have HS0 := Lib.hid (sw_start H.out.2.1 H.out.2.2)
      have HI0 : SI K i 0 xs (fun _ => false) 0 0 := ⟨by rw [H.out.1.length_eq, allL_len]; omega, fun p hp => (allL_mem K i p).1 (H.out.1.mem_iff.1 hp), (H.out.1.map _).nodup_iff.2 (allL_nd K i), fun p hp => rfl, fun h => by omega⟩
      replace HI0 := Lib.hid HI0
      clear H
      generalize wr.heap.size = bs at HS0 ⊢
      go_loopw [7] (fun kx wr2 => ∃ (k : Nat) (ys : List It) (S : Nat → Bool) (l1 l2 : Int), k ≤ i ∧ kx = .int .i64 k ∧ SI K i k ys S l1 l2 ∧ SW w wr2 b bs ys S l1 l2) (fun kx _ => i - (intOf kx).toNat)
      case atStart => exact ⟨0, xs, _, 0, 0, Nat.zero_le _, rfl, HI0.out, HS0.out⟩
      case round =>
        obtain ⟨k, zs, S, l1, l2, hk, rfl, hI, hW⟩ := hrel
        clear HS0 HI0
        by_cases hki : k < i
        · have hne : zs ≠ [] := by intro e; have := hI.cnt; rw [e] at this; simp at this; omega
          obtain ⟨j, hj, hX, hSj, hlast⟩ := hI.first hne
          have hpp := pop_some hW.1 hne _ _ hX
          have hle := first_le hW.1.2
          rw [hX] at hle
          obtain ⟨g, o, rfl, k0⟩ := HK.out j hj
          have e1 : decide ((k : Int) < (i : Int)) = true := by simp; omega
          have j1 : (j : Int) < (i : Int) := by omega
          have j2 : (0 : Int) ≤ j := by omega
          have j3 : (j : Int) < 100 := by omega
          have f1 : decide ((j : Int) < 0) = false := by simp
          have f2 : decide ((j : Int) ≥ (i : Int)) = false := by simp; omega
          have f2n : decide (i ≤ j) = false := by simp; omega
          have f2m : decide ((i : Int) ≤ (j : Int)) = false := by simp; omega
          have f3 : (K j != K j) = false := by simp
          have HH := Lib.hid (And.intro hI (And.intro hW (And.intro hle (And.intro k0 hSj))))
          have HL := Lib.hid hlast
          clear hI hW hle k0 hX hSj hlast hne
          have PRE : True := trivial
          by_cases hk0 : k = 0
          · subst hk0
            have f4 : decide (((0 : Nat) : Int) > 0) = false := by simp
            go_wp2_with (go_at_call 10; (with_reducible refine hpp.mono ?_); rintro e w2 ⟨rfl, ys, hp2, hh2, hf2⟩; clear hpp; have hw2 := sw_pop HH.out.2.1 hh2 hf2; have b1 : bs < w2.heap.size := hw2.2.1.lt; have b2 : bs + 1 < w2.heap.size := hw2.2.2.1.lt; have b3 : ¬ bs = w2.heap.size := (by omega); have b4 : ¬ w2.heap.size = bs := (by omega); have b5 : ¬ bs + 1 = w2.heap.size := (by omega); have b6 : ¬ w2.heap.size = bs + 1 := (by omega); have hw3 := sw_below hw2 ((Below.refl _ _).alloc (Nat.le_refl _) (.cells #[.int .i64 j, .int .i64 (K j)] 30)); have hx := Blk.new w2 #[.int .i64 j, .int .i64 (K j)] 30; have c1 := hx.rd; have c2 := hw3.2.2.1.rd; have c3 : (w2.alloc (.cells #[.int .i64 j, .int .i64 (K j)] 30)).cell? ⟨bs, j, none⟩ = some (.bool false) := (by rw [hw3.2.1.rd, seen_at _ _ (by omega), HH.out.2.2.2.2]); have c4 := below_cell hw3.2.2.2.1 (Nat.le_refl _) HH.out.2.2.2.1; have nf1 := hw3.2.1.nf; have nf2 := hw3.2.2.1.nf; have HW3 := Lib.hid (And.intro hw3 hp2); clear hw2 hw3 hp2 hh2 hf2 hx)
            go_quiet (fail)
            go_wp2
            go_roundw
            case rel => exact ⟨0 + 1, ys, _, _, _, by omega, by go_num, HH.out.1.step HW3.out.2 HH.out.2.2.1, sw_mark (sw_below HW3.out.1 (below_drewN' (Below.refl _ _) _)) j _ _⟩
            case measure => simp [intOf]; omega
          · have f4 : decide ((k : Int) > 0) = true := by simp; omega
            have f4n : decide (0 < k) = true := by simp; omega
            have f4m : decide (0 < (k : Int)) = true := by simp; omega
            have hl := HL.out (by omega)
            have f5 : decide (K j < l2) = false := by simp; omega
            by_cases hKl : K j = l2
            · have f6 : (K j == l2) = true := by simpa using hKl
              have f7 : decide ((j : Int) < l1) = false := by simp; omega
              clear hl hKl
              go_wp2_with (go_at_call 10; (with_reducible refine hpp.mono ?_); rintro e w2 ⟨rfl, ys, hp2, hh2, hf2⟩; clear hpp; have hw2 := sw_pop HH.out.2.1 hh2 hf2; have b1 : bs < w2.heap.size := hw2.2.1.lt; have b2 : bs + 1 < w2.heap.size := hw2.2.2.1.lt; have b3 : ¬ bs = w2.heap.size := (by omega); have b4 : ¬ w2.heap.size = bs := (by omega); have b5 : ¬ bs + 1 = w2.heap.size := (by omega); have b6 : ¬ w2.heap.size = bs + 1 := (by omega); have hw3 := sw_below hw2 ((Below.refl _ _).alloc (Nat.le_refl _) (.cells #[.int .i64 j, .int .i64 (K j)] 30)); have hx := Blk.new w2 #[.int .i64 j, .int .i64 (K j)] 30; have c1 := hx.rd; have c2 := hw3.2.2.1.rd; have c3 : (w2.alloc (.cells #[.int .i64 j, .int .i64 (K j)] 30)).cell? ⟨bs, j, none⟩ = some (.bool false) := (by rw [hw3.2.1.rd, seen_at _ _ (by omega), HH.out.2.2.2.2]); have c4 := below_cell hw3.2.2.2.1 (Nat.le_refl _) HH.out.2.2.2.1; have nf1 := hw3.2.1.nf; have nf2 := hw3.2.2.1.nf; have HW3 := Lib.hid (And.intro hw3 hp2); clear hw2 hw3 hp2 hh2 hf2 hx)
              go_quiet (fail)
              go_wp2
              go_roundw
              case rel => exact ⟨k + 1, ys, _, _, _, by omega, by go_num, HH.out.1.step HW3.out.2 HH.out.2.2.1, sw_mark (sw_below HW3.out.1 (below_drewN' (Below.refl _ _) _)) j _ _⟩
              case measure => simp [intOf]; omega
            · have f6 : (K j == l2) = false := by simpa using hKl
              clear hl hKl
              go_wp2_with (go_at_call 10; (with_reducible refine hpp.mono ?_); rintro e w2 ⟨rfl, ys, hp2, hh2, hf2⟩; clear hpp; have hw2 := sw_pop HH.out.2.1 hh2 hf2; have b1 : bs < w2.heap.size := hw2.2.1.lt; have b2 : bs + 1 < w2.heap.size := hw2.2.2.1.lt; have b3 : ¬ bs = w2.heap.size := (by omega); have b4 : ¬ w2.heap.size = bs := (by omega); have b5 : ¬ bs + 1 = w2.heap.size := (by omega); have b6 : ¬ w2.heap.size = bs + 1 := (by omega); have hw3 := sw_below hw2 ((Below.refl _ _).alloc (Nat.le_refl _) (.cells #[.int .i64 j, .int .i64 (K j)] 30)); have hx := Blk.new w2 #[.int .i64 j, .int .i64 (K j)] 30; have c1 := hx.rd; have c2 := hw3.2.2.1.rd; have c3 : (w2.alloc (.cells #[.int .i64 j, .int .i64 (K j)] 30)).cell? ⟨bs, j, none⟩ = some (.bool false) := (by rw [hw3.2.1.rd, seen_at _ _ (by omega), HH.out.2.2.2.2]); have c4 := below_cell hw3.2.2.2.1 (Nat.le_refl _) HH.out.2.2.2.1; have nf1 := hw3.2.1.nf; have nf2 := hw3.2.2.1.nf; have HW3 := Lib.hid (And.intro hw3 hp2); clear hw2 hw3 hp2 hh2 hf2 hx)
              go_quiet (fail)
              go_wp2
              go_roundw
              case rel => exact ⟨k + 1, ys, _, _, _, by omega, by go_num, HH.out.1.step HW3.out.2 HH.out.2.2.1, sw_mark (sw_below HW3.out.1 (below_drewN' (Below.refl _ _) _)) j _ _⟩
              case measure => simp [intOf]; omega
        · have hkk : k = i := by omega
          subst hkk
          have e1 : decide ((k : Int) < (k : Int)) = false := by simp
          have hz : zs = [] := List.eq_nil_of_length_eq_zero (by have := hI.cnt; omega)
          subst hz
          have hpn := pop_none hW.1.1
          have HW := Lib.hid hW
          clear hI hW hki
          go_wp2_with (first
            | (go_at_call 10; (with_reducible refine hpn.mono ?_); rintro e w2 ⟨rfl, hB2⟩; clear hpn; have hw3 := sw_below (sw_below HW.out hB2) ((Below.refl _ _).alloc (Nat.le_refl _) (.cells #[.int .i64 0, .int .i64 0] 30)); have hll := len_is hw3.1.1 0 rfl; have HW3 := Lib.hid hw3; clear hw3)
            | (go_at_call 11; refine hll.mono ?_; rintro e w4 ⟨rfl, rfl⟩)
            | (go_at_call 7; refine (awake_any _).mono ?_; rintro e w5 ⟨rfl, hB5⟩))
          go_ret
          exact ⟨rfl, HW3.out.2.2.2.1.trans (hB5.mono HW3.out.2.2.2.1.size)⟩
theorem sorts_all (av : Option Addr) (len cap : Nat) (K : Nat → Int) (w : World) (hm : len ≤ maxLen) (hK : KeysAt w av len K) :
    Calls Try.prog 3 #[.slice av len cap] w fun e w' => e = .returned (.bool true) ∧ Below w.heap.size w w' := by
  by_cases hl : 100 < len
  · exact sorts_long av len cap hm hl w
  · exact sorts_walk av len cap K (by omega) w hK
end Go.Proofs.Ytamgaklbkefejaa
