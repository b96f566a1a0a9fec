/-
  slices.Insert at entries, ahead of another one.
-/
import Derived.Test.YtchnjfmimpikcaaDoorIIns
import Derived.Test.YtchnjfmimpikcaaDoorTwoC
namespace Go.Proofs.YtchnjfmimpikcaaDoor
set_option linter.unusedSimpArgs false
set_option linter.unusedVariables false
open Go.RowKit Own RegJ Two
open Go.Lib hiding intOf

theorem underS : Tryd.prog.underlying 43 = some (.slice 101) := Tryd.underlying43
theorem sizeEntry : (Tryd.prog.info? 101).map (·.size) = some 2 := by kernel_rfl
theorem shift_list (A C rest X : List Value) (hX : X.length = 2) (hr : 2 ≤ rest.length) :
    (((A ++ C ++ rest).take (A.length + 2) ++ C ++ (A ++ C ++ rest).drop (A.length + 2 + C.length)).take A.length) ++ X ++
      ((A ++ C ++ rest).take (A.length + 2) ++ C ++ (A ++ C ++ rest).drop (A.length + 2 + C.length)).drop (A.length + X.length) = A ++ X ++ C ++ rest.drop 2 := by
  have e1 : (A ++ C ++ rest).take (A.length + 2) = A ++ (C ++ rest).take 2 := by
    rw [List.append_assoc, List.take_append, List.take_of_length_le (by omega)]; simp
  have e2 : (A ++ C ++ rest).drop (A.length + 2 + C.length) = rest.drop 2 := by
    rw [List.drop_append, List.drop_eq_nil_of_le (by rw [List.length_append]; omega), List.nil_append]; congr 1; rw [List.length_append]; omega
  have hD : ((C ++ rest).take 2).length = 2 := by rw [List.length_take, List.length_append]; omega
  rw [e1, e2]
  generalize (C ++ rest).take 2 = D at *
  have e3 : (A ++ D ++ C ++ rest.drop 2).take A.length = A := by simp
  have e4 : (A ++ D ++ C ++ rest.drop 2).drop (A.length + X.length) = C ++ rest.drop 2 := by
    rw [hX, ← hD, ← List.length_append, List.append_assoc, List.drop_left]
  rw [e3, e4]
  simp
section
variable {w : World} {xs : List V2} {b : Option Nat}
set_option maxRecDepth 100000 in
set_option maxHeartbeats 2000000 in
theorem insert_shift {g c : Nat} {rest : List Value} (hB : Blk w g (cells2 xs ++ rest).toArray 101) (hc : c * 2 = (cells2 xs ++ rest).length) (hm : c ≤ maxLen) (n : Nat) (hn : xs.length = n) (hn0 : n ≤ 1000) (i : Nat) (hi : i < n) (hroom : n + 1 ≤ c)
    (bx : Nat) (x : V2) (hX : Blk w bx #[x.1, x.2] 101) (hbx : bx ≠ g) (h1 : One2 [x]) (hxs : One2 xs) :
    Calls Tryd.prog 63 #[.slice (some ⟨g, 0, none⟩) n c, .int .i64 i, .slice (some ⟨bx, 0, none⟩) 1 1] w fun e w' => e = .returned (.slice (some ⟨g, 0, none⟩) (n + 1) c) ∧ w' = (w.drew.setCells g ((i + 1) * 2) (cells2 (xs.drop i))).setCells g (i * 2) (cells2 [x]) := by
  have hm' := hm
  unfold maxLen at hm'
  have hl := cells2_len xs
  have hz2 : ¬ ((i : Int) = (n : Int)) := by omega
  have hov : ∀ ad lb cb, ad.block = g → (callFunc 75 #[.slice (some ⟨bx, 0, none⟩) 1 1, .slice (some ad) lb cb]).run Tryd.prog w = .ok (.value (.bool false)) w := fun ad lb cb had => by
    obtain ⟨ab, ao, asp⟩ := ad
    obtain rfl : ab = g := had
    rw [run_callFunc_extern (P := Tryd.prog) Tryd.func75 (by kernel_rfl) (by kernel_rfl) (by kernel_rfl) (e := Extern.SlicesOverlaps.overlaps #[43, 43] #[4]) (by kernel_rfl),
      Lib.run_overlaps_apart w 43 4 101 underS 2 Tryd.sizeOf101 ⟨bx, 0, none⟩ ⟨ab, ao, asp⟩ 1 1 lb cb hbx _ _ 2 (cells2 xs ++ rest).length (by unfold World.shape?; rw [hX]; rfl) (by unfold World.shape?; rw [hB]; rfl) (by rw [List.length_append]; omega) (hX.nf 0) (hX.nf 2)]
    rfl
  have mixed : Tryd.prog.follows .mixedOrders = true := by kernel_rfl
  have hd : (xs.drop i).length = n - i := by rw [List.length_drop, hn]
  have hd2 := cells2_len (xs.drop i)
  have hw1 : IntKind.i64.wrap ((i : Int) + 1) = (i : Int) + 1 := by rw [IntKind.wrap_i64]; omega
  have hb1 : (0 : Int) ≤ (i : Int) + 1 := by omega
  have hin : i ≤ n := by omega
  have htn : ((i : Int) + 1).toNat = i + 1 := by omega
  have hb2 : ¬ (c = i + 1) := by omega
  have hb3 : (i : Int) ≤ (n : Int) + 1 := by omega
  have hb4 : ¬ (c = i) := by omega
  have hRd : ∀ j, j < c * 2 → (w.cell? ⟨g, j, none⟩).isSome = true := fun j hj => by
    rw [hB.rd, Array.getElem?_eq_getElem (by simp; simp at hc; omega)]; rfl
  have hcp1 : ∀ ty dc sc, (Builtin.copy_ #[43, 43] ty #[.slice (some ⟨g, (i + 1) * 2, none⟩) (n - i) dc, .slice (some ⟨g, i * 2, none⟩) (n + 1 - i) sc]).run Tryd.prog w.drew = .ok (goInt (xs.drop i).length) (w.drew.setCells g ((i + 1) * 2) (cells2 (xs.drop i))) := fun ty dc sc =>
    run_copy2 w.drew _ _ ty 101 g ((i + 1) * 2) (n - i) dc ⟨g, i * 2, none⟩ (n + 1 - i) sc (xs.drop i) underS sizeEntry (by rw [hd]; simp only [Nat.min_def]; split <;> omega)
      (fun j v hj => by
        have hjl : j < (n - i) * 2 := by have := (List.getElem?_eq_some_iff.1 hj).1; omega
        rw [add0]
        show w.cell? _ = _
        rw [hB.rd, List.getElem?_toArray, List.getElem?_append_left (by omega)]
        rw [← List.take_append_drop i xs, cells2_app, List.getElem?_append_right (by rw [cells2_len, List.length_take]; omega), cells2_len, List.length_take, show min i xs.length = i by omega, Nat.add_sub_cancel_left]
        exact hj)
      (fun j hj => hRd _ (by omega)) (fun j hj => hB.nf _) (fun a ha => hxs a (List.mem_of_mem_drop ha))
  obtain ⟨W1, hW1⟩ : ∃ W1, W1 = w.drew.setCells g ((i + 1) * 2) (cells2 (xs.drop i)) := ⟨_, rfl⟩
  have hsp1 : ∀ k, k < c * 2 → (W1.cell? ⟨g, k, none⟩).isSome = true := fun k hk => by
    rw [hW1]
    exact isSome_setCells g (cells2 (xs.drop i)) ((i + 1) * 2) w.drew (fun j hj => hRd _ (by rw [hd2, hd] at hj; omega)) k (hRd k hk)
  have hcp2 : ∀ (W : World), (∀ x, W.cell? x = W1.cell? x) → (∀ x, W.frozen? x = W1.frozen? x) → ∀ ty dc, (Builtin.copy_ #[43, 43] ty #[.slice (some ⟨g, i * 2, none⟩) (n + 1 - i) dc, .slice (some ⟨bx, 0, none⟩) 1 1]).run Tryd.prog W = .ok (goInt [x].length) (W.setCells g (i * 2) (cells2 [x])) := fun W hWc hWf ty dc =>
    run_copy2 W _ _ ty 101 g (i * 2) (n + 1 - i) dc ⟨bx, 0, none⟩ 1 1 [x] underS sizeEntry (by simp only [Nat.min_def, List.length_cons, List.length_nil]; split <;> omega)
      (fun j v hj => by
        rw [add0, hWc, hW1, World.cell?_setCells_out g _ _ _ _ (fun h _ => absurd h hbx)]
        have := news_one (x := x) hX j v hj
        rwa [add0] at this)
      (fun j hj => by rw [hWc]; exact hsp1 _ (by simp at hj; omega)) (fun j hj => by rw [hWf, hW1, World.frozen?_setCells]; exact hB.nf _) h1
  rw [← hW1] at hcp1
  have HS := Lib.hid hW1
  clear hd hd2 hRd hsp1 hB hX hc hW1 hxs h1 hl
  go_enter Tryd.func63, Tryd.ntmps63
  go_wp2_with (simp only [hov])
  go_region_law_o (refine step_copy_runI rfl _ _ 43 43 rfl _ _ (by simp [Act.eval, Act.put]) (by simp [Act.eval, Act.put]) (hcp1 _ _ _) ?_)
  go_wp2_with (at_builtin; refine wpList_copy_runI _ rfl _ _ 43 43 rfl _ _ rfl rfl (hcp2 _ (fun _ => rfl) (fun _ => rfl) _ _) ?_)
  go_ret
  first | exact ⟨rfl, rfl⟩ | exact ⟨rfl, by rw [HS.out]⟩
/-- no room: a new row -/
def growP (w : World) (xs : List V2) (n c i : Nat) (x : V2) (e : Ending) (w' : World) : Prop := ∃ G ROW, e = .returned (.slice (some ⟨w.heap.size, 0, none⟩) (n + 1) G) ∧ G * 2 = ROW.size ∧ n + 1 ≤ G ∧ G ≤ maxLen ∧ (∃ Z Z', ROW.toList = cells2 (xs.take i) ++ cells2 Z ++ Z' ∧ Z.length = n + 1 - i) ∧
   w' = (((w.alloc (.cells ROW 101)).drew.setCells w.heap.size (i * 2) (cells2 [x])).drew).setCells w.heap.size ((i + 1) * 2) (cells2 (xs.drop i))
set_option maxRecDepth 100000 in
set_option maxHeartbeats 2000000 in
theorem insert_grow {g c : Nat} {rest : List Value} (hB : Blk w g (cells2 xs ++ rest).toArray 101) (hc : c * 2 = (cells2 xs ++ rest).length) (hm : c ≤ maxLen) (n : Nat) (hn : xs.length = n) (hn0 : n ≤ 1000) (i : Nat) (hi : i < n) (hroom : c < n + 1)
    (bx : Nat) (x : V2) (hX : Blk w bx #[x.1, x.2] 101) (hbx : bx ≠ g) (h1 : One2 [x]) (hxs : One2 xs) :
    Calls Tryd.prog 63 #[.slice (some ⟨g, 0, none⟩) n c, .int .i64 i, .slice (some ⟨bx, 0, none⟩) 1 1] w (growP w xs n c i x) := by
  have hm' := hm
  unfold maxLen at hm'
  have hl := cells2_len xs
  have hcn : c = n := by rw [List.length_append] at hc; omega
  have hz2 : ¬ ((i : Int) = (n : Int)) := by omega
  have hz3 : (c : Int) < (n : Int) + 1 := by omega
  obtain ⟨i0, hi0, hz0, hzs, hzb⟩ := info_parts infoEntry
  have hd : (xs.drop i).length = n - i := by rw [List.length_drop, hn]
  have hd2 := cells2_len (xs.drop i)
  have hk : (xs.take i).length = i := by rw [List.length_take]; omega
  have hk2 := cells2_len (xs.take i)
  have hkk : (n : Int) + 1 - (i : Int) = ((n + 1 - i : Nat) : Int) := by omega
  have hik : i + (n + 1 - i) = n + 1 := by omega
  have hbw : g < w.heap.size := hB.lt
  have hvw : bx < w.heap.size := hX.lt
  have hold : (Builtin.firstCells i0.size i (.slice (some ⟨g, 0, none⟩) i c)).run Tryd.prog w.drew = .ok (cells2 (xs.take i)).toArray w.drew := by
    rw [hzs]
    exact run_firstCells_some w.drew 2 i ⟨g, 0, none⟩ i c (cells2 (xs.take i)) (by omega) (fun j v hj => by
      have hjl : j < i * 2 := by have := (List.getElem?_eq_some_iff.1 hj).1; omega
      rw [add0]
      show w.cell? _ = _
      rw [Nat.zero_add, hB.rd, List.getElem?_toArray, List.getElem?_append_left (by omega), ← List.take_append_drop i xs, cells2_app, List.getElem?_append_left (by omega)]
      exact hj)
  have hrz : ∀ ty, (Builtin.append_ #[43, 3] ty #[.slice (some ⟨g, 0, none⟩) i c, .int .i64 ((n : Int) + 1 - (i : Int))]).run Tryd.prog w =
      .ok (.slice (some ⟨w.heap.size, 0, none⟩) (n + 1) (grownCap w (n + 1) c 101)) (w.drew.alloc (.cells ((cells2 (xs.take i)).toArray ++ Builtin.zeroCells #[.string ByteArray.empty, .int .i64 0] (n + 1 - i) ++ Builtin.zeroCells #[.string ByteArray.empty, .int .i64 0] (grownCap w (n + 1) c 101 - (n + 1))) 101)) := fun ty => by
    have h := Lib.run_append_grow_zeros w 43 3 ty 101 i0 _ .i64 .i64 underS Tryd.underlying3 hi0 hz0 (some ⟨g, 0, none⟩) i c (cells2 (xs.take i)) hold (n + 1 - i) (by omega) (by omega) (by omega) (by omega) (by rw [hzb]; omega) (by rw [hzb, hik]; exact growslice_fits hroom (by omega))
    rw [hik] at h
    rw [hkk]
    exact h
  have hGn : n + 1 ≤ grownCap w (n + 1) c 101 := grownCap_ge w _ _ _
  have hG63 := grownCap_le_maxLen w (n + 1) c 101 (by unfold maxLen; omega)
  obtain ⟨G, hG⟩ : ∃ G, G = grownCap w (n + 1) c 101 := ⟨_, rfl⟩
  obtain ⟨ROW, hROW⟩ : ∃ ROW : Array Value, ROW = (cells2 (xs.take i)).toArray ++ Builtin.zeroCells #[.string ByteArray.empty, .int .i64 0] (n + 1 - i) ++ Builtin.zeroCells #[.string ByteArray.empty, .int .i64 0] (G - (n + 1)) := ⟨_, rfl⟩
  rw [← hG] at hrz hGn hG63
  rw [← hROW] at hrz
  have hG9 := hG63
  unfold maxLen at hG9
  have hRl : G * 2 = ROW.size := by
    rw [hROW]
    simp [Builtin.zeroCells]
    omega
  have hRc : ∃ Z Z', ROW.toList = cells2 (xs.take i) ++ cells2 Z ++ Z' ∧ Z.length = n + 1 - i := ⟨_, _, by rw [hROW]; simp only [Array.toList_append, zeroCells2]; rfl, by simp⟩
  obtain ⟨W1, hW1⟩ : ∃ W1, W1 = w.drew.alloc (.cells ROW 101) := ⟨_, rfl⟩
  rw [← hW1] at hrz
  have hNB : Blk W1 w.heap.size ROW 101 := by rw [hW1]; exact Blk.new w.drew _ _
  have hOb : ∀ j, W1.cell? ⟨g, j, none⟩ = w.cell? ⟨g, j, none⟩ := fun j => by rw [hW1, World.cell?_alloc_past (w := w.drew) _ g j hbw]; rfl
  have hOv : ∀ j, W1.cell? ⟨bx, j, none⟩ = w.cell? ⟨bx, j, none⟩ := fun j => by rw [hW1, World.cell?_alloc_past (w := w.drew) _ bx j hvw]; rfl
  have hN : ∀ j, j < G * 2 → (W1.cell? ⟨w.heap.size, j, none⟩).isSome = true := fun j hj => by
    rw [hNB.rd, Array.getElem?_eq_getElem (by omega)]; rfl
  have hcpA : ∀ (W : World), (∀ x, W.cell? x = W1.cell? x) → (∀ x, W.frozen? x = W1.frozen? x) → ∀ ty dc, (Builtin.copy_ #[43, 43] ty #[.slice (some ⟨w.heap.size, i * 2, none⟩) (n + 1 - i) dc, .slice (some ⟨bx, 0, none⟩) 1 1]).run Tryd.prog W = .ok (goInt [x].length) (W.setCells w.heap.size (i * 2) (cells2 [x])) := fun W hWc hWf ty dc =>
    run_copy2 W _ _ ty 101 w.heap.size (i * 2) (n + 1 - i) dc ⟨bx, 0, none⟩ 1 1 [x] underS sizeEntry (by simp only [Nat.min_def, List.length_cons, List.length_nil]; split <;> omega)
      (fun j v hj => by
        have := news_one (x := x) hX j v hj
        rw [add0] at this ⊢
        rw [hWc, hOv]; exact this)
      (fun j hj => by rw [hWc]; exact hN _ (by simp at hj; omega)) (fun j hj => by rw [hWf]; exact hNB.nf _) h1
  have hbN : g ≠ w.heap.size := by omega
  have hcpB : ∀ (W : World), (∀ y, W.cell? y = (W1.setCells w.heap.size (i * 2) (cells2 [x])).cell? y) → (∀ y, W.frozen? y = (W1.setCells w.heap.size (i * 2) (cells2 [x])).frozen? y) → ∀ ty dc sc, (Builtin.copy_ #[43, 43] ty #[.slice (some ⟨w.heap.size, (i + 1) * 2, none⟩) (n - i) dc, .slice (some ⟨g, i * 2, none⟩) (n - i) sc]).run Tryd.prog W = .ok (goInt (xs.drop i).length) (W.setCells w.heap.size ((i + 1) * 2) (cells2 (xs.drop i))) := fun W hWc hWf ty dc sc =>
    run_copy2 W _ _ ty 101 w.heap.size ((i + 1) * 2) (n - i) dc ⟨g, i * 2, none⟩ (n - i) sc (xs.drop i) underS sizeEntry (by rw [hd]; simp only [Nat.min_def]; split <;> omega)
      (fun j v hj => by
        have hjl : j < (n - i) * 2 := by have := (List.getElem?_eq_some_iff.1 hj).1; omega
        rw [add0, hWc, World.cell?_setCells_out _ _ _ _ _ (fun h _ => absurd h hbN), hOb, hB.rd, List.getElem?_toArray, List.getElem?_append_left (by omega)]
        rw [← List.take_append_drop i xs, cells2_app, List.getElem?_append_right (by omega), hk2, hk, Nat.add_sub_cancel_left]
        exact hj)
      (fun j hj => by rw [hWc]; exact isSome_setCells _ (cells2 [x]) (i * 2) W1 (fun t ht => hN _ (by simp [cells2] at ht; omega)) _ (hN _ (by rw [hd] at hj; omega)))
      (fun j hj => by rw [hWf, World.frozen?_setCells]; exact hNB.nf _) (fun a ha => hxs a (List.mem_of_mem_drop ha))
  have hGi : ¬ (G = i) := by omega
  have hGim : ¬ (G = i + 1) := by omega
  have hci : ¬ (c = i) := by omega
  have hic : (i : Int) ≤ (c : Int) := by omega
  have hnc : n ≤ c := by omega
  subst hW1
  have hE1 : ∀ x, ((w.alloc (.cells ROW 101)).drew).cell? x = (w.drew.alloc (.cells ROW 101)).cell? x := fun x => rfl
  have hE2 : ∀ x, ((w.alloc (.cells ROW 101)).drew).frozen? x = (w.drew.alloc (.cells ROW 101)).frozen? x := fun x => rfl
  have hF1 : ∀ y, (((w.alloc (.cells ROW 101)).drew.setCells w.heap.size (i * 2) (cells2 [x])).drew).cell? y = ((w.drew.alloc (.cells ROW 101)).setCells w.heap.size (i * 2) (cells2 [x])).cell? y := fun x => rfl
  have hF2 : ∀ y, (((w.alloc (.cells ROW 101)).drew.setCells w.heap.size (i * 2) (cells2 [x])).drew).frozen? y = ((w.drew.alloc (.cells ROW 101)).setCells w.heap.size (i * 2) (cells2 [x])).frozen? y := fun x => rfl
  have mixed : Tryd.prog.follows .mixedOrders = true := by kernel_rfl
  have hw1 : IntKind.i64.wrap ((i : Int) + 1) = (i : Int) + 1 := by rw [IntKind.wrap_i64]; omega
  have hb1 : (0 : Int) ≤ (i : Int) + 1 := by omega
  have hin : i ≤ n := by omega
  have htn : ((i : Int) + 1).toNat = i + 1 := by omega
  have hb3 : (i : Int) ≤ (n : Int) := by omega
  have HR := Lib.hid (And.intro hRl (And.intro hRc hG63))
  clear hcn hkk hik hold hROW hG hRl hRc hN hOv hOb hNB hk hk2 hd hd2 hl hB hX hc hi0 hz0 hzs hzb hxs h1 hm' hG63
  go_enter Tryd.func63, Tryd.ntmps63
  go_wp2_with (first
    | (at_builtin; refine Lib.wpList_append_run _ rfl _ _ _ _ rfl _ _ rfl rfl _ _ (hrz _) ?_)
    | (at_builtin; refine wpList_copy_runI _ rfl _ _ 43 43 rfl _ _ rfl rfl (hcpA _ hE1 hE2 _ _) ?_))

  go_region_law_o (refine step_copy_runI rfl _ _ 43 43 rfl (.slice (some ⟨w.heap.size, (i + 1) * 2, none⟩) (n - i) (G - (i + 1))) (.slice (some ⟨g, i * 2, none⟩) (n - i) (c - i)) (by simp [Act.eval, Act.put]) (by simp [Act.eval, Act.put]) (hcpB _ hF1 hF2 3 (G - (i + 1)) (c - i)) ?_)
  go_wp2
  go_ret
  exact ⟨G, ROW, rfl, HR.out.1, hGn, HR.out.2.2, HR.out.2.1, rfl⟩
theorem row_new {w' : World} {g c : Nat} {ys : List V2} {R : List Value} (hB : Blk w' g (cells2 ys ++ R).toArray 101) (hc : c * 2 = (cells2 ys ++ R).length) (hm : c ≤ maxLen) : Row2 w' 101 (.slice (some ⟨g, 0, none⟩) ys.length c) ys (some g) :=
  Or.inr ⟨g, c, R, rfl, rfl, hB, hc, hm⟩
theorem insert_any {a : Option Addr} {n c : Nat} (h : Row2 w 101 (.slice a n c) xs b) (hn0 : n ≤ 1000) (i : Nat) (hi : i ≤ n) (bx : Nat) (x : V2) (hX : Blk w bx #[x.1, x.2] 101) (hbx : ∀ g, b = some g → bx ≠ g) (h1 : One2 [x]) (hxs : One2 xs) :
    Calls Tryd.prog 63 #[.slice a n c, .int .i64 i, .slice (some ⟨bx, 0, none⟩) 1 1] w (InsP b w (xs.take i ++ x :: xs.drop i) (n + 1)) := by
  obtain ⟨_, hn, _⟩ := h.cap
  by_cases hin : i = n
  · subst hin
    have he : xs.take i ++ x :: xs.drop i = xs ++ [x] := by rw [List.take_of_length_le (by omega), List.drop_eq_nil_of_le (by omega)]
    rw [he]
    exact insert_end h hn0 bx x hX h1
  have hi' : i < n := by omega
  rcases h with ⟨_, rfl, _⟩ | ⟨g, cap, rest, hv, hb, hB, hc, hm⟩
  · simp at hn; omega
  simp only [Value.slice.injEq] at hv
  obtain ⟨rfl, -, rfl⟩ := hv
  have hl := cells2_len xs
  have hd : (xs.drop i).length = n - i := by rw [List.length_drop, hn]
  have hd2 := cells2_len (xs.drop i)
  have hk : (xs.take i).length = i := by rw [List.length_take]; omega
  have hk2 := cells2_len (xs.take i)
  have hx2 : (cells2 [x]).length = 2 := rfl
  have hys : (xs.take i ++ x :: xs.drop i).length = n + 1 := by rw [List.length_append, List.length_cons, hk, hd]; omega
  have hyc : cells2 (xs.take i ++ x :: xs.drop i) = cells2 (xs.take i) ++ cells2 [x] ++ cells2 (xs.drop i) := by
    rw [show xs.take i ++ x :: xs.drop i = xs.take i ++ ([x] ++ xs.drop i) by simp, cells2_app, cells2_app, List.append_assoc]
  have hxc : cells2 xs = cells2 (xs.take i) ++ cells2 (xs.drop i) := by rw [← cells2_app, List.take_append_drop]
  by_cases hroom : n + 1 ≤ c
  · refine (insert_shift hB hc hm n hn.symm hn0 i hi' hroom bx x hX (hbx g hb) h1 hxs).mono ?_
    rintro e w' ⟨rfl, rfl⟩
    have hr2 : 2 ≤ rest.length := by rw [List.length_append] at hc; omega
    have e1 : i * 2 = (cells2 (xs.take i)).length := by omega
    have e2 : (i + 1) * 2 = (cells2 (xs.take i)).length + 2 := by omega
    have z0 := Blk.sets (cells2 (xs.drop i)) (cells2 xs ++ rest) ((i + 1) * 2) hB.drew (by rw [List.length_append]; omega)
    have z1 := Blk.sets (cells2 [x]) _ (i * 2) z0 (by simp only [List.length_append, List.length_take, List.length_drop]; omega)
    rw [hxc, e1, e2, shift_list _ _ _ _ hx2 hr2, ← hyc] at z1
    refine ⟨_, _, some g, rfl, ?_, fun g' hg' => Or.inl (by rw [← hg', hb]), ?_⟩
    · rw [← hys]
      refine row_new (R := rest.drop 2) ?_ ?_ hm
      · rw [e1, e2]; exact z1
      · rw [List.length_append, cells2_len, hys, List.length_drop]; rw [List.length_append] at hc; omega
    · exact Upd.sets _ _ _ _ (Upd.sets _ _ _ _ ((Upd.refl _ _).drew) (fun _ => hb)) (fun _ => hb)
  · refine (insert_grow hB hc hm n hn.symm hn0 i hi' (by omega) bx x hX (hbx g hb) h1 hxs).mono ?_
    rintro e w' ⟨G, ROW, rfl, hG, hGn, hGm, ⟨Z, Z', hRW, hZ⟩, rfl⟩
    have hz2 := cells2_len Z
    have hZl : 2 ≤ (cells2 Z).length := by omega
    have e1 : i * 2 = (cells2 (xs.take i)).length := by omega
    have e2 : (i + 1) * 2 = (cells2 (xs.take i)).length + 2 := by omega
    have hRl : ROW.size = (cells2 (xs.take i)).length + (cells2 Z).length + Z'.length := by rw [← Array.length_toList, hRW]; simp only [List.length_append]
    have z0 : Blk ((w.alloc (.cells ROW 101)).drew) w.heap.size (cells2 (xs.take i) ++ cells2 Z ++ Z').toArray 101 := by
      rw [← hRW]; exact Blk.new w _ _
    have z1 := Blk.sets (cells2 [x]) _ (i * 2) z0 (by simp only [List.length_append]; omega)
    have z2 := Blk.sets (cells2 (xs.drop i)) _ ((i + 1) * 2) z1.drew (by simp only [List.length_append, List.length_take, List.length_drop]; omega)
    have hfin : ∃ R, (((cells2 (xs.take i) ++ cells2 Z ++ Z').take (i * 2) ++ cells2 [x] ++ (cells2 (xs.take i) ++ cells2 Z ++ Z').drop (i * 2 + (cells2 [x]).length)).take ((i + 1) * 2) ++ cells2 (xs.drop i) ++ ((cells2 (xs.take i) ++ cells2 Z ++ Z').take (i * 2) ++ cells2 [x] ++ (cells2 (xs.take i) ++ cells2 Z ++ Z').drop (i * 2 + (cells2 [x]).length)).drop ((i + 1) * 2 + (cells2 (xs.drop i)).length)) = cells2 (xs.take i ++ x :: xs.drop i) ++ R := by
      rw [hyc, e1, e2]
      have q1 : (cells2 (xs.take i) ++ cells2 Z ++ Z').take (cells2 (xs.take i)).length = cells2 (xs.take i) := by rw [List.append_assoc, List.take_left]
      rw [q1]
      generalize (cells2 (xs.take i) ++ cells2 Z ++ Z').drop ((cells2 (xs.take i)).length + (cells2 [x]).length) = D
      have q2 : (cells2 (xs.take i) ++ cells2 [x] ++ D).take ((cells2 (xs.take i)).length + 2) = cells2 (xs.take i) ++ cells2 [x] := by
        rw [show (cells2 (xs.take i)).length + 2 = (cells2 (xs.take i) ++ cells2 [x]).length by rw [List.length_append, hx2], List.take_left]
      rw [q2]
      exact ⟨_, rfl⟩
    obtain ⟨R, hR⟩ := hfin
    have hRlen := congrArg List.length hR
    rw [hR] at z2
    refine ⟨_, _, some w.heap.size, rfl, ?_, fun g' hg' => Or.inr (by cases hg'; exact Nat.le_refl _), ?_⟩
    · rw [← hys]
      refine row_new (R := R) z2 ?_ hGm
      rw [hG, hRl, ← hRlen]
      simp only [List.length_append, List.length_take, List.length_drop]
      omega
    · exact Upd.sets _ _ _ _ ((Upd.sets _ _ _ _ (((Upd.refl _ _).alloc _).drew) (fun hlt => by omega)).drew) (fun hlt => by omega)
end
end Go.Proofs.YtchnjfmimpikcaaDoor
