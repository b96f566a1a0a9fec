/-
  slices.Delete of one entry.
-/
import Derived.Test.YtchnjfmimpikcaaDoorIIns2
import Derived.Deep.RegionLaw
namespace Go.Proofs.YtchnjfmimpikcaaDoor
set_option linter.unusedSimpArgs false
set_option linter.unusedVariables false
open Go.RowKit Own RegJ Two
open Go.Lib hiding intOf

theorem del_list (A X C rest Z : List Value) (hX : X.length = 2) (hZ : Z.length = 2) :
    ((((A ++ X ++ C ++ rest).take A.length ++ C ++ (A ++ X ++ C ++ rest).drop (A.length + C.length)).take (A.length + C.length)) ++ Z ++
      ((A ++ X ++ C ++ rest).take A.length ++ C ++ (A ++ X ++ C ++ rest).drop (A.length + C.length)).drop (A.length + C.length + Z.length)) = A ++ C ++ (Z ++ rest) := by
  have e1 : (A ++ X ++ C ++ rest).take A.length = A := by simp
  rw [e1]
  have e2 : ((A ++ X ++ C ++ rest).drop (A.length + C.length)).drop 2 = rest := by
    rw [List.drop_drop, show A.length + C.length + 2 = (A ++ X ++ C).length by simp only [List.length_append]; omega, List.drop_left]
  have e3 : (A ++ C ++ (A ++ X ++ C ++ rest).drop (A.length + C.length)).take (A.length + C.length) = A ++ C := by
    rw [← List.length_append, List.take_left]
  have e4 : (A ++ C ++ (A ++ X ++ C ++ rest).drop (A.length + C.length)).drop (A.length + C.length + Z.length) = rest := by
    rw [hZ, ← List.drop_drop, ← List.length_append, List.drop_left, List.length_append, e2]
  rw [e3, e4]
  simp
section
variable {w : World} {xs : List V2} {b : Option Nat}
abbrev zE : V2 := (.string ByteArray.empty, .int .i64 0)
theorem zeroE (w : World) : (zeroValue 101).run Tryd.prog w = .ok (.agg #[zE.1, zE.2]) w := Tryd.zeroValue101 w
set_option maxRecDepth 100000 in
set_option maxHeartbeats 2000000 in
theorem delete_raw {g c : Nat} {rest : List Value} (hB : Blk w g (cells2 xs ++ rest).toArray 101) (hc : c * 2 = (cells2 xs ++ rest).length) (hm : c ≤ maxLen) (n : Nat) (hn : xs.length = n) (hn0 : n ≤ 1000) (i : Nat) (hi : i < n) (hxs : One2 xs) :
    Calls Tryd.prog 78 #[.slice (some ⟨g, 0, none⟩) n c, .int .i64 i, .int .i64 ((i : Int) + 1)] w fun e w' => e = .returned (.slice (some ⟨g, 0, none⟩) (n - 1) c) ∧ w' = (w.drew.setCells g (i * 2) (cells2 (xs.drop (i + 1)))).setCells g ((n - 1) * 2) (cells2 [zE]) := by
  have hm' := hm
  unfold maxLen at hm'
  have hl := cells2_len xs
  have hcn : n ≤ c := by rw [List.length_append] at hc; omega
  obtain ⟨i0, hi0, hz0, hzs, hzb⟩ := info_parts infoEntry
  have hd : (xs.drop (i + 1)).length = n - (i + 1) := by rw [List.length_drop, hn]
  have hd2 := cells2_len (xs.drop (i + 1))
  have hRd : ∀ j, j < c * 2 → (w.cell? ⟨g, j, none⟩).isSome = true := fun j hj => by
    rw [hB.rd, Array.getElem?_eq_getElem (by simp; simp at hc; omega)]; rfl
  obtain ⟨A, hA, hsrc⟩ : ∃ A : Addr, (if c = i + 1 then some (⟨g, 0, none⟩ : Addr) else some ⟨g, (i + 1) * 2, none⟩) = some A ∧ Hid (∀ t u, (cells2 (xs.drop (i + 1)))[t]? = some u → w.drew.cell? (A.add t) = some u) := by
    by_cases h : c = i + 1
    · refine ⟨⟨g, 0, none⟩, by simp [h], fun t u hu => ?_⟩
      have h0 : (cells2 (xs.drop (i + 1))).length = 0 := by omega
      rw [List.length_eq_zero_iff.1 h0] at hu
      simp at hu
    · refine ⟨⟨g, (i + 1) * 2, none⟩, by simp [h], fun t u hu => ?_⟩
      have ht : t < (n - (i + 1)) * 2 := by have := (List.getElem?_eq_some_iff.1 hu).1; omega
      rw [add0]
      show w.cell? _ = _
      rw [hB.rd, List.getElem?_toArray, List.getElem?_append_left (by omega), ← List.take_append_drop (i + 1) xs, cells2_app, List.getElem?_append_right (by rw [cells2_len, List.length_take]; omega), cells2_len, List.length_take, show min (i + 1) xs.length = i + 1 by omega, Nat.add_sub_cancel_left]
      exact hu
  obtain ⟨W1, hW1⟩ : ∃ W1, W1 = w.drew.setCells g (i * 2) (cells2 (xs.drop (i + 1))) := ⟨_, rfl⟩
  have s1 : Hid ((cells2 (xs.drop (i + 1))).length = (n - (i + 1)) * 2) := by show _ = _; omega
  have s2 : Hid (∀ u ∈ cells2 (xs.drop (i + 1)), u.oneCell' = true) := (show One2 (xs.drop (i + 1)) from fun a ha => hxs a (List.mem_of_mem_drop ha)).cells
  have s3 : Hid (∀ t, t < (cells2 (xs.drop (i + 1))).length → (w.drew.cell? ⟨g, 0 + i * 2 + t, none⟩).isSome = true ∧ w.drew.frozen? ⟨g, 0 + i * 2 + t, none⟩ = false) := fun t ht => ⟨hRd _ (by omega), hB.nf _⟩
  have hcl : ∀ ty cc, (Builtin.clear_ #[43] ty #[.slice (some ⟨g, (i + (n - (i + 1))) * 2, none⟩) (n - (i + (n - (i + 1)))) cc]).run Tryd.prog W1 = .ok (.tuple #[]) (W1.setCells g ((n - 1) * 2) (cells2 [zE])) := fun ty cc => by
    have e1 : i + (n - (i + 1)) = n - 1 := by omega
    have e2 : n - (n - 1) = 1 := by omega
    rw [e1, e2]
    exact run_clear2 W1 _ _ ty zE.1 zE.2 underS zeroE rfl rfl g ((n - 1) * 2) 1 cc (by omega) (fun j hj => by
      rw [hW1]; exact isSome_setCells g (cells2 (xs.drop (i + 1))) (i * 2) w.drew (fun j hj => hRd _ (by omega)) _ (hRd _ (by omega)))
      (fun j hj => by rw [hW1, World.frozen?_setCells]; exact hB.nf _)
  have mixed : Tryd.prog.follows .mixedOrders = true := by kernel_rfl
  have hW : Hid (W1 = w.drew.setCells g (i * 2) (cells2 (xs.drop (i + 1)))) := hW1
  have hic : i ≤ c := by omega
  have hjc : i + 1 ≤ c := by omega
  have hin : (i : Int) + 1 ≤ n := by omega
  have hne : ¬ ((i : Int) = (i : Int) + 1) := by omega
  have hw1 : IntKind.i64.wrap ((i : Int) + 1) = (i : Int) + 1 := by rw [IntKind.wrap_i64]; omega
  have hb1 : (0 : Int) ≤ (i : Int) + 1 := by omega
  have htn : ((i : Int) + 1).toNat = i + 1 := by omega
  clear hl hd hd2 hRd hB hc hxs hW1 hzb hz0
  go_enter Tryd.func78, Tryd.ntmps78
  go_wp2_with fail
  go_region_law_o (refine step_append_room rfl (.tmp 22) (.tmp 25) 43 rfl 101 i0 2 underS hi0 hzs g 0 i c (by simp [Act.eval, Act.put]) A (n - (i + 1)) (c - (i + 1)) (cells2 (xs.drop (i + 1))) (by simp [Act.eval, Act.put]) s1.out hsrc.out s2.out (by omega) s3.out ?_; rw [show 0 + i * 2 = i * 2 from Nat.zero_add _, ← hW.out])
  go_wp2
  go_ret
  exact ⟨by rw [show n - 1 = i + (n - (i + 1)) by omega]; rfl, by rw [hW.out]⟩
def DelP (b : Option Nat) (w : World) (ys : List V2) (n : Nat) (e : Ending) (w' : World) : Prop := ∃ a c, e = .returned (.slice a n c) ∧ Row2 w' 101 (.slice a n c) ys b ∧ Upd (fun k => b = some k) w w'
theorem delete_one {a : Option Addr} {n c : Nat} (h : Row2 w 101 (.slice a n c) xs b) (hn0 : n ≤ 1000) (i : Nat) (hi : i < n) (hxs : One2 xs) :
    Calls Tryd.prog 78 #[.slice a n c, .int .i64 i, .int .i64 ((i : Int) + 1)] w (DelP b w (xs.take i ++ xs.drop (i + 1)) (n - 1)) := by
  obtain ⟨_, hn, _⟩ := h.cap
  rcases h with ⟨_, rfl, _⟩ | ⟨g, cap, rest, hv, hb, hB, hc, hm⟩
  · simp at hn; omega
  simp only [Value.slice.injEq] at hv
  obtain ⟨rfl, -, rfl⟩ := hv
  refine (delete_raw hB hc hm n hn.symm hn0 i hi hxs).mono ?_
  rintro e w' ⟨rfl, rfl⟩
  have hl := cells2_len xs
  obtain ⟨x, hx⟩ : ∃ x, xs[i]? = some x := ⟨_, List.getElem?_eq_getElem (by omega)⟩
  have hsp : xs = xs.take i ++ x :: xs.drop (i + 1) := by
    have h1 := List.take_append_drop i xs
    rw [List.drop_eq_getElem_cons (by omega)] at h1
    have h2 := List.getElem?_eq_some_iff.1 hx
    rw [h2.2] at h1
    exact h1.symm
  have hd : (xs.drop (i + 1)).length = n - (i + 1) := by rw [List.length_drop, hn]
  have hd2 := cells2_len (xs.drop (i + 1))
  have hk : (xs.take i).length = i := by rw [List.length_take]; omega
  have hk2 := cells2_len (xs.take i)
  have hx2 : (cells2 [x]).length = 2 := rfl
  have hxc : cells2 xs = cells2 (xs.take i) ++ cells2 [x] ++ cells2 (xs.drop (i + 1)) := by
    refine (congrArg cells2 hsp).trans ?_
    rw [show xs.take i ++ x :: xs.drop (i + 1) = xs.take i ++ ([x] ++ xs.drop (i + 1)) by simp, cells2_app, cells2_app, List.append_assoc]
  have e1 : i * 2 = (cells2 (xs.take i)).length := by omega
  have e2 : (n - 1) * 2 = (cells2 (xs.take i)).length + (cells2 (xs.drop (i + 1))).length := by omega
  have z0 := Blk.sets (cells2 (xs.drop (i + 1))) (cells2 xs ++ rest) (i * 2) hB.drew (by rw [List.length_append]; omega)
  have z1 := Blk.sets (cells2 [zE]) _ ((n - 1) * 2) z0 (by simp only [List.length_append, List.length_take, List.length_drop]; rw [show (cells2 [zE]).length = 2 from rfl]; omega)
  rw [hxc, e1, e2, del_list _ _ _ _ _ hx2 rfl, ← cells2_app] at z1
  have hys : (xs.take i ++ xs.drop (i + 1)).length = n - 1 := by rw [List.length_append, hk, hd]; omega
  refine ⟨_, _, rfl, ?_, ?_⟩
  · rw [hb, ← hys]
    refine row_new (R := cells2 [zE] ++ rest) ?_ ?_ hm
    · rw [hys, e1, e2]; exact z1
    · rw [List.length_append, cells2_len, hys, List.length_append, show (cells2 [zE]).length = 2 from rfl]; rw [List.length_append] at hc; omega
  · exact Upd.sets _ _ _ _ (Upd.sets _ _ _ _ ((Upd.refl _ _).drew) (fun _ => hb)) (fun _ => hb)
end
end Go.Proofs.YtchnjfmimpikcaaDoor
