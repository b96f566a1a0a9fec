/-
  Descriptors' law: both at the start; what every program answers that is one.
-/
import Derived.Test.YtjpjafajploiaaaGreatDoorKr
import Derived.Test.YtjpjafajploiaaaGreatDoorKo
import Derived.Test.YtjpjafajploiaaaGreatDoorQF0
import Derived.Lib.BufferRead
import Derived.Lib.SlBytesConst
namespace Go.Proofs.YtjpjafajploiaaaGreatDoor
set_option linter.unusedSimpArgs false
set_option linter.unusedVariables false
open Go.RowKit Own RegJ Two
open Go.Lib hiding intOf

theorem r21new_any (sb : Nat) (w : World) : Calls Tryz.prog 98 #[.pointer (some ⟨sb, 0, none⟩)] w fun e w' => (∃ k, e = .returned (.pointer (some ⟨k, 0, none⟩))) ∧ Below w.heap.size w w' := by
  go_enter Tryz.func98, Tryz.ntmps98
  go_wp2
  go_ret
  exact ⟨⟨_, rfl⟩, ((Upd.refl (fun _ => False) w).alloc _).below (Nat.le_refl _) (fun _ h => h.elim)⟩
set_option maxRecDepth 100000 in
theorem r22new_any (mb : Nat) (w : World) : Calls Tryz.prog 61 #[.pointer (some ⟨mb, 0, none⟩)] w fun e w' => (∃ k, e = .returned (.pointer (some ⟨k, 0, none⟩))) ∧ Below w.heap.size w w' := by
  go_enter Tryz.func61, Tryz.ntmps61
  go_wp2_with (go_at_call 98; refine (r21new_any _ _).mono ?_; rintro e w2 ⟨⟨k, rfl⟩, hB⟩; have HB := Lib.hid hB; clear hB)
  go_ret
  have hB := HB.out
  have hs := hB.size
  simp at hs
  exact ⟨⟨_, rfl⟩, (((Below.refl w.heap.size w).alloc (Nat.le_refl _) _).trans (hB.mono (by simp))).alloc (by omega) _⟩
set_option maxRecDepth 100000 in
theorem slabnew_any (fb : Nat) (w : World) : Calls Tryz.prog 36 #[.pointer (some ⟨fb, 0, none⟩)] w fun e w' => (∃ k, e = .returned (.pointer (some ⟨k, 0, none⟩))) ∧ Below w.heap.size w w' := by
  have hmm := @run_makeMap Tryz.prog
  go_enter Tryz.func36, Tryz.ntmps36
  go_wp2_with (fail)
  go_ret
  exact ⟨⟨_, rfl⟩, ((Below.refl w.heap.size w).alloc (Nat.le_refl _) _).alloc (by simp) _⟩
set_option maxRecDepth 100000 in
theorem pipenew_any (kb : Nat) (w : World) : Calls Tryz.prog 35 #[.pointer (some ⟨kb, 0, none⟩)] w fun e w' => (∃ k, e = .returned (.pointer (some ⟨k, 0, none⟩))) ∧ Below w.heap.size w w' := by
  go_enter Tryz.func35, Tryz.ntmps35
  go_wp2_with (fail)
  go_ret
  exact ⟨⟨_, rfl⟩, (Below.refl w.heap.size w).alloc (Nat.le_refl _) _⟩
set_option maxRecDepth 100000 in
theorem fdnew_is (vb pb : Nat) (w : World) : Calls Tryz.prog 34 #[.pointer (some ⟨vb, 0, none⟩), .pointer (some ⟨pb, 0, none⟩)] w fun e w' => ∃ fdb mb, e = .returned (.pointer (some ⟨fdb, 0, none⟩)) ∧ Below w.heap.size w w' ∧ w.heap.size ≤ fdb ∧ w.heap.size ≤ mb ∧ FdB w' fdb vb pb mb 0 fs00 := by
  have hal := ((Below.refl w.heap.size w).alloc (Nat.le_refl _) (.map #[] 0)).alloc (by simp) (.cells #[.pointer (some ⟨vb, 0, none⟩), .pointer (some ⟨pb, 0, none⟩), .map (some w.heap.size)] 154)
  have hm := (MapI.made w Tryz.prog 3).upd (Upd.of_below (F := fun _ => False) ((Below.refl (w.alloc (.map #[] 0)).heap.size _).alloc (Nat.le_refl _) (.cells #[.pointer (some ⟨vb, 0, none⟩), .pointer (some ⟨pb, 0, none⟩), .map (some w.heap.size)] 154))) (fun h => h)
  have hf := Blk.new (w.alloc (.map #[] 0)) #[.pointer (some ⟨vb, 0, none⟩), .pointer (some ⟨pb, 0, none⟩), .map (some w.heap.size)] 154
  have hmm := @run_makeMap Tryz.prog
  go_enter Tryz.func34, Tryz.ntmps34
  go_wp2_with (fail)
  go_ret
  refine ⟨_, w.heap.size, rfl, hal, by simp, Nat.le_refl _, (by have h := hf; rw [show (w.alloc (.map #[] 0)).heap.size = w.heap.size + 1 by simp] at h; exact h), ⟨0, 0, hm, Nat.le_refl _⟩, fun i b h => (by cases h), fun b t h => (by cases h), fun i b h => (by cases h), fun i j b h => (by cases h)⟩
theorem v_new [Inhabited CapT] {w w1 W : World} (hm : MC w) (hc : capI = capV 10) (fb bb kb : Nat) (hF : FrB w1 fb bb kb none (fs0 10)) (hB : Below w.heap.size w w1) (g1 : w.heap.size ≤ fb) (g2 : w.heap.size ≤ bb) (g3 : w.heap.size ≤ kb) (n1 : fb ≠ bb) (n2 : fb ≠ kb) (n3 : bb ≠ kb) (hW : Below w1.heap.size w1 W) :
    Calls Tryz.prog 33 #[.pointer (some ⟨fb, 0, none⟩)] W (VnP w.heap.size fb W) :=
  vnew_is fb bb kb 10 W (hF.below hW) n1 n2 n3 (by omega) hc (hm.below (hB.trans (hW.mono hB.size))) w.heap.size g1 g2 g3 (hB.trans (hW.mono hB.size)).size hm.lt
def BothF [Inhabited CapT] (w : World) (e : Ending) (w' : World) : Prop := ∃ fdb vb tb fb sb pb mb k1 k2 O, e = .returned (.tuple #[.pointer (some ⟨fdb, 0, none⟩), .pointer (some ⟨k1, 0, none⟩), .pointer (some ⟨fb, 0, none⟩), .pointer (some ⟨k2, 0, none⟩)]) ∧ FX w O fdb vb tb fb sb pb mb ns0 0 0 fs00 w'
/-! ### the state, said again -/
theorem start_pr (S : FS) (pid : Int) (b : Nat) : (S.start pid b).pr pid = some b := if_pos rfl
theorem start_sl (S : FS) (pid : Int) (b d : Nat) : (S.start pid b).sl b d = none := by unfold FS.start; simp only; rw [upN_eq]
theorem setsl_eq (S : FS) (b d : Nat) (x : Option Nat) : (S.setsl b d x).sl b d = x := by unfold FS.setsl; simp only; rw [upN_eq, upN_eq]
theorem setsl_ne (S : FS) (b d : Nat) (x : Option Nat) {k : Nat} (h : k ≠ d) : (S.setsl b d x).sl b k = S.sl b k := by unfold FS.setsl; simp only; rw [upN_eq, upN_ne _ _ h]
theorem setth_eq (S : FS) (x : Nat) (t : Th) : (S.setth x t).th x = some t := upN_eq _ _ _
theorem setth_ne (S : FS) (x : Nat) (t : Th) {y : Nat} (h : y ≠ x) : (S.setth x t).th y = S.th y := upN_ne _ _ h
theorem put_eq' (S : FS) (b d x : Nat) (t : Th) : (S.put b d x t).sl b d = some x := setsl_eq _ _ _ _
theorem put_th' (S : FS) (b d x : Nat) (t : Th) : (S.put b d x t).th x = some t := setth_eq S x t
theorem rdv_new (w : World) (cs : List Value) (T : TypeId) : RdV (w.alloc (.cells cs.toArray T)) (some ⟨w.heap.size, 0, none⟩) cs := fun j u hj => ⟨_, rfl, by rw [add_off, (Blk.new w _ _).rd, List.getElem?_toArray]; exact hj⟩
theorem rdv_newf (w : World) (cs : List Value) (T : TypeId) (fr : Nat × Nat) : RdV (w.alloc (.cells cs.toArray T fr)) (some ⟨w.heap.size, 0, none⟩) cs := fun j u hj => ⟨_, rfl, by
  have h : (w.alloc (.cells cs.toArray T fr)).heap[w.heap.size]? = some (.cells cs.toArray T fr) := by show (w.heap.push _)[w.heap.size]? = _; simp
  rw [add_off]
  unfold World.cell?
  rw [h]
  simpa using hj⟩
theorem row_str {w : World} {a : Option Addr} {cp : Nat} {l : Txt} {gb : Option Nat} (h : RowV w 5 (.slice a l.length cp) (ucells (l.map fun c => (c.toNat : Int))) gb) : (convert 22 9 (.slice a l.length cp)).run Tryz.prog w = .ok (.string (B l)) w := by
  have e : ucells (l.map fun c => (c.toNat : Int)) = Lib.byteCells l := by unfold Lib.byteCells ucells; rw [List.map_map]; rfl
  rw [e] at h
  rcases h with ⟨hv, h0, _⟩ | ⟨g, cap, rest, hv, hb, hB, hc, hm⟩
  · simp only [Value.slice.injEq] at hv
    obtain ⟨rfl, hl, rfl⟩ := hv
    have : l = [] := List.eq_nil_of_length_eq_zero hl
    subst this
    exact run_convert_nil_bytes w _ _ _ 0 Tryz.underlying22 Tryz.underlying5 Tryz.underlying9
  · simp only [Value.slice.injEq] at hv
    obtain ⟨rfl, hl, rfl⟩ := hv
    exact run_convert_bytes_back w _ _ _ ⟨g, 0, none⟩ _ l Tryz.underlying22 Tryz.underlying5 Tryz.underlying9 (bytes_of_row (fr := (0, 0)) (cur := (Lib.byteCells l ++ rest).toArray) (T := 5) hB (by rw [List.toList_toArray, List.take_left' (Lib.byteCells_length l)]))
theorem nameA : nameE [97] = 0 := by kernel_rfl
theorem flE1 : flE 1 = false := by kernel_rfl
end Go.Proofs.YtjpjafajploiaaaGreatDoor
