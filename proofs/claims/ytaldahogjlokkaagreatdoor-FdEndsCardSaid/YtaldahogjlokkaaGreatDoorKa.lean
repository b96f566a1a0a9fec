/-
  Descriptors' law: both at the start; what every program answers that is one.
-/
import Derived.Test.YtaldahogjlokkaaGreatDoorKr
import Derived.Test.YtaldahogjlokkaaGreatDoorKo
import Derived.Test.YtaldahogjlokkaaGreatDoorQF0
import Derived.Lib.BufferRead
import Derived.Lib.SlBytesConst
namespace Go.Proofs.YtaldahogjlokkaaGreatDoor
set_option linter.unusedSimpArgs false
set_option linter.unusedVariables false
open Go.RowKit Own RegJ Two
open Go.Lib hiding intOf

theorem r21new_any (sb : Nat) (w : World) : Calls Tryz.prog 67 #[.pointer (some ⟨sb, 0, none⟩)] w fun e w' => (∃ k, e = .returned (.pointer (some ⟨k, 0, none⟩))) ∧ Below w.heap.size w w' := by
  go_enter Tryz.func67, Tryz.ntmps67
  go_wp2
  go_ret
  exact ⟨⟨_, rfl⟩, ((Upd.refl (fun _ => False) w).alloc _).below (Nat.le_refl _) (fun _ h => h.elim)⟩
set_option maxRecDepth 100000 in
theorem r22new_any (mb : Nat) (w : World) : Calls Tryz.prog 34 #[.pointer (some ⟨mb, 0, none⟩)] w fun e w' => (∃ k, e = .returned (.pointer (some ⟨k, 0, none⟩))) ∧ Below w.heap.size w w' := by
  go_enter Tryz.func34, Tryz.ntmps34
  go_wp2_with (go_at_call 67; refine (r21new_any _ _).mono ?_; rintro e w2 ⟨⟨k, rfl⟩, hB⟩; have HB := Lib.hid hB; clear hB)
  go_ret
  have hB := HB.out
  have hs := hB.size
  simp at hs
  exact ⟨⟨_, rfl⟩, (((Below.refl w.heap.size w).alloc (Nat.le_refl _) _).trans (hB.mono (by simp))).alloc (by omega) _⟩
set_option maxRecDepth 100000 in
theorem slabnew_any (fb : Nat) (w : World) : Calls Tryz.prog 38 #[.pointer (some ⟨fb, 0, none⟩)] w fun e w' => (∃ k, e = .returned (.pointer (some ⟨k, 0, none⟩))) ∧ Below w.heap.size w w' := by
  have hmm := @run_makeMap Tryz.prog
  go_enter Tryz.func38, Tryz.ntmps38
  go_wp2_with (fail)
  go_ret
  exact ⟨⟨_, rfl⟩, ((Below.refl w.heap.size w).alloc (Nat.le_refl _) _).alloc (by simp) _⟩
set_option maxRecDepth 100000 in
theorem pipenew_any (kb : Nat) (w : World) : Calls Tryz.prog 37 #[.pointer (some ⟨kb, 0, none⟩)] w fun e w' => (∃ k, e = .returned (.pointer (some ⟨k, 0, none⟩))) ∧ Below w.heap.size w w' := by
  go_enter Tryz.func37, Tryz.ntmps37
  go_wp2_with (fail)
  go_ret
  exact ⟨⟨_, rfl⟩, (Below.refl w.heap.size w).alloc (Nat.le_refl _) _⟩
set_option maxRecDepth 100000 in
theorem fdnew_is (vb pb : Nat) (w : World) : Calls Tryz.prog 35 #[.pointer (some ⟨vb, 0, none⟩), .pointer (some ⟨pb, 0, none⟩)] w fun e w' => ∃ fdb mb, e = .returned (.pointer (some ⟨fdb, 0, none⟩)) ∧ Below w.heap.size w w' ∧ w.heap.size ≤ fdb ∧ w.heap.size ≤ mb ∧ FdB w' fdb vb pb mb 0 fs00 := by
  have hal := ((Below.refl w.heap.size w).alloc (Nat.le_refl _) (.map #[] 0)).alloc (by simp) (.cells #[.pointer (some ⟨vb, 0, none⟩), .pointer (some ⟨pb, 0, none⟩), .map (some w.heap.size)] 93)
  have hm := (MapI.made w Tryz.prog 3).upd (Upd.of_below (F := fun _ => False) ((Below.refl (w.alloc (.map #[] 0)).heap.size _).alloc (Nat.le_refl _) (.cells #[.pointer (some ⟨vb, 0, none⟩), .pointer (some ⟨pb, 0, none⟩), .map (some w.heap.size)] 93))) (fun h => h)
  have hf := Blk.new (w.alloc (.map #[] 0)) #[.pointer (some ⟨vb, 0, none⟩), .pointer (some ⟨pb, 0, none⟩), .map (some w.heap.size)] 93
  have hmm := @run_makeMap Tryz.prog
  go_enter Tryz.func35, Tryz.ntmps35
  go_wp2_with (fail)
  go_ret
  refine ⟨_, w.heap.size, rfl, hal, by simp, Nat.le_refl _, (by have h := hf; rw [show (w.alloc (.map #[] 0)).heap.size = w.heap.size + 1 by simp] at h; exact h), ⟨0, 0, hm, Nat.le_refl _⟩, fun i b h => (by cases h), fun b t h => (by cases h), fun i b h => (by cases h), fun i j b h => (by cases h)⟩
theorem v_new [Inhabited CapT] {w w1 W : World} (hm : MC w) (hc : capI = capV 10) (fb bb kb : Nat) (hF : FrB w1 fb bb kb none (fs0 10)) (hB : Below w.heap.size w w1) (g1 : w.heap.size ≤ fb) (g2 : w.heap.size ≤ bb) (g3 : w.heap.size ≤ kb) (n1 : fb ≠ bb) (n2 : fb ≠ kb) (n3 : bb ≠ kb) (hW : Below w1.heap.size w1 W) :
    Calls Tryz.prog 36 #[.pointer (some ⟨fb, 0, none⟩)] W (VnP w.heap.size fb W) :=
  vnew_is fb bb kb 10 W (hF.below hW) n1 n2 n3 (by omega) hc (hm.below (hB.trans (hW.mono hB.size))) w.heap.size g1 g2 g3 (hB.trans (hW.mono hB.size)).size hm.lt
def BothF [Inhabited CapT] (w : World) (e : Ending) (w' : World) : Prop := ∃ fdb vb tb fb sb pb mb k1 k2 O, e = .returned (.tuple #[.pointer (some ⟨fdb, 0, none⟩), .pointer (some ⟨k1, 0, none⟩), .pointer (some ⟨fb, 0, none⟩), .pointer (some ⟨k2, 0, none⟩)]) ∧ FX w O fdb vb tb fb sb pb mb ns0 0 0 fs00 w'
set_option maxRecDepth 100000 in
set_option maxHeartbeats 2000000 in
theorem both_f [Inhabited CapT] (w : World) (hm : MC w) (hc : capI = capV 10) : Calls Tryz.prog 11 #[] w (BothF w) := by
  have hfn : Calls Tryz.prog 32 #[.int .i64 10] w (FNewP w 10) := fnew_is 10 (by omega) (by omega) w
  have hrn : ∀ w, Calls Tryz.prog 33 #[.int .i64 10] w (RNewP w 10) := fun w => rnew_is 10 (by omega) (by omega) w
  have HM := Lib.hid (And.intro hm hc)
  clear hm hc
  go_enter Tryz.func11, Tryz.ntmps11
  go_wp2_with (first
    | (go_at_call 32; (with_reducible refine hfn.mono ?_); rintro e w1 ⟨fb, bb, kb, rfl, hFr, hB, g1, g2, g3, g4, g5, g6⟩; have hvn := fun W (hW : Below w1.heap.size w1 W) => v_new HM.out.1 HM.out.2 fb bb kb hFr hB g1 g2 g3 g4 g5 g6 hW; have H1 := Lib.hid hB; clear hB hFr g1 g2 g3 g4 g5 g6 hfn; have hr1 := hrn w1)
    | (go_at_call 33; (refine hr1.mono ?_); rintro e w2 ⟨m4, q1, q2, rfl, -, hB⟩; have hq := r22new_any m4 w2; have H2 := Lib.hid hB; clear hB hr1)
    | (go_at_call 34; (with_reducible refine hq.mono ?_); rintro e w3 ⟨⟨k22, rfl⟩, hB⟩; have H3 := Lib.hid (H2.out.trans (hB.mono H2.out.size)); clear hB hq)
    | (go_at_call 36; refine (hvn _ (H3.out.trans (((((Below.refl _ _).alloc (Nat.le_refl _) _).alloc (by simp) _).alloc (by simp; omega) _).mono H3.out.size))).mono ?_; rintro e w4 ⟨vb, tb, lo, rfl, hV, hB', hb, hf⟩; have hB'' := H3.out.trans ((((((Below.refl w3.heap.size w3).alloc (Nat.le_refl _) _).alloc (by simp) _).alloc (by simp; omega) _).trans (hB'.mono (by simp; omega))).mono H3.out.size); have H4 := Lib.hid (And.intro hV (And.intro hB'' (And.intro hb hf))); clear hV hB' hB'' hb hf hvn; have hs := slabnew_any fb w4)
    | (go_at_call 38; refine hs.mono ?_; rintro e w5 ⟨⟨k5, rfl⟩, hB⟩; have H5 := Lib.hid hB; clear hB hs; have hp := pipenew_any k5 w5)
    | (go_at_call 37; refine hp.mono ?_; rintro e w6 ⟨⟨k6, rfl⟩, hB⟩; have H6 := Lib.hid (H5.out.trans (hB.mono H5.out.size)); clear hB hp; have hd := fdnew_is vb k6 w6)
    | (go_at_call 35; refine hd.mono ?_; rintro e w7 ⟨fdb, mb, rfl, hB, h1, h2, hF⟩; have H7 := Lib.hid (And.intro hB (And.intro h1 (And.intro h2 hF))); clear hB h1 h2 hF hd))
  go_returns
  obtain ⟨hV, hB4, hb, hf⟩ := H4.out
  obtain ⟨hB7, h1, h2, hF⟩ := H7.out
  have hB6 := H6.out
  have hB47 : Below w4.heap.size w4 w7 := hB6.trans (hB7.mono hB6.size)
  have hB17 : Below w1.heap.size w1 w7 := hB4.trans (hB47.mono hB4.size)
  have hB07 : Below w.heap.size w w7 := H1.out.trans (hB17.mono H1.out.size)
  obtain ⟨sb, hs, _⟩ := hV.1.cell0
  obtain ⟨l1, l2, l3⟩ := hV.lts
  have hV7 := hV.below hB47
  have z1 := H1.out.size
  have z4 := hB4.size
  have z6 := hB6.size
  have z47 := hB47.size
  have zm := HM.out.1.lt
  refine ⟨fdb, vb, tb, fb, sb, k6, mb, _, _, fun k => w.heap.size ≤ k ∧ k < w7.heap.size, rfl, lo, hV7, hB07, fun k hk => hk, fun r k hk => ⟨hb r k hk, ?_⟩, hf, hs, hF, fun k hk => ?_⟩
  · have := l2 r k hk; omega
  · have hk2 : w6.heap.size ≤ k := by
      rcases hk with rfl | rfl | ⟨i, hi⟩ | hx
      · exact h1
      · exact h2
      · cases hi
      · cases hx
    have hk3 := hF.lt hk
    exact ⟨⟨by omega, hk3⟩, fun r hr => by have := l2 r k hr; omega, by omega, by omega⟩
/-! ### the state, said again -/
theorem start_pr (S : FS) (pid : Int) (b : Nat) : (S.start pid b).pr pid = some b := if_pos rfl
theorem start_sl (S : FS) (pid : Int) (b d : Nat) : (S.start pid b).sl b d = none := by unfold FS.start; simp only; rw [upN_eq]
theorem setsl_eq (S : FS) (b d : Nat) (x : Option Nat) : (S.setsl b d x).sl b d = x := by unfold FS.setsl; simp only; rw [upN_eq, upN_eq]
theorem setsl_ne (S : FS) (b d : Nat) (x : Option Nat) {k : Nat} (h : k ≠ d) : (S.setsl b d x).sl b k = S.sl b k := by unfold FS.setsl; simp only; rw [upN_eq, upN_ne _ _ h]
theorem setth_eq (S : FS) (x : Nat) (t : Th) : (S.setth x t).th x = some t := upN_eq _ _ _
theorem setth_ne (S : FS) (x : Nat) (t : Th) {y : Nat} (h : y ≠ x) : (S.setth x t).th y = S.th y := upN_ne _ _ h
theorem put_eq' (S : FS) (b d x : Nat) (t : Th) : (S.put b d x t).sl b d = some x := setsl_eq _ _ _ _
theorem put_th' (S : FS) (b d x : Nat) (t : Th) : (S.put b d x t).th x = some t := setth_eq S x t
theorem rdv_new (w : World) (cs : List Value) (T : TypeId) : RdV (w.alloc (.cells cs.toArray T)) (some ⟨w.heap.size, 0, none⟩) cs := fun j u hj => ⟨_, rfl, by rw [add_off, (Blk.new w _ _).rd, List.getElem?_toArray]; exact hj⟩
theorem rdv_newf (w : World) (cs : List Value) (T : TypeId) (fr : Nat × Nat) : RdV (w.alloc (.cells cs.toArray T fr)) (some ⟨w.heap.size, 0, none⟩) cs := fun j u hj => ⟨_, rfl, by
  have h : (w.alloc (.cells cs.toArray T fr)).heap[w.heap.size]? = some (.cells cs.toArray T fr) := by show (w.heap.push _)[w.heap.size]? = _; simp
  rw [add_off]
  unfold World.cell?
  rw [h]
  simpa using hj⟩
theorem row_str {w : World} {a : Option Addr} {cp : Nat} {l : Txt} {gb : Option Nat} (h : RowV w 5 (.slice a l.length cp) (ucells (l.map fun c => (c.toNat : Int))) gb) : (convert 34 9 (.slice a l.length cp)).run Tryz.prog w = .ok (.string (B l)) w := by
  have e : ucells (l.map fun c => (c.toNat : Int)) = Lib.byteCells l := by unfold Lib.byteCells ucells; rw [List.map_map]; rfl
  rw [e] at h
  rcases h with ⟨hv, h0, _⟩ | ⟨g, cap, rest, hv, hb, hB, hc, hm⟩
  · simp only [Value.slice.injEq] at hv
    obtain ⟨rfl, hl, rfl⟩ := hv
    have : l = [] := List.eq_nil_of_length_eq_zero hl
    subst this
    exact run_convert_nil_bytes w _ _ _ 0 Tryz.underlying34 Tryz.underlying5 Tryz.underlying9
  · simp only [Value.slice.injEq] at hv
    obtain ⟨rfl, hl, rfl⟩ := hv
    exact run_convert_bytes_back w _ _ _ ⟨g, 0, none⟩ _ l Tryz.underlying34 Tryz.underlying5 Tryz.underlying9 (bytes_of_row (fr := (0, 0)) (cur := (Lib.byteCells l ++ rest).toArray) (T := 5) hB (by rw [List.toList_toArray, List.take_left' (Lib.byteCells_length l)]))
theorem nameA : nameE [97] = 0 := by kernel_rfl
theorem flE1 : flE 1 = false := by kernel_rfl
set_option maxRecDepth 100000 in
set_option maxHeartbeats 4000000 in
theorem k_awake [Inhabited CapT] (w : World) (hm : MC w) (hc : capI = capV 10) : Calls Tryz.prog 10 #[] w fun e w' => e = .returned (.bool true) ∧ Below w.heap.size w w' := by
  have hb := both_f w hm hc
  have HM := Lib.hid hc
  have kc := fun (w : World) (C : Array Value) (n c : Nat) => Lib.run_convert_bytes_const (P := Tryz.prog) w 34 5 C n c Tryz.underlying34 Tryz.underlying5
  clear hm hc
  go_enter Tryz.func10, Tryz.ntmps10
  go_wp2_with (first
    | (go_at_call 11; refine hb.mono ?_; rintro e w1 ⟨fdb, vb, tb, fb, sb, pb, mb, k1, k2, O1, rfl, hD1⟩; have a1 := k_start hD1 (by omega) 1 (by decide) (by omega) rfl; clear hb hD1)
    | (go_at_call 12; go_loud (refine a1.mono ?_; rintro e w2 ⟨b, -, rfl, -, O2, hD2, -⟩; have a2 := k_open hD2 (by omega) 1 (by decide) b (by simp [FS.put, FS.setth, FS.setsl, FS.start, upN]) 0 (by omega) (by simp [FS.put, FS.setth, FS.setsl, FS.start, upN]) (fun k hk => by omega) [47, 97] (by simp) 1 1 (o_new nameA 1 (by omega) (by decide)) ⟨#[47, 97]⟩ rfl; clear a1 hD2))
    | (go_at_call 13; go_loud (refine a2.mono ?_; rintro e w3 ⟨x, -, rfl, -, O3, hD3, -⟩; rw [flE1] at hD3; have hal := (Below.refl w3.heap.size w3).alloc (Nat.le_refl _) (.cells #[.int .u8 120, .int .u8 121] 5 (2, 3)); have a3 := k_write (ns2 := nsO [97] 1 [120, 121]) (hD3.below hal) 1 (by decide) b (by simp [FS.put, FS.setth, FS.setsl, FS.start, upN]) 0 x (by omega) (by simp [FS.put, FS.setth, FS.setsl, FS.start, upN]) _ (put_th' _ _ _ _ _) rfl (by decide) [120, 121] 2 2 (some ⟨w3.heap.size, 0, none⟩) rfl (by omega) ⟨_, _, rfl, by simp, fun _ => ⟨_, 0, rfl, rdv_newf w3 (ucells [120, 121]) 5 (2, 3), hD3.far (Nat.le_refl _), by simp⟩⟩ 0 (by omega) (.inl ⟨rfl, rfl⟩) (by have := o_write (x := [97]) capN (by rw [show capN = 10 from congrArg CapT.n HM.out]; omega) 1 [] [120, 121] 0 (by simp) (by simp) (by simp); rw [show writeB [] 0 [120, 121] = [120, 121] from writeB_end [] [120, 121]] at this; exact this); clear a2 hD3 hal))
    | (go_at_call 16; go_loud (refine a3.mono ?_; rintro e w4 ⟨rfl, -, O4, hD4, -⟩; have a4 := k_dup hD4 1 (by decide) b (by simp [FS.put, FS.setth, FS.setsl, FS.start, upN]) 0 x (by omega) (by simp [FS.put, FS.setth, FS.setsl, FS.start, upN]) _ (setth_eq _ _ _) (by simp) 1 (by omega) (by simp [FS.put, FS.setth, FS.setsl, FS.start, upN]) (fun k hk => by obtain rfl : k = 0 := (by omega); simp [FS.put, FS.setth, FS.setsl, FS.start, upN]); clear a3 hD4))
    | (go_at_call 20; go_loud (refine a4.mono ?_; rintro e w5 ⟨rfl, -, O5, hD5, -⟩; have a5 := k_seek hD5 1 (by decide) b (by simp [FS.put, FS.setth, FS.setsl, FS.start, upN]) 1 x (by omega) (by simp [FS.put, FS.setth, FS.setsl, FS.start, upN]) _ (setth_eq _ _ _) rfl 1 (by omega); clear a4 hD5))
    | (go_at_call 14; go_loud (refine a5.mono ?_; rintro e w6 ⟨rfl, -, O6, hD6, -⟩; have a6 := k_read hD6 1 (by decide) b (by simp [FS.put, FS.setth, FS.setsl, FS.start, upN]) 0 x (by omega) ((setsl_ne _ _ _ _ (by decide)).trans (by simp [FS.put, FS.setth, FS.setsl, FS.start, upN])) _ (setth_eq _ _ _) rfl rfl (by decide) (by simp) 5 (by omega) [121] 0 (o_read 1 [120, 121] 1 5 (by omega) (by omega)) (by simp); clear a5 hD6))
    | (go_at_call 17; go_loud (refine a6.mono ?_; rintro e w7 ⟨a, cp, gb, O7, rfl, hR, -, -, hD7, -⟩; have hcv : (convert 34 9 (.slice a 1 cp)).run Tryz.prog w7 = .ok (.string ⟨#[121]⟩) w7 := row_str (l := [121]) hR; have HD := Lib.hid hD7.bel; clear a6 hD7 hR)))
  go_ret
  exact ⟨rfl, HD.out⟩
end Go.Proofs.YtaldahogjlokkaaGreatDoor
