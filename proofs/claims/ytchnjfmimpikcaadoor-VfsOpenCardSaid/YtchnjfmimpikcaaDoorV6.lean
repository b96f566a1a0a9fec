/-
  The vfs: a new one; awake; of no vfs.
-/
import Derived.Laws.StructEq
import Derived.Test.YtchnjfmimpikcaaDoorV5
namespace Go.Proofs.YtchnjfmimpikcaaDoor
set_option linter.unusedSimpArgs false
set_option linter.unusedVariables false
open Go.RowKit Own RegJ Two
open Go.Lib hiding intOf

theorem TFr.below {lo lo' : Lo} {w w' : World} {B0 : Nat} (h : TFr lo lo' w w') (hb : ∀ r k, lo r = some k → B0 ≤ k) (hs : B0 ≤ w.heap.size) : Below B0 w w' ∧ ∀ r k, lo' r = some k → B0 ≤ k := by
  refine ⟨h.1.below hs (fun k ⟨r, hr⟩ => hb r k hr), fun r k hk => ?_⟩
  rcases h.2.1 r k hk with ⟨r', h1⟩ | h1
  · exact hb r' k h1
  · omega
/-- the library's cell is there -/
def MC (w : World) : Prop := ∃ m0, w.cell? ⟨0, 0, none⟩ = some (.int .i64 m0)
theorem MC.below {w w' : World} (h : MC w) (hB : Below w.heap.size w w') : MC w' := by
  obtain ⟨m0, h1⟩ := h
  exact ⟨m0, cell_upd (Upd.of_below (F := fun _ => False) hB) h1 (fun h => h)⟩
def VnP [Inhabited CapT] (B0 fb : Nat) (w : World) (e : Ending) (w' : World) : Prop := ∃ vb tb lo, e = .returned (.pointer (some ⟨vb, 0, none⟩)) ∧ VV w' vb tb ns0 lo 0 ∧ Below w.heap.size w w' ∧ (∀ r k, lo r = some k → B0 ≤ k) ∧ lo (.st .frm) = some fb
set_option maxRecDepth 100000 in
theorem vnew_is [Inhabited CapT] (fb bb kb n : Nat) (w : World) (hF : FrB w fb bb kb none (fs0 n)) (n1 : fb ≠ bb) (n2 : fb ≠ kb) (n3 : bb ≠ kb) (h1n : 1 ≤ n) (hc : capN = n) (hm : MC w) (B0 : Nat) (hb1 : B0 ≤ fb) (hb2 : B0 ≤ bb) (hb3 : B0 ≤ kb) (hbw : B0 ≤ w.heap.size) (hml : 0 < B0) : Calls Tryd.prog 7 #[.pointer (some ⟨fb, 0, none⟩)] w (VnP B0 fb w) := by
  have hT := tb0 w fb bb kb n w.heap.size hF n1 n2 n3 h1n hc rfl
  have hl := hF.lts
  have H := Lib.hid (And.intro hT (And.intro hl (And.intro hm (And.intro hml (And.intro hb1 (And.intro hb2 (And.intro hb3 hbw)))))))
  clear hT hl hm hF n1 n2 n3 h1n hc hml hb1 hb2 hb3 hbw
  go_enter Tryd.func7, Tryd.ntmps7
  go_wp2_with (first
    | (go_at_call 27; refine (store_new _ _).mono ?_; rintro e w' ⟨rfl, rfl⟩)
    | (go_at_call 28; refine (inode_new _ _).mono ?_; rintro e w' ⟨rfl, rfl⟩))
  go_ret
  obtain ⟨hT, hl, hm, hml, hb1, hb2, hb3, hbw⟩ := H.out
  have hB : Below w.heap.size w ((((w.alloc (.map #[] 0)).alloc (.cells #[.pointer (some ⟨fb, 0, none⟩), .map (some w.heap.size)] 90)).alloc (.cells (tab0 (w.heap.size + 1) (.pointer (some ⟨w.heap.size + 3, 0, none⟩))) 96)).alloc (.cells #[.bool true, .int .i64 0, .int .i64 0, .slice none 0 0] 73)) := ((((Below.refl _ _).alloc (Nat.le_refl _) _).alloc (by simp) _).alloc (by simp; omega) _).alloc (by simp; omega) _
  have hs4 : ((((w.alloc (.map #[] 0)).alloc (.cells #[.pointer (some ⟨fb, 0, none⟩), .map (some w.heap.size)] 90)).alloc (.cells (tab0 (w.heap.size + 1) (.pointer (some ⟨w.heap.size + 3, 0, none⟩))) 96)).alloc (.cells #[.bool true, .int .i64 0, .int .i64 0, .slice none 0 0] 73)).heap.size = w.heap.size + 4 := by simp
  have hm4 : MC ((((w.alloc (.map #[] 0)).alloc (.cells #[.pointer (some ⟨fb, 0, none⟩), .map (some w.heap.size)] 90)).alloc (.cells (tab0 (w.heap.size + 1) (.pointer (some ⟨w.heap.size + 3, 0, none⟩))) 96)).alloc (.cells #[.bool true, .int .i64 0, .int .i64 0, .slice none 0 0] 73)) := MC.below hm hB
  generalize hw4 : (((w.alloc (.map #[] 0)).alloc (.cells #[.pointer (some ⟨fb, 0, none⟩), .map (some w.heap.size)] 90)).alloc (.cells (tab0 (w.heap.size + 1) (.pointer (some ⟨w.heap.size + 3, 0, none⟩))) 96)).alloc (.cells #[.bool true, .int .i64 0, .int .i64 0, .slice none 0 0] 73) = w4 at *
  have hA : Below w4.heap.size w4 (w4.alloc (.cells #[.pointer (some ⟨w.heap.size + 1, 0, none⟩), .pointer (some ⟨w.heap.size + 2, 0, none⟩)] 64)) := (Below.refl _ _).alloc (Nat.le_refl _) _
  have hlo : ∀ r k, lo0 w.heap.size fb bb kb r = some k → B0 ≤ k ∧ k < w.heap.size + 4 := fun r k hk => by
    cases r with
    | tab => simp [lo0] at hk; omega
    | node i => simp [lo0] at hk; omega
    | ents i => simp [lo0] at hk
    | st q =>
      have := lo0_st (s := w.heap.size) (fb := fb) (bb := bb) (kb := kb) (r := q) (k := k) hk
      omega
  have hbv := Blk.new w4 #[.pointer (some ⟨w.heap.size + 1, 0, none⟩), .pointer (some ⟨w.heap.size + 2, 0, none⟩)] 64
  rw [hs4] at hbv
  refine ⟨w.heap.size + 4, w.heap.size + 2, lo0 w.heap.size fb bb kb, by first | rfl | (rw [hs4]), ⟨⟨⟨_, rfl, hbv⟩, hT.below hA, fun r hr => ?_, hm4.below hA, fun r hr => ?_⟩, IV.zero⟩, hB.trans (hA.mono hB.size), fun r k hk => (hlo r k hk).1, rfl⟩
  · have := hlo r _ hr; omega
  · have := hlo r _ hr; omega
theorem MC.lt {w : World} (h : MC w) : 0 < w.heap.size := by
  obtain ⟨m0, h1⟩ := h
  exact cell_lt' h1
/-! ### awake -/
abbrev pD : Txt := [47, 100]
abbrev pDF : Txt := [47, 100, 47, 102]
def nsA : NSt := (atPar ns0 pD (mkdirF ns0)).2
theorem va1 : atPar ns0 pD (mkdirF ns0) = (0, nsA) := Prod.ext (by decide +kernel) rfl
def nsB : NSt := (newF nsA pDF).2.2
theorem va2 : walkR nsA pDF = (0, 9) := by decide +kernel
theorem va3 : newF nsA pDF = (2, 0, nsB) := Prod.ext (by decide +kernel) (Prod.ext (by decide +kernel) rfl)
theorem va4 : walkR nsB pD = (1, 0) := by decide +kernel
theorem va5 : ndAt nsB 1 = some ⟨true, 1, 0, [([102], 2)], []⟩ := by kernel_rfl
def nsC : NSt := (atPar nsB pD (fun d nm => remF nsB d nm true 11)).2
theorem va6 : atPar nsB pD (fun d nm => remF nsB d nm true 11) = (13, nsC) := Prod.ext (by decide +kernel) rfl
def AwP (w : World) (e : Ending) (w' : World) : Prop := e = .returned (.bool true) ∧ Below w.heap.size w w'
set_option maxRecDepth 100000 in
theorem vawake (w : World) (hm : MC w) : Calls Tryd.prog 16 #[] w (AwP w) := by
  letI : Inhabited CapT := capOf 8
  have hfn : Calls Tryd.prog 6 #[.int .i64 8] w (FNewP w 8) := fnew_is 8 (by omega) (by omega) w
  have HM := Lib.hid hm
  clear hm
  go_enter Tryd.func16, Tryd.ntmps16
  go_wp2_with (first
    | (go_at_call 6; (with_reducible refine hfn.mono ?_); rintro e w1 ⟨fb, bb, kb, rfl, hFr, hB, g1, g2, g3, g4, g5, g6⟩; have hn := vnew_is fb bb kb 8 w1 hFr g4 g5 g6 (by omega) rfl (HM.out.below hB) w.heap.size g1 g2 g3 hB.size HM.out.lt; have H1 := Lib.hid hB; clear hB hFr g1 g2 g3 g4 g5 g6 hfn)
    | (go_at_call 7; (with_reducible refine hn.mono ?_); rintro e w2 ⟨vb, tb, lo, rfl, hV, hB, hb, -⟩; have hmk := Mkdir_is hV (by omega) pD (by simp) 0 nsA va1; have H2 := Lib.hid (And.intro (H1.out.trans (hB.mono H1.out.size)) hb); clear hn hV hB hb)
    | (go_at_call 9; refine hmk.mono ?_; rintro e w3 ⟨rfl, lo3, hV, hF⟩; obtain ⟨b1, b2⟩ := hF.below H2.out.2 H2.out.1.size; have hop := open_new hV (by omega) pDF (by simp) va2 2 0 nsB va3; have H3 := Lib.hid (And.intro (H2.out.1.trans b1) b2); clear hmk hV hF b1 b2)
    | (go_at_call 10; refine hop.mono ?_; rintro e w4 ⟨rfl, lo4, hV, hF⟩; obtain ⟨b1, b2⟩ := hF.below H3.out.2 H3.out.1.size; have hst := stat_yes hV pD (by simp) 1 va4 _ va5; have H4 := Lib.hid (And.intro (H3.out.1.trans b1) (And.intro b2 hV)); clear hop hV hF b1 b2)
    | (go_at_call 18; refine hst.mono ?_; rintro e w5 ⟨rfl, hB⟩; have hV5 := H4.out.2.2.below hB; have hb5 := H4.out.1.trans (hB.mono H4.out.1.size); have hal : Below w5.heap.size w5 (w5.alloc (.cells #[.int .i64 1, .int .i64 1, .bool true, .int .i64 1] 40)) := (Below.refl _ _).alloc (Nat.le_refl _) _; have hrm := Rmdir_is (hV5.below hal) (by omega) pD (by simp) 13 nsC va6; have c5 := (Blk.new w5 #[.int .i64 1, .int .i64 1, .bool true, .int .i64 1] 40).rd; have H5 := Lib.hid (hb5.trans (hal.mono hb5.size)); clear hst hV5 hB hb5 hal)
    | (go_at_call 13; refine hrm.mono ?_; rintro e w6 ⟨rfl, lo6, hV, hF⟩; obtain ⟨b1, b2⟩ := hF.below H4.out.2.1 H5.out.size; have H6 := Lib.hid (H5.out.trans b1); clear hrm hV hF b1 b2))
  go_ret
  exact ⟨rfl, H6.out⟩
/-! ### of none -/
section none
variable (w : World)
theorem z_walk (s : ByteArray) : Calls Tryd.prog 17 #[.pointer none, .string s] w fun e w' => e = .returned (.tuple #[.int .i64 0, .int .i64 1]) ∧ w = w' := by
  go_enter Tryd.func17, Tryd.ntmps17
  go_wp2
  go_returns
  exact ⟨rfl, rfl⟩
theorem z_open (s : ByteArray) (n : Int) : Calls Tryd.prog 10 #[.pointer none, .string s, .int .i64 n] w fun e w' => e = .returned (.tuple #[.int .i64 0, .int .i64 1]) ∧ Below w.heap.size w w' := by
  have hB : Below w.heap.size w (w.alloc (.cells #[.pointer none] 26)) := (Below.refl _ _).alloc (Nat.le_refl _) _
  have c0 := (Blk.new w #[.pointer none] 26).rd
  go_enter Tryd.func10, Tryd.ntmps10
  go_wp2
  go_returns
  exact ⟨rfl, hB⟩
theorem z_list (s : ByteArray) : Calls Tryd.prog 19 #[.pointer none, .string s] w fun e w' => e = .returned (.tuple #[.slice none 0 0, .int .i64 1]) ∧ w = w' := by
  have hw := z_walk w s
  go_enter Tryd.func19, Tryd.ntmps19
  go_wp2_with (go_at_call 17; refine hw.mono ?_; rintro e w1 ⟨rfl, rfl⟩)
  go_returns
  exact ⟨rfl, rfl⟩
theorem z_link (s t : ByteArray) : Calls Tryd.prog 20 #[.pointer none, .string s, .string t] w fun e w' => e = .returned (.int .i64 1) ∧ Below w.heap.size w w' := by
  have hB : Below w.heap.size w ((w.alloc (.cells #[.pointer none] 26)).alloc (.cells #[.int .i64 0] 3)) := ((Below.refl _ _).alloc (Nat.le_refl _) _).alloc (by simp) _
  have c0 := (Blk.new w #[.pointer none] 26).rd
  have hw := z_walk (w.alloc (.cells #[.pointer none] 26)) s
  go_enter Tryd.func20, Tryd.ntmps20
  go_wp2_with (go_at_call 17; refine hw.mono ?_; rintro e w1 ⟨rfl, rfl⟩)
  go_returns
  exact ⟨rfl, hB⟩
theorem z_nodes : Calls Tryd.prog 11 #[.pointer none] w fun e w' => e = .returned (.pointer none) ∧ w = w' := by
  go_enter Tryd.func11, Tryd.ntmps11
  go_wp2
  go_returns
  exact ⟨rfl, rfl⟩
theorem z_store : Calls Tryd.prog 21 #[.pointer none] w fun e w' => e = .returned (.pointer none) ∧ w = w' := by
  go_enter Tryd.func21, Tryd.ntmps21
  go_wp2
  go_returns
  exact ⟨rfl, rfl⟩
theorem z_Mkdir (s : ByteArray) : Calls Tryd.prog 9 #[.pointer none, .string s] w fun e w' => e = .returned (.int .i64 1) ∧ w = w' := by
  go_enter Tryd.func9, Tryd.ntmps9
  go_wp2_with (go_in)
  go_ret
  exact ⟨rfl, rfl⟩
theorem z_Unlink (s : ByteArray) : Calls Tryd.prog 14 #[.pointer none, .string s] w fun e w' => e = .returned (.int .i64 1) ∧ w = w' := by
  go_enter Tryd.func14, Tryd.ntmps14
  go_wp2_with (go_in)
  go_ret
  exact ⟨rfl, rfl⟩
theorem z_Rmdir (s : ByteArray) : Calls Tryd.prog 13 #[.pointer none, .string s] w fun e w' => e = .returned (.int .i64 1) ∧ w = w' := by
  go_enter Tryd.func13, Tryd.ntmps13
  go_wp2_with (go_in)
  go_ret
  exact ⟨rfl, rfl⟩
theorem z_stat (s : ByteArray) : Calls Tryd.prog 18 #[.pointer none, .string s] w fun e w' => e = .returned (.tuple #[.agg in0, .int .i64 1]) ∧ Below w.heap.size w w' := by
  have hw := z_walk (w.alloc (.cells in0 40)) s
  have hb0 := Blk.new w in0 40
  have hB0 : Below w.heap.size w (w.alloc (.cells in0 40)) := (Below.refl _ _).alloc (Nat.le_refl _) _
  unfold in0 at *
  have f0 := hb0.nf
  have c0 := hb0.rd
  go_enter Tryd.func18, Tryd.ntmps18
  go_wp2_with (go_at_call 17; refine hw.mono ?_; rintro e w1 ⟨rfl, rfl⟩)
  try simp only [Exit.inBlock, Exit.then]
  refine bodyPost_ret (by simp [results, Tryd.results18, go_sem, c0]; try rfl) rfl ?_
  exact ⟨rfl, hB0⟩
end none
set_option maxRecDepth 100000 in
set_option maxHeartbeats 1000000 in
theorem none_walk (s : ByteArray) (n : Int) (w : World) (hs : s.size ≤ maxLen) (m0 : Int) (hm0 : w.cell? ⟨0, 0, none⟩ = some (.int .i64 m0)) : Calls Tryd.prog 4 #[.string s, .int .i64 n] w (AwP w) := by
  have HM := Lib.hid (show MC w from ⟨m0, hm0⟩)
  clear hm0
  unfold maxLen at hs
  by_cases h200 : 200 < s.size
  · have d1 : decide ((s.size : Int) > 200) = true := by simp; omega
    have d1n : decide (s.size > 200) = true := by simpa using h200
    have haw := vawake w HM.out
    clear hs h200
    go_enter Tryd.func4, Tryd.ntmps4
    go_wp2_with (go_at_call 16; (with_reducible refine haw.mono ?_); rintro e w1 ⟨rfl, hB⟩; have H1 := Lib.hid hB; clear hB haw)
    go_ret
    exact ⟨rfl, H1.out⟩
  · have d1 : decide ((s.size : Int) > 200) = false := by simp; omega
    have d1n : decide (s.size > 200) = false := by simp; omega
    clear hs h200
    go_enter Tryd.func4, Tryd.ntmps4
    go_wp2_with (first
      | (go_at_call 17; refine (z_walk _ _).mono ?_; rintro e w1 ⟨rfl, rfl⟩)
      | (go_at_call 10; refine (z_open _ _ _).mono ?_; rintro e w1 ⟨rfl, hB⟩; have H1 := Lib.hid hB; clear hB)
      | (go_at_call 18; refine (z_stat _ _).mono ?_; rintro e w2 ⟨rfl, hB⟩; have hb := H1.out.trans (hB.mono H1.out.size); have H2 := Lib.hid (hb.alloc hb.size (.cells in0 40)); have c5 := (Blk.new w2 in0 40).rd; unfold in0 at c5; clear hB hb)
      | (go_at_call 19; refine (z_list _ _).mono ?_; rintro e w3 ⟨rfl, rfl⟩)
      | (go_at_call 20; refine (z_link _ _ _).mono ?_; rintro e w4 ⟨rfl, hB⟩; have H4 := Lib.hid (H2.out.trans (hB.mono H2.out.size)); clear hB)
      | (go_at_call 14; refine (z_Unlink _ _).mono ?_; rintro e w5 ⟨rfl, rfl⟩)
      | (go_at_call 9; refine (z_Mkdir _ _).mono ?_; rintro e w5 ⟨rfl, rfl⟩)
      | (go_at_call 13; refine (z_Rmdir _ _).mono ?_; rintro e w5 ⟨rfl, rfl⟩)
      | (go_at_call 11; refine (z_nodes _).mono ?_; rintro e w5 ⟨rfl, rfl⟩)
      | (go_at_call 21; refine (z_store _).mono ?_; rintro e w5 ⟨rfl, rfl⟩; have haw := vawake w4 (HM.out.below H4.out))
      | (go_at_call 16; (with_reducible refine haw.mono ?_); rintro e w7 ⟨rfl, hB⟩; have H7 := Lib.hid (H4.out.trans (hB.mono H4.out.size)); clear hB haw))
    go_ret
    exact ⟨rfl, H7.out⟩
end Go.Proofs.YtchnjfmimpikcaaDoor
