/-
  An act of both tables: the walk of 'done'.
-/
import Derived.Test.YtapkdaccbojbgaaIPair
import Derived.Test.YtapkdaccbojbgaaJone
import Derived.BigQuiet
namespace Go.Proofs.Ytapkdaccbojbgaa
set_option linter.unusedSimpArgs false
set_option linter.unusedVariables false
open Go.RowKit Own Two Pair
open RegJ hiding Up
open RegF hiding put_size
open Go.Lib hiding intOf

theorem num_is (e : Int) (w : World) : Calls Try.prog 39 #[.int .i64 e] w fun r w' => r = .returned (.int .i64 e) ∧ w = w' := by
  go_enter Try.func39, Try.ntmps39
  go_wp2
  go_ret
  exact ⟨rfl, rfl⟩
/-- both tables, and the act -/
def Dn (W : World) (tb rb bx : Nat) (cs : Array Value) (ns1 ns2 : NSt) (c1 c2 : Nat) (w : World) : Prop := Pair.Two W w (TPa tb ns1 c1) (RPa rb ns2 c2) (fun k => k = bx) ∧ Blk w bx cs 49
def DnP (v : Value) (W : World) (tb rb bx : Nat) (cs : Array Value) (ns1 ns2 : NSt) (c1 c2 : Nat) (e : Ending) (w' : World) : Prop := e = .returned v ∧ Dn W tb rb bx cs ns1 ns2 c1 c2 w'
section
variable {W w w' : World} {tb rb bx : Nat} {cs : Array Value} {ns1 ns2 ns1' ns2' : NSt} {c1 c2 c1' c2' : Nat} {f : FuncId} {args : Array Value} {v : Value}
theorem dn_l (h : Dn W tb rb bx cs ns1 ns2 c1 c2 w) (hc : ∀ O, (TPa tb ns1 c1).at' w O → Calls Try.prog f args w (PS tb v ns1' c1' O w)) : Calls Try.prog f args w (DnP v W tb rb bx cs ns1' ns2 c1' c2) := by
  refine (h.1.left (Q := fun e => e = .returned v) hc).mono ?_
  rintro e w' ⟨rfl, h2, h3⟩
  exact ⟨rfl, h2, Blk.upd h3 h.2 (fun hn => hn rfl)⟩
theorem dn_r (h : Dn W tb rb bx cs ns1 ns2 c1 c2 w) (hc : ∀ O, (RPa rb ns2 c2).at' w O → Calls Try.prog f args w (QS rb v ns2' c2' O w)) : Calls Try.prog f args w (DnP v W tb rb bx cs ns1 ns2' c1 c2') := by
  refine (h.1.right (Q := fun e => e = .returned v) hc).mono ?_
  rintro e w' ⟨rfl, h2, h3⟩
  exact ⟨rfl, h2, Blk.upd h3 h.2 (fun hn => hn rfl)⟩
theorem Dn.below (h : Dn W tb rb bx cs ns1 ns2 c1 c2 w) (hB : Below w.heap.size w w') : Dn W tb rb bx cs ns1 ns2 c1 c2 w' := ⟨h.1.below hB, Blk.below hB h.2 h.2.lt⟩
theorem Dn.drewN (h : Dn W tb rb bx cs ns1 ns2 c1 c2 w) (n : Nat) : Dn W tb rb bx cs ns1 ns2 c1 c2 (w.drewN n) := ⟨h.1.drewN n, Blk.upd ((Upd.refl (fun _ => False) w).drewN n) h.2 (fun h => h)⟩
theorem Dn.rd (h : Dn W tb rb bx cs ns1 ns2 c1 c2 w) : ∀ i, w.cell? ⟨bx, i, none⟩ = cs[i]? := h.2.rd
end
def DoneP (W : World) (tb rb : Nat) (c : Nat) (e : Ending) (w' : World) : Prop := e = .returned (.bool true) ∧ ∃ ns', IV ns' (c + 1) ∧ Pair.Two W w' (TPa tb ns' (c + 1)) (RPa rb ns' (c + 1)) (fun _ => False)
theorem Dn.fin {W w : World} {tb rb bx c : Nat} {cs : Array Value} {ns' : NSt} (h : Dn W tb rb bx cs ns' ns' (c + 1) (c + 1) w) (hV : IV ns' (c + 1)) : DoneP W tb rb c (.returned (.bool true)) w := ⟨rfl, ns', hV, h.1.less (fun k h => h.elim)⟩
section
variable {W w : World} {tb rb : Nat} {ns : NSt} {c : Nat}
set_option maxRecDepth 100000 in
set_option maxHeartbeats 4000000 in
theorem done_open (hV : IV ns c) (hc : c ≤ 90) (h : Pair.Two W w (TPa tb ns c) (RPa rb ns c) (fun _ => False)) (id dir : Int) (nm : Txt) (isd : Bool) :
    Calls Try.prog 17 #[.pointer (some ⟨tb, 0, none⟩), .pointer (some ⟨rb, 0, none⟩), .agg #[.int .i64 1, .int .i64 id, .int .i64 dir, .string (B nm), .bool isd]] w (DoneP W tb rb c) := by
  have HM : Hid (Dn W tb rb w.heap.size #[.int .i64 1, .int .i64 id, .int .i64 dir, .string (B nm), .bool isd] ns ns c c (w.alloc (.cells #[.int .i64 1, .int .i64 id, .int .i64 dir, .string (B nm), .bool isd] 49))) := Lib.hid ⟨(h.new _).less (fun k hk => Or.inr hk), Blk.new _ _ _⟩
  have HV := Lib.hid hV
  clear hV h
  obtain ⟨s, hs⟩ : ∃ s, B nm = s := ⟨_, rfl⟩
  rw [hs] at HM ⊢
  have HS := Lib.hid hs
  clear hs
  go_enter Try.func17, Try.ntmps17
  go_upto_region 1 with (fail)
  have c1 := (HM.out.2).rd
  generalize w.alloc (.cells #[.int .i64 1, .int .i64 id, .int .i64 dir, .string s, .bool isd] 49) = wx at HM c1 ⊢
  generalize w.heap.size = bx at HM c1 ⊢
  try clear w
  go_wp2_with (fail)
  clear c1
  refine region_J (JJ 3 8 (fun a b w1 => Dn W tb rb bx #[.int .i64 1, .int .i64 id, .int .i64 dir, .string s, .bool isd] (Sel a (stOpen ns id).2 ns) (Sel b (stOpen ns id).2 ns) (Sel a (c + 1) c) (Sel b (c + 1) c) w1)) (by kernel_rfl) (by kernel_rfl) ?_ ?_
  · exact HM.out.drewN 1
  · iterate 11
      apply wpJ_op rfl (by rfl)
      · intro f w1 hf hJ Q1 hQ
        have c1 := ((show Dn W tb rb bx #[.int .i64 1, .int .i64 id, .int .i64 dir, .string s, .bool isd] (Sel (f 3) (stOpen ns id).2 ns) (Sel (f 8) (stOpen ns id).2 ns) (Sel (f 3) (c + 1) c) (Sel (f 8) (c + 1) c) w1 from hJ).2).rd
        simp only [Act.put, List.setIfInBounds_toArray, List.set_cons_zero, List.set_cons_succ] at hQ
        go_wp2_with (first
          | (go_at_call 20; refine (dn_l (JJ.one hJ hf.1) (fun O hO => p_open HV.out hc hO id)).mono ?_; rintro e w3 ⟨rfl, hM3⟩)
          | (go_at_call 40; refine (dn_r (JJ.two hJ hf.1) (fun O hO => q_open HV.out hc hO id)).mono ?_; rintro e w3 ⟨rfl, hM3⟩)
          | (go_at_call 39; refine (num_is _ _).mono ?_; rintro e w3 ⟨rfl, rfl⟩))
        first
          | exact hQ _ _ rfl (hJ.other (by decide) (by decide))
          | exact hQ _ _ rfl (JJ.fin1 hM3 (by decide))
          | exact hQ _ _ rfl (JJ.fin2 hM3 (by decide))
      simp only [Act.put, List.setIfInBounds_toArray, List.set_cons_zero, List.set_cons_succ]
    refine wpJ_nil ?_
    intro w3 hJ3
    have hM3 : Dn W tb rb bx #[.int .i64 1, .int .i64 id, .int .i64 dir, .string s, .bool isd] (stOpen ns id).2 (stOpen ns id).2 (c + 1) (c + 1) w3 := hJ3.over rfl rfl
    clear hJ3
    have HM3 := Lib.hid hM3
    clear hM3
    go_wp2_with (fail)
    go_ret
    have := Dn.fin HM3.out (HV.out.stOpen id)
    simpa using this
set_option maxRecDepth 100000 in
set_option maxHeartbeats 4000000 in
theorem done_close (hV : IV ns c) (hc : c ≤ 90) (h : Pair.Two W w (TPa tb ns c) (RPa rb ns c) (fun _ => False)) (id dir : Int) (nm : Txt) (isd : Bool) :
    Calls Try.prog 17 #[.pointer (some ⟨tb, 0, none⟩), .pointer (some ⟨rb, 0, none⟩), .agg #[.int .i64 2, .int .i64 id, .int .i64 dir, .string (B nm), .bool isd]] w (DoneP W tb rb c) := by
  have HM : Hid (Dn W tb rb w.heap.size #[.int .i64 2, .int .i64 id, .int .i64 dir, .string (B nm), .bool isd] ns ns c c (w.alloc (.cells #[.int .i64 2, .int .i64 id, .int .i64 dir, .string (B nm), .bool isd] 49))) := Lib.hid ⟨(h.new _).less (fun k hk => Or.inr hk), Blk.new _ _ _⟩
  have HV := Lib.hid hV
  clear hV h
  obtain ⟨s, hs⟩ : ∃ s, B nm = s := ⟨_, rfl⟩
  rw [hs] at HM ⊢
  have HS := Lib.hid hs
  clear hs
  go_enter Try.func17, Try.ntmps17
  go_upto_region 1 with (fail)
  have c1 := (HM.out.2).rd
  generalize w.alloc (.cells #[.int .i64 2, .int .i64 id, .int .i64 dir, .string s, .bool isd] 49) = wx at HM c1 ⊢
  generalize w.heap.size = bx at HM c1 ⊢
  try clear w
  go_wp2_with (fail)
  clear c1
  refine region_J (JJ 3 8 (fun a b w1 => Dn W tb rb bx #[.int .i64 2, .int .i64 id, .int .i64 dir, .string s, .bool isd] (Sel a (stClose ns id).2 ns) (Sel b (stClose ns id).2 ns) (Sel a (c + 1) c) (Sel b (c + 1) c) w1)) (by kernel_rfl) (by kernel_rfl) ?_ ?_
  · exact HM.out.drewN 1
  · iterate 11
      apply wpJ_op rfl (by rfl)
      · intro f w1 hf hJ Q1 hQ
        have c1 := ((show Dn W tb rb bx #[.int .i64 2, .int .i64 id, .int .i64 dir, .string s, .bool isd] (Sel (f 3) (stClose ns id).2 ns) (Sel (f 8) (stClose ns id).2 ns) (Sel (f 3) (c + 1) c) (Sel (f 8) (c + 1) c) w1 from hJ).2).rd
        simp only [Act.put, List.setIfInBounds_toArray, List.set_cons_zero, List.set_cons_succ] at hQ
        go_wp2_with (first
          | (go_at_call 21; refine (dn_l (JJ.one hJ hf.1) (fun O hO => p_close HV.out hc hO id)).mono ?_; rintro e w3 ⟨rfl, hM3⟩)
          | (go_at_call 41; refine (dn_r (JJ.two hJ hf.1) (fun O hO => q_close HV.out hc hO id)).mono ?_; rintro e w3 ⟨rfl, hM3⟩)
          | (go_at_call 39; refine (num_is _ _).mono ?_; rintro e w3 ⟨rfl, rfl⟩))
        first
          | exact hQ _ _ rfl (hJ.other (by decide) (by decide))
          | exact hQ _ _ rfl (JJ.fin1 hM3 (by decide))
          | exact hQ _ _ rfl (JJ.fin2 hM3 (by decide))
      simp only [Act.put, List.setIfInBounds_toArray, List.set_cons_zero, List.set_cons_succ]
    refine wpJ_nil ?_
    intro w3 hJ3
    have hM3 : Dn W tb rb bx #[.int .i64 2, .int .i64 id, .int .i64 dir, .string s, .bool isd] (stClose ns id).2 (stClose ns id).2 (c + 1) (c + 1) w3 := hJ3.over rfl rfl
    clear hJ3
    have HM3 := Lib.hid hM3
    clear hM3
    go_wp2_with (fail)
    go_ret
    have := Dn.fin HM3.out (HV.out.stClose id)
    simpa using this
set_option maxRecDepth 100000 in
set_option maxHeartbeats 4000000 in
theorem done_enter (hV : IV ns c) (hc : c ≤ 90) (h : Pair.Two W w (TPa tb ns c) (RPa rb ns c) (fun _ => False)) (id dir : Int) (nm : Txt) (isd : Bool) :
    Calls Try.prog 17 #[.pointer (some ⟨tb, 0, none⟩), .pointer (some ⟨rb, 0, none⟩), .agg #[.int .i64 3, .int .i64 id, .int .i64 dir, .string (B nm), .bool isd]] w (DoneP W tb rb c) := by
  have HM : Hid (Dn W tb rb w.heap.size #[.int .i64 3, .int .i64 id, .int .i64 dir, .string (B nm), .bool isd] ns ns c c (w.alloc (.cells #[.int .i64 3, .int .i64 id, .int .i64 dir, .string (B nm), .bool isd] 49))) := Lib.hid ⟨(h.new _).less (fun k hk => Or.inr hk), Blk.new _ _ _⟩
  have HV := Lib.hid hV
  clear hV h
  obtain ⟨s, hs⟩ : ∃ s, B nm = s := ⟨_, rfl⟩
  rw [hs] at HM ⊢
  have HS := Lib.hid hs
  clear hs
  go_enter Try.func17, Try.ntmps17
  go_upto_region 1 with (fail)
  have c1 := (HM.out.2).rd
  generalize w.alloc (.cells #[.int .i64 3, .int .i64 id, .int .i64 dir, .string s, .bool isd] 49) = wx at HM c1 ⊢
  generalize w.heap.size = bx at HM c1 ⊢
  try clear w
  go_wp2_with (fail)
  clear c1
  refine region_J (JJ 7 16 (fun a b w1 => Dn W tb rb bx #[.int .i64 3, .int .i64 id, .int .i64 dir, .string s, .bool isd] (Sel a (stEnter ns dir nm id).2 ns) (Sel b (stEnter ns dir nm id).2 ns) (Sel a (c + 1) c) (Sel b (c + 1) c) w1)) (by kernel_rfl) (by kernel_rfl) ?_ ?_
  · exact HM.out.drewN 1
  · iterate 19
      apply wpJ_op rfl (by rfl)
      · intro f w1 hf hJ Q1 hQ
        have c1 := ((show Dn W tb rb bx #[.int .i64 3, .int .i64 id, .int .i64 dir, .string s, .bool isd] (Sel (f 7) (stEnter ns dir nm id).2 ns) (Sel (f 16) (stEnter ns dir nm id).2 ns) (Sel (f 7) (c + 1) c) (Sel (f 16) (c + 1) c) w1 from hJ).2).rd
        simp only [Act.put, List.setIfInBounds_toArray, List.set_cons_zero, List.set_cons_succ] at hQ
        go_wp2_with (first
          | (go_at_call 10; refine (dn_l (JJ.one hJ hf.1) (fun O hO => (by rw [← HS.out]; exact p_enter HV.out hc hO dir nm id))).mono ?_; rintro e w3 ⟨rfl, hM3⟩)
          | (go_at_call 42; refine (dn_r (JJ.two hJ hf.1) (fun O hO => (by rw [← HS.out]; exact q_enter HV.out hc hO dir nm id))).mono ?_; rintro e w3 ⟨rfl, hM3⟩)
          | (go_at_call 39; refine (num_is _ _).mono ?_; rintro e w3 ⟨rfl, rfl⟩))
        first
          | exact hQ _ _ rfl (hJ.other (by decide) (by decide))
          | exact hQ _ _ rfl (JJ.fin1 hM3 (by decide))
          | exact hQ _ _ rfl (JJ.fin2 hM3 (by decide))
      simp only [Act.put, List.setIfInBounds_toArray, List.set_cons_zero, List.set_cons_succ]
    refine wpJ_nil ?_
    intro w3 hJ3
    have hM3 : Dn W tb rb bx #[.int .i64 3, .int .i64 id, .int .i64 dir, .string s, .bool isd] (stEnter ns dir nm id).2 (stEnter ns dir nm id).2 (c + 1) (c + 1) w3 := hJ3.over rfl rfl
    clear hJ3
    have HM3 := Lib.hid hM3
    clear hM3
    go_wp2_with (fail)
    go_ret
    have := Dn.fin HM3.out (HV.out.stEnter dir nm id)
    simpa using this
set_option maxRecDepth 100000 in
set_option maxHeartbeats 4000000 in
theorem done_rem (hV : IV ns c) (hc : c ≤ 90) (h : Pair.Two W w (TPa tb ns c) (RPa rb ns c) (fun _ => False)) (id dir : Int) (nm : Txt) (isd : Bool) :
    Calls Try.prog 17 #[.pointer (some ⟨tb, 0, none⟩), .pointer (some ⟨rb, 0, none⟩), .agg #[.int .i64 4, .int .i64 id, .int .i64 dir, .string (B nm), .bool isd]] w (DoneP W tb rb c) := by
  have HM : Hid (Dn W tb rb w.heap.size #[.int .i64 4, .int .i64 id, .int .i64 dir, .string (B nm), .bool isd] ns ns c c (w.alloc (.cells #[.int .i64 4, .int .i64 id, .int .i64 dir, .string (B nm), .bool isd] 49))) := Lib.hid ⟨(h.new _).less (fun k hk => Or.inr hk), Blk.new _ _ _⟩
  have HV := Lib.hid hV
  clear hV h
  obtain ⟨s, hs⟩ : ∃ s, B nm = s := ⟨_, rfl⟩
  rw [hs] at HM ⊢
  have HS := Lib.hid hs
  clear hs
  go_enter Try.func17, Try.ntmps17
  go_upto_region 1 with (fail)
  have c1 := (HM.out.2).rd
  generalize w.alloc (.cells #[.int .i64 4, .int .i64 id, .int .i64 dir, .string s, .bool isd] 49) = wx at HM c1 ⊢
  generalize w.heap.size = bx at HM c1 ⊢
  try clear w
  go_wp2_with (fail)
  clear c1
  refine region_J (JJ 5 12 (fun a b w1 => Dn W tb rb bx #[.int .i64 4, .int .i64 id, .int .i64 dir, .string s, .bool isd] (Sel a (stRem ns dir nm).2 ns) (Sel b (stRem ns dir nm).2 ns) (Sel a (c + 1) c) (Sel b (c + 1) c) w1)) (by kernel_rfl) (by kernel_rfl) ?_ ?_
  · exact HM.out.drewN 1
  · iterate 15
      apply wpJ_op rfl (by rfl)
      · intro f w1 hf hJ Q1 hQ
        have c1 := ((show Dn W tb rb bx #[.int .i64 4, .int .i64 id, .int .i64 dir, .string s, .bool isd] (Sel (f 5) (stRem ns dir nm).2 ns) (Sel (f 12) (stRem ns dir nm).2 ns) (Sel (f 5) (c + 1) c) (Sel (f 12) (c + 1) c) w1 from hJ).2).rd
        simp only [Act.put, List.setIfInBounds_toArray, List.set_cons_zero, List.set_cons_succ] at hQ
        go_wp2_with (first
          | (go_at_call 14; refine (dn_l (JJ.one hJ hf.1) (fun O hO => (by rw [← HS.out]; exact p_rem HV.out hc hO dir nm))).mono ?_; rintro e w3 ⟨rfl, hM3⟩)
          | (go_at_call 43; refine (dn_r (JJ.two hJ hf.1) (fun O hO => (by rw [← HS.out]; exact q_rem HV.out hc hO dir nm))).mono ?_; rintro e w3 ⟨rfl, hM3⟩)
          | (go_at_call 39; refine (num_is _ _).mono ?_; rintro e w3 ⟨rfl, rfl⟩))
        first
          | exact hQ _ _ rfl (hJ.other (by decide) (by decide))
          | exact hQ _ _ rfl (JJ.fin1 hM3 (by decide))
          | exact hQ _ _ rfl (JJ.fin2 hM3 (by decide))
      simp only [Act.put, List.setIfInBounds_toArray, List.set_cons_zero, List.set_cons_succ]
    refine wpJ_nil ?_
    intro w3 hJ3
    have hM3 : Dn W tb rb bx #[.int .i64 4, .int .i64 id, .int .i64 dir, .string s, .bool isd] (stRem ns dir nm).2 (stRem ns dir nm).2 (c + 1) (c + 1) w3 := hJ3.over rfl rfl
    clear hJ3
    have HM3 := Lib.hid hM3
    clear hM3
    go_wp2_with (fail)
    go_ret
    have := Dn.fin HM3.out (HV.out.stRem dir nm)
    simpa using this
set_option maxRecDepth 100000 in
set_option maxHeartbeats 4000000 in
theorem done_make (hV : IV ns c) (hc : c ≤ 90) (h : Pair.Two W w (TPa tb ns c) (RPa rb ns c) (fun _ => False)) (id dir : Int) (nm : Txt) (isd : Bool) :
    Calls Try.prog 17 #[.pointer (some ⟨tb, 0, none⟩), .pointer (some ⟨rb, 0, none⟩), .agg #[.int .i64 0, .int .i64 id, .int .i64 dir, .string (B nm), .bool isd]] w (DoneP W tb rb c) := by
  have HM : Hid (Dn W tb rb w.heap.size #[.int .i64 0, .int .i64 id, .int .i64 dir, .string (B nm), .bool isd] ns ns c c (w.alloc (.cells #[.int .i64 0, .int .i64 id, .int .i64 dir, .string (B nm), .bool isd] 49))) := Lib.hid ⟨(h.new _).less (fun k hk => Or.inr hk), Blk.new _ _ _⟩
  have HV := Lib.hid hV
  clear hV h
  obtain ⟨s, hs⟩ : ∃ s, B nm = s := ⟨_, rfl⟩
  rw [hs] at HM ⊢
  have HS := Lib.hid hs
  clear hs
  go_enter Try.func17, Try.ntmps17
  go_upto_region 1 with (fail)
  have c1 := (HM.out.2).rd
  generalize w.alloc (.cells #[.int .i64 0, .int .i64 id, .int .i64 dir, .string s, .bool isd] 49) = wx at HM c1 ⊢
  generalize w.heap.size = bx at HM c1 ⊢
  try clear w
  obtain ⟨r, hr⟩ := freeI_ex ns
  have HR := Lib.hid hr
  clear hr
  have hmk := dn_l HM.out (fun O hO => p_make hc hO isd r HR.out)
  obtain ⟨st, hst⟩ : ∃ st, stMake ns isd r = st := ⟨_, rfl⟩
  have HST := Lib.hid hst
  rw [hst] at hmk
  clear hst
  obtain ⟨s1, s2, s3⟩ := st
  go_upto_region 5 with (first
    | (go_at_call 9; (with_reducible refine hmk.mono ?_); rintro e w2 ⟨rfl, hM2⟩; have hqk := dn_r hM2 (fun O hO => q_make HV.out hc hO isd r HR.out); rw [HST.out] at hqk; clear hmk c1; have c1 := (hM2.2).rd; clear hM2)
    | (go_at_call 38; (with_reducible refine hqk.mono ?_); rintro e w3 ⟨rfl, hM3⟩; clear hqk; have H3 := Lib.hid hM3; clear hM3))
  go_wp2_with (go_at_call 39; refine (num_is _ _).mono ?_; rintro e w3 ⟨rfl, rfl⟩)
  go_ret
  have hiv := HV.out.stMake isd r HR.out
  rw [HST.out] at hiv
  have := Dn.fin H3.out hiv
  simpa using this
set_option maxRecDepth 100000 in
set_option maxHeartbeats 4000000 in
theorem done_find (hV : IV ns c) (hc : c ≤ 90) (h : Pair.Two W w (TPa tb ns c) (RPa rb ns c) (fun _ => False)) (d : Int) (hd : ¬ d = 0 ∧ ¬ d = 1 ∧ ¬ d = 2 ∧ ¬ d = 3 ∧ ¬ d = 4) (id dir : Int) (nm : Txt) (isd : Bool) :
    Calls Try.prog 17 #[.pointer (some ⟨tb, 0, none⟩), .pointer (some ⟨rb, 0, none⟩), .agg #[.int .i64 d, .int .i64 id, .int .i64 dir, .string (B nm), .bool isd]] w (DoneP W tb rb c) := by
  have HM : Hid (Dn W tb rb w.heap.size #[.int .i64 d, .int .i64 id, .int .i64 dir, .string (B nm), .bool isd] ns ns c c (w.alloc (.cells #[.int .i64 d, .int .i64 id, .int .i64 dir, .string (B nm), .bool isd] 49))) := Lib.hid ⟨(h.new _).less (fun k hk => Or.inr hk), Blk.new _ _ _⟩
  have HV := Lib.hid hV
  clear hV h
  obtain ⟨s, hs⟩ : ∃ s, B nm = s := ⟨_, rfl⟩
  rw [hs] at HM ⊢
  have HS := Lib.hid hs
  clear hs
  go_enter Try.func17, Try.ntmps17
  go_upto_region 1 with (fail)
  have c1 := (HM.out.2).rd
  generalize w.alloc (.cells #[.int .i64 d, .int .i64 id, .int .i64 dir, .string s, .bool isd] 49) = wx at HM c1 ⊢
  generalize w.heap.size = bx at HM c1 ⊢
  try clear w
  obtain ⟨e0, e1, e2, e3, e4⟩ := hd
  have hfi := HM.out.1.atl
  obtain ⟨O1, hO1⟩ := hfi
  have hfp := p_find HV.out hO1 dir nm
  rw [HS.out] at hfp
  obtain ⟨st, hst⟩ : ∃ st, stFind ns dir nm = st := ⟨_, rfl⟩
  have HST := Lib.hid hst
  rw [hst] at hfp
  clear hst hO1
  obtain ⟨s1, s2⟩ := st
  go_upto_region 16 with (first
    | (go_at_call 12; (with_reducible refine hfp.mono ?_); rintro e w2 ⟨rfl, hB2⟩; have H2 := Lib.hid (HM.out.below hB2); clear hfp c1 hB2; have c1 := (H2.out.2).rd; have hO2 := H2.out.1.atr; have hfq := q_find HV.out hO2.choose_spec dir nm; rw [HS.out, HST.out] at hfq; clear hO2)
    | (go_at_call 44; (with_reducible refine hfq.mono ?_); rintro e w3 ⟨rfl, rfl⟩; clear hfq))
  go_wp2_with (go_at_call 39; refine (num_is _ _).mono ?_; rintro e w3 ⟨rfl, rfl⟩)
  go_ret
  have h2a := (H2.out.1.stepl (w' := w2) (p' := TPa tb ns (c + 1)) (fun O hO => by obtain ⟨lo, hT, rfl⟩ := hO; exact p_same hT (by omega) (Below.refl _ _))).1
  have h2b := (h2a.stepr (w' := w2) (q' := RPa rb ns (c + 1)) (fun O hO => by obtain ⟨W', A', hT, rfl, hl⟩ := hO; exact q_same hT (by omega))).1
  have h2 : Dn W tb rb bx #[.int .i64 d, .int .i64 id, .int .i64 dir, .string s, .bool isd] ns ns (c + 1) (c + 1) w2 := ⟨h2b, H2.out.2⟩
  have := Dn.fin h2 (HV.out.le (by omega))
  simpa using this
theorem done_is (hV : IV ns c) (hc : c ≤ 90) (h : Pair.Two W w (TPa tb ns c) (RPa rb ns c) (fun _ => False)) (d id dir : Int) (nm : Txt) (isd : Bool) :
    Calls Try.prog 17 #[.pointer (some ⟨tb, 0, none⟩), .pointer (some ⟨rb, 0, none⟩), .agg #[.int .i64 d, .int .i64 id, .int .i64 dir, .string (B nm), .bool isd]] w (DoneP W tb rb c) := by
  by_cases h0 : d = 0
  · subst h0; exact done_make hV hc h id dir nm isd
  by_cases h1 : d = 1
  · subst h1; exact done_open hV hc h id dir nm isd
  by_cases h2 : d = 2
  · subst h2; exact done_close hV hc h id dir nm isd
  by_cases h3 : d = 3
  · subst h3; exact done_enter hV hc h id dir nm isd
  by_cases h4 : d = 4
  · subst h4; exact done_rem hV hc h id dir nm isd
  exact done_find hV hc h d ⟨h0, h1, h2, h3, h4⟩ id dir nm isd
end
end Go.Proofs.Ytapkdaccbojbgaa
