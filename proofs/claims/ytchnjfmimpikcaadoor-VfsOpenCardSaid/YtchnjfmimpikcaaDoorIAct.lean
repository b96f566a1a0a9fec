/-
  What each call of a table does: Open, Close, Opens, Get, List, Remove.
-/
import Derived.Test.YtchnjfmimpikcaaDoorIKill
import Derived.Test.YtchnjfmimpikcaaDoorINone
namespace Go.Proofs.YtchnjfmimpikcaaDoor
set_option linter.unusedSimpArgs false
set_option linter.unusedVariables false
open Go.RowKit Own RegJ Two
open Go.Lib hiding intOf

theorem qE (w : World) (a : Option Addr) (n c n' c' : Nat) : (binOp .eql 43 (.slice a n c) (.slice none n' c')).run Tryd.prog w = .ok (.bool a.isNone) w := Lib.run_eql_slice_nil w _ _ a n c n' c' underS
/-- a copy of a row of entries -/
def CloneE (xs : List V2) (w : World) (e : Ending) (w' : World) : Prop := ∃ v b, e = .returned v ∧ Row2 w' 101 v xs b ∧ (∀ g, b = some g → w.heap.size ≤ g) ∧ Below w.heap.size w w'
set_option maxRecDepth 100000 in
theorem clone_is {w : World} {v : Value} {xs : List V2} {b : Option Nat} (h : Row2 w 101 v xs b) (hlen : xs.length ≤ 2000) (hone : One2 xs) :
    Calls Tryd.prog 62 #[v] w (CloneE xs w) := by
  have h0 := h
  have q := qE
  rcases h with ⟨rfl, rfl, rfl⟩ | ⟨g, cap, rest, rfl, rfl, hB, hc, hm⟩
  · go_enter Tryd.func62, Tryd.ntmps62
    go_wp2
    go_ret
    exact ⟨_, none, rfl, Or.inl ⟨rfl, rfl, rfl⟩, (fun g hg => by cases hg), Below.refl _ _⟩
  · obtain ⟨i0, hi, hz0, hz1, hz2⟩ := info_parts infoEntry
    have hp := cells2_len xs
    have hB1 : Blk (w.alloc (.cells #[] 101)) g (cells2 xs ++ rest).toArray 101 := hB.alloc _
    have hnews : ∀ (j : Nat) (u : Value), (cells2 xs)[j]? = some u → (w.alloc (.cells #[] 101)).cell? (Addr.add ⟨g, 0, none⟩ j) = some u := by
      intro j u hj
      have hjl : j < (cells2 xs).length := (List.getElem?_eq_some_iff.1 hj).1
      rw [add0, Nat.zero_add, hB1.rd]
      simp only [List.getElem?_toArray]
      rw [List.getElem?_append_left hjl]; exact hj
    have hown : (w.alloc (.cells #[] 101)).ownsRow w.heap.size 101 2 (.slice (some ⟨w.heap.size, 0, none⟩) 0 0) 0 [] :=
      ⟨rfl, Or.inr ⟨w.heap.size, 0, #[], rfl, Nat.le_refl _, Blk.new _ _ _, Nat.le_refl _, by simp, rfl, rfl⟩⟩
    have H := Lib.hid (And.intro hnews (And.intro hone.cells hown))
    clear hnews hone hown hB hB1 hc h0
    go_enter Tryd.func62, Tryd.ntmps62
    go_wp2_with (at_builtin; refine wpList_append_own _ rfl _ _ 43 rfl w.heap.size 101 i0 _ 2 24 underS hi hz0 hz1 hz2 rfl (by decide) _ 0 [] rfl H.out.2.2 ⟨g, 0, none⟩ xs.length cap (cells2 xs) rfl hp H.out.1 H.out.2.1 (by unfold maxLen; omega) (by omega) (by simp) ?_; intro v' w1 h1 h2 _; have H1 := Lib.hid (And.intro h1 h2); clear h1 h2)
    go_ret
    have h1 := H1.out.1
    rw [List.nil_append, Nat.zero_add] at h1
    obtain ⟨b', hI, hb⟩ := Row2.of_own rfl h1
    refine ⟨_, b', rfl, hI, hb, ?_⟩
    exact ((Below.refl w.heap.size w).alloc (Nat.le_refl _) (.cells #[] 101)).grown H1.out.2 (by simp) (fun k hk => by first | (cases hk; exact Nat.le_refl _) | (simp [Value.ownBlock] at hk; subst hk; exact Nat.le_refl _) | (simp [Value.ownBlock] at hk))
section
variable {w : World} {tb : Nat} {ns : NSt} {lo : Lo} {N : Nat}
set_option maxRecDepth 100000 in
theorem open_no [Inhabited CapT] (h : TB w tb ns lo N) (id : Int) (hx : ndAt ns id = none) : Calls Tryd.prog 35 #[.pointer (some ⟨tb, 0, none⟩), .int .i64 id] w fun e w' => e = .returned (.int .i64 4) ∧ w = w' := by
  have hg := get_no h id hx
  clear h hx
  go_enter Tryd.func35, Tryd.ntmps35
  go_wp2_with (go_at_call 36; refine hg.mono ?_; rintro e w' ⟨rfl, rfl⟩)
  go_ret
  exact ⟨rfl, rfl⟩
set_option maxRecDepth 100000 in
theorem open_yes [Inhabited CapT] (h : TB w tb ns lo N) (i : Nat) (nd : Nd) (hi : ns i = some nd) (ho : 0 ≤ nd.opens) (ho2 : nd.opens ≤ 100000) : Calls Tryd.prog 35 #[.pointer (some ⟨tb, 0, none⟩), .int .i64 i] w fun e w' => e = .returned (.int .i64 0) ∧ TB w' tb (nsPut ns i (some (addO nd 1))) lo N ∧ TFr lo lo w w' := by
  obtain ⟨k, v, k1, k2, _⟩ := h.node _ _ hi
  have hg := get_nd h i nd hi k k1
  have c1 := k2.rd
  have nf := k2.nf
  have hu : Upd (fun j => j = k) w (w.setCell ⟨k, 2, none⟩ (.int .i64 (nd.opens + 1))) := (Upd.refl (fun j => j = k) w).setCell (p := ⟨k, 2, none⟩) (fun _ => rfl) _
  have hT := h.num (nd' := addO nd 1) hi k1 rfl rfl rfl hu (fun v hv => Blk.of (hv.set 2 (.int .i64 (nd.opens + 1))) rfl)
  have HT := Lib.hid (And.intro hT (And.intro hu k1))
  clear h hi k2 k1 hT hu
  generalize nd.opens = O at *
  go_enter Tryd.func35, Tryd.ntmps35
  go_wp2_with (first
    | (go_at_call 36; refine hg.mono ?_; rintro e w' ⟨rfl, rfl⟩))
  go_ret
  exact ⟨rfl, HT.out.1, HT.out.2.1.mono (fun j _ e => ⟨_, e ▸ HT.out.2.2⟩), fun r k hk => Or.inl ⟨r, hk⟩, rfl, rfl⟩
set_option maxRecDepth 100000 in
theorem close_any [Inhabited CapT] (h : TB w tb ns lo N) (hV : Inv ns []) (i : Nat) (nd : Nd) (hi : ns i = some nd) (ho : 0 < nd.opens) (ho2 : nd.opens ≤ 100000) (hV' : Inv (nsPut ns i (some (addO nd (-1)))) []) :
    Calls Tryd.prog 12 #[.pointer (some ⟨tb, 0, none⟩), .int .i64 i] w fun e w' => e = .returned (.int .i64 0) ∧ ∃ lo', TB w' tb (gone 17 (nsPut ns i (some (addO nd (-1)))) i) lo' N ∧ TFr lo lo' w w' := by
  obtain ⟨k, v, k1, k2, _⟩ := h.node _ _ hi
  have hg := get_nd h i nd hi k k1
  have c1 := k2.rd
  have nf := k2.nf
  have d1 : (nd.opens == 0) = false := by simp; omega
  have hu : Upd (fun j => j = k) w (w.setCell ⟨k, 2, none⟩ (.int .i64 (nd.opens - 1))) := (Upd.refl (fun j => j = k) w).setCell (p := ⟨k, 2, none⟩) (fun _ => rfl) _
  have hT := h.num (nd' := addO nd (-1)) hi k1 rfl rfl rfl hu (fun v hv => Blk.of (hv.set 2 (.int .i64 (nd.opens - 1))) rfl)
  have hst := settle_is tb N 17 _ _ lo i (addO nd (-1)) [] hT (put_eq _ _ _) hV' (by have := lenN_le (nsPut ns i (some (addO nd (-1)))) 16; omega)
  have HT := Lib.hid (And.intro hu k1)
  clear h hi k2 k1 hT hu hV hV'
  generalize nd.opens = O at *
  go_enter Tryd.func12, Tryd.ntmps12
  go_wp2_with (first
    | (go_at_call 36; refine hg.mono ?_; rintro e w' ⟨rfl, rfl⟩)
    | (go_at_call 37; (with_reducible refine hst.mono ?_); rintro e w2 ⟨⟨v2, rfl⟩, lo2, hT2, hF2⟩; have H2 := Lib.hid (And.intro hT2 hF2); clear hst hT2 hF2))
  go_ret
  have hF1 : TFr lo lo w _ := ⟨HT.out.1.mono (fun j _ e => ⟨_, e ▸ HT.out.2⟩), fun r k hk => Or.inl ⟨r, hk⟩, rfl, rfl⟩
  exact ⟨rfl, lo2, H2.out.1, hF1.trans H2.out.2⟩
set_option maxRecDepth 100000 in
theorem list_no [Inhabited CapT] (h : TB w tb ns lo N) (dir : Int) (hd : dirAt ns dir = none) : Calls Tryd.prog 43 #[.pointer (some ⟨tb, 0, none⟩), .int .i64 dir] w fun e w' => e = .returned (.tuple #[.slice none 0 0, .int .i64 11]) ∧ w = w' := by
  have hf := find_no h dir [] hd
  have e0 : B [] = ⟨#[]⟩ := rfl
  rw [e0] at hf
  clear h hd e0
  go_enter Tryd.func43, Tryd.ntmps43
  go_wp2_with (go_at_call 61; refine hf.mono ?_; rintro e w' ⟨rfl, rfl⟩)
  go_returns
  exact ⟨rfl, rfl⟩
def ListP (es : List En) (w : World) (e : Ending) (w' : World) : Prop := ∃ v b, e = .returned (.tuple #[v, .int .i64 0]) ∧ Row2 w' 101 v (es.map enV) b ∧ (∀ g, b = some g → w.heap.size ≤ g) ∧ Below w.heap.size w w'
set_option maxRecDepth 100000 in
theorem list_yes [Inhabited CapT] (h : TB w tb ns lo N) (i : Nat) (nd : Nd) (hi : ns i = some nd) (hd : nd.dir = true) : Calls Tryd.prog 43 #[.pointer (some ⟨tb, 0, none⟩), .int .i64 i] w (ListP nd.es w) := by
  have hf := find_yes h i [] nd hi hd
  have e0 : B [] = ⟨#[]⟩ := rfl
  rw [e0] at hf
  have H := Lib.hid (And.intro h (And.intro hi hd))
  clear h hd hi e0
  go_enter Tryd.func43, Tryd.ntmps43
  go_upto_region 4 with (go_at_call 61; refine hf.mono ?_; rintro e w1 ⟨j, rfl, hA, hB⟩; have HB := Lib.hid hB; clear hA hB hf)
  have hT := H.out.1.below HB.out
  obtain ⟨k, v, k1, k2, k3, k4, _⟩ := hT.node _ _ H.out.2.1
  have hg := get_nd hT i nd H.out.2.1 k k1
  have c1 := k2.rd
  have hc := clone_is k3 (by rw [List.length_map]; omega) (one_en nd.es)
  clear hT k3 k2 k1
  go_wp2_with (first
    | (go_at_call 36; refine hg.mono ?_; rintro e w' ⟨rfl, rfl⟩)
    | (go_at_call 62; (with_reducible refine hc.mono ?_); rintro e w2 ⟨v2, b2, rfl, hr, hb, hB2⟩; have H2 := Lib.hid (And.intro hr (And.intro hb hB2)); clear hc hr hb hB2))
  go_returns
  have z := HB.out.size
  exact ⟨v2, b2, rfl, H2.out.1, fun g hg => by have := H2.out.2.1 g hg; omega, HB.out.trans (H2.out.2.2.mono z)⟩
/-- what is told of a node -/
def inV (id links : Int) (dir : Bool) (size : Int) : Value := .agg #[.int .i64 id, .int .i64 links, .bool dir, .int .i64 size]
def sizeN (nd : Nd) : Int := if nd.dir = true then nd.es.length else nd.bs.length
def getV (ns : NSt) (id : Int) : Value := match ndAt ns id with
  | some nd => .tuple #[.agg #[.int .i64 id, .int .i64 nd.links, .bool nd.dir, .int .i64 (sizeN nd)], .bool true]
  | none => .tuple #[.agg in0, .bool false]
set_option maxRecDepth 100000 in
theorem get_any [Inhabited CapT] (h : TB w tb ns lo N) (id : Int) : Calls Tryd.prog 42 #[.pointer (some ⟨tb, 0, none⟩), .int .i64 id] w fun e w' => e = .returned (getV ns id) ∧ Below w.heap.size w w' := by
  have hW := (Below.refl w.heap.size w).alloc (Nat.le_refl _) (.cells in0 40)
  have hT := h.below hW
  have hc0 := Blk.new w in0 40
  have c0 := hc0.rd
  have f0 := hc0.nf
  cases hx : ndAt ns id with
  | none =>
    have hg := get_no hT id hx
    have HX := Lib.hid hx
    clear h hT hx
    go_enter Tryd.func42, Tryd.ntmps42
    go_wp2_with (go_at_call 36; refine hg.mono ?_; rintro e w1 ⟨rfl, rfl⟩)
    have hf := (((hc0.set 0 (.int .i64 0)).set 1 (.int .i64 0)).set 2 (.bool false)).set 3 (.int .i64 0)
    refine bodyPost_ret (v := .tuple #[.agg in0, .bool false]) (by simp [results, Tryd.results42, go_sem, hf.rd]) rfl ?_
    exact ⟨by unfold getV; rw [HX.out], hW⟩
  | some nd =>
    obtain ⟨i, rfl, hi⟩ := ndAt_some hx
    obtain ⟨k, v, k1, k2, k3, k4, _⟩ := hT.node _ _ hi
    obtain ⟨a, c, rfl⟩ := k3.slice
    rw [List.length_map] at k2
    have hg := get_nd hT i nd hi k k1
    have c1 := k2.rd
    have hne : w.heap.size ≠ k := by obtain ⟨k', v', q1, q2, _⟩ := h.node _ _ hi; rw [k1] at q1; cases q1; have := q2.lt; omega
    have HX := Lib.hid (And.intro hx (And.intro hi hT))
    have mixed : Tryd.prog.follows .mixedOrders = true := by kernel_rfl
    cases hd : nd.dir with
    | true =>
      rw [hd] at c1
      have hs : (nd.es.length : Int) = sizeN nd := by unfold sizeN; rw [if_pos hd]
      have HD := Lib.hid (And.intro hs hd)
      clear h hT hx hi k3 k2 k1 hd hs
      generalize hnn : nd.es.length = n at *
      generalize hLL : nd.links = L at *
      have HE := Lib.hid (And.intro hnn hLL)
      clear hnn hLL
      go_enter Tryd.func42, Tryd.ntmps42
      go_upto_region 7 with (go_at_call 36; refine hg.mono ?_; rintro e w1 ⟨rfl, rfl⟩)
      go_region
      go_wp2
      have hf := (Blk.new w #[.int .i64 i, .int .i64 L, .bool true, .int .i64 n] 40).drew
      refine bodyPost_ret (v := .tuple #[.agg #[.int .i64 i, .int .i64 L, .bool true, .int .i64 n], .bool true]) (by simp [results, Tryd.results42, go_sem, hf.rd]) rfl ?_
      refine ⟨?_, ((Upd.refl (fun _ => False) w).alloc _).drew.below (Nat.le_refl _) (fun _ h => h.elim)⟩
      unfold getV
      rw [HX.out.1]
      simp only
      rw [HE.out.2, HD.out.2, ← HD.out.1]
    | false =>
      rw [hd] at c1
      obtain ⟨sb, s1, _⟩ := hT.sto.sto
      have s1' : lo (.st .sto) = some sb := s1
      have hsz := s_size hT.sto sb s1 i (wf_16 i (hT.is hi).1) nd.bs.length 0 (by unfold sizeV fsAt; rw [if_pos (by omega)]; simp only [Int.toNat_natCast]; rw [files_at hi hd])
      have c3 : (w.alloc (.cells in0 40)).cell? ⟨tb, 0, none⟩ = some (.pointer (some ⟨sb, 0, none⟩)) := by rw [hT.tab.rd]; simp [tabCells, s1', ptr]
      have hs : (nd.bs.length : Int) = sizeN nd := by unfold sizeN; rw [if_neg (by rw [hd]; simp)]
      have HD := Lib.hid (And.intro hs hd)
      clear h hT hx hi k3 k2 k1 hd hs s1 s1'
      generalize nd.es.length = n at *
      generalize nd.bs.length = nb at *
      generalize hLL : nd.links = L at *
      have HE := Lib.hid hLL
      clear hLL
      go_enter Tryd.func42, Tryd.ntmps42
      go_upto_region 7 with (first
        | (go_at_call 36; refine hg.mono ?_; rintro e w1 ⟨rfl, rfl⟩)
        | (go_at_call 25; refine hsz.mono ?_; rintro e w1 ⟨rfl, rfl⟩))
      go_region
      go_wp2
      have hf := (Blk.new w #[.int .i64 i, .int .i64 L, .bool false, .int .i64 nb] 40).drew
      refine bodyPost_ret (v := .tuple #[.agg #[.int .i64 i, .int .i64 L, .bool false, .int .i64 nb], .bool true]) (by simp [results, Tryd.results42, go_sem, hf.rd]) rfl ?_
      refine ⟨?_, ((Upd.refl (fun _ => False) w).alloc _).drew.below (Nat.le_refl _) (fun _ h => h.elim)⟩
      unfold getV
      rw [HX.out.1]
      simp only
      rw [HE.out, HD.out.2, ← HD.out.1]
end
end Go.Proofs.YtchnjfmimpikcaaDoor
