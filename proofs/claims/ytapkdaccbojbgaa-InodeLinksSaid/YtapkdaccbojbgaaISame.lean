/-
  Both tables tell the same of a node: the walks of SameEntries, OverEntries, 'same'.
-/
import Derived.Test.YtapkdaccbojbgaaIDone
namespace Go.Proofs.Ytapkdaccbojbgaa
set_option linter.unusedSimpArgs false
set_option linter.unusedVariables false
open Go.RowKit Own Two Pair
open RegJ hiding Up
open RegF hiding put_size
open Go.Lib hiding intOf

def SmP (w : World) (e : Ending) (w' : World) : Prop := e = .returned (.bool true) ∧ Below w.heap.size w w'
set_option maxRecDepth 100000 in
theorem sameE_is {w : World} {a1 a2 : Option Addr} {es : List En} (n c1 c2 : Nat) (h1 : Rd2 w a1 (es.map enV)) (h2 : Rd2 w a2 (es.map enV)) (hn : es.length = n) (hm : n ≤ 1000) :
    Calls Try.prog 48 #[.slice a1 n c1, .slice a2 n c2] w (SmP w) := by
  have HR := Lib.hid (And.intro h1 (And.intro h2 hn))
  clear h1 h2 hn
  go_enter Try.func48, Try.ntmps48
  go_wp2_with (fail)
  go_loopw [5] (fun ix wr => ∃ i q : Nat, i ≤ n ∧ ix = .int .i64 i ∧ wr = w.drewN q) (fun ix _ => n - (intOf ix).toNat)
  case atStart => exact ⟨0, 0, Nat.zero_le _, rfl, rfl⟩
  case round =>
    obtain ⟨i, q, hi, rfl, rfl⟩ := hrel
    by_cases hil : i < n
    · obtain ⟨x, hx⟩ : ∃ x, es[i]? = some x := ⟨es[i]'(by rw [HR.out.2.2]; exact hil), List.getElem?_eq_getElem _⟩
      obtain ⟨g, rfl, k0, k1⟩ := HR.out.1 i (enV x) (by rw [List.getElem?_map, hx]; rfl)
      obtain ⟨g2, rfl, k2, k3⟩ := HR.out.2.1 i (enV x) (by rw [List.getElem?_map, hx]; rfl)
      have k0' : w.cell? ⟨g, i * 2, none⟩ = some (.string (B x.1)) := k0
      have k1' : w.cell? ⟨g, i * 2 + 1, none⟩ = some (.int .i64 x.2) := k1
      have k2' : w.cell? ⟨g2, i * 2, none⟩ = some (.string (B x.1)) := k2
      have k3' : w.cell? ⟨g2, i * 2 + 1, none⟩ = some (.int .i64 x.2) := k3
      clear hx k0 k1 k2 k3
      have d1 : decide ((i : Int) < (n : Int)) = true := by simp; omega
      have i1 : (i : Int) < (n : Int) := by omega
      have i2 : (0 : Int) ≤ i := by omega
      generalize B x.1 = s at *
      generalize x.2 = y at *
      go_wp2_with (fail)
      go_quiet (fail)
      go_wp2_with (fail)
      go_roundw
      case rel => exact ⟨i + 1, q + nq, by omega, by go_num, by first | rfl | rw [World.drewN_drewN]⟩
      case measure => simp [intOf]; omega
    · have d1 : decide ((i : Int) < (n : Int)) = false := by simp; omega
      have d2 : decide (i < n) = false := by simp; omega
      clear hil hi
      go_wp2_with (fail)
      go_ret
      exact ⟨rfl, ((Upd.refl (fun _ => False) w).drewN q).below (Nat.le_refl _) (fun _ h => h.elim)⟩
def ovE : En := ([], -9)
def OvP (b : Option Nat) (w : World) (e : Ending) (w' : World) : Prop := (∃ v, e = .returned v) ∧ Upd (fun k => b = some k) w w'
theorem wp_ovE {ops : Array Oper} {rest : List Oper} {o : Oper} {a : Act} {Q : Exit → Act → World → Prop} {wr : World} (hgd : o.guard = none) (s x : Operand)
    (ho : o.op = .call { callee := .builtin .append, args := #[s, x], argTypes := #[32, 32] }) (v : Value) (l : List V2) (b : Option Nat) (hr : Row2 wr 37 v l b) (hl : l.length ≤ 2000)
    (hs : a.eval s = v) (hx : a.eval x = .slice (some ⟨wr.heap.size, 0, none⟩) 1 1) (h : ∀ v' w', Upd (fun k => b = some k) wr w' → wpList Try.prog ops Q rest (a.put o.dst v') w') :
    wpList Try.prog ops Q (o :: rest) a (wr.alloc (.cells #[.string ⟨#[]⟩, .int .i64 (-9)] 37)) := by
  refine wp_app2 hgd s x 32 37 _ 24 infoEntry rfl (by decide) Try.underlying32 ho v l b hs (hr.below ((Below.refl _ _).alloc (Nat.le_refl _) _)) ⟨wr.heap.size, 0, none⟩ 1 1 [enV ovE] rfl (by decide) hx ?_ (one_en [ovE]) (by rw [List.length_cons, List.length_nil]; omega) ?_
  · intro j u hj
    rw [Two.add0, (Blk.new wr #[.string ⟨#[]⟩, .int .i64 (-9)] 37).rd, Nat.zero_add]
    exact List.getElem?_toArray.trans hj
  · intro v' w' b' hr' hb' hu'
    exact h v' w' (((Upd.refl (fun k => b = some k) wr).alloc _).trans hu' (fun _ _ h => h))
set_option maxRecDepth 100000 in
theorem overE_is {w : World} {a : Option Addr} {n c : Nat} {xs : List V2} {b : Option Nat} (h : Row2 w 37 (.slice a n c) xs b) (hlen : xs.length ≤ 1000) :
    Calls Try.prog 50 #[.slice a n c] w (OvP b w) := by
  have h0 := h
  rcases h with ⟨hv, rfl, rfl⟩ | ⟨g, cap, rest, hv, rfl, hB, hc, hm⟩
  · cases hv
    have HR := Lib.hid h0
    clear h0
    go_enter Try.func50, Try.ntmps50
    go_wp2
    go_loopw [2] (fun ix wr => ix = .int .i64 0 ∧ wr = w) (fun ix _ => 0)
    case atStart => exact ⟨rfl, rfl⟩
    case round =>
      obtain ⟨rfl, rfl⟩ := hrel
      go_wp2_with (at_builtin; refine wp_ovE rfl _ _ rfl _ [] none HR.out (by simp) rfl rfl ?_; intro v' w1 hu1)
      go_returns
      exact ⟨⟨_, rfl⟩, hu1⟩
  · simp only [Value.slice.injEq] at hv
    obtain ⟨rfl, hnl, rfl⟩ := hv
    have HB0 := Lib.hid (And.intro hnl (And.intro hB hc))
    have hgs := hB.lt
    rw [← hnl] at hlen
    clear hB hc hnl h0
    go_enter Try.func50, Try.ntmps50
    go_wp2
    go_loopw [2] (fun ix wr => ∃ (k : Nat) (ys : List V2), k ≤ n ∧ ix = .int .i64 k ∧ ys.length = n ∧ Blk wr g (cells2 ys ++ rest).toArray 37 ∧ Upd (fun j => some g = some j) w wr) (fun ix _ => n - (intOf ix).toNat)
    case atStart => exact ⟨0, xs, Nat.zero_le _, rfl, HB0.out.1.symm, HB0.out.2.1, Upd.refl _ _⟩
    case round =>
      obtain ⟨k, ys, hk, rfl, hyl, hB, hu⟩ := hrel
      have HY := Lib.hid (And.intro hyl hu)
      by_cases hkl : k < n
      · have d1 : decide ((k : Int) < (n : Int)) = true := by simp; omega
        have i1 : (k : Int) < (n : Int) := by omega
        obtain ⟨c1, c2⟩ := Two.blk_row hB k ys[k] (List.getElem?_eq_getElem (by omega))
        have nf := hB.nf
        have HB := Lib.hid (row2_set hB k (by omega) (enV ovE))
        generalize (ys[k]).1 = p at *
        generalize (ys[k]).2 = q at *
        clear hB hyl hu
        go_wp2_with (fail)
        go_roundw
        case rel => exact ⟨k + 1, ys.set k (enV ovE), by omega, by go_num, by rw [List.length_set, HY.out.1], HB.out, (HY.out.2.setCell (p := ⟨g, _, none⟩) (fun _ => rfl) _).setCell (p := ⟨g, _, none⟩) (fun _ => rfl) _⟩
        case measure => simp [intOf]; omega
      · have hkL : k = n := by omega
        subst hkL
        have d1 : decide ((k : Int) < (k : Int)) = false := by simp
        have hI : Row2 wr 37 (.slice (some ⟨g, 0, none⟩) k c) ys (some g) := Or.inr ⟨g, c, rest, by rw [hyl], rfl, hB, by have := HB0.out.2.2; rw [List.length_append, cells2_len] at this ⊢; rw [hyl, HB0.out.1]; exact this, hm⟩
        have HI := Lib.hid hI
        have HK := Lib.hid hyl
        clear hI hB hyl hu
        go_wp2_with (at_builtin; refine wp_ovE rfl _ _ rfl _ ys (some g) HI.out (by rw [HK.out]; omega) rfl rfl ?_; intro v' w1 hu1)
        go_returns
        exact ⟨⟨_, rfl⟩, HY.out.2.trans hu1 (fun _ _ h => h)⟩
section
variable {w : World} {tb rb : Nat} {ns : NSt} {c N m : Nat} {lo : Lo} {W A : Nat → Prop}
theorem blk_below {w w' : World} {b : Nat} {cs : Array Value} {T : TypeId} (h : Blk w b cs T) (hB : Below w.heap.size w w') : Blk w' b cs T := Blk.below hB h h.lt
set_option maxRecDepth 100000 in
set_option maxHeartbeats 4000000 in
theorem same_none (hT : TB w tb ns lo N) (hR : RO w rb ns m W A) (id : Int) (hx : ndAt ns id = none) :
    Calls Try.prog 18 #[.pointer (some ⟨tb, 0, none⟩), .pointer (some ⟨rb, 0, none⟩), .int .i64 id] w (SmP w) := by
  obtain ⟨sb, vs, rw', fl, fb, hR, hml, hW, hA⟩ := hR
  have hg := get_any hT id
  have hgr : ∀ w', Below w.heap.size w w' → Calls Try.prog 45 #[.pointer (some ⟨rb, 0, none⟩), .int .i64 id] w' fun e w2 => e = .returned (getV ns id) ∧ Below w'.heap.size w' w2 := fun w' hB => rGet_any (hR.below hB) id
  have his : ∀ w', Below w.heap.size w w' → Calls Try.prog 46 #[.pointer (some ⟨rb, 0, none⟩), .int .i64 id] w' fun e w2 => e = .returned (.bool (ndAt ns id).isSome) ∧ w' = w2 := fun w' hB => rIs_is (hR.below hB) id
  have hid : ∀ w', Below w.heap.size w w' → Calls Try.prog 47 #[.pointer (some ⟨rb, 0, none⟩), .int .i64 id] w' fun e w2 => e = .returned (.bool (dirAt ns id).isSome) ∧ w' = w2 := fun w' hB => rDir_is (hR.below hB) id
  have HL := Lib.hid (show ∀ w', Below w.heap.size w w' → Calls Try.prog 22 #[.pointer (some ⟨tb, 0, none⟩)] w' fun e w2 => e = .returned (.int .i64 (lenN ns 16)) ∧ w' = w2 from fun w' hB => len_is (hT.below hB))
  have HLR := Lib.hid (show ∀ w', Below w.heap.size w w' → Calls Try.prog 49 #[.pointer (some ⟨rb, 0, none⟩)] w' fun e w2 => e = .returned (.int .i64 (lenN ns 16)) ∧ w' = w2 from fun w' hB => rLen_is (hR.below hB))
  have hgv : getV ns id = .tuple #[.agg in0, .bool false] := by unfold getV; rw [hx]
  have hdx : dirAt ns id = none := by unfold dirAt; rw [hx]
  rw [hgv] at hg
  have HX := Lib.hid (And.intro hx (And.intro hdx hgv))
  have HG := Lib.hid (And.intro hgr (And.intro his hid))
  have H := Lib.hid (And.intro hT hR)
  clear hT hR hml hW hA hgr his hid hx hdx hgv
  generalize lenN ns 16 = LN at *
  go_enter Try.func18, Try.ntmps18
  go_upto_region 2 with (go_at_call 15; (with_reducible refine hg.mono ?_); rintro e w1 ⟨rfl, hB⟩; have HB1 := Lib.hid hB; clear hB hg)
  have HB2 : Hid (Below w.heap.size w (w1.alloc (.cells in0 41))) := Lib.hid (HB1.out.alloc HB1.out.size _)
  have K7 := Lib.hid (Blk.new w1 in0 41)
  have Z7 := Lib.hid HB1.out.size
  generalize w1.alloc (.cells in0 41) = w2 at *
  generalize w1.heap.size = b7 at *
  have hgr := HG.out.1 w2 HB2.out
  rw [HX.out.2.2] at hgr
  go_upto_region 3 with (go_at_call 45; (with_reducible refine hgr.mono ?_); rintro e w3 ⟨rfl, hB⟩; have HB3 := Lib.hid (And.intro hB (And.intro (HB2.out.trans (hB.mono HB2.out.size)) (blk_below K7.out hB))); clear hB hgr)
  have HB4 : Hid (Below w.heap.size w (w3.alloc (.cells in0 41))) := Lib.hid (HB3.out.2.1.alloc HB3.out.2.1.size _)
  have K9 := Lib.hid (Blk.new w3 in0 41)
  have K74 := Lib.hid (HB3.out.2.2.alloc (.cells in0 41))
  generalize w3.alloc (.cells in0 41) = w4 at *
  generalize w3.heap.size = b9 at *
  have his := HG.out.2.1 w4 HB4.out
  have hid := HG.out.2.2 w4 HB4.out
  rw [HX.out.1] at his
  rw [HX.out.2.1] at hid
  have hli := list_no (H.out.1.below HB4.out) id HX.out.2.1
  go_upto_region 12 with (first
    | (go_at_call 46; (with_reducible refine his.mono ?_); rintro e w' ⟨rfl, rfl⟩)
    | (go_at_call 47; (with_reducible refine hid.mono ?_); rintro e w' ⟨rfl, rfl⟩)
    | (go_at_call 11; (with_reducible refine hli.mono ?_); rintro e w5 ⟨rfl, rfl⟩))
  have HB5 := HB4
  have K75 := K74
  have K95 := K9
  have hop := opens_no (H.out.1.below HB4.out) id HX.out.1
  have HROW : Hid (Row2 w4 37 (.slice none 0 0) [] none) := Lib.hid (Or.inl ⟨rfl, rfl, rfl⟩)
  have hse := sameE_is (w := w4) (a1 := none) (a2 := none) (es := []) 0 0 0 (fun k x hx => by cases hx) (fun k x hx => by cases hx) rfl (by omega)
  clear hli
  have q7 := K75.out.rd
  have q9 := K95.out.rd
  clear his hid
  go_upto_region 13 with (first
    | (go_at_call 19; (with_reducible refine hop.mono ?_); rintro e w' ⟨rfl, rfl⟩)
    | (go_at_call 48; (with_reducible refine hse.mono ?_); rintro e w6 ⟨rfl, hB⟩; have HB6 := Lib.hid (And.intro hB (HB5.out.trans (hB.mono HB5.out.size))); clear hB hse q7 q9; have hl1 := HL.out w6 HB6.out.2; have hl2 := HLR.out w6 HB6.out.2)
    | (go_at_call 22; (with_reducible refine hl1.mono ?_); rintro e w' ⟨rfl, rfl⟩)
    | (go_at_call 49; (with_reducible refine hl2.mono ?_); rintro e w' ⟨rfl, rfl⟩))
  have hov := overE_is (HROW.out.below HB6.out.1) (by simp)
  go_wp2_with (go_at_call 50; (with_reducible refine hov.mono ?_); rintro e w7 ⟨⟨v7, rfl⟩, hu⟩; have H7 := Lib.hid hu; clear hu hov)
  go_ret
  refine ⟨rfl, HB6.out.2.trans (H7.out.below HB6.out.2.size (fun k hk => ?_))⟩
  cases hk
set_option maxRecDepth 100000 in
set_option maxHeartbeats 4000000 in
theorem same_file (hT : TB w tb ns lo N) (hR : RO w rb ns m W A) (i : Nat) (nd : Nd) (hi : ns i = some nd) (hd : nd.dir = false) :
    Calls Try.prog 18 #[.pointer (some ⟨tb, 0, none⟩), .pointer (some ⟨rb, 0, none⟩), .int .i64 (i : Int)] w (SmP w) := by
  obtain ⟨sb, vs, rw', fl, fb, hR, hml, hW, hA⟩ := hR
  have hg := get_any hT (i : Int)
  have hgr : ∀ w', Below w.heap.size w w' → Calls Try.prog 45 #[.pointer (some ⟨rb, 0, none⟩), .int .i64 (i : Int)] w' fun e w2 => e = .returned (getV ns (i : Int)) ∧ Below w'.heap.size w' w2 := fun w' hB => rGet_any (hR.below hB) (i : Int)
  have his : ∀ w', Below w.heap.size w w' → Calls Try.prog 46 #[.pointer (some ⟨rb, 0, none⟩), .int .i64 (i : Int)] w' fun e w2 => e = .returned (.bool (ndAt ns (i : Int)).isSome) ∧ w' = w2 := fun w' hB => rIs_is (hR.below hB) (i : Int)
  have hid : ∀ w', Below w.heap.size w w' → Calls Try.prog 47 #[.pointer (some ⟨rb, 0, none⟩), .int .i64 (i : Int)] w' fun e w2 => e = .returned (.bool (dirAt ns (i : Int)).isSome) ∧ w' = w2 := fun w' hB => rDir_is (hR.below hB) (i : Int)
  have HL := Lib.hid (show ∀ w', Below w.heap.size w w' → Calls Try.prog 22 #[.pointer (some ⟨tb, 0, none⟩)] w' fun e w2 => e = .returned (.int .i64 (lenN ns 16)) ∧ w' = w2 from fun w' hB => len_is (hT.below hB))
  have HLR := Lib.hid (show ∀ w', Below w.heap.size w w' → Calls Try.prog 49 #[.pointer (some ⟨rb, 0, none⟩)] w' fun e w2 => e = .returned (.int .i64 (lenN ns 16)) ∧ w' = w2 from fun w' hB => rLen_is (hR.below hB))
  have hx := ndAt_nat hi
  have hdx : dirAt ns (i : Int) = none := by unfold dirAt; rw [hx]; simp [hd]
  have hgv : getV ns i = .tuple #[.agg #[.int .i64 i, .int .i64 nd.links, .bool false, .int .i64 0], .bool true] := by unfold getV; rw [hx]; simp only; unfold sizeN; rw [hd]; rfl
  rw [hgv] at hg
  have i1 : (i : Int) < 16 := by have := (hR.cells hi).1; omega
  have i2 : (0 : Int) ≤ i := by omega
  have HX := Lib.hid (And.intro hx (And.intro hdx (And.intro hgv (And.intro hi hd))))
  generalize hlk : nd.links = LK at *
  generalize hopn : nd.opens = OP at *
  have HOP := Lib.hid hopn
  have HG := Lib.hid (And.intro hgr (And.intro his hid))
  have H := Lib.hid (And.intro hT hR)
  clear hT hR hml hW hA hgr his hid hx hdx hgv hi hd hlk hopn
  generalize lenN ns 16 = LN at *
  go_enter Try.func18, Try.ntmps18
  go_upto_region 2 with (go_at_call 15; (with_reducible refine hg.mono ?_); rintro e w1 ⟨rfl, hB⟩; have HB1 := Lib.hid hB; clear hB hg)
  have HB2 : Hid (Below w.heap.size w (w1.alloc (.cells #[.int .i64 i, .int .i64 LK, .bool false, .int .i64 0] 41))) := Lib.hid (HB1.out.alloc HB1.out.size _)
  have K7 := Lib.hid (Blk.new w1 #[.int .i64 i, .int .i64 LK, .bool false, .int .i64 0] 41)
  have Z7 := Lib.hid HB1.out.size
  generalize w1.alloc (.cells #[.int .i64 i, .int .i64 LK, .bool false, .int .i64 0] 41) = w2 at *
  generalize w1.heap.size = b7 at *
  have hgr := HG.out.1 w2 HB2.out
  rw [HX.out.2.2.1] at hgr
  go_upto_region 3 with (go_at_call 45; (with_reducible refine hgr.mono ?_); rintro e w3 ⟨rfl, hB⟩; have HB3 := Lib.hid (And.intro hB (And.intro (HB2.out.trans (hB.mono HB2.out.size)) (blk_below K7.out hB))); clear hB hgr)
  have HB4 : Hid (Below w.heap.size w (w3.alloc (.cells #[.int .i64 i, .int .i64 LK, .bool false, .int .i64 0] 41))) := Lib.hid (HB3.out.2.1.alloc HB3.out.2.1.size _)
  have K9 := Lib.hid (Blk.new w3 #[.int .i64 i, .int .i64 LK, .bool false, .int .i64 0] 41)
  have K74 := Lib.hid (HB3.out.2.2.alloc (.cells #[.int .i64 i, .int .i64 LK, .bool false, .int .i64 0] 41))
  generalize w3.alloc (.cells #[.int .i64 i, .int .i64 LK, .bool false, .int .i64 0] 41) = w4 at *
  generalize w3.heap.size = b9 at *
  have his := HG.out.2.1 w4 HB4.out
  have hid := HG.out.2.2 w4 HB4.out
  rw [HX.out.1] at his
  rw [HX.out.2.1] at hid
  obtain ⟨_, _, _, _, c3, _⟩ := (H.out.2.below HB4.out).cells HX.out.2.2.2.1
  rw [HOP.out] at c3
  have hli := list_no (H.out.1.below HB4.out) i HX.out.2.1
  go_upto_region 12 with (first
    | (go_at_call 46; (with_reducible refine his.mono ?_); rintro e w' ⟨rfl, rfl⟩)
    | (go_at_call 47; (with_reducible refine hid.mono ?_); rintro e w' ⟨rfl, rfl⟩)
    | (go_at_call 11; (with_reducible refine hli.mono ?_); rintro e w5 ⟨rfl, rfl⟩))
  have HB5 := HB4
  have K75 := K74
  have K95 := K9
  have hop := opens_yes (H.out.1.below HB4.out) i nd HX.out.2.2.2.1
  rw [HOP.out] at hop
  have HROW : Hid (Row2 w4 37 (.slice none 0 0) [] none) := Lib.hid (Or.inl ⟨rfl, rfl, rfl⟩)
  have hse := sameE_is (w := w4) (a1 := none) (a2 := none) (es := []) 0 0 0 (fun k x hx => by cases hx) (fun k x hx => by cases hx) rfl (by omega)
  clear hli c3
  have q7 := K75.out.rd
  have q9 := K95.out.rd
  clear his hid
  go_upto_region 13 with (first
    | (go_at_call 19; (with_reducible refine hop.mono ?_); rintro e w' ⟨rfl, rfl⟩)
    | (go_at_call 48; (with_reducible refine hse.mono ?_); rintro e w6 ⟨rfl, hB⟩; have HB6 := Lib.hid (And.intro hB (HB5.out.trans (hB.mono HB5.out.size))); clear hB hse q7 q9; have hl1 := HL.out w6 HB6.out.2; have hl2 := HLR.out w6 HB6.out.2)
    | (go_at_call 22; (with_reducible refine hl1.mono ?_); rintro e w' ⟨rfl, rfl⟩)
    | (go_at_call 49; (with_reducible refine hl2.mono ?_); rintro e w' ⟨rfl, rfl⟩))
  have hov := overE_is (HROW.out.below HB6.out.1) (by simp)
  go_wp2_with (go_at_call 50; (with_reducible refine hov.mono ?_); rintro e w7 ⟨⟨v7, rfl⟩, hu⟩; have H7 := Lib.hid hu; clear hu hov)
  go_ret
  refine ⟨rfl, HB6.out.2.trans (H7.out.below HB6.out.2.size (fun k hk => ?_))⟩
  cases hk
set_option maxRecDepth 100000 in
set_option maxHeartbeats 4000000 in
theorem same_dir (hT : TB w tb ns lo N) (hR : RO w rb ns m W A) (i : Nat) (nd : Nd) (hi : ns i = some nd) (hd : nd.dir = true) :
    Calls Try.prog 18 #[.pointer (some ⟨tb, 0, none⟩), .pointer (some ⟨rb, 0, none⟩), .int .i64 (i : Int)] w (SmP w) := by
  obtain ⟨sb, vs, rw', fl, fb, hR, hml, hW, hA⟩ := hR
  have hg := get_any hT (i : Int)
  have hgr : ∀ w', Below w.heap.size w w' → Calls Try.prog 45 #[.pointer (some ⟨rb, 0, none⟩), .int .i64 (i : Int)] w' fun e w2 => e = .returned (getV ns (i : Int)) ∧ Below w'.heap.size w' w2 := fun w' hB => rGet_any (hR.below hB) (i : Int)
  have his : ∀ w', Below w.heap.size w w' → Calls Try.prog 46 #[.pointer (some ⟨rb, 0, none⟩), .int .i64 (i : Int)] w' fun e w2 => e = .returned (.bool (ndAt ns (i : Int)).isSome) ∧ w' = w2 := fun w' hB => rIs_is (hR.below hB) (i : Int)
  have hid : ∀ w', Below w.heap.size w w' → Calls Try.prog 47 #[.pointer (some ⟨rb, 0, none⟩), .int .i64 (i : Int)] w' fun e w2 => e = .returned (.bool (dirAt ns (i : Int)).isSome) ∧ w' = w2 := fun w' hB => rDir_is (hR.below hB) (i : Int)
  have HL := Lib.hid (show ∀ w', Below w.heap.size w w' → Calls Try.prog 22 #[.pointer (some ⟨tb, 0, none⟩)] w' fun e w2 => e = .returned (.int .i64 (lenN ns 16)) ∧ w' = w2 from fun w' hB => len_is (hT.below hB))
  have HLR := Lib.hid (show ∀ w', Below w.heap.size w w' → Calls Try.prog 49 #[.pointer (some ⟨rb, 0, none⟩)] w' fun e w2 => e = .returned (.int .i64 (lenN ns 16)) ∧ w' = w2 from fun w' hB => rLen_is (hR.below hB))
  have hx := ndAt_nat hi
  have hdx : dirAt ns (i : Int) = some nd := by unfold dirAt; rw [hx]; simp [hd]
  have hgv : getV ns i = .tuple #[.agg #[.int .i64 i, .int .i64 nd.links, .bool true, .int .i64 nd.es.length], .bool true] := by unfold getV; rw [hx]; simp only; unfold sizeN; rw [hd]; rfl
  rw [hgv] at hg
  have i1 : (i : Int) < 16 := by have := (hR.cells hi).1; omega
  have i2 : (0 : Int) ≤ i := by omega
  have HX := Lib.hid (And.intro hx (And.intro hdx (And.intro hgv (And.intro hi hd))))
  generalize hlk : nd.links = LK at *
  generalize hopn : nd.opens = OP at *
  have HOP := Lib.hid hopn
  generalize hle : nd.es.length = LE at *
  have HLE := Lib.hid hle
  have HROWR := Lib.hid (show ∃ a c, vs i = .slice a LE c ∧ ∀ w', Below w.heap.size w w' → Rd2 w' a (nd.es.map enV) from by
    obtain ⟨hrow, h8⟩ := hR.row i nd hi
    obtain ⟨a, c, hv⟩ := hrow.slice
    rw [List.length_map, hle] at hv
    refine ⟨a, c, hv, fun w' hB => ?_⟩
    rw [hv] at hrow
    exact (hrow.below hB).rd)
  have HL8 := Lib.hid (show LE ≤ 8 from by have := (hR.row i nd hi).2; omega)
  have HG := Lib.hid (And.intro hgr (And.intro his hid))
  have H := Lib.hid (And.intro hT hR)
  clear hT hR hml hW hA hgr his hid hx hdx hgv hi hd hlk hopn hle
  generalize lenN ns 16 = LN at *
  go_enter Try.func18, Try.ntmps18
  go_upto_region 2 with (go_at_call 15; (with_reducible refine hg.mono ?_); rintro e w1 ⟨rfl, hB⟩; have HB1 := Lib.hid hB; clear hB hg)
  have HB2 : Hid (Below w.heap.size w (w1.alloc (.cells #[.int .i64 i, .int .i64 LK, .bool true, .int .i64 LE] 41))) := Lib.hid (HB1.out.alloc HB1.out.size _)
  have K7 := Lib.hid (Blk.new w1 #[.int .i64 i, .int .i64 LK, .bool true, .int .i64 LE] 41)
  have Z7 := Lib.hid HB1.out.size
  generalize w1.alloc (.cells #[.int .i64 i, .int .i64 LK, .bool true, .int .i64 LE] 41) = w2 at *
  generalize w1.heap.size = b7 at *
  have hgr := HG.out.1 w2 HB2.out
  rw [HX.out.2.2.1] at hgr
  go_upto_region 3 with (go_at_call 45; (with_reducible refine hgr.mono ?_); rintro e w3 ⟨rfl, hB⟩; have HB3 := Lib.hid (And.intro hB (And.intro (HB2.out.trans (hB.mono HB2.out.size)) (blk_below K7.out hB))); clear hB hgr)
  have HB4 : Hid (Below w.heap.size w (w3.alloc (.cells #[.int .i64 i, .int .i64 LK, .bool true, .int .i64 LE] 41))) := Lib.hid (HB3.out.2.1.alloc HB3.out.2.1.size _)
  have K9 := Lib.hid (Blk.new w3 #[.int .i64 i, .int .i64 LK, .bool true, .int .i64 LE] 41)
  have K74 := Lib.hid (HB3.out.2.2.alloc (.cells #[.int .i64 i, .int .i64 LK, .bool true, .int .i64 LE] 41))
  generalize w3.alloc (.cells #[.int .i64 i, .int .i64 LK, .bool true, .int .i64 LE] 41) = w4 at *
  generalize w3.heap.size = b9 at *
  have his := HG.out.2.1 w4 HB4.out
  have hid := HG.out.2.2 w4 HB4.out
  rw [HX.out.1] at his
  rw [HX.out.2.1] at hid
  obtain ⟨_, _, _, _, c3, c4⟩ := (H.out.2.below HB4.out).cells HX.out.2.2.2.1
  rw [HOP.out] at c3
  obtain ⟨ar, cr, hvr, hrr⟩ := HROWR.out
  rw [hvr] at c4
  have HRR := Lib.hid hrr
  clear hvr hrr
  have hli := list_yes (H.out.1.below HB4.out) i nd HX.out.2.2.2.1 HX.out.2.2.2.2
  go_upto_region 12 with (first
    | (go_at_call 46; (with_reducible refine his.mono ?_); rintro e w' ⟨rfl, rfl⟩)
    | (go_at_call 47; (with_reducible refine hid.mono ?_); rintro e w' ⟨rfl, rfl⟩)
    | (go_at_call 11; (with_reducible refine hli.mono ?_); rintro e w5 ⟨v5, b5, rfl, hr, hb, hB⟩; obtain ⟨a5, q5, hv5⟩ := hr.slice; rw [List.length_map, HLE.out] at hv5; subst hv5; have HROW := Lib.hid hr; have HBN := Lib.hid hb; have HB5 := Lib.hid (HB4.out.trans (hB.mono HB4.out.size)); have K75 := Lib.hid (blk_below K74.out hB); have K95 := Lib.hid (blk_below K9.out hB); clear hr hb hB hli))
  have hop := opens_yes (H.out.1.below HB5.out) i nd HX.out.2.2.2.1
  rw [HOP.out] at hop
  have hse := sameE_is (w := w5) (es := nd.es) LE q5 cr HROW.out.rd (HRR.out w5 HB5.out) HLE.out (by have := HL8.out; omega)
  clear c3 c4
  have q7 := K75.out.rd
  have q9 := K95.out.rd
  clear his hid
  go_upto_region 13 with (first
    | (go_at_call 19; (with_reducible refine hop.mono ?_); rintro e w' ⟨rfl, rfl⟩)
    | (go_at_call 48; (with_reducible refine hse.mono ?_); rintro e w6 ⟨rfl, hB⟩; have HB6 := Lib.hid (And.intro hB (HB5.out.trans (hB.mono HB5.out.size))); clear hB hse q7 q9; have hl1 := HL.out w6 HB6.out.2; have hl2 := HLR.out w6 HB6.out.2)
    | (go_at_call 22; (with_reducible refine hl1.mono ?_); rintro e w' ⟨rfl, rfl⟩)
    | (go_at_call 49; (with_reducible refine hl2.mono ?_); rintro e w' ⟨rfl, rfl⟩))
  have hov := overE_is (HROW.out.below HB6.out.1) (by rw [List.length_map, HLE.out]; have := HL8.out; omega)
  go_wp2_with (go_at_call 50; (with_reducible refine hov.mono ?_); rintro e w7 ⟨⟨v7, rfl⟩, hu⟩; have H7 := Lib.hid hu; clear hu hov)
  go_ret
  refine ⟨rfl, HB6.out.2.trans (H7.out.below HB6.out.2.size (fun k hk => ?_))⟩
  have := HBN.out k hk; have := HB4.out.size; omega
theorem same_is (hT : TB w tb ns lo N) (hR : RO w rb ns m W A) (id : Int) :
    Calls Try.prog 18 #[.pointer (some ⟨tb, 0, none⟩), .pointer (some ⟨rb, 0, none⟩), .int .i64 id] w (SmP w) := by
  cases hx : ndAt ns id with
  | none => exact same_none hT hR id hx
  | some nd =>
    obtain ⟨i, rfl, hi⟩ := ndAt_some hx
    cases hd : nd.dir with
    | false => exact same_file hT hR i nd hi hd
    | true => exact same_dir hT hR i nd hi hd
end
end Go.Proofs.Ytapkdaccbojbgaa
