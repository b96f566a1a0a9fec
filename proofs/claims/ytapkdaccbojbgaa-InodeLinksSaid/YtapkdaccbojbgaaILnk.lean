/-
  InodeLinks: the walk.
-/
import Derived.Test.YtapkdaccbojbgaaIScr
namespace Go.Proofs.Ytapkdaccbojbgaa
set_option linter.unusedSimpArgs false
set_option linter.unusedVariables false
open Go.RowKit Own Two Pair
open RegJ hiding Up
open RegF hiding put_size
open Go.Lib hiding intOf

/-- sixteen numbers -/
def lnkC (f : Nat → Nat) : Array Value := ((List.range 16).map fun m => Value.int .i64 (f m)).toArray
theorem lnkC_at (f : Nat → Nat) (m : Nat) (h : m < 16) : (lnkC f)[m]? = some (.int .i64 (f m)) := by unfold lnkC; simp [h]
theorem lnkC_set (f g : Nat → Nat) (m : Nat) (h : m < 16) (hm : g m = f m + 1) (ho : ∀ k, k ≠ m → g k = f k) : (lnkC f).setIfInBounds m (.int .i64 ((f m : Int) + 1)) = lnkC g := by
  unfold lnkC
  apply Array.ext_getElem?
  intro j
  simp only [List.setIfInBounds_toArray, List.getElem?_toArray, List.getElem?_set, List.length_map, List.length_range, List.getElem?_map]
  by_cases e : m = j
  · subst e
    rw [if_pos rfl, if_pos h, List.getElem?_range h]
    simp [hm]
  · rw [if_neg e]
    by_cases hj : j < 16
    · rw [List.getElem?_range hj]; simp [ho j (fun h => e h.symm)]
    · rw [List.getElem?_eq_none (by simp; omega)]; rfl
theorem lnkC_ext {f g : Nat → Nat} (h : ∀ m, m < 16 → f m = g m) : lnkC f = lnkC g := by
  unfold lnkC
  congr 1
  refine List.map_congr_left fun m hm => ?_
  rw [h m (by simpa using hm)]
theorem and15 (k : Nat) (h : k < 16) : bits BinOp.and IntKind.i64 (k : Int) 15 = k := by
  have : ∀ k : Fin 16, bits BinOp.and IntKind.i64 ((k.val : Nat) : Int) 15 = ((k.val : Nat) : Int) := by decide +kernel
  exact this ⟨k, h⟩
/-- the tables, the counters -/
def Lk (W : World) (tb rb lb : Nat) (ns : NSt) (c : Nat) (f : Nat → Nat) (w : World) : Prop := Pair.Two W w (TPa tb ns c) (RPa rb ns c) (fun k => k = lb) ∧ Blk w lb (lnkC f) 52
section
variable {W w w' : World} {tb rb lb c : Nat} {ns : NSt} {f : Nat → Nat}
theorem Lk.below (h : Lk W tb rb lb ns c f w) (hB : Below w.heap.size w w') : Lk W tb rb lb ns c f w' := ⟨h.1.below hB, blk_below h.2 hB⟩
theorem Lk.ext {g : Nat → Nat} (h : Lk W tb rb lb ns c f w) (he : ∀ m, m < 16 → f m = g m) : Lk W tb rb lb ns c g w := ⟨h.1, by rw [← lnkC_ext he]; exact h.2⟩
theorem Lk.inc {g : Nat → Nat} {m : Nat} (h : Lk W tb rb lb ns c f w) (hm : m < 16) (h1 : g m = f m + 1) (h2 : ∀ k, k ≠ m → g k = f k) : Lk W tb rb lb ns c g (w.setCell ⟨lb, m, none⟩ (.int .i64 ((f m : Int) + 1))) ∧ Upd (fun k => k = lb) w (w.setCell ⟨lb, m, none⟩ (.int .i64 ((f m : Int) + 1))) := by
  have hu : Upd (fun k => k = lb) w (w.setCell ⟨lb, m, none⟩ (.int .i64 ((f m : Int) + 1))) := (Upd.refl (fun k => k = lb) w).setCell (p := ⟨lb, m, none⟩) (fun _ => rfl) _
  exact ⟨⟨h.1.turn hu (fun k h => h), Blk.of (h.2.set m _) (lnkC_set f g m hm h1 h2)⟩, hu⟩
/-- List of any number -/
def LsP (ns : NSt) (id : Int) (w : World) (e : Ending) (w' : World) : Prop := ∃ (es : List En) (v : Value) (b : Option Nat) (n : Int), e = .returned (.tuple #[v, .int .i64 n]) ∧ Row2 w' 37 v (es.map enV) b ∧ (∀ g, b = some g → w.heap.size ≤ g) ∧ Below w.heap.size w w' ∧ ((n = 0 ∧ ∃ nd, dirAt ns id = some nd ∧ nd.es = es) ∨ (n ≠ 0 ∧ dirAt ns id = none ∧ es = []))
theorem list_any (h : Lk W tb rb lb ns c f w) (id : Int) : Calls Try.prog 11 #[.pointer (some ⟨tb, 0, none⟩), .int .i64 id] w (LsP ns id w) := by
  obtain ⟨O1, lo, hT, _⟩ := h.1.atl
  cases hd : dirAt ns id with
  | none =>
    refine (list_no hT id hd).mono ?_
    rintro e w' ⟨rfl, rfl⟩
    exact ⟨[], .slice none 0 0, none, 11, rfl, Or.inl ⟨rfl, rfl, rfl⟩, (fun g hg => by cases hg), Below.refl _ _, Or.inr ⟨by decide, hd, rfl⟩⟩
  | some nd =>
    obtain ⟨i, rfl, hi, hdd⟩ := dirAt_some hd
    refine (list_yes hT i nd hi hdd).mono ?_
    rintro e w' ⟨v, b, rfl, hr, hb, hB⟩
    exact ⟨nd.es, v, b, 0, rfl, hr, hb, hB, Or.inl ⟨rfl, nd, hd, rfl⟩⟩
theorem Lk.get (h : Lk W tb rb lb ns c f w) (id : Int) : Calls Try.prog 15 #[.pointer (some ⟨tb, 0, none⟩), .int .i64 id] w fun e w' => e = .returned (getV ns id) ∧ Below w.heap.size w w' := by
  obtain ⟨O1, lo, hT, _⟩ := h.1.atl
  exact get_any hT id
theorem Lk.opens (h : Lk W tb rb lb ns c f w) {i : Nat} {nd : Nd} (hi : ns i = some nd) : Calls Try.prog 19 #[.pointer (some ⟨tb, 0, none⟩), .int .i64 i] w fun e w' => e = .returned (.int .i64 nd.opens) ∧ w = w' := by
  obtain ⟨O1, lo, hT, _⟩ := h.1.atl
  exact opens_yes hT i nd hi
end
theorem cnt_take {es : List En} {k : Nat} {x : En} (hx : es[k]? = some x) (m : Nat) : cntE (es.take (k + 1)) m = cntE (es.take k) m + (if x.2 = (m : Int) then 1 else 0) := by
  unfold cntE
  rw [List.take_add_one, hx, List.map_append, List.count_append]
  congr 1
  simp only [Option.toList_some, List.map_cons, List.map_nil, List.count_cons, List.count_nil]
  by_cases h : x.2 = (m : Int)
  · simp [h]
  · simp [h]
theorem refs_succ {ns : NSt} {c d : Nat} (hV : IV ns c) {es : List En} (h : (∃ nd, dirAt ns (d : Int) = some nd ∧ nd.es = es) ∨ (dirAt ns (d : Int) = none ∧ es = [])) (m : Nat) : refs ns m d + cntE es m = refs ns m (d + 1) := by
  show refs ns m d + cntE es m = refs ns m d + cntO (ns d) m
  congr 1
  rcases h with ⟨nd, hd, rfl⟩ | ⟨hd, rfl⟩
  · obtain ⟨i, e, hi, _⟩ := dirAt_some hd
    have : d = i := by omega
    subst this
    rw [hi]; rfl
  · unfold dirAt at hd
    cases hx : ns d with
    | none => rfl
    | some nd =>
      rw [ndAt_nat hx] at hd
      simp only at hd
      split at hd
      · cases hd
      · rename_i h0
        have := hV.fil d nd hx (by simpa using h0)
        show _ = cntE nd.es m
        rw [this]
set_option maxRecDepth 100000 in
set_option maxHeartbeats 4000000 in
theorem links_walk (av : Option Addr) (len cap : Nat) (w : World) (hm : len ≤ maxLen) (hA : Acts5 w av len) :
    Calls Try.prog 5 #[.slice av len cap] w (SmP w) := by
  have hgr := great_is (cap := cap) hA hm
  have HA := Lib.hid hA
  clear hA hm
  go_enter Try.func5, Try.ntmps5
  go_upto_if 18 with (go_at_call 16; (with_reducible refine hgr.mono ?_); rintro e w' ⟨b, rfl, hb, rfl⟩; clear hgr; have HB := Lib.hid hb; clear hb)
  cases b with
  | true =>
    go_wp2_with (go_at_call 7; refine (awake_any _).mono ?_; rintro e w1 ⟨rfl, hB⟩)
    go_ret
    exact ⟨rfl, hB⟩
  | false =>
    have HL := Lib.hid (HB.out rfl)
    clear HB
    go_wp2_with (go_at_call 8; refine (both2 _).mono ?_; rintro e w1 ⟨tb, rb, rfl, hT⟩; have H1 := Lib.hid hT; clear hT)
    go_loopw [5] (fun v5 wr => ∃ (i : Nat) (ns : NSt), i ≤ len ∧ v5 = .int .i64 i ∧ Hid (IV ns i ∧ Pair.Two w wr (TPa tb ns i) (RPa rb ns i) (fun _ => False))) (fun v5 _ => len - (intOf v5).toNat)
    case atStart => exact ⟨0, ns0, Nat.zero_le _, rfl, Lib.hid ⟨IV.zero, H1.out⟩⟩
    case round =>
      obtain ⟨i, ns, hi, rfl, HS⟩ := hrel
      by_cases hil : i < len
      · obtain ⟨g, o, d, id, dir, nm, isd, rfl, k0, k1, k2, k3, k4⟩ := HA.out i hil
        have d5 : decide ((i : Int) < (len : Int)) = true := by simp; omega
        have i5 : (i : Int) < (len : Int) := by omega
        have i6 : (0 : Int) ≤ i := by omega
        have i7 : (len : Int) ≤ 80 := by have := HL.out; omega
        have j0 := HS.out.2.cell k0
        have j1 := HS.out.2.cell k1
        have j2 := HS.out.2.cell k2
        have j3 := HS.out.2.cell k3
        have j4 := HS.out.2.cell k4
        clear k0 k1 k2 k3 k4
        obtain ⟨s, hs⟩ : ∃ s, B nm = s := ⟨_, rfl⟩
        rw [hs] at j3
        have HNM := Lib.hid hs
        clear hs
        go_upto_region 10 with (fail)
        have HW : Hid (Below wr.heap.size wr (wr.alloc (.cells #[.int .i64 d, .int .i64 id, .int .i64 dir, .string s, .bool isd] 49))) := Lib.hid ((Below.refl _ _).alloc (Nat.le_refl _) _)
        have K6 := Lib.hid (Blk.new wr #[.int .i64 d, .int .i64 id, .int .i64 dir, .string s, .bool isd] 49)
        clear j0 j1 j2 j3 j4
        generalize wr.alloc (.cells #[.int .i64 d, .int .i64 id, .int .i64 dir, .string s, .bool isd] 49) = w2 at *
        have HS2 := Lib.hid (And.intro HS.out.1 (HS.out.2.below HW.out))
        generalize wr.heap.size = ba at *
        have q6 := K6.out.rd
        obtain ⟨x1, x2, x3, x4, y, hgv, hyd⟩ : ∃ (x1 x2 : Int) (x3 : Bool) (x4 : Int) (y : Bool), getV ns id = .tuple #[.agg #[.int .i64 x1, .int .i64 x2, .bool x3, .int .i64 x4], .bool y] ∧ True := by
          unfold getV
          cases ndAt ns id with
          | none => exact ⟨0, 0, false, 0, false, rfl, trivial⟩
          | some nd => exact ⟨_, _, _, _, _, rfl, trivial⟩
        have hge : Calls Try.prog 15 #[.pointer (some ⟨tb, 0, none⟩), .int .i64 id] w2 fun e w' => e = .returned (.tuple #[.agg #[.int .i64 x1, .int .i64 x2, .bool x3, .int .i64 x4], .bool y]) ∧ Below w2.heap.size w2 w' := by
          rw [← hgv]
          obtain ⟨O1, lo, hT, _⟩ := HS2.out.2.atl
          exact get_any hT id
        clear hgv hyd
        go_upto_region 11 with (go_at_call 15; (with_reducible refine hge.mono ?_); rintro e w3 ⟨rfl, hB⟩; have HB3 := Lib.hid hB; clear hB hge)
        have HB4 : Hid (Below w2.heap.size w2 (w3.alloc (.cells #[.int .i64 x1, .int .i64 x2, .bool x3, .int .i64 x4] 41))) := Lib.hid (HB3.out.alloc HB3.out.size _)
        have K7 := Lib.hid (Blk.new w3 #[.int .i64 x1, .int .i64 x2, .bool x3, .int .i64 x4] 41)
        generalize w3.alloc (.cells #[.int .i64 x1, .int .i64 x2, .bool x3, .int .i64 x4] 41) = w4 at *
        generalize w3.heap.size = bn at *
        have HS4 := Lib.hid (And.intro HS2.out.1 (HS2.out.2.below HB4.out))
        have K64 := Lib.hid (blk_below K6.out HB4.out)
        clear q6
        have q6 := K64.out.rd
        have q7 := K7.out.rd
        by_cases hsk : d = 3 ∧ y = true ∧ x3 = true
        · obtain ⟨rfl, rfl, rfl⟩ := hsk
          go_wp2_with (fail)
          go_roundw
          case rel => exact ⟨i + 1, ns, by omega, by go_num, Lib.hid ⟨HS4.out.1.le (by omega), ((HS4.out.2.stepl (w' := w4) (p' := TPa tb ns (i + 1)) (fun O hO => by obtain ⟨lo, hT, rfl⟩ := hO; exact p_same hT (by omega) (Below.refl _ _))).1.stepr (w' := w4) (q' := RPa rb ns (i + 1)) (fun O hO => by obtain ⟨W', A', hT, rfl, hl⟩ := hO; exact q_same hT (by omega))).1⟩⟩
          case measure => simp [intOf]; omega
        · have hdo := done_is HS4.out.1 (by have := HL.out; omega) HS4.out.2 d id dir nm isd
          rw [HNM.out] at hdo
          have HD : Hid (∀ w9 : World, DoneP w tb rb i (.returned (.bool true)) w9 → DoneP w tb rb i (.returned (.bool true)) w9) := Lib.hid (fun _ h => h)
          have htest : ((d == 3) = false ∨ ((d == 3) = true ∧ y = false) ∨ ((d == 3) = true ∧ y = true ∧ x3 = false)) := by
            by_cases h3 : d = 3
            · cases y with
              | false => exact Or.inr (Or.inl ⟨by simpa using h3, rfl⟩)
              | true => cases x3 with
                | false => exact Or.inr (Or.inr ⟨by simpa using h3, rfl, rfl⟩)
                | true => exact absurd ⟨h3, rfl, rfl⟩ hsk
            · exact Or.inl (by simpa using h3)
          clear hsk
          rcases htest with t1 | ⟨t1, rfl⟩ | ⟨t1, rfl, rfl⟩
          all_goals
            go_upto_region 13 with (go_at_call 17; (with_reducible refine hdo.mono ?_); rintro e w5 ⟨rfl, ns2, hV2, hT2⟩; have H5 := Lib.hid (And.intro hV2 hT2); clear hdo hV2 hT2 q6 q7)
            clear t1
            go_upto_region 14 with (fail)
            have HK6 : Hid (Lk w tb rb w5.heap.size ns2 (i + 1) (fun m => refs ns2 m 0) (w5.alloc (.cells #[.int .i64 0, .int .i64 0, .int .i64 0, .int .i64 0, .int .i64 0, .int .i64 0, .int .i64 0, .int .i64 0, .int .i64 0, .int .i64 0, .int .i64 0, .int .i64 0, .int .i64 0, .int .i64 0, .int .i64 0, .int .i64 0] 52))) := Lib.hid ⟨(H5.out.2.new _).less (fun k hk => Or.inr hk), Blk.new _ _ _⟩
            generalize w5.alloc (.cells #[.int .i64 0, .int .i64 0, .int .i64 0, .int .i64 0, .int .i64 0, .int .i64 0, .int .i64 0, .int .i64 0, .int .i64 0, .int .i64 0, .int .i64 0, .int .i64 0, .int .i64 0, .int .i64 0, .int .i64 0, .int .i64 0] 52) = w6 at *
            generalize w5.heap.size = lb at *
            clear HB3 HB4 K6 K64 K7 HS2 HS4 HW
            go_wp2_with (fail)
            go_loopw [10] (fun v10 wr => ∃ q : Nat, q ≤ 16 ∧ v10 = .int .i64 q ∧ Hid (Lk w tb rb lb ns2 (i + 1) (fun m => refs ns2 m q) wr)) (fun v10 _ => 16 - (intOf v10).toNat)
            case atStart => exact ⟨0, by omega, rfl, HK6⟩
            case round =>
              obtain ⟨q, hq, rfl, HQ⟩ := hrel
              by_cases hql : q < 16
              · have d6 : decide ((q : Int) < 16) = true := by simp; omega
                have d6n : decide (q < 16) = true := by simp; omega
                have i8 : (q : Int) < 16 := by omega
                have i9 : (0 : Int) ≤ q := by omega
                have hli := list_any HQ.out q
                go_upto_region 18 with (go_at_call 11; (with_reducible refine hli.mono ?_); rintro e w7 ⟨es, v, b, n, rfl, hr, hb, hB, hor⟩; obtain ⟨a, c', hv⟩ := hr.slice; rw [List.length_map] at hv; subst hv; have H7 := Lib.hid (And.intro hr (And.intro hb (And.intro (HQ.out.below hB) hB))); have HOR := Lib.hid hor; clear hr hb hB hli hor)
                rcases HOR.out with ⟨rfl, hnd⟩ | ⟨hn0, hdn, rfl⟩
                · clear hnd
                  have H8 : Hid (es.length ≤ 8) := Lib.hid (by
                    rcases HOR.out with ⟨_, nd, hd, rfl⟩ | ⟨h0, _⟩
                    · obtain ⟨i', _, hi', _⟩ := dirAt_some hd
                      exact H5.out.1.len i' nd hi'
                    · exact absurd rfl h0)
                  have HID : Hid (∀ e ∈ es, 1 ≤ e.2 ∧ e.2 < 16) := Lib.hid (by
                    rcases HOR.out with ⟨_, nd, hd, rfl⟩ | ⟨h0, _⟩
                    · obtain ⟨i', _, hi', _⟩ := dirAt_some hd
                      exact H5.out.1.inv.ids i' nd hi'
                    · exact absurd rfl h0)
                  have HRF : Hid (∀ m, m < 16 → refs ns2 m q + cntE es m ≤ 128) := Lib.hid (fun m hm => by
                    have h1 := refs_succ (d := q) H5.out.1 (by
                      rcases HOR.out with ⟨_, h⟩ | ⟨h0, _⟩
                      · exact Or.inl h
                      · exact absurd rfl h0) m
                    have h2 := refs_le H5.out.1.len m (q + 1)
                    omega)
                  have HS0 : Hid (Lk w tb rb lb ns2 (i + 1) (fun m => refs ns2 m q + cntE (es.take 0) m) w7 ∧ Row2 w7 37 (.slice a es.length c') (es.map enV) b) := Lib.hid ⟨H7.out.2.2.1.ext (fun m hm => by unfold cntE; simp), H7.out.1⟩
                  have HBL : Hid (∀ g, b = some g → g ≠ lb) := Lib.hid (fun g hg e => by have := H7.out.2.1 g hg; have := HQ.out.2.lt; omega)
                  generalize hLL : es.length = L at *
                  have HLL := Lib.hid hLL
                  clear hLL
                  go_wp2_with (fail)
                  go_loopw [13] (fun v13 wr => ∃ k : Nat, k ≤ L ∧ v13 = .int .i64 k ∧ Hid (Lk w tb rb lb ns2 (i + 1) (fun m => refs ns2 m q + cntE (es.take k) m) wr ∧ Row2 wr 37 (.slice a L c') (es.map enV) b)) (fun v13 _ => L - (intOf v13).toNat)
                  case atStart => exact ⟨0, Nat.zero_le _, rfl, HS0⟩
                  case round =>
                    obtain ⟨k, hk, rfl, HJ⟩ := hrel
                    have L8 : (L : Int) ≤ 8 := by have := H8.out; omega
                    by_cases hkl : k < L
                    · have d7 : decide ((k : Int) < (L : Int)) = true := by simp; omega
                      have d7n : decide (k < L) = true := by simp; omega
                      have j1 : (k : Int) < (L : Int) := by omega
                      have j2 : (0 : Int) ≤ k := by omega
                      obtain ⟨y, hy⟩ : ∃ y, es[k]? = some y := ⟨_, List.getElem?_eq_getElem (by rw [HLL.out]; exact hkl)⟩
                      obtain ⟨g, rfl, r1, r2⟩ := HJ.out.2.rd k (enV y) (by rw [List.getElem?_map, hy]; rfl)
                      have hyb := HID.out y (List.mem_of_getElem? hy)
                      obtain ⟨nm2, z⟩ := y
                      simp only at hyb
                      obtain ⟨m, rfl⟩ : ∃ m : Nat, z = m := ⟨z.toNat, by omega⟩
                      have hm16 : m < 16 := by omega
                      have r2' : wr.cell? ⟨g, k * 2 + 1, none⟩ = some (.int .i64 m) := r2
                      have hct := cnt_take (x := (nm2, (m : Int))) hy
                      simp only at hct
                      have hbd : refs ns2 m q + cntE (es.take k) m ≤ 128 := by
                        have h1 := HRF.out m hm16
                        have h2 : cntE (es.take k) m ≤ cntE es m := by
                          unfold cntE; rw [List.map_take]; exact (List.take_sublist _ _).count_le _
                        omega
                      have cl := HJ.out.1.2.rd m
                      rw [lnkC_at _ m hm16] at cl
                      have nf := HJ.out.1.2.nf
                      have ha := and15 m hm16
                      obtain ⟨hI1, hI2⟩ := Lk.inc (g := fun m' => refs ns2 m' q + cntE (es.take (k + 1)) m') HJ.out.1 hm16 (by rw [hct m, if_pos rfl]; omega) (fun k' hk' => by rw [hct k', if_neg (by omega)]; omega)
                      have hrow := HJ.out.2.upd hI2 (fun g' hg' e => HBL.out g' hg' e)
                      have HN := Lib.hid (And.intro hI1 hrow)
                      have j3 : (m : Int) < 16 := by omega
                      have j4 : (0 : Int) ≤ m := by omega
                      clear hct hI1 hI2 hrow r1 r2 hy hyb
                      generalize refs ns2 m q + cntE (es.take k) m = cc at *
                      have j5 : (cc : Int) ≤ 128 := by omega
                      go_wp2_with (fail)
                      go_roundw
                      case rel => exact ⟨k + 1, by omega, by go_num, HN⟩
                      case measure => simp [intOf]; omega
                    · have hke : k = L := by omega
                      subst hke
                      have d7 : decide ((k : Int) < (k : Int)) = false := by simp
                      have d7n : decide (k < k) = false := by simp
                      go_wp2_with (fail)
                      go_roundw
                      case rel => exact ⟨q + 1, by omega, by go_num, Lib.hid (HJ.out.1.ext (fun m hm => by
                        rw [List.take_of_length_le (by rw [HLL.out]; exact Nat.le_refl _)]
                        exact refs_succ H5.out.1 (by
                          rcases HOR.out with ⟨_, h⟩ | ⟨h0, _⟩
                          · exact Or.inl h
                          · exact absurd rfl h0) m))⟩
                      case measure => simp [intOf]; omega
                · have HDN := Lib.hid hdn
                  have dn : (n == 0) = false := by simpa using hn0
                  clear hdn hn0
                  go_wp2_with (fail)
                  go_loopw [13] (fun v13 wr => v13 = .int .i64 0 ∧ wr = w7) (fun v13 _ => 0)
                  case atStart => exact ⟨rfl, rfl⟩
                  case round =>
                    obtain ⟨rfl, rfl⟩ := hrel
                    go_wp2_with (fail)
                    go_roundw
                    case rel => exact ⟨q + 1, by omega, by go_num, Lib.hid (H7.out.2.2.1.ext (fun m hm => by
                      have := refs_succ (d := q) (es := []) H5.out.1 (Or.inr ⟨HDN.out, rfl⟩) m
                      rw [← this]; rfl))⟩
                    case measure => simp [intOf]; omega
              · have hqe : q = 16 := by omega
                have d6 : decide ((q : Int) < 16) = false := by simp; omega
                have d6n : decide (q < 16) = false := by simp; omega
                have HF : Hid (Lk w tb rb lb ns2 (i + 1) (fun m => refs ns2 m 16) wr) := Lib.hid (by have := HQ.out; rw [hqe] at this; exact this)
                clear HK6 HQ hqe hq hql
                go_wp2_with (fail)
                clear d6 d6n
                go_loopw [14] (fun v14 wr => ∃ q : Nat, q ≤ 16 ∧ v14 = .int .i64 q ∧ Hid (Lk w tb rb lb ns2 (i + 1) (fun m => refs ns2 m 16) wr)) (fun v14 _ => 16 - (intOf v14).toNat)
                case atStart => exact ⟨0, by omega, rfl, HF⟩
                case round =>
                  obtain ⟨q, hq, rfl, HQ⟩ := hrel
                  by_cases hql : q < 16
                  · have d6 : decide ((q : Int) < 16) = true := by simp; omega
                    have d6n : decide (q < 16) = true := by simp; omega
                    have i8 : (q : Int) < 16 := by omega
                    have i9 : (0 : Int) ≤ q := by omega
                    have hge := HQ.out.get q
                    have hcn := H5.out.1.inv.cnt q
                    rw [List.count_nil, Nat.add_zero] at hcn
                    cases hx : ns2 q with
                    | none =>
                      have hgv : getV ns2 q = .tuple #[.agg in0, .bool false] := by
                        have : ndAt ns2 (q : Int) = none := by unfold ndAt; rw [if_pos (by omega)]; exact hx
                        unfold getV; rw [this]
                      rw [hgv] at hge
                      have h0 : refs ns2 q 16 = 0 := by unfold lnk at hcn; rw [hx] at hcn; simpa using hcn
                      have H0 := Lib.hid h0
                      clear hgv hx hcn h0
                      go_upto_region 26 with (go_at_call 15; (with_reducible refine hge.mono ?_); rintro e w7 ⟨rfl, hB⟩; have HB7 := Lib.hid hB; clear hB hge)
                      have HQ8 : Hid (Lk w tb rb lb ns2 (i + 1) (fun m => refs ns2 m 16) (w7.alloc (.cells in0 41))) := Lib.hid (HQ.out.below (HB7.out.alloc HB7.out.size _))
                      have hk := (Blk.new w7 in0 41).rd
                      generalize w7.alloc (.cells in0 41) = w8 at *
                      generalize w7.heap.size = bq at *
                      have cl := HQ8.out.2.rd q
                      rw [lnkC_at _ q hql, H0.out] at cl
                      go_quiet (fail)
                      go_wp2_with (fail)
                      go_roundw
                      case rel => exact ⟨q + 1, by omega, by go_num, Lib.hid (HQ8.out.below (((Upd.refl (fun _ => False) w8).drewN nq).below (Nat.le_refl _) (fun _ h => h.elim)))⟩
                      case measure => simp [intOf]; omega
                    | some nd =>
                      have hgv : getV ns2 q = .tuple #[.agg #[.int .i64 q, .int .i64 nd.links, .bool nd.dir, .int .i64 (sizeN nd)], .bool true] := by unfold getV; rw [ndAt_nat hx]
                      rw [hgv] at hge
                      have h0 : nd.links = (refs ns2 q 16 : Nat) := by unfold lnk at hcn; rw [hx] at hcn; exact hcn.symm
                      rw [h0] at hge
                      have hb := refs_le H5.out.1.len q 16
                      have HX := Lib.hid hx
                      have hcl : q ≠ 0 → refs ns2 q 16 = 0 → 0 < nd.opens := fun h1 h2 => by
                        rcases H5.out.1.clean q nd h1 (fun h => h) hx with h | h
                        · rw [h0, h2] at h; exact absurd h (by decide)
                        · exact h
                      have HCL := Lib.hid hcl
                      have hop := fun (w' : World) (h : Lk w tb rb lb ns2 (i + 1) (fun m => refs ns2 m 16) w') => h.opens hx
                      have HOP := Lib.hid hop
                      clear hgv hx hcn h0 hcl hop
                      generalize nd.opens = OP at *
                      generalize nd.dir = dd at *
                      generalize sizeN nd = sz at *
                      go_upto_region 26 with (go_at_call 15; (with_reducible refine hge.mono ?_); rintro e w7 ⟨rfl, hB⟩; have HB7 := Lib.hid hB; clear hB hge)
                      have HQ8 : Hid (Lk w tb rb lb ns2 (i + 1) (fun m => refs ns2 m 16) (w7.alloc (.cells #[.int .i64 q, .int .i64 (refs ns2 q 16 : Nat), .bool dd, .int .i64 sz] 41))) := Lib.hid (HQ.out.below (HB7.out.alloc HB7.out.size _))
                      have hk := (Blk.new w7 #[.int .i64 q, .int .i64 (refs ns2 q 16 : Nat), .bool dd, .int .i64 sz] 41).rd
                      generalize w7.alloc (.cells #[.int .i64 q, .int .i64 (refs ns2 q 16 : Nat), .bool dd, .int .i64 sz] 41) = w8 at *
                      generalize w7.heap.size = bq at *
                      have cl := HQ8.out.2.rd q
                      rw [lnkC_at _ q hql] at cl
                      have hopq : ∀ n : Nat, Calls Try.prog 19 #[.pointer (some ⟨tb, 0, none⟩), .int .i64 q] (w8.drewN n) fun e w' => e = .returned (.int .i64 OP) ∧ w' = w8.drewN n := fun n => (HOP.out _ (HQ8.out.below (((Upd.refl (fun _ => False) w8).drewN n).below (Nat.le_refl _) (fun _ h => h.elim)))).mono (fun _ _ h => ⟨h.1, h.2.symm⟩)
                      have HOQ := Lib.hid hopq
                      clear hopq
                      generalize hRR : refs ns2 q 16 = RR at *
                      have HRR := Lib.hid hRR
                      clear hRR
                      by_cases hq0 : q = 0
                      · have dq : decide ((q : Int) > 0) = false := by simp; omega
                        have dqn : decide (q > 0) = false := by simp; omega
                        clear hq0
                        go_quiet (fail)
                        go_wp2_with (fail)
                        go_roundw
                        case rel => exact ⟨q + 1, by omega, by go_num, Lib.hid (HQ8.out.below (((Upd.refl (fun _ => False) w8).drewN nq).below (Nat.le_refl _) (fun _ h => h.elim)))⟩
                        case measure => simp [intOf]; omega
                      · have dq : decide ((q : Int) > 0) = true := by simp; omega
                        have dqn : decide (q > 0) = true := by simp; omega
                        by_cases hR0 : RR = 0
                        · subst hR0
                          have hOP := HCL.out hq0 rfl
                          have dO : (OP == 0) = false := by simp; omega
                          go_quiet ((go_at_call 19; exact Calls.quiet_of_same (HOQ.out _)))
                          go_wp2_with (fail)
                          go_roundw
                          case rel => exact ⟨q + 1, by omega, by go_num, Lib.hid (HQ8.out.below (((Upd.refl (fun _ => False) w8).drewN nq).below (Nat.le_refl _) (fun _ h => h.elim)))⟩
                          case measure => simp [intOf]; omega
                        · have dR : ((RR : Int) == 0) = false := by simp; omega
                          go_quiet (fail)
                          go_wp2_with (fail)
                          go_roundw
                          case rel => exact ⟨q + 1, by omega, by go_num, Lib.hid (HQ8.out.below (((Upd.refl (fun _ => False) w8).drewN nq).below (Nat.le_refl _) (fun _ h => h.elim)))⟩
                          case measure => simp [intOf]; omega
                  · have d6 : decide ((q : Int) < 16) = false := by simp; omega
                    have d6n : decide (q < 16) = false := by simp; omega
                    clear hq hql
                    go_wp2_with (fail)
                    go_roundw
                    case rel => exact ⟨i + 1, ns2, by omega, by go_num, Lib.hid ⟨H5.out.1, HQ.out.1.less (fun k h => h.elim)⟩⟩
                    case measure => simp [intOf]; omega
      · have d5 : decide ((i : Int) < (len : Int)) = false := by simp; omega
        have d5n : decide (i < len) = false := by simp; omega
        clear hil hi
        go_wp2_with (go_at_call 7; refine (awake_any _).mono ?_; rintro e w7 ⟨rfl, hB⟩)
        go_ret
        exact ⟨rfl, HS.out.2.bel.trans (hB.mono HS.out.2.bel.size)⟩
end Go.Proofs.Ytapkdaccbojbgaa
