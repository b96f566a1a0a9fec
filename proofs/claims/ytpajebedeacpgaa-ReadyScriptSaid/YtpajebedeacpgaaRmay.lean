/-
  The queue's calls that only read: Has, Len, First, All.
-/
import Derived.Test.YtpajebedeacpgaaRdA
namespace Go.Proofs.Ytpajebedeacpgaa
set_option linter.unusedSimpArgs false
set_option linter.unusedVariables false
open Go.RowKit Own Sl
open RegJ hiding Up
open RegF hiding put_size

/-- the queue of the list L, as it lies -/
structure QA (w : World) (qb : Nat) (L : List One) (lo : Lo) (N : Nat) : Prop where
  gd : Gd L
  ex : ∃ R W, QB w qb R (FL L) W (mL L) L.length (HL L) lo N ∧ ∀ r, r < 2 → WD (W r) (hasL (FL L) r)
theorem QA.upd {w w' : World} {qb : Nat} {L : List One} {lo : Lo} {N : Nat} {G : Nat → Prop} (h : QA w qb L lo N) (hu : Upd G w w') (hG : ∀ r k, lo r = some k → ¬ G k) : QA w' qb L lo N := by
  obtain ⟨R, W, h1, h2⟩ := h.ex
  exact ⟨h.gd, R, W, h1.upd hu hG, h2⟩
theorem QA.below {w w' : World} {qb : Nat} {L : List One} {lo : Lo} {N : Nat} (h : QA w qb L lo N) (hB : Below w.heap.size w w') : QA w' qb L lo N := h.upd (Upd.of_below (F := fun _ => False) hB) (fun _ _ _ h => h)
theorem QA.more {w : World} {qb : Nat} {L : List One} {lo : Lo} {N N' : Nat} (h : QA w qb L lo N) (hN : N ≤ N') : QA w qb L lo N' := by
  obtain ⟨R, W, h1, h2⟩ := h.ex
  exact ⟨h.gd, R, W, h1.more hN, h2⟩
theorem mL_cases {L : List One} (h : Gd L) (id : Int) : (id ∉ L.map Prod.fst ∧ mL L id = none) ∨ ∃ x ∈ L, x.1 = id ∧ mL L id = some (prV x.2) := by
  by_cases hi : id ∈ L.map Prod.fst
  · obtain ⟨y, hy, rfl⟩ := List.mem_map.1 hi
    exact Or.inr ⟨y, hy, rfl, mL_some h hy⟩
  · exact Or.inl ⟨hi, mL_none hi⟩
def hasO (L : List One) (id : Int) : Bool := L.any fun x => x.1 == id
theorem hasO_iff {L : List One} {id : Int} : hasO L id = true ↔ id ∈ L.map Prod.fst := by
  unfold hasO
  rw [List.any_eq_true, List.mem_map]
  constructor
  · rintro ⟨x, hx, e⟩; exact ⟨x, hx, by simpa using e⟩
  · rintro ⟨x, hx, e⟩; exact ⟨x, hx, by simpa using e⟩
abbrev prZ : Value := .agg #[.int .i64 0, .int .i64 0, .int .i64 0]
theorem zeroPr (w : World) : (zeroValue 31).run Try.prog w = .ok prZ w := Try.zeroValue31 w
section
variable {w : World} {qb : Nat} {L : List One} {lo : Lo} {N : Nat}
theorem QA.sum (h : QA w qb L lo N) : (catF (FL L) 0).length + (HL L).length + (catF (FL L) 1).length = L.length := by
  have := congrArg List.length (all_eq h.gd)
  rw [List.length_append, List.length_append, List.length_map, List.length_map] at this
  exact this.symm
set_option maxRecDepth 100000 in
theorem qhas_is (h : QA w qb L lo N) (id : Int) (hid : (Lit.int .i64 id).wf = true) :
    Calls Try.prog 19 #[.pointer (some ⟨qb, 0, none⟩), .int .i64 id] w (BoolB (hasO L id) w) := by
  obtain ⟨R, W, hQ, hW⟩ := h.ex
  obtain ⟨mb, n, m1, m2, m3, m4⟩ := hQ.map
  have c0 := hQ.cell 0 (by omega)
  rw [m2] at c0
  have hlk := m3.look_ok (t := 54) (e := 31) Try.underlying3 Try.underlying54 (zeroPr w) id hid
  rcases mL_cases h.gd id with ⟨hn, he⟩ | ⟨x, hx, rfl, he⟩
  · rw [he] at hlk
    have hb : hasO L id = false := by cases hh : hasO L id with
      | false => rfl
      | true => exact absurd (hasO_iff.1 hh) hn
    rw [hb]
    simp only [Option.getD_none, Option.isSome_none] at hlk
    clear hQ hW m1 m2 m3 m4 h hn he hb
    go_enter Try.func19, Try.ntmps19
    go_wp2_with (fail)
    go_ret
    exact ⟨rfl, (Below.refl _ _).alloc (Nat.le_refl _) _⟩
  · rw [he] at hlk
    have hb : hasO L x.1 = true := hasO_iff.2 (List.mem_map_of_mem hx)
    rw [hb]
    simp only [Option.getD_some, Option.isSome_some, prV] at hlk
    clear hQ hW m1 m2 m3 m4 h hx he hb
    go_enter Try.func19, Try.ntmps19
    go_wp2_with (fail)
    go_ret
    exact ⟨rfl, (Below.refl _ _).alloc (Nat.le_refl _) _⟩
set_option maxRecDepth 100000 in
theorem qlen_is (h : QA w qb L lo N) : Calls Try.prog 21 #[.pointer (some ⟨qb, 0, none⟩)] w (ValB (.int .i64 L.length) w) := by
  obtain ⟨R, W, hQ, hW⟩ := h.ex
  obtain ⟨mb, n, m1, m2, m3, m4⟩ := hQ.map
  have c0 := hQ.cell 0 (by omega)
  rw [m2] at c0
  have HM := Lib.hid m3
  clear hQ hW m1 m2 m3 m4 h
  generalize L.length = NL at *
  go_enter Try.func21, Try.ntmps21
  go_wp2_with (at_len; refine wp_maplen _ rfl _ 54 rfl 3 31 Try.underlying54 mb n NL (mL L) rfl HM.out ?_)
  go_ret
  exact ⟨rfl, Below.refl _ _⟩
/-- the first one, and whether there is one -/
def firO (L : List One) : Int × Bool := match L with
  | [] => (0, false)
  | x :: _ => (x.1, true)
theorem firO_of {L : List One} {l : List Int} {a : Int} {r : List Int} (h : L.map Prod.fst = a :: r) : firO L = (a, true) := by
  cases L with
  | nil => cases h
  | cons x t => rw [List.map_cons] at h; injection h with h1 _; rw [← h1]; rfl
theorem firO_nil {L : List One} (h : L.map Prod.fst = []) : firO L = (0, false) := by
  cases L with
  | nil => rfl
  | cons x t => cases h
theorem cat_top {F : Nat → List Int} {r n : Nat} (hn : n < 64) (h1 : hasL F r n = true) (h2 : ∀ j, n < j → j < 64 → hasL F r j = false) : ∃ a t t', F (64 * r + n) = a :: t ∧ catF F r = a :: t' := by
  have he : F (64 * r + n) ≠ [] := by unfold hasL at h1; intro e; rw [e] at h1; cases h1
  obtain ⟨a, t, hat⟩ := List.exists_cons_of_ne_nil he
  refine ⟨a, t, t ++ catL F r (levF (fun j => if j = n then false else hasL F r j) 64), hat, ?_⟩
  unfold catF
  rw [levF_top hn h1 h2]
  unfold catL
  rw [List.flatMap_cons, hat]
  rfl
theorem cat_none {F : Nat → List Int} {r : Nat} (h : ∀ j, j < 64 → hasL F r j = false) : catF F r = [] := by unfold catF catL; rw [levF_none 64 h]; rfl
theorem top_zero (w : World) : Calls Try.prog 36 #[.int .u64 0] w fun e w' => e = .returned (.int .i64 (-1)) ∧ w = w' := top_is 0 (by omega) w
/-- a row in the making beside a block that is kept -/
def IQb (bx : Option Nat) (w0 w1 wr : World) (v : Value) (l : List Int) : Prop := (∀ g, bx = some g → g < w1.heap.size) ∧ ∃ b, Ints wr 3 v l b ∧ (∀ g, b = some g → w0.heap.size ≤ g ∧ bx ≠ some g) ∧ Below w0.heap.size w0 wr ∧ Upd (fun k => bx ≠ some k) w1 wr
theorem IQb.iq {bx : Option Nat} {w0 w1 wr : World} {v : Value} {l : List Int} (h : IQb bx w0 w1 wr v l) : IQ w0 wr v l := by
  obtain ⟨_, b, h1, h2, h3, _⟩ := h
  exact ⟨b, h1, fun g hg => (h2 g hg).1, h3⟩
theorem IQb.below {bx : Option Nat} {w0 w1 wr w' : World} {v : Value} {l : List Int} (h : IQb bx w0 w1 wr v l) (hB : Below wr.heap.size wr w') : IQb bx w0 w1 w' v l := by
  obtain ⟨h0, b, h1, h2, h3, h4⟩ := h
  have z := h4.size
  exact ⟨h0, b, h1.upd (Upd.of_below (F := fun _ => False) hB) (fun _ _ h => h), h2, h3.trans (hB.mono h3.size), h4.trans (Upd.of_below (F := fun _ => False) hB) (fun _ _ h => h.elim)⟩
theorem wp_oneb {ops : Array Oper} {rest : List Oper} {o : Oper} {a : Act} {Q : Exit → Act → World → Prop} {bx : Option Nat} {w0 w1 wr : World} (hgd : o.guard = none) (s x : Operand)
    (ho : o.op = .call { callee := .builtin .append, args := #[s, x], argTypes := #[39, 39] }) (v : Value) (l : List Int) (y : Int) (hq : IQb bx w0 w1 wr v l) (hl : l.length ≤ 2000)
    (hs : a.eval s = v) (hx : a.eval x = .slice (some ⟨wr.heap.size, 0, none⟩) 1 1) (h : ∀ v' w', IQb bx w0 w1 w' v' (l ++ [y]) → wpList Try.prog ops Q rest (a.put o.dst v') w') :
    wpList Try.prog ops Q (o :: rest) a (wr.alloc (.cells #[.int .i64 y] 3)) := by
  obtain ⟨h0, b, hr, hb, hB, hu⟩ := hq
  refine wp_apps hgd s x 39 3 _ 8 infoInt rfl (by decide) Try.underlying39 ho v l b hs (hr.upd ((Upd.refl (fun _ => False) wr).alloc _) (fun _ _ h => h)) (some ⟨wr.heap.size, 0, none⟩) 1 1 [y] rfl hx (fun _ => ⟨_, rfl, ?_⟩) (by rw [List.length_cons, List.length_nil]; omega) ?_
  · intro j u hj
    rw [add0', (Blk.new wr #[.int .i64 y] 3).rd]
    exact List.getElem?_toArray.trans hj
  · intro v' w' b' hr' hb' hu'
    have hz := hB.size
    have hz1 := hu.size
    refine h v' w' ⟨h0, b', hr', fun g hg => ?_, ?_, ?_⟩
    · rcases hb' g hg with h1 | h1
      · exact hb g h1
      · have : wr.heap.size ≤ g := by simp at h1; omega
        exact ⟨by omega, fun e => by have := h0 g e; omega⟩
    · have hBa := hB.alloc hB.size (.cells #[.int .i64 y] 3)
      exact hBa.trans (hu'.below hBa.size (fun k hk => (hb k hk).1))
    · exact (hu.alloc _).trans hu' (fun k _ hk => (hb k hk).2)
set_option maxRecDepth 100000 in
set_option maxHeartbeats 2000000 in
theorem qfirst_is (h : QA w qb L lo N) : Calls Try.prog 18 #[.pointer (some ⟨qb, 0, none⟩)] w (ValB (.tuple #[.int .i64 (firO L).1, .bool (firO L).2]) w) := by
  obtain ⟨R, W, hQ, hW⟩ := h.ex
  have hal := all_eq h.gd
  have w0 := hQ.cell 1 (by omega)
  have w1 := hQ.cell 66 (by omega)
  rw [show R 1 = .int .u64 (W 0) from hQ.word 0 (by omega)] at w0
  rw [show R 66 = .int .u64 (W 1) from hQ.word 1 (by omega)] at w1
  have hW0 := hW 0 (by omega)
  have hW1 := hW 1 (by omega)
  have ht0 := top_is (W 0) hW0.1
  have ht1 := top_is (W 1) hW1.1
  by_cases z0 : W 0 = 0
  · have e0 : catF (FL L) 0 = [] := cat_none (fun j hj => by rw [← hW0.2 j hj, z0]; exact Nat.zero_testBit j)
    rw [e0, List.nil_append] at hal
    rw [z0] at w0
    have w0 : w.cell? ⟨qb, 1, none⟩ = some (.int .u64 0) := w0
    have ht0 := top_zero
    obtain ⟨hb, h1, h2, xs, h3, h4⟩ := hQ.heap
    have ch := hQ.cell 131 (by omega)
    rw [h2] at ch
    by_cases zh : HL L = []
    · rw [zh, List.map_nil, List.nil_append] at hal
      have hx : xs = [] := List.perm_nil.1 (by rw [← zh]; exact h3)
      rw [hx] at h4
      have hmn := min_none h4.1
      by_cases z1 : W 1 = 0
      · have e1 : catF (FL L) 1 = [] := cat_none (fun j hj => by rw [← hW1.2 j hj, z1]; exact Nat.zero_testBit j)
        rw [e1] at hal
        rw [z1] at w1
        have w1 : w.cell? ⟨qb, 66, none⟩ = some (.int .u64 0) := w1
        have ht1 := top_zero
        rw [firO_nil hal]
        have H := Lib.hid hQ
        clear hW hW0 hW1 hal z0 e0 z1 e1 zh hx h1 h2 h3 h4 hQ h
        go_enter Try.func18, Try.ntmps18
        go_upto_region 7 with (first
          | (go_at_call 36; (with_reducible refine (ht0 _).mono ?_); rintro e w' ⟨rfl, rfl⟩)
          | (go_at_call 37; (with_reducible refine hmn.mono ?_); rintro e w2 ⟨rfl, hB⟩; have HB := Lib.hid hB; clear hB hmn))
        have HB2 := Lib.hid (HB.out.alloc HB.out.size (.cells #[.int .i64 0, .int .i64 0] 72))
        have w1' := (H.out.below HB2.out).cell 66 (by omega)
        rw [← H.out.cell 66 (by omega), w1] at w1'
        clear w1
        generalize w2.alloc (.cells #[.int .i64 0, .int .i64 0] 72) = w3 at *
        go_wp2_with (first
          | (go_at_call 36; (with_reducible refine (ht1 _).mono ?_); rintro e w' ⟨rfl, rfl⟩))
        go_returns
        exact ⟨rfl, HB2.out⟩
      · obtain ⟨n, en, hn, hf, hup⟩ := hW1.top z1
        obtain ⟨a, t, t', ha, hc⟩ := cat_top hn hf hup
        rw [hc] at hal
        rw [en] at ht1
        rw [firO_of (l := []) hal]
        have H := Lib.hid hQ
        have HA := Lib.hid ha
        clear hW hW0 hW1 hal z0 e0 z1 zh hx h1 h2 h3 h4 hQ h hf hup ha hc en
        go_enter Try.func18, Try.ntmps18
        go_upto_region 7 with (first
          | (go_at_call 36; (with_reducible refine (ht0 _).mono ?_); rintro e w' ⟨rfl, rfl⟩)
          | (go_at_call 37; (with_reducible refine hmn.mono ?_); rintro e w2 ⟨rfl, hB⟩; have HB := Lib.hid hB; clear hB hmn))
        have HB2 := Lib.hid (HB.out.alloc HB.out.size (.cells #[.int .i64 0, .int .i64 0] 72))
        have hQ3 := H.out.below HB2.out
        have w1' := hQ3.cell 66 (by omega)
        rw [← H.out.cell 66 (by omega), w1] at w1'
        have r1 := hQ3.cell (67 + n) (by omega)
        have hrow := hQ3.row 1 n (by omega) hn
        rw [HA.out] at hrow
        rw [show ro 1 + 1 + n = 67 + n by unfold ro; omega] at hrow
        obtain ⟨g, cap, hv, c2⟩ : ∃ g cap, R (67 + n) = .slice (some ⟨g, 0, none⟩) (t.length + 1) cap ∧ (w2.alloc (.cells #[.int .i64 0, .int .i64 0] 72)).cell? ⟨g, 0, none⟩ = some (.int .i64 a) := by
          rcases hrow with ⟨_, h5, _⟩ | ⟨g, cap, rest, h5, _, hBg, _⟩
          · cases h5
          · exact ⟨g, cap, by rw [h5]; rfl, by have := Ints.cells hBg 0 (by simp); simpa using this⟩
        rw [hv] at r1
        have i1 : (n : Int) < 64 := by omega
        have i2 : (0 : Int) ≤ n := by omega
        have e3 : ((n + 1 : Nat) : Int) - 1 = n := by omega
        rw [e3] at ht1
        have d3 : decide ((n : Int) ≥ 0) = true := by simp
        clear w1 hrow hv hQ3 e3
        generalize w2.alloc (.cells #[.int .i64 0, .int .i64 0] 72) = w3 at *
        go_wp2_with (first
          | (go_at_call 36; (with_reducible refine (ht1 _).mono ?_); rintro e w' ⟨rfl, rfl⟩))
        go_returns
        exact ⟨rfl, HB2.out⟩
    · have hxn : xs ≠ [] := fun e => zh (List.perm_nil.1 (by rw [e] at h3; exact h3.symm))
      obtain ⟨y, ys, hy⟩ := List.exists_cons_of_ne_nil zh
      have hX : X xs 0 = y := by
        have hxl : 0 < xs.length := List.length_pos_iff.2 hxn
        have hin : X xs 0 ∈ HL L := h3.mem_iff.1 (by unfold X; rw [List.getD_eq_getElem?_getD, List.getElem?_eq_getElem hxl]; exact List.getElem_mem hxl)
        have hyi : y ∈ xs := h3.mem_iff.2 (by rw [hy]; exact List.mem_cons_self ..)
        obtain ⟨c, hc, hce⟩ := List.getElem_of_mem hyi
        have h5 := heap_min h4.2 c hc
        have hXc : X xs c = y := by unfold X; rw [List.getD_eq_getElem?_getD, List.getElem?_eq_getElem hc, hce]; rfl
        rw [hXc] at h5
        have ho := HL_ord h.gd
        unfold InOrder at ho
        rw [hy, List.pairwise_cons] at ho
        rw [hy] at hin
        rcases List.mem_cons.1 hin with h6 | h6
        · exact h6
        · exact le_anti h5 (ho.1 _ h6)
      have hmn := min_some h4.1 hxn y.1 y.2 hX
      rw [hy, List.map_cons, List.cons_append] at hal
      rw [firO_of (l := []) hal]
      clear hW hW0 hW1 hal z0 e0 zh h1 h2 h3 h4 hQ h hxn hy hX ht1 w1
      go_enter Try.func18, Try.ntmps18
      go_wp2_with (first
        | (go_at_call 36; (with_reducible refine (ht0 _).mono ?_); rintro e w' ⟨rfl, rfl⟩)
        | (go_at_call 37; (with_reducible refine hmn.mono ?_); rintro e w2 ⟨rfl, hB⟩; have HB := Lib.hid hB; clear hB hmn))
      go_returns
      exact ⟨rfl, HB.out.alloc HB.out.size _⟩
  · obtain ⟨n, en, hn, hf, hup⟩ := hW0.top z0
    obtain ⟨a, t, t', ha, hc⟩ := cat_top hn hf hup
    rw [hc, List.cons_append, List.cons_append] at hal
    rw [en] at ht0
    rw [firO_of (l := []) hal]
    have r1 := hQ.cell (2 + n) (by omega)
    have hrow := hQ.row 0 n (by omega) hn
    rw [ha] at hrow
    rw [show ro 0 + 1 + n = 2 + n by unfold ro; omega] at hrow
    obtain ⟨g, cap, hv, c2⟩ : ∃ g cap, R (2 + n) = .slice (some ⟨g, 0, none⟩) (t.length + 1) cap ∧ w.cell? ⟨g, 0, none⟩ = some (.int .i64 a) := by
      rcases hrow with ⟨_, h5, _⟩ | ⟨g, cap, rest, h5, _, hBg, _⟩
      · cases h5
      · exact ⟨g, cap, by rw [h5]; rfl, by have := Ints.cells hBg 0 (by simp); simpa using this⟩
    rw [hv] at r1
    have i1 : (n : Int) < 64 := by omega
    have i2 : (0 : Int) ≤ n := by omega
    have e3 : ((n + 1 : Nat) : Int) - 1 = n := by omega
    rw [e3] at ht0
    have d3 : decide ((n : Int) ≥ 0) = true := by simp
    clear hrow hv e3 hW hW0 hW1 hal z0 hQ h hf hup ha hc en ht1 w1
    go_enter Try.func18, Try.ntmps18
    go_wp2_with (first
      | (go_at_call 36; (with_reducible refine (ht0 _).mono ?_); rintro e w' ⟨rfl, rfl⟩))
    go_returns
    exact ⟨rfl, Below.refl _ _⟩
set_option maxRecDepth 100000 in
set_option maxHeartbeats 2000000 in
theorem qall_is (h : QA w qb L lo N) (hL : L.length ≤ 1000) : Calls Try.prog 16 #[.pointer (some ⟨qb, 0, none⟩)] w (RAllP w (L.map Prod.fst)) := by
  obtain ⟨R, W, hQ, hW⟩ := h.ex
  have hal := all_eq h.gd
  have hsum := h.sum
  have hHO := HL_ord h.gd
  have hra0 : Calls Try.prog 34 #[.pointer (some ⟨qb, 1, none⟩)] w (RAllP w (catF (FL L) 0)) := rall_is (r := 0) hQ (by omega) (hW 0 (by omega)) (by omega)
  have H := Lib.hid (And.intro hQ (And.intro hW (And.intro hal (And.intro hsum (And.intro hHO hL)))))
  clear h hQ hW hal hsum hHO
  go_enter Try.func16, Try.ntmps16
  go_upto_region 4 with (go_at_call 34; (with_reducible refine hra0.mono ?_); rintro e w1 ⟨v1, rfl, hq1⟩; have HQ1 := Lib.hid hq1; clear hq1 hra0)
  have hB1 : Below w.heap.size w w1 := by obtain ⟨_, _, _, h⟩ := HQ1.out; exact h
  have hQ1 := H.out.1.below hB1
  obtain ⟨hb, h1, h2, xs, h3, h4⟩ := hQ1.heap
  have ch := hQ1.cell 131 (by omega)
  rw [h2] at ch
  have hha := all_is h4.1
  have H3 := Lib.hid h3
  clear hQ1 h1 h2 h3 h4 hB1
  go_upto_region 5 with (go_at_call 35; (with_reducible refine hha.mono ?_); rintro e w2 ⟨a2, c2, ys, b2, rfl, hp, ho, hI, hb2, hB2⟩; have H2 := Lib.hid (And.intro hp (And.intro ho (And.intro hI (And.intro hb2 hB2)))); clear hp ho hI hb2 hB2 hha)
  have hys : ys = HL L := order_eq H2.out.2.1 H.out.2.2.2.2.1 (H2.out.1.trans H3.out)
  have HY := Lib.hid hys
  generalize hYL : ys.length = YL at *
  have HYL := Lib.hid hYL
  clear hYL hys ch
  have hyb : YL ≤ 1000 := by have := H.out.2.2.2.1; have := HYL.out; rw [HY.out] at this; omega
  have HS0 : Hid (IQb b2 w w2 w2 v1 (catF (FL L) 0) ∧ Its w2 (.slice a2 YL c2) ys b2) := Lib.hid (by
    obtain ⟨b1, p1, p2, p3⟩ := HQ1.out
    refine ⟨⟨fun g hg => H2.out.2.2.1.lt g hg, b1, p1.upd (Upd.of_below (F := fun _ => False) H2.out.2.2.2.2) (fun _ _ h => h), fun g hg => ⟨p2 g hg, fun e => ?_⟩, p3.trans (H2.out.2.2.2.2.mono p3.size), Upd.refl _ _⟩, H2.out.2.2.1⟩
    have := p1.lt g hg
    have := H2.out.2.2.2.1 g e
    omega)
  go_loopw [3, 18] (fun v3 v18 wr => ∃ k : Nat, k ≤ YL ∧ v18 = .int .i64 k ∧ Hid (IQb b2 w w2 wr v3 (catF (FL L) 0 ++ (ys.take k).map Prod.fst))) (fun _ v18 _ => YL - (intOf v18).toNat)
  case atStart => exact ⟨0, Nat.zero_le _, rfl, Lib.hid (by rw [List.take_zero, List.map_nil, List.append_nil]; exact HS0.out.1)⟩
  case round =>
    obtain ⟨k, hk, rfl, HJ⟩ := hrel
    obtain ⟨a3, q3, rfl⟩ := HJ.out.iq.slice
    obtain ⟨NL, hNL⟩ : ∃ NL, (catF (FL L) 0 ++ (ys.take k).map Prod.fst).length = NL := ⟨_, rfl⟩
    rw [hNL]
    have HNL := Lib.hid hNL
    clear hNL
    by_cases hkl : k < YL
    · have d1 : decide ((k : Int) < (YL : Int)) = true := by simp; omega
      have d1n : decide (k < YL) = true := by simp; omega
      have i1 : (k : Int) < (YL : Int) := by omega
      have i2 : (0 : Int) ≤ k := by omega
      have hkys : k < ys.length := by rw [HYL.out]; exact hkl
      obtain ⟨x, hx⟩ : ∃ x, ys[k]? = some x := ⟨_, List.getElem?_eq_getElem hkys⟩
      have hit : Its wr (.slice a2 YL c2) ys b2 := by
        obtain ⟨_, b, _, _, _, hu⟩ := HJ.out
        exact HS0.out.2.upd hu (fun g hg e => e hg)
      obtain ⟨g, rfl, c3, c4⟩ : ∃ g, a2 = some ⟨g, 0, none⟩ ∧ wr.cell? ⟨g, k * 2, none⟩ = some (.int .i64 x.1) ∧ wr.cell? ⟨g, k * 2 + 1, none⟩ = some (.int .i64 x.2) := by
        rcases hit with ⟨_, h5, _⟩ | ⟨g, cap, rest, h5, _, hBg, _⟩
        · rw [h5] at hkys; simp at hkys
        · simp only [Value.slice.injEq] at h5
          obtain ⟨k1, k2⟩ := blk_its hBg k hkys
          rw [List.getD_eq_getElem?_getD, hx] at k1 k2
          exact ⟨g, h5.1, k1, k2⟩
      have htk : (ys.take k).map Prod.fst ++ [x.1] = (ys.take (k + 1)).map Prod.fst := by rw [List.take_add_one, hx, List.map_append]; rfl
      have hlen : (catF (FL L) 0 ++ (ys.take k).map Prod.fst).length ≤ 2000 := by
        rw [List.length_append, List.length_map, List.length_take]
        have := H.out.2.2.2.1
        have := H.out.2.2.2.2.2
        omega
      have HX := Lib.hid (And.intro htk (And.intro hlen hkys))
      clear htk hlen hx hkys hit
      obtain ⟨x1, x2⟩ := x
      simp only at c3 c4 HX
      go_upto_region 7 with (fail)
      have HJ2 := Lib.hid (HJ.out.below ((Below.refl _ _).alloc (Nat.le_refl _) (.cells #[.int .i64 x1, .int .i64 x2] 72)))
      have c5 := (Blk.new wr #[.int .i64 x1, .int .i64 x2] 72).rd
      clear c3 c4
      generalize wr.alloc (.cells #[.int .i64 x1, .int .i64 x2] 72) = w4 at *
      generalize wr.heap.size = bi at *
      go_wp2_with (at_builtin; refine wp_oneb rfl _ _ rfl _ _ x1 HJ2.out HX.out.2.1 (by rw [HNL.out]; rfl) rfl ?_; intro v5 w5 hq5; have HQ5 := Lib.hid hq5; clear hq5)
      go_roundw
      case rel => exact ⟨k + 1, by omega, by go_num, Lib.hid (by rw [← HX.out.1, ← List.append_assoc]; exact HQ5.out)⟩
      case measure => simp [intOf]; omega
    · have d1 : decide ((k : Int) < (YL : Int)) = false := by simp; omega
      have d1n : decide (k < YL) = false := by simp; omega
      have hlk : (ys.take k).map Prod.fst = (HL L).map Prod.fst := by rw [List.take_of_length_le (by rw [HYL.out]; omega), HY.out]
      have HLK := Lib.hid hlk
      clear hlk hkl hk
      have hBw : Below w.heap.size w wr := by obtain ⟨_, _, _, h⟩ := HJ.out.iq; exact h
      have hra1 : Calls Try.prog 34 #[.pointer (some ⟨qb, 66, none⟩)] wr (RAllP wr (catF (FL L) 1)) := rall_is (r := 1) (H.out.1.below hBw) (by omega) (H.out.2.1 1 (by omega)) (by have := H.out.2.2.2.1; have := H.out.2.2.2.2.2; omega)
      clear hBw
      go_wp2_with (first
        | (go_at_call 34; (with_reducible refine hra1.mono ?_); rintro e w6 ⟨v6, rfl, hq6⟩; obtain ⟨a6, q6, hv6⟩ := hq6.slice; obtain ⟨n6, hn6⟩ : ∃ n6, (catF (FL L) 1).length = n6 := ⟨_, rfl⟩; rw [hn6] at hv6; subst hv6; have HN6 := Lib.hid hn6; clear hn6; have HQ6 := Lib.hid hq6; clear hq6 hra1)
        | (at_builtin; refine wp_row rfl _ _ rfl _ _ (HJ.out.iq.below HQ6.out.choose_spec.2.2) _ _ _ HQ6.out.choose_spec.1 (by rw [HLK.out, List.length_append, List.length_map]; have := H.out.2.2.2.1; have := H.out.2.2.2.2.2; omega) (by rw [HNL.out]; rfl) rfl ?_; intro v7 w7 hq7; have HQ7 := Lib.hid hq7; clear hq7))
      go_ret
      refine ⟨_, rfl, ?_⟩
      have := HQ7.out
      rw [HLK.out] at this
      rw [H.out.2.2.1]
      exact this
end
end Go.Proofs.Ytpajebedeacpgaa
/-
  Priorities: May, Compare.
-/
namespace Go.Proofs.Ytpajebedeacpgaa
set_option linter.unusedSimpArgs false
set_option linter.unusedVariables false
open Go.RowKit Own Sl
open RegJ hiding Up
open RegF hiding put_size

theorem blk3 (w : World) (c l d : Int) : Below w.heap.size w (w.alloc (.cells #[.int .i64 c, .int .i64 l, .int .i64 d] 31)) := (Below.refl _ _).alloc (Nat.le_refl _) _
set_option maxRecDepth 100000 in
theorem may_0 (l d : Int) (r : Bool) (hr : may (0, l, d) = r) (w : World) : Calls Try.prog 24 #[.agg #[.int .i64 0, .int .i64 l, .int .i64 d]] w (BoolB r w) := by
  have hB := Lib.hid (blk3 w 0 l d)
  unfold may at hr
  simp only [if_true] at hr
  by_cases h1 : 0 ≤ l
  · have d1 : decide (l ≥ 0) = true := by simpa using h1
    by_cases h2 : l ≤ 15
    · have d2 : decide (l ≤ 15) = true := by simpa using h2
      by_cases h3 : d = 0
      · have d3 : (d == 0) = true := by simpa using h3
        have hR : Hid (true = r) := Lib.hid (by rw [← hr]; simp [h1, h2, h3])
        clear hr h1 h2 h3
        go_enter Try.func24, Try.ntmps24
        go_wp2_with (fail)
        go_ret
        exact ⟨by rw [← hR.out]; simp, hB.out⟩
      · have d3 : (d == 0) = false := by simpa using h3
        have hR : Hid (false = r) := Lib.hid (by rw [← hr]; simp [h1, h2, h3])
        clear hr h1 h2 h3
        go_enter Try.func24, Try.ntmps24
        go_wp2_with (fail)
        go_ret
        exact ⟨by rw [← hR.out]; simp, hB.out⟩
    · have d2 : decide (l ≤ 15) = false := by simpa using h2
      have hR : Hid (false = r) := Lib.hid (by rw [← hr]; simp [h2])
      clear hr h1 h2
      go_enter Try.func24, Try.ntmps24
      go_wp2_with (fail)
      go_ret
      exact ⟨by rw [← hR.out]; simp, hB.out⟩
  · have d1 : decide (l ≥ 0) = false := by simpa using h1
    have hR : Hid (false = r) := Lib.hid (by rw [← hr]; simp [h1])
    clear hr h1
    go_enter Try.func24, Try.ntmps24
    go_wp2_with (fail)
    go_ret
    exact ⟨by rw [← hR.out]; simp, hB.out⟩
set_option maxRecDepth 100000 in
theorem may_1 (l d : Int) (r : Bool) (hr : may (1, l, d) = r) (w : World) : Calls Try.prog 24 #[.agg #[.int .i64 1, .int .i64 l, .int .i64 d]] w (BoolB r w) := by
  have hB := Lib.hid (blk3 w 1 l d)
  unfold may at hr
  rw [if_neg (show ¬ (1 : Int) = 0 by decide), if_pos rfl] at hr
  by_cases h1 : l = 0
  · have d1 : (l == 0) = true := by simpa using h1
    by_cases h2 : 0 ≤ d
    · have d2 : decide (d ≥ 0) = true := by simpa using h2
      by_cases h3 : d ≤ 1099511627776
      · have d3 : decide (d ≤ 1099511627776) = true := by simpa using h3
        have hR : Hid (true = r) := Lib.hid (by rw [← hr]; simp [h1, h2, h3])
        clear hr h1 h2 h3
        go_enter Try.func24, Try.ntmps24
        go_wp2_with (fail)
        go_ret
        exact ⟨by rw [← hR.out]; simp, hB.out⟩
      · have d3 : decide (d ≤ 1099511627776) = false := by simpa using h3
        have hR : Hid (false = r) := Lib.hid (by rw [← hr]; simp [h3])
        clear hr h1 h2 h3
        go_enter Try.func24, Try.ntmps24
        go_wp2_with (fail)
        go_ret
        exact ⟨by rw [← hR.out]; simp, hB.out⟩
    · have d2 : decide (d ≥ 0) = false := by simpa using h2
      have hR : Hid (false = r) := Lib.hid (by rw [← hr]; simp [h2])
      clear hr h1 h2
      go_enter Try.func24, Try.ntmps24
      go_wp2_with (fail)
      go_ret
      exact ⟨by rw [← hR.out]; simp, hB.out⟩
  · have d1 : (l == 0) = false := by simpa using h1
    have hR : Hid (false = r) := Lib.hid (by rw [← hr]; simp [h1])
    clear hr h1
    go_enter Try.func24, Try.ntmps24
    go_wp2_with (fail)
    go_ret
    exact ⟨by rw [← hR.out]; simp, hB.out⟩
set_option maxRecDepth 100000 in
theorem may_2 (l d : Int) (r : Bool) (hr : may (2, l, d) = r) (w : World) : Calls Try.prog 24 #[.agg #[.int .i64 2, .int .i64 l, .int .i64 d]] w (BoolB r w) := by
  have hB := Lib.hid (blk3 w 2 l d)
  unfold may at hr
  rw [if_neg (show ¬ (2 : Int) = 0 by decide), if_neg (show ¬ (2 : Int) = 1 by decide), if_pos rfl] at hr
  by_cases h1 : 0 ≤ l
  · have d1 : decide (l ≥ 0) = true := by simpa using h1
    by_cases h2 : l < 64
    · have d2 : decide (l < 64) = true := by simpa using h2
      by_cases h3 : d = 0
      · have d3 : (d == 0) = true := by simpa using h3
        have hR : Hid (true = r) := Lib.hid (by rw [← hr]; simp [h1, h2, h3])
        clear hr h1 h2 h3
        go_enter Try.func24, Try.ntmps24
        go_wp2_with (fail)
        go_ret
        exact ⟨by rw [← hR.out]; simp, hB.out⟩
      · have d3 : (d == 0) = false := by simpa using h3
        have hR : Hid (false = r) := Lib.hid (by rw [← hr]; simp [h1, h2, h3])
        clear hr h1 h2 h3
        go_enter Try.func24, Try.ntmps24
        go_wp2_with (fail)
        go_ret
        exact ⟨by rw [← hR.out]; simp, hB.out⟩
    · have d2 : decide (l < 64) = false := by simpa using h2
      have hR : Hid (false = r) := Lib.hid (by rw [← hr]; simp [h2])
      clear hr h1 h2
      go_enter Try.func24, Try.ntmps24
      go_wp2_with (fail)
      go_ret
      exact ⟨by rw [← hR.out]; simp, hB.out⟩
  · have d1 : decide (l ≥ 0) = false := by simpa using h1
    have hR : Hid (false = r) := Lib.hid (by rw [← hr]; simp [h1])
    clear hr h1
    go_enter Try.func24, Try.ntmps24
    go_wp2_with (fail)
    go_ret
    exact ⟨by rw [← hR.out]; simp, hB.out⟩
theorem may_is (p : Pr) (w : World) : Calls Try.prog 24 #[prV p] w (BoolB (may p) w) := by
  obtain ⟨c, l, d⟩ := p
  unfold prV
  simp only
  by_cases h0 : c = 0
  · subst h0; exact may_0 l d _ rfl w
  by_cases h1 : c = 1
  · subst h1; exact may_1 l d _ rfl w
  by_cases h2 : c = 2
  · subst h2; exact may_2 l d _ rfl w
  have hB := Lib.hid (blk3 w c l d)
  have hr : may (c, l, d) = false := by unfold may; rw [if_neg h0, if_neg h1, if_neg h2]
  rw [hr]
  have d0 : (c == 0) = false := by simpa using h0
  have d1 : (c == 1) = false := by simpa using h1
  have d2 : (c == 2) = false := by simpa using h2
  clear hr h0 h1 h2
  go_enter Try.func24, Try.ntmps24
  go_wp2_with (fail)
  go_ret
  exact ⟨rfl, hB.out⟩
end Go.Proofs.Ytpajebedeacpgaa
