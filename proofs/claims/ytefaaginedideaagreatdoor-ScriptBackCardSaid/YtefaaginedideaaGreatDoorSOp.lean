/-
  Script: a step's line, of the program and of the document.
-/
import Derived.Test.YtefaaginedideaaGreatDoorRMayO
import Derived.Test.YtefaaginedideaaGreatDoorRA
namespace Go.Proofs.YtefaaginedideaaGreatDoor
set_option linter.unusedSimpArgs false
set_option linter.unusedVariables false
open Go.RowKit Own RegJ
open Go.Lib hiding intOf

/-- a step as a value -/
abbrev opV (o : OpV) : Value := .agg #[.int .i64 o.k, .int .i64 o.a, .int .i64 o.b, .int .i64 o.c, .int .i64 o.y, .int .i64 o.p, .int .i64 o.q, .string (B o.s), .string (B o.t)]
abbrev opCs (o : OpV) : List Value := [.int .i64 o.k, .int .i64 o.a, .int .i64 o.b, .int .i64 o.c, .int .i64 o.y, .int .i64 o.p, .int .i64 o.q, .string (B o.s), .string (B o.t)]
theorem may_is {o : OpV} {v : Bool} (h : mayO o = v) (w : World) : Calls Tryz.prog 13 #[opV o] w (ValB (.bool v) w) := h ▸ mayo_any o.k o.a o.b o.c o.y o.p o.q (B o.s) (B o.t) w
theorem rmay_is {o : OpV} {v : Bool} (h : mayO o = v) (w : World) : Calls Tryz.prog 26 #[opV o] w (ValB (.bool v) w) := h ▸ rmayo_any o.k o.a o.b o.c o.y o.p o.q (B o.s) (B o.t) w
theorem trimS (l : Txt) : trimSuffix (l ++ [10]) [10] = l := by
  unfold trimSuffix hasSuffix
  simp
theorem strim (l : Txt) (w : World) (h : l.length ≤ 1000000000) : Calls Tryz.prog 23 #[.string (B (l ++ [10])), .string ⟨#[10]⟩] w fun e w' => e = .returned (.string (B l)) ∧ w' = w := by
  have := Tryz.strings_TrimSuffix (B (l ++ [10])) (B [10]) w (by rw [B_size]; simp; omega)
  rw [data_B, data_B, trimS] at this
  exact this
theorem good_small {x : Int} (h0 : 0 ≤ x) (h1 : x ≤ 1000) : goodB x = true := by unfold goodB; rw [decide_eq_true h0, decide_eq_true (by omega)]; rfl
theorem bad_four {a b c d : Int} (h0 : goodB a = true) (h1 : goodB b = true) (h2 : goodB c = true) (h3 : goodB d = true) : badB [a, b, c, d] = false := by simp [badB, h0, h1, h2, h3]
theorem bad_three {a b c : Int} (h0 : goodB a = true) (h1 : goodB b = true) (h2 : goodB c = true) : badB [a, b, c] = false := by simp [badB, h0, h1, h2]
theorem rng_small {ns : List Int} (h : ∀ x ∈ ns, 0 ≤ x ∧ x ≤ 1000) : Rng ns := fun x hx => by have := h x hx; omega
set_option maxRecDepth 100000 in
theorem op_bad (o : OpV) (w : World) (hm : mayO o = false) : Calls Tryz.prog 10 #[opV o] w (ValB (.tuple #[.string ⟨#[]⟩, .int .i64 19]) w) := by
  have hmay := may_is hm
  clear hm
  go_enter Tryz.func10, Tryz.ntmps10
  go_wp2_with (go_at_call 13; refine (hmay _).mono ?_; rintro e w1 ⟨rfl, hb⟩)
  go_ret2
  exact ⟨rfl, ((Below.refl _ _).alloc (Nat.le_refl _) _).trans (hb.mono (by simp))⟩
set_option maxRecDepth 100000 in
theorem rop_bad (o : OpV) (w : World) (hm : mayO o = false) : Calls Tryz.prog 11 #[opV o] w (ValB (.tuple #[.string ⟨#[]⟩, .int .i64 19]) w) := by
  have hmay := rmay_is hm
  clear hm
  go_enter Tryz.func11, Tryz.ntmps11
  go_wp2_with (go_at_call 26; refine (hmay _).mono ?_; rintro e w1 ⟨rfl, hb⟩)
  go_ret2
  exact ⟨rfl, ((Below.refl _ _).alloc (Nat.le_refl _) _).trans (hb.mono (by simp))⟩
theorem rd_new {W : World} {ns : List Int} {B b : Nat} (hb : b ≠ W.heap.size) : RdS B b (W.alloc (.cells (icells ns).toArray 3)) (some ⟨W.heap.size, 0, none⟩) ns := fun k n hn => by
  have hB := Blk.new W (icells ns).toArray 3
  refine ⟨W.heap.size, 0, rfl, ?_, .inr ⟨fun e => hb e.symm, _, hB, fun c fz e => by cases e⟩⟩
  rw [hB.rd, Nat.zero_add, List.getElem?_toArray, List.getElem?_map, hn]; rfl
/-- a line at a printer that was just made, of numbers that were just laid -/
theorem line_new {w1 : World} (hE : Env w1) (word : Txt) (ns : List Int) (n : Nat) (hn : ns.length = n) (cs : Array Value) (hcs : (icells ns).toArray = cs) (bw : ByteArray) (hbw : B word = bw) (hrg : Rng ns) (hbad : badB ns = false) (hlen : word.length + 22 * n + 1 ≤ 140737488355328) :
    Calls Tryz.prog 22 #[.pointer (some ⟨w1.heap.size, 0, none⟩), .string bw, .slice (some ⟨w1.heap.size + 1, 0, none⟩) n n] ((w1.alloc (.cells #[.pointer none, .slice none 0 0, .bool false] 64)).alloc (.cells cs 3)) fun e w' => e = .returned (.tuple #[]) ∧ Pr w1.heap.size w1.heap.size false (lineT word ns ++ [10]) w' ∧ Below w1.heap.size w1 w' := by
  subst hcs hbw
  have hP : Pr w1.heap.size w1.heap.size false [] (w1.alloc (.cells #[.pointer none, .slice none 0 0, .bool false] 64)) := BldV.new _ [.bool false] w1
  have hP2 := hP.alloc (.cells (icells ns).toArray 3)
  have hb1 : Below w1.heap.size w1 ((w1.alloc (.cells #[.pointer none, .slice none 0 0, .bool false] 64)).alloc (.cells (icells ns).toArray 3)) := ((Below.refl _ _).alloc (Nat.le_refl _) _).alloc (by simp) _
  have hr : RdS w1.heap.size w1.heap.size ((w1.alloc (.cells #[.pointer none, .slice none 0 0, .bool false] 64)).alloc (.cells (icells ns).toArray 3)) (some ⟨w1.heap.size + 1, 0, none⟩) ns := by
    have := rd_new (W := w1.alloc (.cells #[.pointer none, .slice none 0 0, .bool false] 64)) (ns := ns) (B := w1.heap.size) (b := w1.heap.size) (by simp)
    simpa using this
  have h := pline_is (l := []) (word := word) n n (hE.bel hb1) hE.size hb1.size hP2 hr hn hrg (by simpa using hlen)
  refine h.mono ?_
  rintro e w' ⟨rfl, h1⟩
  rw [hbad, Bool.or_false, List.nil_append] at h1
  exact ⟨rfl, h1.1, hb1.trans h1.2.1⟩
set_option maxRecDepth 100000 in
set_option maxHeartbeats 1000000 in
theorem op_num (o : OpV) (w : World) (hE : Env w) (hm : mayO o = true) (hk : o.k ≠ 10) : Calls Tryz.prog 10 #[opV o] w (ValB (.tuple #[.string (B (opT o)), .int .i64 0]) w) := by
  have hmay := may_is hm
  have hle := mayO_le hm
  have d1 : (o.k != 10) = true := by simpa using hk
  have d2 : (o.k == 10) = false := by simpa using hk
  have hT : opT o = lineT opW [o.k, o.a, o.b, o.c] := by unfold opT; rw [if_neg hk]
  rw [hT]
  have HM := Lib.hid (And.intro hle hE)
  clear hm hT hk hle hE
  go_enter Tryz.func10, Tryz.ntmps10
  go_wp2_with (go_at_call 13; refine (hmay _).mono ?_; rintro e w1 ⟨rfl, hb⟩; have h1 := Blk.below hb (Blk.new w _ _) (by simp); have c1 := h1.rd; have hz := h1.lt; have H1 := Lib.hid hb; clear hmay hb h1)
  have hE1 := HM.out.2.bel (((Below.refl w.heap.size w).alloc (Nat.le_refl _) _).trans (H1.out.mono (by simp)))
  have hle := HM.out.1
  have hbd : badB [o.k, o.a, o.b, o.c] = false := bad_four (good_small (by omega) (by omega)) (good_small (by omega) (by omega)) (good_small (by omega) (by omega)) (good_small (by omega) (by omega))
  have hrg : Rng [o.k, o.a, o.b, o.c] := rng_small (by intro x hx; simp at hx; rcases hx with rfl | rfl | rfl | rfl <;> omega)
  have hln := line_new hE1 opW [o.k, o.a, o.b, o.c] 4 rfl _ rfl _ rfl hrg hbd (by simp [opW])
  simp only [icells, List.map] at hln
  have hnl := numsT_len hrg
  have hlt : (lineT opW [o.k, o.a, o.b, o.c]).length ≤ 1000 := by unfold lineT opW; simp only [List.length_append, List.length_cons, List.length_nil] at *; omega
  have hst := fun w (h : Pr w1.heap.size w1.heap.size false (lineT opW [o.k, o.a, o.b, o.c] ++ [10]) w) => bstr_is (by decide) h (by simp)
  have htr := fun w => strim (lineT opW [o.k, o.a, o.b, o.c]) w (by omega)
  clear hle hbd hrg hnl hlt
  go_wp2_with (first
    | (go_at_call 22; refine hln.mono ?_; rintro e w2 ⟨rfl, hp, hb2⟩; have hst2 := hst w2 hp; have H2 := Lib.hid hb2; clear hp hb2 hln hst)
    | (go_at_call 24; (with_reducible refine hst2.mono ?_); rintro e w3 ⟨rfl, hb3, _⟩; have H3 := Lib.hid hb3; clear hb3 hst2)
    | (go_at_call 23; (with_reducible refine (htr _).mono ?_); rintro e w4 ⟨rfl, rfl⟩))
  go_ret2
  refine ⟨rfl, ?_⟩
  have h0 := ((Below.refl w.heap.size w).alloc (Nat.le_refl _) _).trans (H1.out.mono (by simp))
  exact (h0.trans (H2.out.mono h0.size)).trans (H3.out.mono h0.size)
theorem opT_call {o : OpV} (hk : o.k = 10) : opT o = lineT callW [o.y, o.p, o.q] ++ [32] ++ quoteT o.s ++ [32] ++ quoteT o.t := by unfold opT; rw [if_pos hk]
theorem call_len (o : OpV) (hm : mayO o = true) : (lineT callW [o.y, o.p, o.q]).length ≤ 100 ∧ (quoteT o.s).length ≤ 1538 ∧ (quoteT o.t).length ≤ 302 := by
  have hle := mayO_le hm
  have hrg : Rng [o.y, o.p, o.q] := rng_small (by intro x hx; simp at hx; rcases hx with rfl | rfl | rfl <;> omega)
  have hnl := numsT_len hrg
  have h1 := quote_len o.s
  have h2 := quote_len o.t
  unfold lineT callW
  simp only [List.length_append, List.length_cons, List.length_nil] at *
  omega
set_option maxRecDepth 100000 in
set_option maxHeartbeats 2000000 in
theorem op_call (o : OpV) (w : World) (hE : Env w) (hm : mayO o = true) (hk : o.k = 10) : Calls Tryz.prog 10 #[opV o] w (ValB (.tuple #[.string (B (opT o)), .int .i64 0]) w) := by
  have hmay := may_is hm
  have hle := mayO_le hm
  obtain ⟨hl1, hl2, hl3⟩ := call_len o hm
  have d1 : (o.k != 10) = false := by simpa using hk
  have d2 : (o.k == 10) = true := by simpa using hk
  have e1 := B_app (lineT callW [o.y, o.p, o.q]) [32]
  have e2 := B_app (lineT callW [o.y, o.p, o.q] ++ [32]) (quoteT o.s)
  have e3 := B_app (lineT callW [o.y, o.p, o.q] ++ [32] ++ quoteT o.s) [32]
  have e4 := B_app (lineT callW [o.y, o.p, o.q] ++ [32] ++ quoteT o.s ++ [32]) (quoteT o.t)
  rw [← opT_call hk] at e4
  have z1 := B_size (lineT callW [o.y, o.p, o.q])
  have z2 := B_size (lineT callW [o.y, o.p, o.q] ++ [32])
  have z3 := B_size (lineT callW [o.y, o.p, o.q] ++ [32] ++ quoteT o.s)
  have z4 := B_size (lineT callW [o.y, o.p, o.q] ++ [32] ++ quoteT o.s ++ [32])
  have z5 := B_size (quoteT o.s)
  have z6 := B_size (quoteT o.t)
  simp only [List.length_append, List.length_cons, List.length_nil] at z1 z2 z3 z4 z5 z6
  have hz1 : ¬ 9223372036854775807 < (B (lineT callW [o.y, o.p, o.q])).size + 1 := by omega
  have hz2 : ¬ 9223372036854775807 < (B (lineT callW [o.y, o.p, o.q] ++ [32])).size + (B (quoteT o.s)).size := by omega
  have hz3 : ¬ 9223372036854775807 < (B (lineT callW [o.y, o.p, o.q] ++ [32] ++ quoteT o.s)).size + 1 := by omega
  have hz4 : ¬ 9223372036854775807 < (B (lineT callW [o.y, o.p, o.q] ++ [32] ++ quoteT o.s ++ [32])).size + (B (quoteT o.t)).size := by omega
  have q1 := fun w => quote_is o.s w (by omega)
  have q2 := fun w => quote_is o.t w (by omega)
  have htr := fun w => strim (lineT callW [o.y, o.p, o.q]) w (by omega)
  have hst : ∀ R w, Pr R R false (lineT callW [o.y, o.p, o.q] ++ [10]) w → _ := fun R w h => bstr_is (by decide) h (by simp)
  have hrg : Rng [o.y, o.p, o.q] := rng_small (by intro x hx; simp at hx; rcases hx with rfl | rfl | rfl <;> omega)
  have hbd : badB [o.y, o.p, o.q] = false := bad_three (good_small (by omega) (by omega)) (good_small (by omega) (by omega)) (good_small (by omega) (by omega))
  have hln := fun (w1 : World) (hE1 : Env w1) => line_new hE1 callW [o.y, o.p, o.q] 3 rfl _ rfl _ rfl hrg hbd (by simp [callW])
  simp only [icells, List.map] at hln
  have e0 : B [32] = ⟨#[32]⟩ := rfl
  rw [e0] at e1 e3
  have HM := Lib.hid (And.intro hE hst)
  clear hm hle hE hst hl1 hl2 hl3 z1 z2 z3 z4 z5 z6 hrg hbd e0 hk
  generalize B (opT o) = b6 at *
  generalize B (lineT callW [o.y, o.p, o.q] ++ [32] ++ quoteT o.s ++ [32]) = b5 at *
  generalize B (lineT callW [o.y, o.p, o.q] ++ [32] ++ quoteT o.s) = b4 at *
  generalize B (lineT callW [o.y, o.p, o.q] ++ [32]) = b3 at *
  generalize B (lineT callW [o.y, o.p, o.q]) = b2 at *
  generalize hb1 : B (lineT callW [o.y, o.p, o.q] ++ [10]) = b1 at *
  generalize B (quoteT o.s) = qs at *
  generalize B (quoteT o.t) = qt at *
  clear hb1
  go_enter Tryz.func10, Tryz.ntmps10
  go_wp2_with (first
    | (go_at_call 13; refine (hmay _).mono ?_; rintro e w1 ⟨rfl, hb⟩; have h1 := Blk.below hb (Blk.new w _ _) (by simp); have c1 := h1.rd; have hz := h1.lt; have H1 := Lib.hid (And.intro hb h1); clear hmay hb h1; have hln1 := hln w1 (HM.out.1.bel (((Below.refl w.heap.size w).alloc (Nat.le_refl _) _).trans (H1.out.1.mono (by simp)))))
    | (go_at_call 22; refine hln1.mono ?_; rintro e w2 ⟨rfl, hp, hb2⟩; have H2 := Lib.hid (And.intro hp hb2); clear hp hb2 hln hln1))
  have HO := Lib.hid (Blk.below H2.out.2 H1.out.2 H1.out.2.lt)
  clear c1
  have hsz : w1.heap.size ≤ w2.heap.size := H2.out.2.size
  refine region_J (J1 1 (fun u w3 => Below w1.heap.size w2 w3 ∧ (u = false → Pr w1.heap.size w1.heap.size false (lineT callW [o.y, o.p, o.q] ++ [10]) w3))) (by kernel_rfl) (by kernel_rfl) ?_ ?_
  · exact ⟨(Below.refl _ _).drew, fun _ => BldV.drew H2.out.1⟩
  · iterate 17
      apply wpJ_op rfl (by rfl)
      · intro f w3 hf hJ Q1 hQ
        simp only [Act.put, List.setIfInBounds_toArray, List.set_cons_zero, List.set_cons_succ] at hQ
        have hJb : Below w1.heap.size w2 w3 := hJ.1
        have h3 := Blk.below hJb HO.out hz
        have c1 := h3.rd
        have hs := fun h : f 1 = false => HM.out.2 _ _ (hJ.2 h)
        have HJ := Lib.hid hJ
        clear hJ h3 hJb
        go_wp2_with (first
          | (go_at_call 24; have hs2 := hs hf.1; (with_reducible refine hs2.mono ?_); rintro e w4 ⟨rfl, hb3, _⟩)
          | (go_at_call 23; refine (htr _).mono ?_; rintro e w4 ⟨rfl, rfl⟩)
          | (go_at_call 25; (with_reducible refine (q1 _).mono ?_); rintro e w4 ⟨rfl, hb3⟩)
          | (go_at_call 25; (with_reducible refine (q2 _).mono ?_); rintro e w4 ⟨rfl, hb3⟩))
        first
          | exact hQ _ _ rfl (J1.fin ⟨HJ.out.1.trans hb3, fun h => by cases h⟩)
          | exact hQ _ _ rfl (J1.other (show J1 _ _ _ _ from ⟨HJ.out.1.trans (hb3.mono (Nat.le_trans hsz HJ.out.1.size)), fun h => (HJ.out.2 h).below hb3⟩) (by decide))
          | exact hQ _ _ rfl (HJ.out.other (by decide))
      simp only [Act.put, List.setIfInBounds_toArray, List.set_cons_zero, List.set_cons_succ]
    refine wpJ_nil ?_
    intro w3 hJ3
    have h3 : Below w1.heap.size w2 w3 := hJ3.1
    have H3 := Lib.hid h3
    clear hJ3 h3
    go_wp2_with (fail)
    go_ret2
    refine ⟨rfl, ?_⟩
    have h0 := ((Below.refl w.heap.size w).alloc (Nat.le_refl _) _).trans (H1.out.1.mono (by simp))
    exact (h0.trans (H2.out.2.mono h0.size)).trans (H3.out.mono h0.size)
/-! ### the document's -/
theorem below_drewN {B : Nat} {a w : World} (h : Below B a w) (n : Nat) : Below B a (w.drewN n) := ⟨h.os, h.tape, h.output, h.size, h.block⟩
theorem rd_newI {W : World} {ns : List Int} : RdI (W.alloc (.cells (icells ns).toArray 3)) (some ⟨W.heap.size, 0, none⟩) ns := fun k n hn => by
  have hB := Blk.new W (icells ns).toArray 3
  refine ⟨W.heap.size, 0, rfl, ?_⟩
  rw [hB.rd, Nat.zero_add, List.getElem?_toArray, List.getElem?_map, hn]; rfl
theorem rline_new {W : World} (word : Txt) (ns : List Int) (n : Nat) (hn : ns.length = n) (cs : Array Value) (hcs : (icells ns).toArray = cs) (bw : ByteArray) (hbw : B word = bw) (hbad : badB ns = false) (hm : n ≤ 1000000) (hw : word.length ≤ 1000000) :
    Calls Tryz.prog 27 #[.string bw, .slice (some ⟨W.heap.size, 0, none⟩) n n] (W.alloc (.cells cs 3)) fun e w' => e = .returned (.tuple #[.string (B (lineT word ns)), .bool true]) ∧ (W.alloc (.cells cs 3)) = w' := by
  subst hcs hbw
  have h := rline_is (word := word) n n (rd_newI (W := W) (ns := ns)) hn hm hw
  rw [hbad] at h
  have e : rlineT word ns = lineT word ns := by unfold rlineT; rw [hbad]; rfl
  rw [e] at h
  exact h
set_option maxRecDepth 100000 in
set_option maxHeartbeats 1000000 in
theorem rop_num (o : OpV) (w : World) (hm : mayO o = true) (hk : o.k ≠ 10) : Calls Tryz.prog 11 #[opV o] w (ValB (.tuple #[.string (B (opT o)), .int .i64 0]) w) := by
  have hmay := rmay_is hm
  have hle := mayO_le hm
  have d1 : (o.k != 10) = true := by simpa using hk
  have d2 : (o.k == 10) = false := by simpa using hk
  have hT : opT o = lineT opW [o.k, o.a, o.b, o.c] := by unfold opT; rw [if_neg hk]
  rw [hT]
  have hbd : badB [o.k, o.a, o.b, o.c] = false := bad_four (good_small (by omega) (by omega)) (good_small (by omega) (by omega)) (good_small (by omega) (by omega)) (good_small (by omega) (by omega))
  have hln := fun W : World => rline_new (W := W) opW [o.k, o.a, o.b, o.c] 4 rfl _ rfl _ rfl hbd (by omega) (by simp [opW])
  simp only [icells, List.map] at hln
  clear hm hT hk hle hbd
  generalize B (lineT opW [o.k, o.a, o.b, o.c]) = b1 at *
  go_enter Tryz.func11, Tryz.ntmps11
  go_wp2_with (first
    | (go_at_call 26; refine (hmay _).mono ?_; rintro e w1 ⟨rfl, hb⟩; have h1 := Blk.below hb (Blk.new w _ _) (by simp); have c1 := h1.rd; have hz := h1.lt; have H1 := Lib.hid hb; clear hmay hb h1)
    | (go_at_call 27; refine (hln _).mono ?_; rintro e w2 ⟨rfl, rfl⟩))
  go_ret2
  refine ⟨rfl, ?_⟩
  have h0 := ((Below.refl w.heap.size w).alloc (Nat.le_refl _) _).trans (H1.out.mono (by simp))
  exact h0.alloc h0.size _
set_option maxRecDepth 100000 in
set_option maxHeartbeats 2000000 in
theorem rop_call (o : OpV) (w : World) (hm : mayO o = true) (hk : o.k = 10) : Calls Tryz.prog 11 #[opV o] w (ValB (.tuple #[.string (B (opT o)), .int .i64 0]) w) := by
  have hmay := rmay_is hm
  have hle := mayO_le hm
  obtain ⟨hl1, hl2, hl3⟩ := call_len o hm
  have d1 : (o.k != 10) = false := by simpa using hk
  have d2 : (o.k == 10) = true := by simpa using hk
  have e1 := B_app (lineT callW [o.y, o.p, o.q]) [32]
  have e2 := B_app (lineT callW [o.y, o.p, o.q] ++ [32]) (quoteT o.s)
  have e3 := B_app (lineT callW [o.y, o.p, o.q] ++ [32] ++ quoteT o.s) [32]
  have e4 := B_app (lineT callW [o.y, o.p, o.q] ++ [32] ++ quoteT o.s ++ [32]) (quoteT o.t)
  rw [← opT_call hk] at e4
  have z1 := B_size (lineT callW [o.y, o.p, o.q])
  have z2 := B_size (lineT callW [o.y, o.p, o.q] ++ [32])
  have z3 := B_size (lineT callW [o.y, o.p, o.q] ++ [32] ++ quoteT o.s)
  have z4 := B_size (lineT callW [o.y, o.p, o.q] ++ [32] ++ quoteT o.s ++ [32])
  have z5 := B_size (quoteT o.s)
  have z6 := B_size (quoteT o.t)
  simp only [List.length_append, List.length_cons, List.length_nil] at z1 z2 z3 z4 z5 z6
  have hz1 : ¬ 9223372036854775807 < (B (lineT callW [o.y, o.p, o.q])).size + 1 := by omega
  have hz2 : ¬ 9223372036854775807 < (B (lineT callW [o.y, o.p, o.q] ++ [32])).size + (B (quoteT o.s)).size := by omega
  have hz3 : ¬ 9223372036854775807 < (B (lineT callW [o.y, o.p, o.q] ++ [32] ++ quoteT o.s)).size + 1 := by omega
  have hz4 : ¬ 9223372036854775807 < (B (lineT callW [o.y, o.p, o.q] ++ [32] ++ quoteT o.s ++ [32])).size + (B (quoteT o.t)).size := by omega
  have q1 := fun w => rquote_is o.s w (by omega)
  have q2 := fun w => rquote_is o.t w (by omega)
  have hbd : badB [o.y, o.p, o.q] = false := bad_three (good_small (by omega) (by omega)) (good_small (by omega) (by omega)) (good_small (by omega) (by omega))
  have hln := fun W : World => rline_new (W := W) callW [o.y, o.p, o.q] 3 rfl _ rfl _ rfl hbd (by omega) (by simp [callW])
  simp only [icells, List.map] at hln
  have e0 : B [32] = ⟨#[32]⟩ := rfl
  rw [e0] at e1 e3
  clear hm hle hl1 hl2 hl3 z1 z2 z3 z4 z5 z6 hbd e0 hk
  generalize B (opT o) = b6 at *
  generalize B (lineT callW [o.y, o.p, o.q] ++ [32] ++ quoteT o.s ++ [32]) = b5 at *
  generalize B (lineT callW [o.y, o.p, o.q] ++ [32] ++ quoteT o.s) = b4 at *
  generalize B (lineT callW [o.y, o.p, o.q] ++ [32]) = b3 at *
  generalize B (lineT callW [o.y, o.p, o.q]) = b2 at *
  generalize B (quoteT o.s) = qs at *
  generalize B (quoteT o.t) = qt at *
  go_enter Tryz.func11, Tryz.ntmps11
  go_wp2_with (first
    | (go_at_call 26; refine (hmay _).mono ?_; rintro e w1 ⟨rfl, hb⟩; have h1 := Blk.below hb (Blk.new w _ _) (by simp); have c1 := h1.rd; have hz := h1.lt; have H1 := Lib.hid hb; have HO := Lib.hid h1; clear hmay hb h1)
    | (go_at_call 27; refine (hln _).mono ?_; rintro e w2 ⟨rfl, rfl⟩))
  obtain ⟨W2, hW2⟩ : ∃ W2, W2 = w1.alloc (.cells #[.int .i64 o.y, .int .i64 o.p, .int .i64 o.q] 3) := ⟨_, rfl⟩
  rw [← hW2]
  have h2 : Below w1.heap.size w1 W2 := by rw [hW2]; exact (Below.refl _ _).alloc (Nat.le_refl _) _
  have HO2 := Lib.hid (Blk.below h2 HO.out HO.out.lt)
  have H2 := Lib.hid h2
  clear c1 h2 hW2
  refine region_J (fun u w3 => ∃ n, w3 = W2.drewN n) (by kernel_rfl) (by kernel_rfl) ?_ ?_
  · exact ⟨1, rfl⟩
  · iterate 15
      apply wpJ_op rfl (by rfl)
      · intro f w3 hf hJ Q1 hQ
        simp only [Act.put, List.setIfInBounds_toArray, List.set_cons_zero, List.set_cons_succ] at hQ
        obtain ⟨nd, rfl⟩ := hJ
        have h3 := HO2.out
        have c1 := h3.rd
        clear h3
        go_wp2_with (first
          | (go_at_call 28; (with_reducible refine (q1 _).mono ?_); rintro e w4 ⟨rfl, n4, rfl⟩)
          | (go_at_call 28; (with_reducible refine (q2 _).mono ?_); rintro e w4 ⟨rfl, n4, rfl⟩))
        first
          | exact hQ _ _ rfl ⟨_, rfl⟩
          | (rw [World.drewN_drewN] at *; exact hQ _ _ rfl ⟨_, rfl⟩)
      simp only [Act.put, List.setIfInBounds_toArray, List.set_cons_zero, List.set_cons_succ]
    refine wpJ_nil ?_
    intro w3 hJ3
    obtain ⟨nd, rfl⟩ := hJ3
    go_wp2_with (fail)
    go_ret2
    refine ⟨rfl, ?_⟩
    have h0 := ((Below.refl w.heap.size w).alloc (Nat.le_refl _) _).trans (H1.out.mono (by simp))
    exact below_drewN (h0.trans (H2.out.mono h0.size)) _
theorem op_is (o : OpV) (w : World) (hE : Env w) : Calls Tryz.prog 10 #[opV o] w (ValB (.tuple #[.string (B (opR o)), .int .i64 (opE o)]) w) := by
  unfold opR opE
  cases hm : mayO o
  · exact op_bad o w hm
  · by_cases hk : o.k = 10
    · exact op_call o w hE hm hk
    · exact op_num o w hE hm hk
theorem rop_is (o : OpV) (w : World) : Calls Tryz.prog 11 #[opV o] w (ValB (.tuple #[.string (B (opR o)), .int .i64 (opE o)]) w) := by
  unfold opR opE
  cases hm : mayO o
  · exact rop_bad o w hm
  · by_cases hk : o.k = 10
    · exact rop_call o w hm hk
    · exact rop_num o w hm hk
end Go.Proofs.YtefaaginedideaaGreatDoor
