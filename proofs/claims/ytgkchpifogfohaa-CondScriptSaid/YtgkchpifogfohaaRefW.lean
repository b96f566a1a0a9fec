/-
  The document's conditions: Wait, Cancel, Signal.
-/
import Derived.Test.YtgkchpifogfohaaRefC
namespace Go.Proofs.Ytgkchpifogfohaa
set_option linter.unusedSimpArgs false
set_option linter.unusedVariables false
open Go.RowKit Go.Lib Own Sl
open RegJ hiding Up
open RegF hiding put_size

theorem cell_lt {w : World} {a : Addr} {v : Value} (h : w.cell? a = some v) : a.block < w.heap.size := by
  rcases Nat.lt_or_ge a.block w.heap.size with h' | h'
  · exact h'
  · unfold World.cell? at h; simp [Array.getElem?_eq_none h'] at h
theorem below_cell {w w' : World} (hb : Below w.heap.size w w') {a : Addr} {v : Value} (h : w.cell? a = some v) : w'.cell? a = some v := (hb.cell (cell_lt h)).trans h
theorem View.below {w w' : World} {bl i c L : Nat} {xs : List Int} {a : Option Addr} {X : Nat → Int} (h : View w bl i xs a c L X) (hb : Below w.heap.size w w') : View w' bl i xs a c L X :=
  ⟨below_cell hb h.cell, h.max, fun j hj => by
    obtain ⟨g, o, h1, h2⟩ := h.at' j hj
    exact ⟨g, o, h1, below_cell hb h2⟩, h.is⟩

theorem Try.info3 : (Try.prog.info? 3).map (fun i => (i.zero, i.size, i.bytes)) = some (some (.int .i64 0), 1, 8) := by kernel_rfl
/-- one more integer behind a row of the call's own -/
theorem wp_app1 {ops : Array Oper} {rest : List Oper} {o : Oper} {a : Act} {Q : Exit → Act → World → Prop} {w : World} (hgd : o.guard = none) (s x : Operand)
    (ho : o.op = .call { callee := .builtin .append, args := #[s, x], argTypes := #[46, 46] }) (base : Nat) (v : Value) (xs : List Int) (hs : a.eval s = v) (hown : w.ownsRow base 3 1 v xs.length (icells xs))
    (b : Nat) (y : Int) (hx : a.eval x = .slice (some ⟨b, 0, none⟩) 1 1) (hc : w.cell? ⟨b, 0, none⟩ = some (.int .i64 y)) (hlen : xs.length ≤ 2000) (hbase : base ≤ w.heap.size)
    (h : ∀ v' w', w'.ownsRow base 3 1 v' (xs ++ [y]).length (icells (xs ++ [y])) → Below base w w' → wpList Try.prog ops Q rest (a.put o.dst v') w') : wpList Try.prog ops Q (o :: rest) a w := by
  obtain ⟨i0, hi, hz0, hz1, hz2⟩ := info_parts Try.info3
  refine wpList_append_own _ hgd s x 46 ho base 3 i0 (.int .i64 0) 1 8 Try.underlying46 hi hz0 hz1 hz2 rfl (by decide) v xs.length (icells xs) hs hown ⟨b, 0, none⟩ 1 1 [.int .i64 y] hx rfl ?_ ?_ (by unfold maxLen; omega) (by omega) hbase ?_
  · intro j u hj
    match j, hj with
    | 0, hj => simp at hj; subst hj; simpa [Addr.add] using hc
  · intro u hu; simp at hu; subst hu; rfl
  · intro v' w' h1 h2 _
    refine h v' w' (by simpa [icells] using h1) (Below.grown (Below.refl _ _) h2 hbase ?_)
    intro k hk
    rcases hown.2 with ⟨rfl, _⟩ | ⟨g, cap, cur, rfl, hg, _⟩
    · simp [Value.ownBlock] at hk
    · simp [Value.ownBlock] at hk; omega

theorem own_slice {w : World} {base : Nat} {E : TypeId} {v : Value} {n : Nat} {xs : List Value} (h : w.ownsRow base E 1 v n xs) : ∃ a l c, v = .slice a l c := by
  rcases h.2 with ⟨rfl, _⟩ | ⟨g, cap, cur, rfl, _⟩
  · exact ⟨_, _, _, rfl⟩
  · exact ⟨_, _, _, rfl⟩
section
variable {w : World} {n bc bl : Nat} {vs : Nat → Value} {bs : Nat → Option Nat} {ls : Nat → List Int}
theorem rr_turn {W w0 : World} (h : RR W n bc bl vs bs ls) {i : Nat} (hi : i < n) (hb : Below W.heap.size W w0) {v : Value} {xs : List Int} (hv : w0.ownsRow W.heap.size 3 1 v xs.length (icells xs)) :
    TurnedR W (w0.setCell ⟨bl, i, none⟩ v) n bc bl bs (put ls i xs) := by
  obtain ⟨b', hI, hb'⟩ := Ints.of_own hv
  have := h.put hi (Upd.of_below (F := fun k => bs i = some k) hb) hI (fun g hg => Or.inr (hb' g hg))
  exact ⟨_, _, this⟩
set_option maxRecDepth 100000 in
theorem rwait_arg (h : RR w n bc bl vs bs ls) (hn : n ≤ 64) (t i : Int) (ha : t < 0 ∨ (0 ≤ t ∧ (i < 0 ∨ n ≤ i))) :
    Calls Try.prog 16 #[.pointer (some ⟨bc, 0, none⟩), .int .i64 t, .int .i64 i] w fun e w' => e = .returned (.int .i64 2) ∧ w = w' := by
  have c1 := h.hc.rd
  clear h
  by_cases h0 : t < 0
  · clear ha
    go_enter Try.func16, Try.ntmps16
    go_wp2
    go_ret
    exact ⟨rfl, rfl⟩
  · have i0 : 0 ≤ t := by omega
    by_cases h1 : i < 0
    · clear ha
      go_enter Try.func16, Try.ntmps16
      go_wp2
      go_ret
      exact ⟨rfl, rfl⟩
    · have i1 : 0 ≤ i := by omega
      have i2 : (n : Int) ≤ i := by omega
      have d1 : decide (i ≥ (n : Int)) = true := by simp; omega
      clear ha
      go_enter Try.func16, Try.ntmps16
      go_wp2
      go_ret
      exact ⟨rfl, rfl⟩
set_option maxRecDepth 100000 in
theorem rwait_busy (h : RR w n bc bl vs bs ls) (hn : n ≤ 64) (t : Int) (i : Nat) (ht : 0 ≤ t) (hi : i < n) (j : Int) (hj : ofF n ls t = j) (hj0 : 0 ≤ j) :
    Calls Try.prog 16 #[.pointer (some ⟨bc, 0, none⟩), .int .i64 t, .int .i64 i] w fun e w' => e = .returned (.int .i64 5) ∧ w = w' := by
  have c1 := h.hc.rd
  have ho := rof_is h hn t j hj
  have i1 : (i : Int) < (n : Int) := by omega
  have d1 : decide ((i : Int) ≥ (n : Int)) = false := by simp; omega
  clear h hj
  go_enter Try.func16, Try.ntmps16
  go_wp2_with (go_at_call 22; (with_reducible refine ho.mono ?_); rintro e w' ⟨rfl, rfl⟩)
  go_ret
  exact ⟨rfl, rfl⟩
end
theorem sorted_at {xs : List Int} {t : Int} {L : Nat} {X : Nat → Int} (h : xs.Pairwise (· < ·)) (ht : t ∉ xs) (hx : xs = (List.range L).map X) : (∀ j, j < List.countP (fun x => decide (x < t)) xs → X j < t) ∧ (∀ j, List.countP (fun x => decide (x < t)) xs ≤ j → j < L → t < X j) := by
  have hc := take_count xs t (h.imp (fun h => Int.le_of_lt h))
  have hL : xs.length = L := by rw [hx]; simp
  have hg : ∀ j (hj : j < xs.length), xs[j] = X j := fun j hj => by simp [hx]
  have hcl := List.countP_le_length (p := fun x => decide (x < t)) (l := xs)
  refine ⟨fun j hj => ?_, fun j hj hjL => ?_⟩
  · have hjl : j < xs.length := by omega
    have hm : X j ∈ xs.take (List.countP (fun x => decide (x < t)) xs) := by
      rw [← hg j hjl, List.mem_take_iff_getElem]
      exact ⟨j, by omega, rfl⟩
    rw [hc.1] at hm
    simpa using (List.mem_filter.1 hm).2
  · have hjl : j < xs.length := by omega
    have hm : X j ∈ xs.drop (List.countP (fun x => decide (x < t)) xs) := by
      rw [← hg j hjl, List.mem_drop_iff_getElem]
      exact ⟨j - List.countP (fun x => decide (x < t)) xs, by omega, by congr 1; omega⟩
    rw [hc.2] at hm
    have h1 := (List.mem_filter.1 hm).2
    have h2 := (List.mem_filter.1 hm).1
    have h3 : X j ≠ t := fun e => ht (e ▸ h2)
    simp at h1; omega
/-- what Wait has gathered behind k rounds -/
def colW (xs : List Int) (t : Int) (C k : Nat) : List Int := if C < k then xs.take C ++ t :: (xs.take k).drop C else xs.take k
theorem colW_zero (xs : List Int) (t : Int) (C : Nat) : colW xs t C 0 = [] := by unfold colW; simp
theorem take_one {xs : List Int} {k L : Nat} {X : Nat → Int} (hx : xs = (List.range L).map X) (hk : k < L) : xs.take (k + 1) = xs.take k ++ [X k] := by
  have hl : k < xs.length := by rw [hx]; simpa using hk
  rw [List.take_succ_eq_append_getElem hl]; simp [hx]
theorem colW_low {xs : List Int} {t : Int} {C k L : Nat} {X : Nat → Int} (hx : xs = (List.range L).map X) (hk : k < L) (h : k < C) : colW xs t C (k + 1) = colW xs t C k ++ [X k] := by
  unfold colW; rw [if_neg (by omega), if_neg (by omega), take_one hx hk]
theorem colW_at {xs : List Int} {t : Int} {k L : Nat} {X : Nat → Int} (hx : xs = (List.range L).map X) (hk : k < L) : colW xs t k (k + 1) = (colW xs t k k ++ [t]) ++ [X k] := by
  have hl : k < xs.length := by rw [hx]; simpa using hk
  unfold colW; rw [if_pos (by omega), if_neg (by omega), take_one hx hk]
  have : (xs.take k).length = k := by simp; omega
  simp [List.drop_append, this]
theorem colW_high {xs : List Int} {t : Int} {C k L : Nat} {X : Nat → Int} (hx : xs = (List.range L).map X) (hk : k < L) (h : C < k) : colW xs t C (k + 1) = colW xs t C k ++ [X k] := by
  have hl : k < xs.length := by rw [hx]; simpa using hk
  unfold colW; rw [if_pos (by omega), if_pos (by omega), take_one hx hk]
  have : C - k = 0 := by omega
  simp [List.drop_append, Nat.min_eq_left (Nat.le_of_lt hl), this]
theorem colW_len (xs : List Int) (t : Int) (C k : Nat) : (colW xs t C k).length ≤ k + 1 := by
  unfold colW; split <;> simp <;> omega
theorem colW_fin {xs : List Int} {t : Int} {C : Nat} (h : C < xs.length) : colW xs t C xs.length = xs.take C ++ t :: xs.drop C := by
  unfold colW; rw [if_pos h]; simp
theorem colW_end {xs : List Int} {t : Int} : colW xs t xs.length xs.length ++ [t] = xs.take xs.length ++ t :: xs.drop xs.length := by
  unfold colW; rw [if_neg (by omega)]; simp
set_option maxRecDepth 100000 in
set_option maxHeartbeats 1000000 in
theorem rwait_ok {w : World} {n bc bl : Nat} {vs : Nat → Value} {bs : Nat → Option Nat} {ls : Nat → List Int} (h : RR w n bc bl vs bs ls) (hn : n ≤ 64) (hg : Good ls) (t : Int) (i : Nat) (ht : 0 ≤ t) (hi : i < n) (hv : ∀ j, t ∉ ls j) :
    Calls Try.prog 16 #[.pointer (some ⟨bc, 0, none⟩), .int .i64 t, .int .i64 i] w fun e w' => e = .returned (.int .i64 0) ∧ TurnedR w w' n bc bl bs (insF ls i t) := by
  have c1 := h.hc.rd
  have ho := rof_is h hn t (-1) (ofF_miss (fun j _ => hv j))
  have i1 : (i : Int) < (n : Int) := by omega
  have d1 : decide ((i : Int) ≥ (n : Int)) = false := by simp; omega
  obtain ⟨a, c, L, X, hV⟩ := h.view i hi
  have hso := sorted_at (hg.sorted i) (hv i) hV.is
  have hlen := hg.len i
  rw [hV.len] at hlen
  have HL := Lib.hid hV.len
  unfold insF
  have hCle := List.countP_le_length (p := fun x => decide (x < t)) (l := ls i)
  generalize List.countP (fun x => decide (x < t)) (ls i) = C at hso hCle ⊢
  rw [hV.len] at hCle
  have H := Lib.hid h
  have HS := Lib.hid hso
  have hbl := h.hl.lt
  have HV := Lib.hid hV
  clear h hv hg hso hV
  go_enter Try.func16, Try.ntmps16
  go_wp2_with (go_at_call 22; (with_reducible refine ho.mono ?_); rintro e w' ⟨rfl, rfl⟩)
  clear ho c1
  go_loopw [7, 8, 9] (fun v fl kx wr => ∃ k : Nat, k ≤ L ∧ kx = .int .i64 k ∧ fl = .bool (decide (C < k)) ∧ wr.ownsRow w.heap.size 3 1 v (colW (ls i) t C k).length (icells (colW (ls i) t C k)) ∧ Below w.heap.size w wr) (fun _ _ kx _ => L - (intOf kx).toNat)
  case atStart => exact ⟨0, Nat.zero_le _, rfl, by simp, by rw [colW_zero]; exact World.ownsRow_nil _ _ _ _, Below.refl _ _⟩
  case round =>
    rename_i wr _
    obtain ⟨k, hk, rfl, rfl, hown, hbw⟩ := hrel
    have hV' := HV.out.below hbw
    have c1 := (H.out.below hbw).hc.rd
    have c2 := hV'.cell
    have hat := hV'.at'
    have hsz := hbw.size
    have HB := Lib.hid hbw
    clear hV' hbw
    by_cases hkl : k < L
    · obtain ⟨g, o, rfl, c3⟩ := hat k hkl
      have d2 : decide ((k : Int) < (L : Int)) = true := by simp; omega
      have i2 : (k : Int) < (L : Int) := by omega
      clear hat
      have hcl := colW_len (ls i) t C k
      have HX := Lib.hid HV.out.is
      by_cases hkC : k < C
      · have hd : decide (C < k) = false := by simp; omega
        have hlt := HS.out.1 k hkC
        have d3 : decide (X k > t) = false := by simp; omega
        rw [hd]
        have HO := Lib.hid hown
        clear hown hd
        go_wp2_with (at_builtin; refine wp_app1 rfl _ _ rfl w.heap.size _ _ rfl (HO.out.alloc _) wr.heap.size (X k) rfl (Blk.cell (Blk.new _ _ _) rfl) (by omega) (by simp; omega) ?_; intro v' w1 hown1 hb1)
        have HO1 := Lib.hid hown1
        clear hown1
        go_roundw
        case rel => exact ⟨k + 1, by omega, by go_num, by simp; omega, by rw [colW_low HX.out hkl hkC]; exact HO1.out, (HB.out.alloc hsz _).trans hb1⟩
        case measure => simp [intOf]; omega
      · by_cases hkE : k = C
        · subst hkE
          have hd : decide (k < k) = false := by simp
          have hlt := HS.out.2 k (Nat.le_refl _) hkl
          have d3 : decide (X k > t) = true := by simp; omega
          rw [hd]
          have HO := Lib.hid hown
          clear hown hd hkC
          go_wp2_with (first
            | (at_builtin; refine wp_app1 rfl _ _ rfl w.heap.size _ _ rfl (HO.out.alloc _) wr.heap.size t rfl (Blk.cell (Blk.new _ _ _) rfl) (by omega) (by simp; omega) ?_; intro v' w1 hown1 hb1; have HO1 := Lib.hid hown1; have hb2 := (HB.out.alloc hsz (.cells #[.int .i64 t] 3)).trans hb1; have hsz2 := hb2.size; have HB2 := Lib.hid hb2; have hV1 := HV.out.below hb2; have c1 := (H.out.below hb2).hc.rd; have c2 := hV1.cell; have c3 : w1.cell? ⟨g, o + k, none⟩ = some (.int .i64 (X k)) := (by obtain ⟨g', o', e1, e2⟩ := hV1.at' k hkl; cases e1; exact e2); clear hown1 hb1 hb2 hV1)
            | (at_builtin; refine wp_app1 rfl _ _ rfl w.heap.size _ _ rfl (HO1.out.alloc _) w1.heap.size (X k) rfl (Blk.cell (Blk.new _ _ _) rfl) (by simp; omega) (by simp; omega) ?_; intro v'' w2 hown2 hb3; have HO2 := Lib.hid hown2; have HB3 := Lib.hid hb3; clear hown2 hb3))
          go_roundw
          case rel => exact ⟨k + 1, by omega, by go_num, by simp, by rw [colW_at HX.out hkl]; exact HO2.out, (HB2.out.alloc hsz2 _).trans HB3.out⟩
          case measure => simp [intOf]; omega
        · have hd : decide (C < k) = true := by simp; omega
          rw [hd]
          have HO := Lib.hid hown
          clear hown hd
          go_wp2_with (at_builtin; refine wp_app1 rfl _ _ rfl w.heap.size _ _ rfl (HO.out.alloc _) wr.heap.size (X k) rfl (Blk.cell (Blk.new _ _ _) rfl) (by omega) (by simp; omega) ?_; intro v' w1 hown1 hb1)
          have HO1 := Lib.hid hown1
          clear hown1
          go_roundw
          case rel => exact ⟨k + 1, by omega, by go_num, by simp; omega, by rw [colW_high HX.out hkl (by omega)]; exact HO1.out, (HB.out.alloc hsz _).trans hb1⟩
          case measure => simp [intOf]; omega
    · have hkL : k = L := by omega
      subst hkL
      have d2 : decide ((k : Int) < (k : Int)) = false := by simp
      have hcl := colW_len (ls i) t C k
      clear hat hkl
      by_cases hCk : C < k
      · have hd : decide (C < k) = true := by simp; omega
        rw [hd]
        have e := colW_fin (xs := ls i) (t := t) (C := C) (by rw [HL.out]; exact hCk)
        rw [HL.out] at e
        obtain ⟨va, vl, vc, rfl⟩ := own_slice hown
        have HO := Lib.hid hown
        have ht0 := rr_turn H.out hi HB.out hown
        rw [e] at ht0
        have HT := Lib.hid ht0
        clear ht0
        have nf := ((H.out.below HB.out).hl).nf
        clear hown hd e
        go_wp2
        go_ret
        exact ⟨rfl, HT.out⟩
      · have hE : C = k := by omega
        subst hE
        have hd : decide (C < C) = false := by simp
        rw [hd]
        have e := colW_end (xs := ls i) (t := t)
        rw [HL.out] at e
        have HO := Lib.hid hown
        have HE := Lib.hid e
        clear hown hd e hCk
        go_wp2_with (at_builtin; refine wp_app1 rfl _ _ rfl w.heap.size _ _ rfl (HO.out.alloc _) wr.heap.size t rfl (Blk.cell (Blk.new _ _ _) rfl) (by omega) (by simp; omega) ?_; intro v' w1 hown1 hb1; obtain ⟨va, vl, vc, rfl⟩ := own_slice hown1; have hb2 := (HB.out.alloc hsz (.cells #[.int .i64 t] 3)).trans hb1; have ht0 := rr_turn H.out hi hb2 hown1; rw [HE.out] at ht0; have HT := Lib.hid ht0; clear ht0; have nf := ((H.out.below hb2).hl).nf; have c1 := (H.out.below hb2).hc.rd; have c2 := (HV.out.below hb2).cell; clear hown1 hb1 hb2)
        go_ret
        exact ⟨rfl, HT.out⟩
end Go.Proofs.Ytgkchpifogfohaa
