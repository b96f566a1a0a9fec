/-
  The document's table: Enter.
-/
import Derived.Test.YtchnjfmimpikcaaGreatDoorQMk
namespace Go.Proofs.YtchnjfmimpikcaaGreatDoor
set_option linter.unusedSimpArgs false
set_option linter.unusedVariables false
open Go.RowKit Own RegC Three Two
open RegJ hiding Up
open RegF hiding put_size
open Go.Lib hiding intOf

/-- a row of entries of the call's own, in the making -/
def EQ (w wr : World) (v : Value) (l : List En) : Prop := ∃ b, Row2 wr 118 v (l.map enV) b ∧ (∀ g, b = some g → w.heap.size ≤ g) ∧ Below w.heap.size w wr
theorem EQ.nil (w : World) : EQ w w (.slice none 0 0) [] := ⟨none, Or.inl ⟨rfl, rfl, rfl⟩, (fun g hg => by cases hg), Below.refl _ _⟩
theorem EQ.slice {w wr : World} {v : Value} {l : List En} (h : EQ w wr v l) : ∃ a c, v = .slice a l.length c := by
  obtain ⟨b, h, _⟩ := h
  obtain ⟨a, c, hv⟩ := h.slice
  rw [List.length_map] at hv
  exact ⟨a, c, hv⟩
theorem wp_ent {ops : Array Oper} {rest : List Oper} {o : Oper} {a : Act} {Q : Exit → Act → World → Prop} {w0 wr : World} (hgd : o.guard = none) (s x : Operand)
    (ho : o.op = .call { callee := .builtin .append, args := #[s, x], argTypes := #[54, 54] }) (v : Value) (l : List En) (y : En) (sy : ByteArray) (hsy : B y.1 = sy) (hq : EQ w0 wr v l) (hl : l.length ≤ 2000)
    (hs : a.eval s = v) (hx : a.eval x = .slice (some ⟨wr.heap.size, 0, none⟩) 1 1) (h : ∀ v' w', EQ w0 w' v' (l ++ [y]) → wpList Tryz.prog ops Q rest (a.put o.dst v') w') :
    wpList Tryz.prog ops Q (o :: rest) a (wr.alloc (.cells #[.string sy, .int .i64 y.2] 118)) := by
  subst hsy
  obtain ⟨b, hr, hb, hB⟩ := hq
  refine wp_app2 hgd s x 54 118 _ 24 infoEntry rfl (by decide) Tryz.underlying54 ho v (l.map enV) b hs (hr.below ((Below.refl _ _).alloc (Nat.le_refl _) _)) ⟨wr.heap.size, 0, none⟩ 1 1 [enV y] rfl (by decide) hx ?_ (one_en [y]) (by rw [List.length_map, List.length_cons, List.length_nil]; omega) ?_
  · intro j u hj
    rw [Two.add0, (Blk.new wr #[.string (B y.1), .int .i64 y.2] 118).rd, Nat.zero_add]
    exact List.getElem?_toArray.trans hj
  · intro v' w' b' hr' hb' hu'
    refine h v' w' ⟨b', by rw [List.map_append]; exact hr', fun g hg => ?_, ?_⟩
    · have hz := hB.size
      rcases hb' g hg with h1 | h1
      · exact hb g h1
      · have : wr.heap.size ≤ g := by simp at h1; omega
        omega
    · have hBa := hB.alloc hB.size (.cells #[.string (B y.1), .int .i64 y.2] 118)
      exact hBa.trans (hu'.below hBa.size hb)
/-- the list behind so many rounds -/
def midE (es : List En) (j : Nat) (x : En) (i : Nat) : List En := if i ≤ j then es.take i else (insE es j x).take (i + 1)
theorem mid_lt {es : List En} {j i : Nat} {x y : En} (h : i < j) (hy : es[i]? = some y) : midE es j x i ++ [y] = midE es j x (i + 1) := by
  unfold midE
  rw [if_pos (by omega), if_pos (by omega), List.take_add_one, hy]; rfl
theorem ins_take {es : List En} {j i : Nat} {x : En} (h : j ≤ i) (hj : j ≤ es.length) : (insE es j x).take (i + 1) = es.take j ++ x :: (es.drop j).take (i - j) := by
  unfold insE
  rw [List.take_append, List.length_take, Nat.min_eq_left hj, List.take_of_length_le (by rw [List.length_take]; omega)]
  rw [show i + 1 - j = (i - j) + 1 by omega, List.take_succ_cons]
theorem mid_eq {es : List En} {j : Nat} {x y : En} (hy : es[j]? = some y) : midE es j x j ++ [x] ++ [y] = midE es j x (j + 1) := by
  have hj : j < es.length := (List.getElem?_eq_some_iff.1 hy).1
  unfold midE
  rw [if_pos (Nat.le_refl _), if_neg (by omega), ins_take (by omega) (by omega)]
  have : (es.drop j).take (j + 1 - j) = [y] := by
    rw [show j + 1 - j = 0 + 1 by omega, List.take_add_one, List.getElem?_drop, Nat.add_zero, hy]; rfl
  rw [this, List.append_assoc]; rfl
theorem mid_gt {es : List En} {j i : Nat} {x y : En} (h : j < i) (hy : es[i]? = some y) : midE es j x i ++ [y] = midE es j x (i + 1) := by
  have hi : i < es.length := (List.getElem?_eq_some_iff.1 hy).1
  unfold midE
  rw [if_neg (by omega), if_neg (by omega), ins_take (by omega) (by omega), ins_take (by omega) (by omega)]
  rw [show i + 1 - j = (i - j) + 1 by omega, List.take_add_one, List.getElem?_drop, show j + (i - j) = i by omega, hy]
  simp
theorem mid_in {es : List En} {j : Nat} {x : En} (h : j < es.length) : midE es j x es.length = insE es j x := by
  unfold midE
  rw [if_neg (by omega), List.take_of_length_le (by rw [insE_len]; omega)]
theorem mid_out {es : List En} {x : En} : midE es es.length x es.length ++ [x] = insE es es.length x := by
  unfold midE insE
  rw [if_pos (Nat.le_refl _), List.drop_of_length_le (Nat.le_refl _)]
theorem mid_len {es : List En} {j i : Nat} {x : En} : (midE es j x i).length ≤ i + 1 := by
  unfold midE
  split <;> (rw [List.length_take]; omega)
theorem nlt_asym {a b : Txt} (h : nlt a b = true) : nlt b a = false := by
  cases hb : nlt b a with
  | false => rfl
  | true => have := nlt_trans _ _ _ h hb; rw [nlt_irr] at this; cases this
section
variable {w w' : World} {O : Nat → Prop} {rb sb n N c : Nat} {ns ns' : NSt} {vs : Nat → Value} {fs : Sfs}
/-- another list of a node's -/
theorem QV.ents (h : QV w O rb sb n N ns vs fs) {i : Nat} {nd : Nd} (hi : ns i = some nd) (v : Value) (es : List En) (b : Option Nat) (hr : Row2 w 118 v (es.map enV) b) (h8 : es.length ≤ 8) (hb : inO O b) :
    QV (w.setCell ⟨rb, 1 + i * 5 + 4, none⟩ v) O rb sb n N (nsPut ns i (some (setEs nd es))) (fun j => if j = i then v else vs j) fs := by
  have h16 := (h.cells hi).1
  refine h.turn ((Upd.refl (fun k => k = rb) w).setCell (p := ⟨rb, _, none⟩) (fun _ => rfl) _) (Blk.of (h.tab.set _ v) (refC_set sb ns _ vs _ i 4 h16 (by omega) v (fun k hk => ⟨put_ne _ _ _ hk, by rw [if_neg hk]⟩) (by rw [put_eq, hi, if_pos rfl]; rfl))) (fun j nd2 hj => ?_) (fun j hj => ?_) (fun j hj => ?_)
  · by_cases e : j = i
    · subst e; rw [put_eq] at hj; cases hj; rw [if_pos rfl]; exact ⟨⟨b, hr, hb⟩, h8⟩
    · rw [put_ne _ _ _ e] at hj; rw [if_neg e]; exact h.row j nd2 hj
  · by_cases e : j = i
    · subst e; rw [put_eq] at hj; cases hj
    · rw [put_ne _ _ _ e] at hj; rw [if_neg e]; exact h.nil' j hj
  · rw [put_ne _ _ _ (by omega)]; exact h.far j hj
/-- behind the list: what is left to do -/
structure RTl (w w1 : World) (O : Nat → Prop) (rb sb n N : Nat) (ns : NSt) (i : Nat) (nd : Nd) (es : List En) (k : Nat) (nk : Nd) (v : Value) : Prop where
  k16 : k < 16
  nf : ∀ o, w1.frozen? ⟨rb, o, none⟩ = false
  ck : (w1.setCell ⟨rb, 1 + i * 5 + 4, none⟩ v).cell? ⟨rb, 1 + k * 5 + 2, none⟩ = some (.int .i64 nk.links)
  fin : QP w O rb sb n N (nsEnt ns i nd es k) (((w1.setCell ⟨rb, 1 + i * 5 + 4, none⟩ v).setCell ⟨rb, 1 + k * 5 + 2, none⟩ (.int .i64 (nk.links + 1))).drew)
theorem ents_tail (hT : QV w O rb sb n N ns vs (filesOf ns)) {i : Nat} {nd : Nd} (hi : ns i = some nd) {es : List En} (h8 : es.length ≤ 8) {w1 : World} {v : Value} (hq : EQ w w1 v es) :
    QO (w1.setCell ⟨rb, 1 + i * 5 + 4, none⟩ v) (nx w w1 O) rb sb n N (nsPut ns i (some (setEs nd es))) ∧ (∀ o, w1.frozen? ⟨rb, o, none⟩ = false) ∧ Upd O w (w1.setCell ⟨rb, 1 + i * 5 + 4, none⟩ v) := by
  obtain ⟨b, hr, hb, hB⟩ := hq
  have hT1 := (hT.below hB).mono (O' := nx w w1 O) (fun k hk hl => ⟨Or.inl hk, hl⟩)
  have hT2 := hT1.ents hi v es b hr h8 (fun g hg => ⟨Or.inr (hb g hg), hr.lt g hg⟩)
  rw [← files_same (nd' := setEs nd es) hi rfl rfl] at hT2
  exact ⟨⟨_, hT2⟩, hT1.tab.nf, (Upd.of_below (F := O) hB).trans ((Upd.refl O w1).setCell (p := ⟨rb, 1 + i * 5 + 4, none⟩) (fun _ => hT.orb) v) (fun _ _ h => h)⟩
theorem rent_tail (hT : QV w O rb sb n N ns vs (filesOf ns)) {i : Nat} {nd : Nd} (hi : ns i = some nd) {k : Nat} {nk : Nd} (hk : ns k = some nk) {es : List En} (nm : Txt) (h8 : es.length ≤ 8) {w1 : World} {v : Value} (hq : EQ w w1 v es) :
    RTl w w1 O rb sb n N ns i nd es k nk v := by
  obtain ⟨hO2, hnf, hu2⟩ := ents_tail hT hi h8 hq
  obtain ⟨nk', hk', hl'⟩ : ∃ nk', nsPut ns i (some (setEs nd es)) k = some nk' ∧ nk'.links = nk.links := by
    by_cases e : k = i
    · subst e; rw [hi] at hk; cases hk; exact ⟨_, put_eq _ _ _, rfl⟩
    · exact ⟨nk, by rw [put_ne _ _ _ e]; exact hk, rfl⟩
  obtain ⟨k16, _, _, ck, _⟩ := hO2.cells hk'
  have hn := hO2.num (f := 2) (nd' := addL nk' 1) hk' (by omega) (.int .i64 (nk'.links + 1)) (fun _ => rfl) rfl rfl rfl
  rw [hl'] at ck hn
  refine ⟨k16, hnf, ck, ?_⟩
  have hne : nsEnt ns i nd es (k : Int) = nsPut (nsPut ns i (some (setEs nd es))) k (some (addL nk' 1)) := by
    unfold nsEnt
    simp only [Int.toNat_natCast]
    rw [hk']
  rw [hne]
  have hz : ((w1.setCell ⟨rb, 1 + i * 5 + 4, none⟩ v).setCell ⟨rb, 1 + k * 5 + 2, none⟩ (.int .i64 (nk.links + 1))).drew.heap.size = w1.heap.size := by simp [World.setCell]
  refine ⟨?_, hu2.trans hn.2 (fun q hq hx => ?_)⟩
  · rw [nx_same hz]; exact hn.1
  · exact hx.1.elim (fun h => h) (fun h => by omega)
end
def REntP (w : World) (O : Nat → Prop) (rb sb n N : Nat) (ns : NSt) (i : Nat) (nd : Nd) (j : Nat) (nm : Txt) (id : Int) (e : Ending) (w' : World) : Prop :=
  e = .returned (.int .i64 (entR ns nd.es j nm id)) ∧ ((entR ns nd.es j nm id ≠ 0 ∧ w = w') ∨ (entR ns nd.es j nm id = 0 ∧ QP w O rb sb n N (nsEnt ns i nd (insE nd.es j (nm, id)) id) w'))
section
variable {w w' : World} {O : Nat → Prop} {rb sb n N c : Nat} {ns ns' : NSt} {vs : Nat → Value} {fs : Sfs}
theorem dirAt_yes {ns : NSt} {i : Nat} {nd : Nd} (hi : ns i = some nd) (hd : nd.dir = true) : dirAt ns (i : Int) = some nd := by
  unfold dirAt; rw [ndAt_nat hi]; simp [hd]
theorem QO.dirY (h : QO w O rb sb n N ns) {i : Nat} {nd : Nd} (hi : ns i = some nd) (hd : nd.dir = true) : Calls Tryz.prog 87 #[.pointer (some ⟨rb, 0, none⟩), .int .i64 i] w fun e w' => e = .returned (.bool true) ∧ w = w' := by
  obtain ⟨vs, hT⟩ := h
  have := rDir_is hT i
  rw [dirAt_yes hi hd] at this
  exact this
theorem srt_one {es : List En} (hS : Srt es) {i k : Nat} {x y : En} (hx : es[i]? = some x) (hy : es[k]? = some y) (he : x.1 = y.1) : i = k := by
  rcases Nat.lt_trichotomy i k with h | h | h
  · have := srt_at hS hx hy h; rw [he, nlt_irr] at this; cases this
  · exact h
  · have := srt_at hS hy hx h; rw [he, nlt_irr] at this; cases this
theorem rFind_hit (h : QO w O rb sb n N ns) {i : Nat} {nm : Txt} {nd : Nd} (hi : ns i = some nd) (hd : nd.dir = true) (hS : Srt nd.es) {j : Nat} {x : Int} (hx : nd.es[j]? = some (nm, x)) :
    Calls Tryz.prog 94 #[.pointer (some ⟨rb, 0, none⟩), .int .i64 i, .string (B nm)] w fun e w' => e = .returned (.tuple #[.int .i64 x, .int .i64 0]) ∧ w = w' := by
  obtain ⟨vs, hT⟩ := h
  refine (rFind_yes hT i nm nd hi hd).mono ?_
  rintro e w' ⟨⟨k, y, hy, hyn, rfl⟩ | ⟨hno, rfl⟩, rfl⟩
  · obtain rfl := srt_one hS hx hy hyn.symm
    rw [hx] at hy; cases hy
    exact ⟨rfl, rfl⟩
  · exact absurd rfl (hno _ (List.mem_of_getElem? hx))
theorem rFind_miss (h : QO w O rb sb n N ns) {i : Nat} {nm : Txt} {nd : Nd} (hi : ns i = some nd) (hd : nd.dir = true) (hno : ∀ x ∈ nd.es, x.1 ≠ nm) :
    Calls Tryz.prog 94 #[.pointer (some ⟨rb, 0, none⟩), .int .i64 i, .string (B nm)] w fun e w' => e = .returned (.tuple #[.int .i64 0, .int .i64 9]) ∧ w = w' := by
  obtain ⟨vs, hT⟩ := h
  refine (rFind_yes hT i nm nd hi hd).mono ?_
  rintro e w' ⟨⟨k, y, hy, hyn, rfl⟩ | ⟨_, rfl⟩, rfl⟩
  · exact absurd hyn (hno _ (List.mem_of_getElem? hy))
  · exact ⟨rfl, rfl⟩
theorem at_there {es : List En} (hS : Srt es) {i j : Nat} {x : En} (hx : es[i]? = some x) (hA : At es x.1 j) : j = i ∧ isAt es x.1 j = true := by
  have hil := (List.getElem?_eq_some_iff.1 hx).1
  have h1 : j = i := by
    by_cases h1 : j < i
    · have hjl : j < es.length := by omega
      have := hA.2.2 j es[j] (List.getElem?_eq_getElem hjl) (Nat.le_refl _)
      have h2 := srt_at hS (List.getElem?_eq_getElem hjl) hx h1
      rw [this] at h2; cases h2
    · by_cases h2 : i < j
      · have := hA.2.1 i x hx h2
        rw [nlt_irr] at this; cases this
      · omega
  subst h1
  refine ⟨rfl, ?_⟩
  unfold isAt; rw [hx]; simp
theorem at_hit {es : List En} {nm : Txt} {j : Nat} (h : isAt es nm j = true) : ∃ x, es[j]? = some (nm, x) := by
  unfold isAt at h
  split at h
  · rename_i x hx
    have : x.1 = nm := by simpa using h
    exact ⟨x.2, by rw [hx, ← this]⟩
  · cases h
theorem at_miss {es : List En} {nm : Txt} {j : Nat} (hA : At es nm j) (hS : Srt es) (h : isAt es nm j = false) : ∀ x ∈ es, x.1 ≠ nm := by
  intro x hx e
  obtain ⟨k, hk⟩ := List.getElem?_of_mem hx
  subst e
  obtain ⟨rfl, h'⟩ := at_there hS hk hA
  rw [h] at h'; cases h'
set_option maxRecDepth 100000 in
theorem renter_nodir (h : QO w O rb sb n N ns) (dir id : Int) (nm : Txt) (hd : dirAt ns dir = none) : Calls Tryz.prog 92 #[.pointer (some ⟨rb, 0, none⟩), .int .i64 dir, .string (B nm), .int .i64 id] w fun e w' => e = .returned (.int .i64 11) ∧ w = w' := by
  obtain ⟨vs, hT⟩ := h
  have hs := rDir_is hT dir
  rw [hd] at hs
  clear hT hd
  generalize B nm = s at *
  go_enter Tryz.func92, Tryz.ntmps92
  go_wp2_with (go_at_call 87; refine hs.mono ?_; rintro e w' ⟨rfl, rfl⟩)
  go_ret
  exact ⟨rfl, rfl⟩
set_option maxRecDepth 100000 in
set_option maxHeartbeats 4000000 in
theorem renter_is (h : QO w O rb sb n N ns) (i : Nat) (id : Int) (nm : Txt) (nd : Nd) (hi : ns i = some nd) (hd : nd.dir = true) (h8 : nd.es.length ≤ 8) (hS : Srt nd.es) (j : Nat) (hA : At nd.es nm j)
    (hlk : ∀ m, ndAt ns id = some m → 0 ≤ m.links ∧ m.links ≤ 100000) :
    Calls Tryz.prog 92 #[.pointer (some ⟨rb, 0, none⟩), .int .i64 i, .string (B nm), .int .i64 id] w (REntP w O rb sb n N ns i nd j nm id) := by
  have hdy := h.dirY hi hd
  have hnm := rname_is nm
  by_cases hn0 : nameE nm = 0
  · rw [hn0] at hnm
    have his := h.is id
    by_cases hid : id = 0 ∨ ndAt ns id = none
    · have hr : entR ns nd.es j nm id = 4 := by unfold entR; rw [if_neg (by simp [hn0]), if_pos hid]
      have HR : Hid (REntP w O rb sb n N ns i nd j nm id (.returned (.int .i64 4)) w) := Lib.hid ⟨by rw [hr], Or.inl ⟨by rw [hr]; decide, rfl⟩⟩
      clear hr hn0 hlk hA hS h8 hd hi h
      generalize B nm = s at *
      cases hx : ndAt ns id with
      | none =>
        rw [hx] at his
        clear hx hid
        go_enter Tryz.func92, Tryz.ntmps92
        go_wp2_with (first
          | (go_at_call 87; refine hdy.mono ?_; rintro e w' ⟨rfl, rfl⟩)
          | (go_at_call 118; refine (hnm _).mono ?_; rintro e w' ⟨rfl, rfl⟩)
          | (go_at_call 96; refine his.mono ?_; rintro e w' ⟨rfl, rfl⟩))
        go_ret
        exact HR.out
      | some nx =>
        have h0 : id = 0 := by
          rcases hid with h | h
          · exact h
          · rw [hx] at h; cases h
        rw [hx] at his
        clear hx hid
        subst h0
        go_enter Tryz.func92, Tryz.ntmps92
        go_wp2_with (first
          | (go_at_call 87; refine hdy.mono ?_; rintro e w' ⟨rfl, rfl⟩)
          | (go_at_call 118; refine (hnm _).mono ?_; rintro e w' ⟨rfl, rfl⟩)
          | (go_at_call 96; refine his.mono ?_; rintro e w' ⟨rfl, rfl⟩))
        go_ret
        exact HR.out
    · have hid0 : id ≠ 0 := fun e => hid (Or.inl e)
      obtain ⟨nk, hnk⟩ : ∃ nk, ndAt ns id = some nk := by
        cases hx : ndAt ns id with
        | none => exact absurd (Or.inr hx) hid
        | some nk => exact ⟨nk, rfl⟩
      rw [hnk] at his
      obtain ⟨k, rfl, hk⟩ := ndAt_some hnk
      have dk : ((k : Int) == 0) = false := by simp; omega
      have HO := Lib.hid h
      obtain ⟨vs, hT⟩ := h
      obtain ⟨h16, c0, c1, c2, c3, c4⟩ := hT.cells hi
      obtain ⟨⟨brow, hrow, -⟩, _⟩ := hT.row i nd hi
      obtain ⟨a, c, hv⟩ := hrow.slice
      rw [List.length_map] at hv
      rw [hv] at c4 hrow
      have i1 : (i : Int) < 16 := by omega
      have i2 : (0 : Int) ≤ i := by omega
      have nf := hT.tab.nf
      have hlk' := hlk nk hnk
      cases hia : isAt nd.es nm j with
      | true =>
        obtain ⟨x, hx⟩ := at_hit hia
        have hfi := rFind_hit HO.out hi hd hS hx
        have hr : entR ns nd.es j nm (k : Int) = 10 := by unfold entR; rw [if_neg (by simp [hn0]), if_neg hid, if_pos hia]
        have HR : Hid (REntP w O rb sb n N ns i nd j nm k (.returned (.int .i64 10)) w) := Lib.hid ⟨by rw [hr], Or.inl ⟨by rw [hr]; decide, rfl⟩⟩
        clear hr hn0 hlk hlk' hA hS h8 hd hi hT hid hid0 hk hnk hia hx hv hrow HO c0 c1 c2 c3 c4 nf
        generalize B nm = s at *
        go_enter Tryz.func92, Tryz.ntmps92
        go_wp2_with (first
          | (go_at_call 87; refine hdy.mono ?_; rintro e w' ⟨rfl, rfl⟩)
          | (go_at_call 118; refine (hnm _).mono ?_; rintro e w' ⟨rfl, rfl⟩)
          | (go_at_call 96; refine his.mono ?_; rintro e w' ⟨rfl, rfl⟩)
          | (go_at_call 94; (with_reducible refine hfi.mono ?_); rintro e w' ⟨rfl, rfl⟩))
        go_ret
        exact HR.out
      | false =>
        have hno := at_miss hA hS hia
        have hfi := rFind_miss HO.out hi hd hno
        by_cases hL8 : nd.es.length = 8
        · have hr : entR ns nd.es j nm (k : Int) = 15 := by unfold entR; rw [if_neg (by simp [hn0]), if_neg hid, if_neg (by rw [hia]; simp), if_pos hL8]
          have HR : Hid (REntP w O rb sb n N ns i nd j nm k (.returned (.int .i64 15)) w) := Lib.hid ⟨by rw [hr], Or.inl ⟨by rw [hr]; decide, rfl⟩⟩
          rw [hL8] at c4
          clear hr hn0 hlk hlk' hA hS h8 hd hi hT hid hid0 hk hnk hia hv hrow HO c0 c1 c2 c3 nf hL8 hno
          generalize B nm = s at *
          go_enter Tryz.func92, Tryz.ntmps92
          go_wp2_with (first
            | (go_at_call 87; refine hdy.mono ?_; rintro e w' ⟨rfl, rfl⟩)
            | (go_at_call 118; refine (hnm _).mono ?_; rintro e w' ⟨rfl, rfl⟩)
            | (go_at_call 96; refine his.mono ?_; rintro e w' ⟨rfl, rfl⟩)
            | (go_at_call 94; (with_reducible refine hfi.mono ?_); rintro e w' ⟨rfl, rfl⟩))
          go_ret
          exact HR.out
        · have hr : entR ns nd.es j nm (k : Int) = 0 := by unfold entR; rw [if_neg (by simp [hn0]), if_neg hid, if_neg (by rw [hia]; simp), if_neg hL8]
          have d8 : ((nd.es.length : Int) == 8) = false := by simp; omega
          have d8n : (nd.es.length == 8) = false := by simp; omega
          have H := Lib.hid (And.intro hT (And.intro (trivial : True) (And.intro (trivial : True) (And.intro (trivial : True) (And.intro hi (And.intro hd (And.intro h8 (And.intro hS (And.intro hA (And.intro hk (And.intro hn0 (And.intro hid (And.intro hid0 (And.intro hv (And.intro hr hno)))))))))))))))
          have HLK := Lib.hid hlk'
          have HL8 := Lib.hid hL8
          have HF0 : Hid (∀ wr, Below w.heap.size w wr → wr.cell? ⟨rb, 1 + i * 5 + 4, none⟩ = some (.slice a nd.es.length c)) := Lib.hid (fun wr hB => by
            obtain ⟨_, _, _, _, _, c4'⟩ := (hT.below hB).cells hi
            rw [hv] at c4'
            exact c4')
          have HF : Hid (∀ wr, Below w.heap.size w wr → ∀ q y, nd.es[q]? = some y → wr.cell? ⟨rb, 1 + i * 5 + 4, none⟩ = some (.slice a nd.es.length c) ∧ ∃ g, a = some ⟨g, 0, none⟩ ∧ wr.cell? ⟨g, q * 2, none⟩ = some (.string (B y.1)) ∧ wr.cell? ⟨g, q * 2 + 1, none⟩ = some (.int .i64 y.2)) := Lib.hid (fun wr hB q y hy => by
            refine ⟨HF0.out wr hB, ?_⟩
            have hr2 := (hrow.below hB).rd q (enV y) (by rw [List.getElem?_map, hy]; rfl)
            obtain ⟨g, hg, r1, r2⟩ := hr2
            exact ⟨g, hg, r1, r2⟩)
          clear hT hi hd h8 hS hA hk hn0 hid hid0 hlk hlk' hnk hv hrow hr hia hL8 HO hno
          generalize hLL : nd.es.length = L at *
          have HL := Lib.hid hLL
          clear hLL
          obtain ⟨s, hs0⟩ : ∃ s, B nm = s := ⟨_, rfl⟩
          rw [hs0] at hnm hfi ⊢
          have HS := Lib.hid hs0
          clear hs0
          go_enter Tryz.func92, Tryz.ntmps92
          go_wp2_with (first
            | (go_at_call 87; refine hdy.mono ?_; rintro e w' ⟨rfl, rfl⟩)
            | (go_at_call 118; refine (hnm _).mono ?_; rintro e w' ⟨rfl, rfl⟩)
            | (go_at_call 96; refine his.mono ?_; rintro e w' ⟨rfl, rfl⟩)
            | (go_at_call 94; (with_reducible refine hfi.mono ?_); rintro e w' ⟨rfl, rfl⟩))
          clear hfi his hnm hdy
          go_loopw [12, 13, 14] (fun v12 v13 v14 wr => ∃ q : Nat, q ≤ L ∧ v14 = .int .i64 q ∧ v13 = .bool (decide (j < q)) ∧ Hid (EQ w wr v12 (midE nd.es j (nm, (k : Int)) q))) (fun _ _ v14 _ => L - (intOf v14).toNat)
          case atStart => exact ⟨0, Nat.zero_le _, rfl, by simp, Lib.hid (by unfold midE; rw [if_pos (Nat.zero_le _)]; exact EQ.nil w)⟩
          case round =>
            obtain ⟨q, hq, rfl, rfl, HQ⟩ := hrel
            obtain ⟨a2, q2, rfl⟩ := HQ.out.slice
            generalize hML : (midE nd.es j (nm, (k : Int)) q).length = ML at *
            have HML := Lib.hid hML
            clear hML
            by_cases hql : q < L
            · have d1 : decide ((q : Int) < (L : Int)) = true := by simp; omega
              have d1n : decide (q < L) = true := by simp; omega
              have i3 : (q : Int) < (L : Int) := by omega
              have i4 : (0 : Int) ≤ q := by omega
              obtain ⟨y, hy⟩ : ∃ y, nd.es[q]? = some y := ⟨_, List.getElem?_eq_getElem (by rw [HL.out]; exact hql)⟩
              have hBw : Below w.heap.size w wr := by obtain ⟨_, _, _, h⟩ := HQ.out; exact h
              have hml : (midE nd.es j (nm, (k : Int)) q).length ≤ q + 1 := mid_len
              rw [HML.out] at hml
              obtain ⟨c4', g, rfl, r1, r2⟩ := HF.out wr hBw q y hy
              have HY := Lib.hid (And.intro hy hml)
              clear c0 c1 c2 c3 c4 nf hBw hml
              obtain ⟨sy, hsy⟩ : ∃ sy, B y.1 = sy := ⟨_, rfl⟩
              rw [hsy] at r1
              have hlt : Op.bytesLess sy.toList s.toList = nlt y.1 nm := by rw [← HS.out, ← hsy, B_list, B_list]; rfl
              have heq : (sy.toList == s.toList) = false := by
                rw [← HS.out, ← hsy, B_list, B_list, beq_dec]
                exact decide_eq_false (H.out.2.2.2.2.2.2.2.2.2.2.2.2.2.2.2 y (List.mem_of_getElem? hy))
              have HSY := Lib.hid hsy
              clear hsy
              rcases Nat.lt_trichotomy q j with hqj | hqj | hqj
              · have hno : nlt y.1 nm = true := H.out.2.2.2.2.2.2.2.2.1.2.1 q y hy hqj
                rw [hno] at hlt
                have dj : decide (j < q) = false := by simp; omega
                have dj1 : decide (j < q + 1) = false := by simp; omega
                clear hno hy
                rw [dj]
                go_wp2_with (at_builtin; refine wp_ent rfl _ _ rfl _ _ y sy HSY.out HQ.out (by have := HY.out.2; have := HML.out; omega) rfl rfl ?_; intro v2 w2 hq2; have HQ2 := Lib.hid hq2; clear hq2)
                go_roundw
                case rel => exact ⟨q + 1, by omega, by go_num, by rw [dj1], Lib.hid (by rw [← mid_lt hqj HY.out.1]; exact HQ2.out)⟩
                case measure => simp [intOf]; omega
              · subst hqj
                have hno : nlt y.1 nm = false := H.out.2.2.2.2.2.2.2.2.1.2.2 q y hy (Nat.le_refl _)
                rw [hno] at hlt
                have dj : decide (q < q) = false := by simp
                have dj1 : decide (q < q + 1) = true := by simp
                clear hno
                rw [dj]
                go_upto_region 21 with (at_builtin; refine wp_ent rfl _ _ rfl _ _ (nm, (k : Int)) s HS.out HQ.out (by have := HY.out.2; have := HML.out; omega) rfl rfl ?_; intro v2 w2 hq2; obtain ⟨a3, q3, hv3⟩ := hq2.slice; generalize (midE nd.es q (nm, (k : Int)) q ++ [(nm, (k : Int))]).length = ML2 at hv3; subst hv3; have HQ2 := Lib.hid hq2; clear hq2)
                have hBw : Below w.heap.size w w2 := by obtain ⟨_, _, _, h⟩ := HQ2.out; exact h
                obtain ⟨c4'', g', hg', r1', r2'⟩ := HF.out w2 hBw q y hy
                cases hg'
                rw [HSY.out] at r1'
                clear hBw hy r1 r2 c4'
                go_wp2_with (at_builtin; refine wp_ent rfl _ _ rfl _ _ y sy HSY.out HQ2.out (by rw [List.length_append, HML.out]; have := HY.out.2; simp; omega) rfl rfl ?_; intro v3 w3 hq3; have HQ3 := Lib.hid hq3; clear hq3)
                go_roundw
                case rel => exact ⟨q + 1, by omega, by go_num, by rw [dj1], Lib.hid (by rw [← mid_eq HY.out.1]; exact HQ3.out)⟩
                case measure => simp [intOf]; omega
              · have dj : decide (j < q) = true := by simp; omega
                have dj1 : decide (j < q + 1) = true := by simp; omega
                clear hlt heq hy
                rw [dj]
                go_wp2_with (at_builtin; refine wp_ent rfl _ _ rfl _ _ y sy HSY.out HQ.out (by have := HY.out.2; have := HML.out; omega) rfl rfl ?_; intro v2 w2 hq2; have HQ2 := Lib.hid hq2; clear hq2)
                go_roundw
                case rel => exact ⟨q + 1, by omega, by go_num, by rw [dj1], Lib.hid (by rw [← mid_gt hqj HY.out.1]; exact HQ2.out)⟩
                case measure => simp [intOf]; omega
            · have hqe : q = L := by omega
              subst hqe
              have d1 : decide ((q : Int) < (q : Int)) = false := by simp
              have d1n : decide (q < q) = false := by simp
              have hBw : Below w.heap.size w wr := by obtain ⟨_, _, _, h⟩ := HQ.out; exact h
              have c4' := HF0.out wr hBw
              clear c0 c1 c2 c3 c4 nf hBw
              have HJ : Hid (j ≤ q) := Lib.hid (by have := H.out.2.2.2.2.2.2.2.2.1.1; rw [HL.out] at this; exact this)
              by_cases hjq : j < q
              · have dj : decide (j < q) = true := by simpa using hjq
                rw [dj]
                go_upto_region 24 with (fail)
                have HE : Hid (EQ w wr (.slice a2 ML q2) (insE nd.es j (nm, (k : Int)))) := Lib.hid (by
                  have := HQ.out
                  rw [← HL.out, mid_in (by rw [HL.out]; exact hjq)] at this
                  exact this)
                have HT := Lib.hid (rent_tail H.out.1 H.out.2.2.2.2.1 H.out.2.2.2.2.2.2.2.2.2.1 nm (by rw [insE_len]; have := HL8.out; have := HL.out; omega) HE.out)
                have hk16 := HT.out.k16
                have nf1 := HT.out.nf
                have ck := HT.out.ck
                have i5 : (k : Int) < 16 := by omega
                have i6 : (0 : Int) ≤ k := by omega
                have l0 := HLK.out.1
                have l1 := HLK.out.2
                have mixed : Tryz.prog.follows .mixedOrders = true := by kernel_rfl
                have HX : Hid (entR ns nd.es j nm (k : Int) = 0) := Lib.hid H.out.2.2.2.2.2.2.2.2.2.2.2.2.2.2.1
                generalize hnl : nk.links = LK at *
                have HNL := Lib.hid hnl
                clear hnl
                go_upto_region 25 with (fail)
                go_region
                go_wp2
                go_ret
                exact ⟨by rw [HX.out]; rfl, Or.inr ⟨HX.out, by have := HT.out.fin; rw [HNL.out] at this; exact this⟩⟩
              · have dj : decide (j < q) = false := by simpa using hjq
                rw [dj]
                have HMB : Hid ((midE nd.es j (nm, (k : Int)) q).length ≤ q + 1) := Lib.hid mid_len
                go_upto_region 24 with (at_builtin; refine wp_ent rfl _ _ rfl _ _ (nm, (k : Int)) s HS.out HQ.out (by have := HMB.out; omega) rfl rfl ?_; intro v2 w2 hq2; obtain ⟨a3, q3, hv3⟩ := hq2.slice; generalize (midE nd.es j (nm, (k : Int)) q ++ [(nm, (k : Int))]).length = ML2 at hv3; subst hv3; have HQ2 := Lib.hid hq2; clear hq2)
                have HE : Hid (EQ w w2 (.slice a3 ML2 q3) (insE nd.es j (nm, (k : Int)))) := Lib.hid (by
                  have := HQ2.out
                  have hjq' : j = nd.es.length := by have := HJ.out; have := HL.out; omega
                  rw [← HL.out, hjq', mid_out] at this
                  rw [hjq']
                  exact this)
                have c4'' := HF0.out w2 (by obtain ⟨_, _, _, h⟩ := HE.out; exact h)
                clear c4'
                have HT := Lib.hid (rent_tail H.out.1 H.out.2.2.2.2.1 H.out.2.2.2.2.2.2.2.2.2.1 nm (by rw [insE_len]; have := HL8.out; have := HL.out; omega) HE.out)
                have hk16 := HT.out.k16
                have nf1 := HT.out.nf
                have ck := HT.out.ck
                have i5 : (k : Int) < 16 := by omega
                have i6 : (0 : Int) ≤ k := by omega
                have l0 := HLK.out.1
                have l1 := HLK.out.2
                have mixed : Tryz.prog.follows .mixedOrders = true := by kernel_rfl
                have HX : Hid (entR ns nd.es j nm (k : Int) = 0) := Lib.hid H.out.2.2.2.2.2.2.2.2.2.2.2.2.2.2.1
                generalize hnl : nk.links = LK at *
                have HNL := Lib.hid hnl
                clear hnl
                go_upto_region 25 with (fail)
                go_region
                go_wp2
                go_ret
                exact ⟨by rw [HX.out]; rfl, Or.inr ⟨HX.out, by have := HT.out.fin; rw [HNL.out] at this; exact this⟩⟩
  · have hr : entR ns nd.es j nm id = nameE nm := by unfold entR; rw [if_pos hn0]
    have HR : Hid (REntP w O rb sb n N ns i nd j nm id (.returned (.int .i64 (nameE nm))) w) := Lib.hid ⟨by rw [hr], Or.inl ⟨by rw [hr]; exact hn0, rfl⟩⟩
    have d1 : (nameE nm != 0) = true := by simp [hn0]
    clear hr hn0 hlk hA hS h8 hd hi h
    generalize nameE nm = N at *
    generalize B nm = s at *
    go_enter Tryz.func92, Tryz.ntmps92
    go_wp2_with (first
      | (go_at_call 87; refine hdy.mono ?_; rintro e w' ⟨rfl, rfl⟩)
      | (go_at_call 118; refine (hnm _).mono ?_; rintro e w' ⟨rfl, rfl⟩))
    go_ret
    exact HR.out
/-- entered, as the program's -/
theorem qenter_f (h : QO w O rb sb n N ns) (i : Nat) (id : Int) (nm : Txt) (nd : Nd) (hi : ns i = some nd) (hd : nd.dir = true) (h8 : nd.es.length ≤ 8) (hS : Srt nd.es) (hlk : ∀ m, ndAt ns id = some m → 0 ≤ m.links ∧ m.links ≤ 100000) (r : Int) (ns' : NSt) (hr : entF ns i nd nm id = (r, ns')) :
    Calls Tryz.prog 92 #[.pointer (some ⟨rb, 0, none⟩), .int .i64 i, .string (B nm), .int .i64 id] w fun e w' => e = .returned (.int .i64 r) ∧ QP w O rb sb n N ns' w' := by
  refine (renter_is h i id nm nd hi hd h8 hS (plc nd.es nm) (plc_at hS nm) hlk).mono ?_
  rintro e w' ⟨rfl, hq⟩
  unfold entF at hr
  rcases hq with ⟨hne, rfl⟩ | ⟨h0, hP⟩
  · rw [if_neg hne] at hr
    cases hr
    exact ⟨rfl, h.refl⟩
  · rw [if_pos h0] at hr
    cases hr
    exact ⟨by rw [h0], hP⟩
end
end Go.Proofs.YtchnjfmimpikcaaGreatDoor
