/-
  HeapScript: what the calls answer, plain; the contracts of both sides in these words.
-/
import Derived.Test.YtamgaklbkefejaaRefD
namespace Go.Proofs.Ytamgaklbkefejaa
set_option linter.unusedSimpArgs false
set_option linter.unusedVariables false
open Go.RowKit Go.Lib Own
open RegJ hiding Up
open RegF hiding put_size

open Classical in
noncomputable def insL (x : It) (ws : List It) : List It := if h : InOrder ws then ws.take (Classical.choose (place ws x h)) ++ x :: ws.drop (Classical.choose (place ws x h)) else ws ++ [x]
theorem insL_spec (x : It) (ws : List It) (h : InOrder ws) : ∃ C, C ≤ ws.length ∧ (∀ j, j < C → ¬ lt x (X ws j)) ∧ (∀ j, C ≤ j → j < ws.length → lt x (X ws j)) ∧ insL x ws = ws.take C ++ x :: ws.drop C := by
  have hs := Classical.choose_spec (place ws x h)
  refine ⟨_, hs.1, hs.2.1, hs.2.2, ?_⟩
  unfold insL
  rw [dif_pos h]
def dropL (ws : List It) (id : Int) : List It := ws.filter fun p => !(p.1 == id)
def pushR (ws : List It) (id : Int) : Int := if id < 0 then 2 else if hasB ws id = true then 5 else 0
noncomputable def pushL (ws : List It) (id k : Int) : List It := if id < 0 then ws else if hasB ws id = true then ws else insL (id, k) ws
noncomputable def moveL (ws : List It) (id k : Int) : List It := if hasB ws id = true then insL (id, k) (dropL ws id) else ws
structure WF (ws : List It) (n : Nat) : Prop where
  ord : InOrder ws
  nod : (ws.map (·.1)).Nodup
  len : ws.length ≤ n
  pos : ∀ p ∈ ws, 0 ≤ p.1
theorem WF.nil : WF [] 0 := ⟨List.Pairwise.nil, List.nodup_nil, Nat.le_refl _, fun _ h => by cases h⟩
theorem WF.le {ws : List It} {n m : Nat} (h : WF ws n) (hm : n ≤ m) : WF ws m := ⟨h.ord, h.nod, Nat.le_trans h.len hm, h.pos⟩
theorem hasB_no {ws : List It} {id : Int} (h : hasB ws id = false) : ∀ p ∈ ws, p.1 ≠ id := by
  intro p hp e
  unfold hasB at h
  rw [List.any_eq_false] at h
  exact h p hp (by simpa using e)
theorem dropL_has (ws : List It) (id : Int) : hasB (dropL ws id) id = false := by
  unfold hasB dropL
  rw [List.any_eq_false]
  intro p hp
  have := (List.mem_filter.1 hp).2
  simpa using this
theorem dropL_self {ws : List It} {id : Int} (h : hasB ws id = false) : dropL ws id = ws := by
  unfold dropL
  rw [List.filter_eq_self]
  intro p hp
  simpa using hasB_no h p hp
theorem insL_perm {ws : List It} (x : It) (h : InOrder ws) : (insL x ws).Perm (ws ++ [x]) := by
  obtain ⟨C, _, _, _, e⟩ := insL_spec x ws h
  rw [e]; exact ins_perm ws x C
theorem WF.ins {ws : List It} {n : Nat} (h : WF ws n) (id k : Int) (hid : 0 ≤ id) (hno : hasB ws id = false) : WF (insL (id, k) ws) (n + 1) := by
  have hp := insL_perm (id, k) h.ord
  refine ⟨?_, ?_, ?_, ?_⟩
  · obtain ⟨C, h1, h2, h3, e⟩ := insL_spec (id, k) ws h.ord
    rw [e]; exact ins_order h.ord h2 h3
  · rw [(hp.map _).nodup_iff, List.map_append, List.nodup_append]
    refine ⟨h.nod, by simp, fun a ha b hb => ?_⟩
    rw [List.mem_map] at ha
    obtain ⟨p, hpm, rfl⟩ := ha
    simp at hb
    subst hb
    exact hasB_no hno p hpm
  · rw [hp.length_eq]; simp; exact h.len
  · intro p hp'
    have := hp.mem_iff.1 hp'
    rw [List.mem_append, List.mem_singleton] at this
    rcases this with hm | rfl
    · exact h.pos p hm
    · exact hid
theorem WF.drop {ws : List It} {n : Nat} (h : WF ws n) (id : Int) : WF (dropL ws id) n :=
  ⟨h.ord.filter _, (List.filter_sublist.map _).nodup h.nod, Nat.le_trans (List.length_filter_le _ _) h.len, fun p hp => h.pos p (List.mem_filter.1 hp).1⟩
theorem WF.push {ws : List It} {n : Nat} (h : WF ws n) (id k : Int) : WF (pushL ws id k) (n + 1) := by
  unfold pushL
  by_cases h1 : id < 0
  · rw [if_pos h1]; exact h.le (by omega)
  · rw [if_neg h1]
    cases h2 : hasB ws id with
    | true => rw [if_pos rfl]; exact h.le (by omega)
    | false => rw [if_neg (by simp)]; exact h.ins id k (by omega) h2
theorem WF.has_pos {ws : List It} {n : Nat} (h : WF ws n) (id : Int) (h2 : hasB ws id = true) : 0 ≤ id := by
  unfold hasB at h2
  rw [List.any_eq_true] at h2
  obtain ⟨p, hp, he⟩ := h2
  have he : p.1 = id := by simpa using he
  rw [← he]; exact h.pos p hp
theorem WF.move {ws : List It} {n : Nat} (h : WF ws n) (id k : Int) : WF (moveL ws id k) (n + 1) := by
  unfold moveL
  cases h2 : hasB ws id with
  | true => rw [if_pos rfl]; exact (h.drop id).ins id k (h.has_pos id h2) (dropL_has _ _)
  | false => rw [if_neg (by simp)]; exact h.le (by omega)
theorem drop_perm {us ws : List It} {id k : Int} (hn : (ws.map (·.1)).Nodup) (h : (us ++ [(id, k)]).Perm ws) : us.Perm (dropL ws id) := by
  have hn2 : ((us ++ [(id, k)]).map (·.1)).Nodup := (h.map _).nodup_iff.2 hn
  rw [List.map_append, List.nodup_append] at hn2
  have hu : hasB us id = false := by
    rw [Bool.eq_false_iff]; intro hh
    unfold hasB at hh
    rw [List.any_eq_true] at hh
    obtain ⟨p, hp, he⟩ := hh
    have he : p.1 = id := by simpa using he
    exact hn2.2.2 p.1 (List.mem_map_of_mem hp) id (by simp) he
  have hf := h.filter (fun p => !(p.1 == id))
  rw [List.filter_append] at hf
  have e1 : us.filter (fun p => !(p.1 == id)) = us := dropL_self hu
  rw [e1] at hf
  simpa [dropL] using hf
theorem cut_perm' (ws : List It) (m : Nat) (h : m < ws.length) : (ws.take m ++ ws.drop (m + 1) ++ [X ws m]).Perm ws := by
  have e : ws = ws.take m ++ X ws m :: ws.drop (m + 1) := by
    rw [← X_get ws m h, List.getElem_cons_drop, List.take_append_drop]
  have h1 : (ws.take m ++ X ws m :: ws.drop (m + 1)).Perm (X ws m :: (ws.take m ++ ws.drop (m + 1))) := List.perm_middle
  rw [← e] at h1
  exact (List.perm_append_singleton _ _).trans h1.symm
theorem cut_eq {ws : List It} {n m : Nat} (h : WF ws n) (hm : m < ws.length) {id : Int} (hid : (X ws m).1 = id) : ws.take m ++ ws.drop (m + 1) = dropL ws id := by
  refine order_eq ?_ (h.drop id).ord (drop_perm (k := (X ws m).2) h.nod (by have := cut_perm' ws m hm; rw [← hid]; exact this))
  have hs : (ws.take m ++ ws.drop (m + 1)).Sublist ws := by
    have e : ws = ws.take m ++ ws.drop m := (List.take_append_drop _ _).symm
    have h2 : (ws.take m ++ ws.drop (m + 1)).Sublist (ws.take m ++ ws.drop m) := List.Sublist.append (List.Sublist.refl _) (List.drop_sublist_drop_left _ (by omega))
    rw [← e] at h2; exact h2
  exact h.ord.sublist hs
theorem first_eq {zs ws : List It} {n : Nat} (h : WF ws n) (hp : zs.Perm ws) (ho : HeapOk zs zs.length) : X zs 0 = X ws 0 := by
  by_cases he : ws = []
  · subst he; rw [List.perm_nil.1 hp]
  · have hz : zs ≠ [] := fun e => by subst e; exact he (List.nil_perm.1 hp)
    have h1 := first_le ho (X ws 0) (hp.mem_iff.2 (X0_mem he))
    have h2 : le (X ws 0) (X zs 0) := by
      have hm := hp.mem_iff.1 (X0_mem hz)
      cases ws with
      | nil => exact absurd rfl he
      | cons a r =>
        rw [List.mem_cons] at hm
        rcases hm with hm | hm
        · rw [hm]; unfold le lt X; simp
        · exact (List.pairwise_cons.1 h.ord).1 _ hm
    exact le_anti h1 h2

/-! ### the document's side -/
def RhP (v : Value) (br : Nat) (c : Option Nat) (w : World) (ys : List It) (e : Ending) (w' : World) : Prop := e = .returned v ∧ ∃ c', Rh w' br ys c' ∧ HFr br c c' w w'
theorem RhP.same {v : Value} {br : Nat} {c : Option Nat} {w w' : World} {ys : List It} (h : Rh w br ys c) (hB : Below w.heap.size w w') : RhP v br c w ys (.returned v) w' := ⟨rfl, c, h.below hB, HFr.of_below hB⟩
section
variable {w : World} {br : Nat} {ws : List It} {c : Option Nat}
theorem rd_push (h : Rh w br ws c) {n : Nat} (hW : WF ws n) (hn : n ≤ 900) (id k : Int) :
    Calls Try.prog 13 #[.pointer (some ⟨br, 0, none⟩), .int .i64 id, .int .i64 k] w (RhP (.int .i64 (pushR ws id)) br c w (pushL ws id k)) := by
  unfold pushR pushL
  by_cases h1 : id < 0
  · rw [if_pos h1, if_pos h1]
    refine (rpush_arg br id k h1).mono ?_
    rintro e w' ⟨rfl, rfl⟩
    exact RhP.same h (Below.refl _ _)
  · rw [if_neg h1, if_neg h1]
    cases h2 : hasB ws id with
    | true =>
      rw [if_pos rfl, if_pos rfl]
      refine (rpush_busy h id k (by omega) h2).mono ?_
      rintro e w' ⟨rfl, rfl⟩
      exact RhP.same h (Below.refl _ _)
    | false =>
      rw [if_neg (by simp), if_neg (by simp)]
      obtain ⟨C, k1, k2, k3, e⟩ := insL_spec (id, k) ws hW.ord
      rw [e]
      have := hW.len
      exact rpush_ok h (by omega) id k (by omega) h2 C k1 k2 k3
theorem rd_drop (h : Rh w br ws c) {n : Nat} (hW : WF ws n) (id : Int) (r : Bool) (hr : hasB ws id = r) :
    Calls Try.prog 15 #[.pointer (some ⟨br, 0, none⟩), .int .i64 id] w (RhP (.bool r) br c w (dropL ws id)) := by
  subst hr
  cases h2 : hasB ws id with
  | true =>
    refine (rdrop_yes h id h2).mono ?_
    rintro e w' ⟨m, hm, hx, rfl, hd⟩
    rw [cut_eq hW hm hx] at hd
    exact ⟨rfl, hd⟩
  | false =>
    refine (rdrop_no h id h2).mono ?_
    rintro e w' ⟨rfl, rfl⟩
    rw [dropL_self h2]
    exact RhP.same h (Below.refl _ _)
set_option maxRecDepth 100000 in
theorem rd_move (h : Rh w br ws c) {n : Nat} (hW : WF ws n) (hn : n ≤ 900) (id k : Int) :
    Calls Try.prog 18 #[.pointer (some ⟨br, 0, none⟩), .int .i64 id, .int .i64 k] w (RhP (.bool (hasB ws id)) br c w (moveL ws id k)) := by
  unfold moveL
  have hd := rd_drop h hW id
  cases h2 : hasB ws id with
  | false =>
    rw [if_neg (by simp)]
    have hd := hd false h2
    rw [dropL_self h2] at hd
    clear h h2
    go_enter Try.func18, Try.ntmps18
    go_wp2_with (go_at_call 15; refine hd.mono ?_; rintro e w' ⟨rfl, hX⟩)
    go_ret
    exact ⟨rfl, hX⟩
  | true =>
    rw [if_pos rfl]
    have hd := hd true h2
    have hid := hW.has_pos id h2
    have hW' := hW.drop id
    have e1 : pushR (dropL ws id) id = 0 := by unfold pushR; rw [if_neg (by omega), dropL_has]; simp
    have e2 : pushL (dropL ws id) id k = insL (id, k) (dropL ws id) := by unfold pushL; rw [if_neg (by omega), dropL_has]; simp
    clear h h2
    go_enter Try.func18, Try.ntmps18
    go_wp2_with (first
      | (go_at_call 15; refine hd.mono ?_; rintro e w1 ⟨rfl, c1, hR1, hf1⟩; have hp := rd_push hR1 hW' hn id k; rw [e1, e2] at hp)
      | (go_at_call 13; (with_reducible refine hp.mono ?_); rintro e w2 ⟨rfl, c2, hR2, hf2⟩))
    go_ret
    exact ⟨rfl, c2, hR2, hf1.trans hf2⟩
theorem rd_min (h : Rh w br ws c) (p q : Int) (hX : X ws 0 = (p, q)) (r : Bool) (hr : (!ws.isEmpty) = r) :
    Calls Try.prog 14 #[.pointer (some ⟨br, 0, none⟩)] w (RhP (IV p q r) br c w ws) := by
  subst hr
  cases ws with
  | nil =>
    refine (rmin_none h).mono ?_
    rintro e w' ⟨rfl, hB⟩
    have : p = 0 ∧ q = 0 := by unfold X at hX; simp at hX; omega
    obtain ⟨rfl, rfl⟩ := this
    exact RhP.same h hB
  | cons a l =>
    refine (rmin_some h (by simp) p q hX).mono ?_
    rintro e w' ⟨rfl, hB⟩
    exact RhP.same h hB
end

/-! ### the program's side -/
theorem HpP.same {v : Value} {bh : Nat} {b : Option Nat} {w w' : World} {zs ws : List It} (h : Hp w bh zs b) (hp : zs.Perm ws) (hB : Below w.heap.size w w') : HpP v bh b w ws (.returned v) w' := ⟨rfl, zs, b, hp, ⟨h.1.below hB, h.2⟩, HFr.of_below hB⟩
section
variable {w : World} {bh : Nat} {zs ws : List It} {b : Option Nat}
set_option maxRecDepth 100000 in
theorem push_arg (bh : Nat) (id k : Int) (hid : id < 0) : Calls Try.prog 9 #[.pointer (some ⟨bh, 0, none⟩), .int .i64 id, .int .i64 k] w fun e w' => e = .returned (.int .i64 2) ∧ w = w' := by
  go_enter Try.func9, Try.ntmps9
  go_wp2
  go_ret
  exact ⟨rfl, rfl⟩
theorem hd_push (h : Hp w bh zs b) (hp : zs.Perm ws) {n : Nat} (hW : WF ws n) (hn : n ≤ 900) (id k : Int) :
    Calls Try.prog 9 #[.pointer (some ⟨bh, 0, none⟩), .int .i64 id, .int .i64 k] w (HpP (.int .i64 (pushR ws id)) bh b w (pushL ws id k)) := by
  unfold pushR pushL
  have hl := hp.length_eq
  have := hW.len
  by_cases h1 : id < 0
  · rw [if_pos h1, if_pos h1]
    refine (push_arg bh id k h1).mono ?_
    rintro e w' ⟨rfl, rfl⟩
    exact HpP.same h hp (Below.refl _ _)
  · rw [if_neg h1, if_neg h1]
    cases h2 : hasB ws id with
    | true =>
      rw [if_pos rfl, if_pos rfl]
      refine (push_busy h id k (by omega) (by rw [hasB_perm hp]; exact h2)).mono ?_
      rintro e w' ⟨rfl, hB⟩
      exact HpP.same h hp hB
    | false =>
      rw [if_neg (by simp), if_neg (by simp)]
      refine (push_ok h (by omega) id k (by omega) (by rw [hasB_perm hp]; exact h2)).mono ?_
      rintro e w' ⟨rfl, ys, b', hy, hh, hf⟩
      exact ⟨rfl, ys, b', (hy.trans (hp.append_right _)).trans (insL_perm (id, k) hW.ord).symm, hh, hf⟩
theorem hd_drop (h : Hp w bh zs b) (hp : zs.Perm ws) {n : Nat} (hW : WF ws n) (id : Int) :
    Calls Try.prog 16 #[.pointer (some ⟨bh, 0, none⟩), .int .i64 id] w (HpP (.bool (hasB ws id)) bh b w (dropL ws id)) := by
  cases h2 : hasB ws id with
  | true =>
    refine (drop_yes h id (by rw [hasB_perm hp]; exact h2)).mono ?_
    rintro e w' ⟨rfl, us, k, hu, hh, hf⟩
    exact ⟨rfl, us, b, drop_perm hW.nod (hu.trans hp), hh, hf⟩
  | false =>
    refine (drop_no h.1 id (by rw [hasB_perm hp]; exact h2)).mono ?_
    rintro e w' ⟨rfl, hB⟩
    rw [dropL_self h2]
    exact HpP.same h hp hB
theorem hd_move (h : Hp w bh zs b) (hp : zs.Perm ws) {n : Nat} (hW : WF ws n) (id k : Int) :
    Calls Try.prog 17 #[.pointer (some ⟨bh, 0, none⟩), .int .i64 id, .int .i64 k] w (HpP (.bool (hasB ws id)) bh b w (moveL ws id k)) := by
  unfold moveL
  cases h2 : hasB ws id with
  | true =>
    rw [if_pos rfl]
    refine (move_yes h id k (by rw [hasB_perm hp]; exact h2)).mono ?_
    rintro e w' ⟨rfl, us, k0, vs, hu, hv, hh, hf⟩
    exact ⟨rfl, vs, b, (hv.trans ((drop_perm hW.nod (hu.trans hp)).append_right _)).trans (insL_perm (id, k) (hW.drop id).ord).symm, hh, hf⟩
  | false =>
    rw [if_neg (by simp)]
    refine (move_no h.1 id k (by rw [hasB_perm hp]; exact h2)).mono ?_
    rintro e w' ⟨rfl, hB⟩
    exact HpP.same h hp hB
theorem hd_min (h : Hp w bh zs b) (hp : zs.Perm ws) {n : Nat} (hW : WF ws n) (p q : Int) (hX : X ws 0 = (p, q)) (r : Bool) (hr : (!ws.isEmpty) = r) :
    Calls Try.prog 19 #[.pointer (some ⟨bh, 0, none⟩)] w (HpP (IV p q r) bh b w ws) := by
  subst hr
  cases ws with
  | nil =>
    have hz := List.perm_nil.1 hp
    subst hz
    refine (min_none h.1).mono ?_
    rintro e w' ⟨rfl, hB⟩
    have : p = 0 ∧ q = 0 := by unfold X at hX; simp at hX; omega
    obtain ⟨rfl, rfl⟩ := this
    exact HpP.same h hp hB
  | cons a l =>
    have hz : zs ≠ [] := fun e => by subst e; exact absurd (List.nil_perm.1 hp) (by simp)
    refine (min_some h.1 hz p q (by rw [first_eq hW hp h.2]; exact hX)).mono ?_
    rintro e w' ⟨rfl, hB⟩
    exact HpP.same h hp hB
theorem hd_pop (h : Hp w bh zs b) (hp : zs.Perm ws) {n : Nat} (hW : WF ws n) (p q : Int) (hX : X ws 0 = (p, q)) (r : Bool) (hr : (!ws.isEmpty) = r) :
    Calls Try.prog 10 #[.pointer (some ⟨bh, 0, none⟩)] w (HpP (IV p q r) bh b w (dropL ws p)) := by
  subst hr
  cases ws with
  | nil =>
    have hz := List.perm_nil.1 hp
    subst hz
    refine (pop_none h.1).mono ?_
    rintro e w' ⟨rfl, hB⟩
    have : p = 0 ∧ q = 0 := by unfold X at hX; simp at hX; omega
    obtain ⟨rfl, rfl⟩ := this
    exact HpP.same h hp hB
  | cons a l =>
    have hz : zs ≠ [] := fun e => by subst e; exact absurd (List.nil_perm.1 hp) (by simp)
    refine (pop_some h hz p q (by rw [first_eq hW hp h.2]; exact hX)).mono ?_
    rintro e w' ⟨rfl, us, hu, hh, hf⟩
    exact ⟨rfl, us, b, drop_perm hW.nod (hu.trans hp), hh, hf⟩
theorem hd_has (h : Hp w bh zs b) (hp : zs.Perm ws) (id : Int) :
    Calls Try.prog 21 #[.pointer (some ⟨bh, 0, none⟩), .int .i64 id] w (HpP (.bool (hasB ws id)) bh b w ws) := by
  refine (has_is h.1 id _ (hasB_perm hp id)).mono ?_
  rintro e w' ⟨rfl, hB⟩
  exact HpP.same h hp hB
theorem hd_len (h : Hp w bh zs b) (hp : zs.Perm ws) :
    Calls Try.prog 11 #[.pointer (some ⟨bh, 0, none⟩)] w (HpP (.int .i64 ws.length) bh b w ws) := by
  refine (len_is h.1 _ hp.length_eq).mono ?_
  rintro e w' ⟨rfl, rfl⟩
  exact HpP.same h hp (Below.refl _ _)
end
end Go.Proofs.Ytamgaklbkefejaa
