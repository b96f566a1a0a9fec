/-
  Paths: the document's Split.
-/
import Derived.Test.YtjpjafajploiaaaGreatDoorPSplit
import Derived.Laws.AppendOwn
import Derived.ArgAppend
import Derived.OwnWalk
namespace Go.Proofs.YtjpjafajploiaaaGreatDoor
set_option linter.unusedSimpArgs false
set_option linter.unusedVariables false
open Go.RowKit Own RegJ
open Go.Lib hiding intOf

theorem infoText : (Tryz.prog.info? 9).map (fun i => (i.zero, i.size, i.bytes)) = some (some (.string ByteArray.empty), 1, 16) := by kernel_rfl
theorem Txts.of_own {w : World} {base : Nat} {v : Value} {xs : List Txt} {n : Nat} (hn : xs.length = n) (h : w.ownsRow base 9 1 v n (tcells xs)) : ∃ b, Txts w v xs b ∧ ∀ g, b = some g → base ≤ g := by
  obtain ⟨hl, h⟩ := h
  rcases h with ⟨hv, h0⟩ | ⟨g, cap, cur, hv, hg, hh, hnc, hm, hs, ht⟩
  · refine ⟨none, Or.inl ⟨hv, ?_, rfl⟩, fun g hg => by cases hg⟩
    apply List.eq_nil_of_length_eq_zero; omega
  · refine ⟨some g, Or.inr ⟨g, cap, cur.toList.drop n, by rw [hn]; exact hv, rfl, ?_, ?_, hm⟩, fun g' hg' => by cases hg'; exact hg⟩
    · show w.heap[g]? = _
      rw [hh]
      have e : tcells xs ++ cur.toList.drop n = cur.toList := by rw [Nat.mul_one] at ht; rw [← ht]; exact List.take_append_drop _ _
      rw [e]
    · have hcs : cur.toList.length = cap := by simpa using hs
      rw [List.length_append, List.length_drop, hcs]; simp; omega
theorem Txts.own {w : World} {v : Value} {xs : List Txt} {b : Option Nat} (h : Txts w v xs b) : w.ownsRow 0 9 1 v xs.length (tcells xs) := by
  refine ⟨by simp, ?_⟩
  rcases h with ⟨hv, h0, _⟩ | ⟨g, cap, rest, hv, hg, hB, hc, hm⟩
  · exact Or.inl ⟨hv, by rw [h0]; rfl⟩
  · refine Or.inr ⟨g, cap, _, hv, Nat.zero_le _, hB, by rw [hc]; simp, hm, by rw [hc]; simp, by simp⟩
/-- one more text behind a row of the call's own -/
theorem wp_appT {ops : Array Oper} {rest : List Oper} {o : Oper} {a : Act} {Q : Exit → Act → World → Prop} {w : World} (hgd : o.guard = none) (s x : Operand)
    (ho : o.op = .call { callee := .builtin .append, args := #[s, x], argTypes := #[212, 212] }) (v : Value) (xs : List Txt) (bb : Option Nat) (hs : a.eval s = v) (hI : Txts w v xs bb)
    (b : Nat) (y : Txt) (hx : a.eval x = .slice (some ⟨b, 0, none⟩) 1 1) (hB : w.cell? ⟨b, 0, none⟩ = some (.string (B y))) (hlen : xs.length ≤ 200000)
    (h : ∀ v' w' b', Txts w' v' (xs ++ [y]) b' → (∀ g, b' = some g → bb = some g ∨ w.heap.size ≤ g) → Upd (fun k => bb = some k) w w' → wpList Tryz.prog ops Q rest (a.put o.dst v') w') : wpList Tryz.prog ops Q (o :: rest) a w := by
  obtain ⟨i0, hi, hz0, hz1, hz2⟩ := info_parts infoText
  have hnews : ∀ (j : Nat) (u : Value), ([.string (B y)] : List Value)[j]? = some u → w.cell? (Addr.add ⟨b, 0, none⟩ j) = some u := by
    intro j u hj
    match j, hj with
    | 0, hj => simp at hj; subst hj; simpa [Addr.add] using hB
  have hone : ∀ u ∈ ([.string (B y)] : List Value), u.oneCell' = true := by
    intro u hu; simp at hu; subst hu; rfl
  have hpy : tcells xs ++ [.string (B y)] = tcells (xs ++ [y]) := by simp
  have hp : (tcells xs).length = xs.length * 1 := by simp
  have hown := hI.own
  rcases hI with ⟨rfl, rfl, rfl⟩ | ⟨g, cap, rst, rfl, rfl, hBg, hc, hm⟩
  · refine wpList_append_grows w hgd s x 212 ho 9 i0 _ 1 16 Tryz.underlying212 hi hz0 hz1 hz2 rfl (by decide) none 0 0 [] hs (fun _ => ⟨rfl, rfl⟩) rfl (fun b hb => by cases hb) ⟨b, 0, none⟩ 1 1 _ hx rfl hnews hone (by omega) (by unfold maxLen; omega) (by omega) ?_
    intro v' w' h1 h2
    obtain ⟨b', hI', hb'⟩ := Txts.of_own (xs := [y]) rfl h1
    exact h v' w' b' hI' (fun g hg => Or.inr (hb' g hg)) (Upd.grown h2 (fun k hk => by cases hk))
  · by_cases hf : xs.length + 1 ≤ cap
    · refine wpList_append_fits w hgd s x 212 ho 0 9 i0 1 Tryz.underlying212 hi hz1 g xs.length cap (tcells xs) hs hown ⟨b, 0, none⟩ 1 1 _ hx rfl hnews hone hf ?_
      intro w' h1 h2
      rw [hpy] at h1
      obtain ⟨b', hI', hb'⟩ := Txts.of_own (xs := xs ++ [y]) (by simp) h1
      have hB' : b' = some g := by
        rcases hI' with ⟨hv, _⟩ | ⟨g', _, _, hv, rfl, _⟩
        · cases hv
        · simp only [Value.slice.injEq, Option.some.injEq, Addr.mk.injEq] at hv
          rw [hv.1.1]
      exact h _ w' b' hI' (fun g' hg' => Or.inl (by rw [← hg', hB'])) (Upd.grown h2 (fun k hk => by cases hk; rfl))
    · refine wpList_append_grows w hgd s x 212 ho 9 i0 _ 1 16 Tryz.underlying212 hi hz0 hz1 hz2 rfl (by decide) (some ⟨g, 0, none⟩) xs.length cap (tcells xs) hs (fun h => by cases h) hp ?_ ⟨b, 0, none⟩ 1 1 _ hx rfl hnews hone (by omega) (by unfold maxLen; omega) (by omega) ?_
      · intro b' hb' j u hj
        cases hb'
        have hjl : j < (tcells xs).length := (List.getElem?_eq_some_iff.1 hj).1
        have : (⟨g, 0, none⟩ : Addr).add j = ⟨g, j, none⟩ := by
          unfold Addr.add; by_cases h0 : j = 0
          · subst h0; rfl
          · rw [if_neg h0]; simp
        rw [this, hBg.rd]
        simp only [List.getElem?_toArray]
        rw [List.getElem?_append_left hjl]; exact hj
      · intro v' w' h1 h2
        rw [hpy] at h1
        obtain ⟨b', hI', hb'⟩ := Txts.of_own (xs := xs ++ [y]) (by simp) h1
        exact h v' w' b' hI' (fun g' hg' => Or.inr (hb' g' hg')) (Upd.grown h2 (fun k hk => by cases hk))
theorem wpList_wanted {ops : Array Oper} {rest : List Oper} {o : Oper} {a : Act} {Q : Exit → Act → World → Prop} {w : World} (h : Region.wanted o (yielded ops a.tmps) = true) (k : wpList Tryz.prog ops Q ({ o with guard := none } :: rest) a w) : wpList Tryz.prog ops Q (o :: rest) a w := by
  unfold wpList at k ⊢
  rw [if_pos h]
  have e : Region.wanted { o with guard := none } (yielded ops a.tmps) = true := rfl
  rw [if_pos e] at k
  exact k
/-- the same, at an operation with a guard that says yes -/
theorem wp_appTg {ops : Array Oper} {rest : List Oper} {o : Oper} {a : Act} {Q : Exit → Act → World → Prop} {w : World} {s x : Operand}
    (ho : o.op = .call { callee := .builtin .append, args := #[s, x], argTypes := #[212, 212] }) (hgd : Region.wanted o (yielded ops a.tmps) = true) (v : Value) (xs : List Txt) (bb : Option Nat) (hs : a.eval s = v) (hI : Txts w v xs bb)
    (b : Nat) (y : Txt) (hx : a.eval x = .slice (some ⟨b, 0, none⟩) 1 1) (hB : w.cell? ⟨b, 0, none⟩ = some (.string (B y))) (hlen : xs.length ≤ 200000)
    (h : ∀ v' w' b', Txts w' v' (xs ++ [y]) b' → (∀ g, b' = some g → bb = some g ∨ w.heap.size ≤ g) → Upd (fun k => bb = some k) w w' → wpList Tryz.prog ops Q rest (a.put o.dst v') w') : wpList Tryz.prog ops Q (o :: rest) a w :=
  wpList_wanted hgd (wp_appT rfl s x ho v xs bb hs hI b y hx hB hlen h)

/-! ### plain: the loop -/
def pc (l : Txt) (at' i : Nat) : Txt := (l.drop at').take (i - at')
theorem ext_pc (l : Txt) (a b : Nat) : (B l).extract a b = B (pc l a b) := by
  apply ByteArray.ext
  apply Array.ext'
  exact extract_data (B l) a b
def Mid (l : Txt) (done : List Txt) (at' i : Nat) : Prop := sp (l.drop 1) = done ++ sp (l.drop at') ∧ firstE done = 0 ∧ 47 ∉ pc l at' i
def Cut (l : Txt) (done : List Txt) (p : Txt) : Prop := (∃ rest, sp (l.drop 1) = done ++ p :: rest) ∧ firstE done = 0
theorem firstE_app (xs ys : List Txt) (h : firstE xs = 0) : firstE (xs ++ ys) = firstE ys := by
  induction xs with
  | nil => rfl
  | cons x r ih =>
    unfold firstE at h
    by_cases hx : nameE x = 0
    · rw [if_pos hx] at h
      rw [List.cons_append, firstE, if_pos hx]; exact ih h
    · rw [if_neg hx] at h; exact absurd h hx
theorem Cut.bad {l : Txt} {done : List Txt} {p : Txt} (h : Cut l done p) (hp : nameE p ≠ 0) : everyE (sp (l.drop 1)) = nameE p := by
  obtain ⟨⟨rest, hr⟩, h0⟩ := h
  have : firstE (sp (l.drop 1)) = nameE p := by rw [hr, firstE_app _ _ h0, firstE, if_neg hp]
  unfold everyE; rw [this, if_neg hp]
theorem firstE_snoc {done : List Txt} {p : Txt} (h : firstE done = 0) (hp : nameE p = 0) : firstE (done ++ [p]) = 0 := by
  rw [firstE_app _ _ h, firstE, if_pos hp]; rfl
theorem Mid.start (l : Txt) : Mid l [] 1 1 := ⟨rfl, rfl, by unfold pc; simp⟩
theorem Mid.step {l : Txt} {done : List Txt} {at' i : Nat} {c : UInt8} (h : Mid l done at' i) (hi : at' ≤ i) (hc : l[i]? = some c) (h47 : c ≠ 47) : Mid l done at' (i + 1) := by
  refine ⟨h.1, h.2.1, fun hm => ?_⟩
  have hil : i < l.length := (List.getElem?_eq_some_iff.1 hc).1
  have e : pc l at' (i + 1) = pc l at' i ++ [c] := by
    unfold pc
    rw [show i + 1 - at' = (i - at') + 1 by omega, List.take_succ_eq_append_getElem (by rw [List.length_drop]; omega)]
    congr 1
    rw [List.getElem_drop]
    rw [List.getElem?_eq_getElem hil] at hc
    have := Option.some.inj hc
    simp only [show at' + (i - at') = i by omega]
    rw [this]
  rw [e, List.mem_append, List.mem_singleton] at hm
  rcases hm with hm | hm
  · exact h.2.2 hm
  · exact h47 hm.symm
theorem Mid.cut {l : Txt} {done : List Txt} {at' i : Nat} (h : Mid l done at' i) (hi : at' ≤ i) (hc : l[i]? = some 47) : sp (l.drop 1) = done ++ pc l at' i :: sp (l.drop (i + 1)) := by
  have hil : i < l.length := (List.getElem?_eq_some_iff.1 hc).1
  rw [h.1]
  congr 1
  have e : l.drop at' = pc l at' i ++ 47 :: l.drop (i + 1) := by
    unfold pc
    conv => lhs; rw [← List.take_append_drop (i - at') (l.drop at')]
    congr 1
    rw [List.drop_drop, show at' + (i - at') = i by omega, List.drop_eq_getElem_cons hil]
    rw [List.getElem?_eq_getElem hil] at hc
    rw [Option.some.inj hc]
  conv => lhs; rw [e]
  exact sp_app _ _ h.2.2
theorem Mid.last {l : Txt} {done : List Txt} {at' i : Nat} (h : Mid l done at' i) (hi : i = l.length) : sp (l.drop 1) = done ++ [pc l at' i] := by
  rw [h.1]
  congr 1
  have e : l.drop at' = pc l at' i := by unfold pc; rw [hi, List.take_of_length_le (by rw [List.length_drop]; omega)]
  rw [e]
  exact sp_no _ h.2.2
def Sst (l : Txt) (done : List Txt) (at' i : Nat) : Prop := at' ≤ i ∧ ((i ≤ l.length ∧ Mid l done at' i) ∨ (i = l.length + 1 ∧ sp (l.drop 1) = done ∧ firstE done = 0))
theorem Sst.mid {l : Txt} {done : List Txt} {at' i : Nat} (h : Sst l done at' i) (hi : i ≤ l.length) : Mid l done at' i := by
  rcases h.2 with h | h
  · exact h.2
  · omega
theorem Sst.le {l : Txt} {done : List Txt} {at' i : Nat} (h : Sst l done at' i) : i ≤ l.length + 1 := by
  rcases h.2 with h | h
  · omega
  · omega
theorem Sst.len {l : Txt} {done : List Txt} {at' i : Nat} (h : Sst l done at' i) : done.length ≤ l.length + 1 := by
  have := sp_len (l.drop 1)
  rw [List.length_drop] at this
  rcases h.2 with ⟨_, h⟩ | ⟨_, h, _⟩
  · rw [h.1, List.length_append] at this; omega
  · rw [h] at this; omega
/-- a piece ends at i -/
def Ends (l : Txt) (i : Nat) : Prop := i = l.length ∨ l[i]? = some 47
theorem Sst.piece {l : Txt} {done : List Txt} {at' i : Nat} (h : Sst l done at' i) (hi : i ≤ l.length) (he : Ends l i) : Cut l done (pc l at' i) ∧ (nameE (pc l at' i) = 0 → Sst l (done ++ [pc l at' i]) (i + 1) (i + 1)) := by
  have hm := h.mid hi
  rcases he with he | he
  · have hl := hm.last he
    exact ⟨⟨⟨[], hl⟩, hm.2.1⟩, fun h0 => ⟨Nat.le_refl _, Or.inr ⟨by omega, hl, firstE_snoc hm.2.1 h0⟩⟩⟩
  · have hl := hm.cut h.1 he
    have hil : i < l.length := (List.getElem?_eq_some_iff.1 he).1
    refine ⟨⟨⟨_, hl⟩, hm.2.1⟩, fun h0 => ⟨Nat.le_refl _, Or.inl ⟨by omega, ?_, firstE_snoc hm.2.1 h0, by unfold pc; simp⟩⟩⟩
    rw [hl, List.append_assoc]; rfl
theorem Txts.step {w wr w1 : World} {v v' : Value} {xs ys : List Txt} {b b' : Option Nat} {o : Obj} (hT : Txts wr v xs b) (hB : (∀ g, b = some g → w.heap.size ≤ g) ∧ Below w.heap.size w wr) (h1 : Txts w1 v' ys b') (h2 : ∀ g, b' = some g → b = some g ∨ (wr.alloc o).heap.size ≤ g) (h3 : Upd (fun k => b = some k) (wr.alloc o) w1) : Txts w1 v' ys b' ∧ ((∀ g, b' = some g → w.heap.size ≤ g) ∧ Below w.heap.size w w1) := by
  have hs := hB.2.size
  have hsa : (wr.alloc o).heap.size = wr.heap.size + 1 := by simp
  refine ⟨h1, fun g hg => ?_, ?_⟩
  · rcases h2 g hg with h | h
    · exact hB.1 g h
    · omega
  · exact (hB.2.alloc hs o).trans (h3.below (by omega) (fun k hk => hB.1 k hk))
set_option maxRecDepth 100000 in
set_option maxHeartbeats 1000000 in
theorem rsplit_is (l : Txt) (w : World) (hl : l.length ≤ 100000) :
    Calls Tryz.prog 210 #[.string (B l)] w (SplitP l w) := by
  have e0 : (B l).toList.isEmpty = decide (l = []) := by rw [B_list]; cases l <;> rfl
  have e1 : ((B l).toList == [47]) = decide (l = [47]) := by rw [B_list, beq_dec]
  by_cases h0 : l = []
  · have hE : splitE l = 9 := by unfold splitE; rw [if_pos h0]
    have hP := Lib.hid (SplitP.none (w := w) (splitL_bad (by omega)) hE)
    rw [decide_eq_true h0] at e0
    clear e1 hl h0 hE
    generalize B l = s at *
    go_enter Tryz.func210, Tryz.ntmps210
    go_wp2_with (fail)
    go_returns
    exact hP.out
  · rw [decide_eq_false h0] at e0
    obtain ⟨c, r, hcr⟩ : ∃ c r, l = c :: r := by cases l with
      | nil => exact absurd rfl h0
      | cons c r => exact ⟨c, r, rfl⟩
    have hsz : 0 < (B l).size := by rw [B_size, hcr]; simp
    have i1 : (0 : Int) < ((B l).size : Int) := by omega
    have hg := fun h => byte_at (s := B l) (l := l) (data_B _) (i := 0) (c := c) (by rw [hcr]; rfl) h
    have u1 : ((c.toNat : Int) == 47) = decide (c = UInt8.ofNat 47) := u8_eq c 47 (by omega)
    have u2 : ((c.toNat : Int) != 47) = !decide (c = UInt8.ofNat 47) := by rw [← u1]; rfl
    by_cases hc : c = UInt8.ofNat 47
    · rw [decide_eq_true hc] at u1 u2
      by_cases h1 : l = [47]
      · have hP := Lib.hid (SplitP.none (l := l) (w := w) (N := 0) (by rw [h1]; exact splitL_slash.2) (by rw [h1]; exact splitL_slash.1))
        rw [decide_eq_true h1] at e1
        have e1' := beq_iff_eq.1 e1
        clear hl h0 h1 hc hcr
        generalize B l = s at *
        go_enter Tryz.func210, Tryz.ntmps210
        go_wp2_with (fail)
        go_returns
        exact hP.out
      · rw [decide_eq_false h1] at e1
        have hE : splitE l = everyE (sp (l.drop 1)) := by unfold splitE; rw [if_neg h0, if_neg (by rw [hcr, hc]; simp), if_neg h1]
        have hL : splitE l = 0 → splitL l = sp (l.drop 1) := fun h => by unfold splitL; rw [if_pos h, if_neg h1]
        have HL := Lib.hid (And.intro hE hL)
        have hl1 : 1 ≤ l.length := by rw [hcr]; simp
        have hss := B_size l
        have hdat := data_B l
        clear hE hL h0 h1 hc hcr
        generalize hsB : B l = s at *
        have HD := Lib.hid (And.intro hss (And.intro hdat hsB))
        clear hss hdat hsB
        go_enter Tryz.func210, Tryz.ntmps210
        go_wp2_with (fail)
        go_loopw [4, 5, 6] (fun v4 v5 v6 wr => ∃ (i at' : Nat) (done : List Txt) (a : Option Addr) (n c : Nat) (b : Option Nat), v4 = .slice a n c ∧ v5 = .int .i64 at' ∧ v6 = .int .i64 i ∧ Hid (Sst l done at' i) ∧ Hid (Txts wr v4 done b) ∧ Hid (done.length = n) ∧ Hid ((∀ g, b = some g → w.heap.size ≤ g) ∧ Below w.heap.size w wr)) (fun _ _ ix _ => l.length + 1 - (intOf ix).toNat)
        case atStart => exact ⟨1, 1, [], none, 0, 0, none, rfl, rfl, rfl, Lib.hid ⟨Nat.le_refl _, Or.inl ⟨hl1, Mid.start l⟩⟩, Lib.hid (Or.inl ⟨rfl, rfl, rfl⟩), Lib.hid rfl, Lib.hid ⟨(fun g hg => by cases hg), Below.refl _ _⟩⟩
        case round =>
          obtain ⟨i, at', done, a, n, c2, b, rfl, rfl, rfl, HS, HT, HN, HB⟩ := hrel
          have hdl : n ≤ l.length + 1 := by rw [← HN.out]; exact HS.out.len
          have hdm : done.length ≤ 200000 := by rw [HN.out]; omega
          have hat := HS.out.1
          have hsB := HD.out.2.2
          have hss := HD.out.1
          by_cases hin : i ≤ l.length
          · have d1 : decide ((i : Int) ≤ (s.size : Int)) = true := by rw [hss]; simp; omega
            have d1n : decide (i ≤ s.size) = true := by rw [hss]; simp; omega
            have j1 : (0 : Int) ≤ at' := by omega
            have j2 : (at' : Int) ≤ i := by omega
            have j3 : (i : Int) ≤ (s.size : Int) := by omega
            have j4 : (0 : Int) ≤ i := by omega
            have j5 : at' ≤ i := by omega
            have j6 : i ≤ s.size := by omega
            by_cases hie : i = l.length
            · have hend : Ends l i := Or.inl hie
              obtain rfl : i = s.size := by omega
              clear hie hss
              have hpc := HS.out.piece hin hend
              have hex := ext_pc l at' s.size
              rw [hsB] at hex
              have hnm := rname_is (pc l at' s.size)
              by_cases hE : nameE (pc l at' s.size) = 0
              · rw [hE] at hnm
                have HP := Lib.hid (hpc.2 hE)
                clear hE hpc
                generalize pc l at' s.size = p at *
                go_wp2_with (first
                  | (go_at_call 213; refine (hnm _).mono ?_; rintro e w' ⟨rfl, rfl⟩)
                  | (at_builtin; refine wp_appT rfl _ _ rfl _ done b rfl (HT.out.below ((Below.refl _ _).alloc (Nat.le_refl _) _)) wr.heap.size p rfl (Blk.cell (Blk.new _ _ _) rfl) hdm ?_; intro v' w1 b' hT' hb' hu'; obtain ⟨a', c', hv'⟩ := hT'.slice; have hn' : (done ++ [p]).length = n + 1 := (by rw [List.length_append, HN.out]; rfl); rw [hn'] at hv'; subst hv'; have HT' := Lib.hid (Txts.step HT.out HB.out hT' hb' hu'); have HN' := Lib.hid hn'; clear hT' hb' hu' hn'))
                go_roundw
                case rel => exact ⟨s.size + 1, s.size + 1, done ++ [p], a', n + 1, c', b', rfl, by go_num, by go_num, Lib.hid HP.out, Lib.hid HT'.out.1, HN', Lib.hid HT'.out.2⟩
                case measure => simp [intOf]; omega
              · have hEE := HL.out.1.trans (hpc.1.bad hE)
                have d5 : (nameE (pc l at' s.size) == 0) = false := by simpa using hE
                have d6 : (nameE (pc l at' s.size) != 0) = true := by simpa using hE
                have HP := Lib.hid (SplitP.none' (w := w) (w' := wr) (splitL_bad (by rw [hEE]; exact hE)) hEE HB.out.2)
                clear hE hpc hEE
                generalize nameE (pc l at' s.size) = N at *
                generalize pc l at' s.size = p at *
                go_wp2_with (go_at_call 213; refine (hnm _).mono ?_; rintro e w' ⟨rfl, rfl⟩)
                go_returns
                exact HP.out
            · have d2 : ((i : Int) == (s.size : Int)) = false := by rw [hss]; simp; omega
              have d2n : (i == s.size) = false := by rw [hss]; simp; omega
              have hil : i < l.length := by omega
              have j7 : (i : Int) < (s.size : Int) := by omega
              obtain ⟨x, hx⟩ : ∃ x, l[i]? = some x := ⟨l[i], List.getElem?_eq_getElem hil⟩
              have hgi := fun h => byte_at HD.out.2.1 hx h
              have q1 : ((x.toNat : Int) == 47) = decide (x = UInt8.ofNat 47) := u8_eq x 47 (by omega)
              clear hie hss
              by_cases hx47 : x = UInt8.ofNat 47
              · have hend : Ends l i := Or.inr (by rw [hx, hx47]; rfl)
                rw [decide_eq_true hx47] at q1
                clear hx hx47
                have hpc := HS.out.piece hin hend
                have hex := ext_pc l at' i
                rw [hsB] at hex
                have hnm := rname_is (pc l at' i)
                by_cases hE : nameE (pc l at' i) = 0
                · rw [hE] at hnm
                  have HP := Lib.hid (hpc.2 hE)
                  clear hE hpc
                  generalize pc l at' i = p at *
                  go_wp2_with (first
                    | (go_at_call 213; refine (hnm _).mono ?_; rintro e w' ⟨rfl, rfl⟩)
                    | (at_builtin; refine wp_appT rfl _ _ rfl _ done b rfl (HT.out.below ((Below.refl _ _).alloc (Nat.le_refl _) _)) wr.heap.size p rfl (Blk.cell (Blk.new _ _ _) rfl) hdm ?_; intro v' w1 b' hT' hb' hu'; obtain ⟨a', c', hv'⟩ := hT'.slice; have hn' : (done ++ [p]).length = n + 1 := (by rw [List.length_append, HN.out]; rfl); rw [hn'] at hv'; subst hv'; have HT' := Lib.hid (Txts.step HT.out HB.out hT' hb' hu'); have HN' := Lib.hid hn'; clear hT' hb' hu' hn'))
                  go_roundw
                  case rel => exact ⟨i + 1, i + 1, done ++ [p], a', n + 1, c', b', rfl, by go_num, by go_num, Lib.hid HP.out, Lib.hid HT'.out.1, HN', Lib.hid HT'.out.2⟩
                  case measure => simp [intOf]; omega
                · have hEE := HL.out.1.trans (hpc.1.bad hE)
                  have d5 : (nameE (pc l at' i) == 0) = false := by simpa using hE
                  have d6 : (nameE (pc l at' i) != 0) = true := by simpa using hE
                  have HP := Lib.hid (SplitP.none' (w := w) (w' := wr) (splitL_bad (by rw [hEE]; exact hE)) hEE HB.out.2)
                  clear hE hpc hEE
                  generalize nameE (pc l at' i) = N at *
                  generalize pc l at' i = p at *
                  go_wp2_with (go_at_call 213; refine (hnm _).mono ?_; rintro e w' ⟨rfl, rfl⟩)
                  go_returns
                  exact HP.out
              · rw [decide_eq_false hx47] at q1
                have HP : Hid (Sst l done at' (i + 1)) := Lib.hid ⟨by omega, Or.inl ⟨by omega, (HS.out.mid hin).step hat hx (by intro h; exact hx47 h)⟩⟩
                clear hx hx47
                go_wp2_with (fail)
                go_roundw
                case rel => exact ⟨i + 1, at', done, a, n, c2, b, rfl, rfl, by go_num, HP, HT, HN, HB⟩
                case measure => simp [intOf]; omega
          · have hin' : i = l.length + 1 := by have := HS.out.le; omega
            have d1 : decide ((i : Int) ≤ (s.size : Int)) = false := by rw [hss]; simp; omega
            have d1n : decide (i ≤ s.size) = false := by rw [hss]; simp; omega
            have hfin : sp (l.drop 1) = done ∧ firstE done = 0 := by
              rcases HS.out.2 with h | h
              · omega
              · exact h.2
            have hev : splitE l = if 6 < n then 20 else 0 := by rw [HL.out.1, hfin.1]; unfold everyE; rw [if_pos hfin.2, HN.out]
            by_cases h6 : 6 < n
            · rw [if_pos h6] at hev
              have hP := Lib.hid (SplitP.none' (w := w) (w' := wr) (splitL_bad (by omega)) hev HB.out.2)
              have d3 : decide ((n : Int) > 6) = true := by simp; omega
              clear hin hin' hfin h6 hev hsB hss
              go_wp2_with (fail)
              go_returns
              exact hP.out
            · rw [if_neg h6] at hev
              have hLd : splitL l = done := (HL.out.2 hev).trans hfin.1
              have d3 : decide ((n : Int) > 6) = false := by simp; omega
              have hP : Hid (SplitP l w (.returned (.tuple #[.slice a n c2, .int .i64 0])) wr) := Lib.hid ⟨a, c2, b, by rw [hLd, hev, HN.out], by rw [hLd, HN.out]; exact HT.out, HB.out.1, HB.out.2⟩
              clear hin hin' hfin h6 hev hsB hLd hss
              go_wp2_with (fail)
              go_returns
              exact hP.out
    · rw [decide_eq_false hc] at u1 u2
      have hE : splitE l = 19 := by unfold splitE; rw [if_neg h0, if_pos (by intro h; rw [hcr] at h; exact hc (by simpa using h))]
      have hP := Lib.hid (SplitP.none (w := w) (splitL_bad (by omega)) hE)
      clear e1 hl h0 hc hE hcr
      generalize B l = s at *
      go_enter Tryz.func210, Tryz.ntmps210
      go_wp2_with (fail)
      go_returns
      exact hP.out
end Go.Proofs.YtjpjafajploiaaaGreatDoor
