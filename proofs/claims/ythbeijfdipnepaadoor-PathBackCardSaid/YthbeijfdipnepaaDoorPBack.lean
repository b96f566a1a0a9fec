/-
  PathBack: the walk.
-/
import Derived.Test.YthbeijfdipnepaaDoorPSplits
namespace Go.Proofs.YthbeijfdipnepaaDoor
set_option linter.unusedSimpArgs false
set_option linter.unusedVariables false
open Go.RowKit Own RegJ
open Go.Lib hiding intOf

set_option maxRecDepth 100000 in
theorem back_long (s : ByteArray) (hs : 2000 < s.size) (hm63 : s.size ≤ maxLen) (w : World) (m : Int) (hm : w.cell? ⟨0, 0, none⟩ = some (.int .i64 m)) :
    Calls Tryd.prog 5 #[.string s] w (ValB (.bool true) w) := by
  have d1 : decide ((s.size : Int) > 2000) = true := by simp; omega
  have ha := awake_any w m hm
  clear hm hs
  go_enter Tryd.func5, Tryd.ntmps5
  go_wp2_with (go_at_call 6; refine ha.mono ?_; rintro e w1 ⟨rfl, hB⟩)
  go_ret
  exact ⟨rfl, hB⟩
theorem parD_len {l : Txt} (h : splitE l = 0) : (parD l).length ≤ 60 := by
  unfold parD
  split
  · unfold joinT
    split
    · simp
    · have := flat_len _ (every_take ((splitL l).length - 1) (split_join h).2); omega
  · simp
set_option maxRecDepth 100000 in
theorem back_walk (l : Txt) (hl : l.length ≤ 2000) (w : World) (m : Int) (hm : w.cell? ⟨0, 0, none⟩ = some (.int .i64 m)) :
    Calls Tryd.prog 5 #[.string (B l)] w (ValB (.bool true) w) := by
  have d1 : decide (((B l).size : Int) > 2000) = false := by rw [B_size]; simp; omega
  have hl2 : l.length ≤ 100000 := by omega
  have hs1 := split_is l w hl2 m hm
  have HF : Hid (∀ w', Below w.heap.size w w' → (∀ q : Txt, q.length ≤ 100000 → Calls Tryd.prog 7 #[.string (B q)] w' (SplitP q w')) ∧ Calls Tryd.prog 9 #[.string (B l)] w' (ValB (ParV l) w') ∧ Calls Tryd.prog 6 #[] w' (ValB (.bool true) w')) := Lib.hid (fun w' h => by
    have hm' := max_below h hm
    exact ⟨fun q hq => split_is q w' hq m hm', par_is l w' hl2 m hm', awake_any w' m hm'⟩)
  unfold ParV at HF
  clear hm hl hl2
  by_cases hE : splitE l = 0
  · have hsj := split_join hE
    have hjr : joinR (splitL l) = l := by unfold joinR; rw [if_pos hsj.2]; exact hsj.1
    have HJ := Lib.hid (And.intro hjr hsj.2)
    have hn6 := splitL_len l
    by_cases hx : splitL l = []
    · have h1 : parE l = 19 := by unfold parE; rw [if_pos hE, if_pos hx]
      have h2 : parD l = [] := by unfold parD; rw [if_neg (by omega)]
      have h3 : parN l = [] := by unfold parN; rw [if_neg (by omega)]
      rw [h1, h2, h3] at HF
      have HE := Lib.hid (And.intro hE hx)
      clear hE hx h1 h2 h3 hn6 hjr hsj
      generalize hsB : B l = s at *
      have HS := Lib.hid hsB
      clear hsB
      go_enter Tryd.func5, Tryd.ntmps5
      go_wp2_with (first
        | (go_at_call 7; refine hs1.mono ?_; intro e w1 hq; obtain ⟨a1, c1, b1, rfl, hT, hb, hB⟩ := hq.at (n := 0) (by rw [HE.out.2]; rfl) HE.out.1; clear hq hs1; have hjc := join_is 0 c1 hT.rd (by rw [HE.out.2]; rfl) (Nat.zero_le _) (Nat.zero_le _); rw [HJ.out.1, HJ.out.2, HS.out] at hjc; have H1 := Lib.hid hB; clear hT hb hB)
        | (go_at_call 16; (with_reducible refine hjc.mono ?_); rintro e w2 ⟨rfl, hB⟩; clear hjc; have H2 := Lib.hid (below_two H1.out hB); have hp := (HF.out _ H2.out).2.1; clear hB)
        | (go_at_call 9; (with_reducible refine hp.mono ?_); rintro e w3 ⟨rfl, hB⟩; clear hp; have H3 := Lib.hid (below_two H2.out hB); have haw := (HF.out _ H3.out).2.2; clear hB)
        | (go_at_call 6; (with_reducible refine haw.mono ?_); rintro e w9 ⟨rfl, hB⟩))
      go_ret
      exact ⟨rfl, below_two H3.out hB⟩
    · obtain ⟨h1, h2, h3, h4⟩ := par_back hE hx
      obtain ⟨k, hk⟩ : ∃ k, (splitL l).length = k + 1 := ⟨(splitL l).length - 1, by have := List.length_pos_iff.2 hx; omega⟩
      have hpl := parD_len hE
      have hk2 : (splitL (parD l)).length = k := by have := congrArg List.length h3; rw [List.length_append, hk] at this; simpa using this
      have hnm := name_is (parN l)
      rw [h4] at hnm
      rw [h1] at HF
      have HE := Lib.hid (And.intro hE (And.intro hk (And.intro h2 (And.intro hk2 (And.intro h3 hpl)))))
      rw [hk] at hn6
      have d2 : decide ((k : Int) + 1 > 6) = false := by simp; omega
      clear hE hx h1 h2 h3 h4 hk hk2 hpl hjr hsj
      generalize hsB : B l = s at *
      have HS := Lib.hid hsB
      clear hsB
      go_enter Tryd.func5, Tryd.ntmps5
      go_wp2_with (first
        | (go_at_call 7; refine hs1.mono ?_; intro e w1 hq; obtain ⟨a1, c1, b1, rfl, hT, hb, hB⟩ := hq.at HE.out.2.1 HE.out.1; clear hq hs1; have hjc := join_is (k + 1) c1 hT.rd HE.out.2.1 hT.cap.1 (by unfold maxLen; omega); rw [HJ.out.1, HJ.out.2, HS.out] at hjc; have H1 := Lib.hid (And.intro hT hB); clear hT hb hB)
        | (go_at_call 16; (with_reducible refine hjc.mono ?_); rintro e w2 ⟨rfl, hB⟩; clear hjc; have H2 := Lib.hid (And.intro (H1.out.1.below hB) (below_two H1.out.2 hB)); have hp := (HF.out _ H2.out.2).2.1; clear hB)
        | (go_at_call 9; (with_reducible refine hp.mono ?_); rintro e w3 ⟨rfl, hB⟩; clear hp; have H3 := Lib.hid (And.intro (H2.out.1.below hB) (below_two H2.out.2 hB)); have hs3 := (HF.out _ H3.out.2).1 (parD l) (by have := HE.out.2.2.2.2.2; omega); clear hB)
        | (go_at_call 7; (with_reducible refine hs3.mono ?_); intro e w4 hq; obtain ⟨a2, c2, b2, rfl, hT, hb, hB⟩ := hq.at HE.out.2.2.2.1 HE.out.2.2.1; clear hq hs3; have H4 := Lib.hid (And.intro (H3.out.1.below hB) (And.intro hT (And.intro hb (below_two H3.out.2 hB)))); have H1t := Lib.hid (H3.out.1); clear hT hb hB)
        | (refine wp_appTg rfl (by rfl) _ (splitL (parD l)) b2 rfl (H4.out.2.1.below ((Below.refl _ _).alloc (Nat.le_refl _) _)) w4.heap.size (parN l) rfl (Blk.cell (Blk.new _ _ _) rfl) (by have := HE.out.2.2.2.1; omega) ?_; intro v' w5 b' hT' hb' hu; obtain ⟨a5, c5, hv5⟩ := hT'.slice; have hn5 : (splitL (parD l) ++ [parN l]).length = k + 1 := (by rw [HE.out.2.2.2.2.1, HE.out.2.1]); rw [hn5] at hv5; subst hv5; rw [HE.out.2.2.2.2.1] at hT'; have HB5 := Lib.hid (Txts.step (w := w) H4.out.2.1 (And.intro (fun g hg => by have h8 := H4.out.2.2.1 g hg; have h9 := H3.out.2.size; omega) H4.out.2.2.2) hT' hb' hu); have hsm := sameT_is (k + 1) c5 c1 HB5.out.1.rd (Txts.rd (H4.out.1.upd (((Upd.refl (fun k => b2 = some k) w4).alloc _).trans hu (fun _ _ h => h)) (fun g hg h => by have h8 := H4.out.2.2.1 g h; have h9 := H3.out.1.lt g hg; omega))) HE.out.2.1 (by omega); clear hT' hb' hu hn5)
        | (go_at_call 11; (with_reducible refine hsm.mono ?_); rintro e w6 ⟨rfl, hB⟩; clear hsm; have H6 := Lib.hid (below_two HB5.out.2.2 hB); have haw := (HF.out _ H6.out).2.2; clear hB)
        | (go_at_call 13; refine (hnm _).mono ?_; rintro e w' ⟨rfl, rfl⟩)
        | (go_at_call 6; (with_reducible refine haw.mono ?_); rintro e w9 ⟨rfl, hB⟩))
      go_ret
      exact ⟨rfl, below_two H6.out hB⟩
  · have hx := splitL_bad hE
    have d2 : (splitE l == 0) = false := by simpa using hE
    have d3 : (splitE l != 0) = true := by simpa using hE
    obtain ⟨N, hN⟩ : ∃ N, splitE l = N := ⟨_, rfl⟩
    rw [hN] at d2 d3
    have HE := Lib.hid (And.intro hN hx)
    clear hE hN hx
    generalize B l = s at *
    go_enter Tryd.func5, Tryd.ntmps5
    go_wp2_with (first
      | (go_at_call 7; refine hs1.mono ?_; intro e w1 hq; obtain ⟨a1, c1, b1, rfl, hT, hb, hB⟩ := hq.at (n := 0) (by rw [HE.out.2]; rfl) HE.out.1; clear hq hs1; have haw := (HF.out _ hB).2.2; have H1 := Lib.hid hB; clear hT hb hB)
      | (go_at_call 6; (with_reducible refine haw.mono ?_); rintro e w9 ⟨rfl, hB⟩))
    go_ret
    exact ⟨rfl, below_two H1.out hB⟩
theorem back_all (s : ByteArray) (w : World) (hs : s.size ≤ maxLen) (m : Int) (hm : w.cell? ⟨0, 0, none⟩ = some (.int .i64 m)) :
    Calls Tryd.prog 5 #[.string s] w fun e w' => e = .returned (.bool true) ∧ Below w.heap.size w w' := by
  by_cases hl : 2000 < s.size
  · exact back_long s hl hs w m hm
  · have := back_walk s.data.toList (by have := B_size s.data.toList; rw [B_data] at this; omega) w m hm
    rw [B_data] at this
    exact this
end Go.Proofs.YthbeijfdipnepaaDoor
