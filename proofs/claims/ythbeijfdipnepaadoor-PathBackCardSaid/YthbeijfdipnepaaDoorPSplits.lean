/-
  PathSplits: the walk.
-/
import Derived.Test.YthbeijfdipnepaaDoorPLaw
namespace Go.Proofs.YthbeijfdipnepaaDoor
set_option linter.unusedSimpArgs false
set_option linter.unusedVariables false
open Go.RowKit Own RegJ
open Go.Lib hiding intOf

theorem below_two {W w w' : World} (h : Below W.heap.size W w) (k : Below w.heap.size w w') : Below W.heap.size W w' := h.trans (k.mono h.size)
set_option maxRecDepth 100000 in
theorem splits_long (s : ByteArray) (hs : 2000 < s.size) (hm63 : s.size ≤ maxLen) (w : World) (m : Int) (hm : w.cell? ⟨0, 0, none⟩ = some (.int .i64 m)) :
    Calls Tryd.prog 3 #[.string s] w (ValB (.bool true) w) := by
  have d1 : decide ((s.size : Int) > 2000) = true := by simp; omega
  have ha := awake_any w m hm
  clear hm hs
  go_enter Tryd.func3, Tryd.ntmps3
  go_wp2_with (go_at_call 6; refine ha.mono ?_; rintro e w1 ⟨rfl, hB⟩)
  go_ret
  exact ⟨rfl, hB⟩
set_option maxRecDepth 100000 in
theorem splits_walk (l : Txt) (hl : l.length ≤ 2000) (w : World) (m : Int) (hm : w.cell? ⟨0, 0, none⟩ = some (.int .i64 m)) :
    Calls Tryd.prog 3 #[.string (B l)] w (ValB (.bool true) w) := by
  have d1 : decide (((B l).size : Int) > 2000) = false := by rw [B_size]; simp; omega
  have hl2 : l.length ≤ 100000 := by omega
  have hs1 := split_is l w hl2 m hm
  obtain ⟨n, hn⟩ : ∃ n, (splitL l).length = n := ⟨_, rfl⟩
  obtain ⟨E, hE⟩ : ∃ E, splitE l = E := ⟨_, rfl⟩
  have hn6 : n ≤ 6 := by rw [← hn]; exact splitL_len l
  have HN := Lib.hid (And.intro hn hE)
  have hnm := name_is l
  have hrnm := rname_is l
  have HF : Hid (∀ w', Below w.heap.size w w' → Calls Tryd.prog 7 #[.string (B l)] w' (SplitP l w') ∧ Calls Tryd.prog 8 #[.string (B l)] w' (SplitP l w') ∧ Calls Tryd.prog 9 #[.string (B l)] w' (ValB (ParV l) w') ∧ Calls Tryd.prog 10 #[.string (B l)] w' (ValB (ParV l) w') ∧ Calls Tryd.prog 6 #[] w' (ValB (.bool true) w')) := Lib.hid (fun w' h => by
    have hm' := max_below h hm
    exact ⟨split_is l w' hl2 m hm', rsplit_is l w' hl2, par_is l w' hl2 m hm', rpar_is l w' hl2, awake_any w' m hm'⟩)
  unfold ParV at HF
  clear hm hl hl2 hn hE
  generalize B l = s at *
  generalize B (parD l) = pD at *
  generalize B (parN l) = pN at *
  generalize parE l = pE at *
  generalize nameE l = nE at *
  go_enter Tryd.func3, Tryd.ntmps3
  go_wp2_with (first
    | (go_at_call 7; refine hs1.mono ?_; intro e w1 hq; obtain ⟨a1, c1, b1, rfl, hT, hb, hB⟩ := hq.at HN.out.1 HN.out.2; clear hq hs1; have hs2 := (HF.out w1 hB).2.1; have H1 := Lib.hid (And.intro hT (And.intro hb hB)); clear hT hb hB)
    | (go_at_call 8; refine hs2.mono ?_; intro e w2 hq; obtain ⟨a2, c2, b2, rfl, hT, hb, hB⟩ := hq.at HN.out.1 HN.out.2; clear hq hs2; have H2 := Lib.hid (And.intro hT (And.intro hb (below_two H1.out.2.2 hB))); have H3 := Lib.hid (H1.out.1.below hB); have hp1 := (HF.out w2 H2.out.2.2).2.2.1; clear hT hb hB)
    | (go_at_call 9; (with_reducible refine hp1.mono ?_); rintro e w3 ⟨rfl, hB⟩; clear hp1; have H4 := Lib.hid (And.intro (H3.out.below hB) (And.intro (H2.out.1.below hB) (below_two H2.out.2.2 hB))); have hp2 := (HF.out w3 H4.out.2.2).2.2.2.1; clear hB)
    | (go_at_call 10; (with_reducible refine hp2.mono ?_); rintro e w4 ⟨rfl, hB⟩; clear hp2; have H5 := Lib.hid (And.intro (H4.out.1.below hB) (And.intro (H4.out.2.1.below hB) (below_two H4.out.2.2 hB))); have hsm := sameT_is n c1 c2 H5.out.1.rd H5.out.2.1.rd HN.out.1 (by omega); clear hB)
    | (go_at_call 11; (with_reducible refine hsm.mono ?_); rintro e w5 ⟨rfl, hB⟩; clear hsm; have H6 := Lib.hid (And.intro (H5.out.1.below hB) (And.intro (H5.out.2.1.below hB) (below_two H5.out.2.2 hB))); have hov := overT_is H6.out.1 (by rw [HN.out.1]; omega); clear hB)
    | (go_at_call 12; refine (num_is _ _).mono ?_; rintro e w' ⟨rfl, rfl⟩)
    | (go_at_call 13; refine (hnm _).mono ?_; rintro e w' ⟨rfl, rfl⟩)
    | (go_at_call 14; refine (hrnm _).mono ?_; rintro e w' ⟨rfl, rfl⟩)
    | (go_at_call 15; (with_reducible refine hov.mono ?_); rintro e w6 ⟨⟨v, rfl⟩, hu⟩; clear hov; have H7 := Lib.hid (And.intro (H6.out.2.1.upd hu (fun g hg h => by have h1 := H1.out.1.lt g h; have h2 := H2.out.2.1 g hg; omega)) (H6.out.2.2.trans (hu.below H6.out.2.2.size (fun k hk => H1.out.2.1 k hk)))); have hs3 := (HF.out w6 H7.out.2).1; clear hu)
    | (go_at_call 7; (with_reducible refine hs3.mono ?_); intro e w7 hq; obtain ⟨a3, c3, b3, rfl, hT, hb, hB⟩ := hq.at HN.out.1 HN.out.2; clear hq hs3; have H8 := Lib.hid (And.intro hT (And.intro (H7.out.1.below hB) (below_two H7.out.2 hB))); have hsm2 := sameT_is n c3 c2 H8.out.1.rd H8.out.2.1.rd HN.out.1 (by omega); clear hT hb hB)
    | (go_at_call 11; (with_reducible refine hsm2.mono ?_); rintro e w8 ⟨rfl, hB⟩; clear hsm2; have H9 := Lib.hid (below_two H8.out.2.2 hB); have haw := (HF.out w8 H9.out).2.2.2.2; clear hB)
    | (go_at_call 6; (with_reducible refine haw.mono ?_); rintro e w9 ⟨rfl, hB⟩))
  go_ret
  exact ⟨rfl, below_two H9.out hB⟩
theorem splits_all (s : ByteArray) (w : World) (hs : s.size ≤ maxLen) (m : Int) (hm : w.cell? ⟨0, 0, none⟩ = some (.int .i64 m)) :
    Calls Tryd.prog 3 #[.string s] w fun e w' => e = .returned (.bool true) ∧ Below w.heap.size w w' := by
  by_cases hl : 2000 < s.size
  · exact splits_long s hl hs w m hm
  · have := splits_walk s.data.toList (by have := B_size s.data.toList; rw [B_data] at this; omega) w m hm
    rw [B_data] at this
    exact this
end Go.Proofs.YthbeijfdipnepaaDoor
