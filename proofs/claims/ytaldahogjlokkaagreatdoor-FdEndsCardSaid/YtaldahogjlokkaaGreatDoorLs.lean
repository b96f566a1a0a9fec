/-
  FdEnds, plain: the states it goes through; its steps.
-/
import Derived.Test.YtaldahogjlokkaaGreatDoorLp
namespace Go.Proofs.YtaldahogjlokkaaGreatDoor
set_option linter.unusedSimpArgs false
set_option linter.unusedVariables false
open Go.RowKit Own RegJ Two
open Go.Lib hiding intOf

/-- one pipe: these bytes wait; one reader, so many writers -/
def psB (b : List Int) (wt : Int) : PS := psPut ps00 0 (some ⟨b, 1, wt⟩)
theorem psB_at (b : List Int) (wt : Int) : psAt (psB b wt) 0 = some ⟨b, 1, wt⟩ := rfl
theorem psB_put (b c : List Int) (wt wu : Int) : psPut (psB b wt) (Int.toNat 0) (some ⟨c, 1, wu⟩) = psB c wu := psPut_two _ _ _ _
theorem pe_make : pmakeF 10 ps00 = (0, 0, psB [] 1) := rfl
theorem pe_write (b : List Int) (h : b.length ≤ 64) : pwriteF (psB [] 1) 0 b = (0, psB b 1) := by
  unfold pwriteF
  rw [psB_at]
  simp only
  rw [if_neg (by omega), if_neg (by omega)]
  by_cases h0 : b.length = 0
  · rw [if_pos h0, List.eq_nil_of_length_eq_zero h0]
  · rw [if_neg h0, if_neg (by omega), if_neg (by simp; omega), psB_put, List.nil_append]
theorem pe_read0 (b : List Int) : preadF (psB b 1) 0 0 = ([], 0, psB b 1) := by
  unfold preadF
  rw [psB_at]
  simp only
  rw [if_neg (by omega), if_neg (by omega)]
  by_cases h0 : b = []
  · rw [if_pos ⟨h0, .inl trivial⟩]
  · rw [if_neg (fun h => h0 h.1), if_neg h0]
    simp only [Int.toNat_zero, List.take_zero, List.drop_zero]
    exact congrArg (fun q => (([] : List Int), (0 : Int), q)) (psB_put b b 1 1)
theorem pe_readall (b : List Int) (h : b.length ≤ 64) : preadF (psB b 0) 0 100 = (b, 0, psB [] 0) := by
  unfold preadF
  rw [psB_at]
  simp only
  rw [if_neg (by omega), if_neg (by omega)]
  by_cases h0 : b = []
  · rw [if_pos ⟨h0, .inr trivial⟩, h0]
  · rw [if_neg (fun h => h0 h.1), if_neg h0]
    rw [List.take_of_length_le (by omega), List.drop_eq_nil_of_le (by omega)]
    exact congrArg (fun q => (b, (0 : Int), q)) (psB_put b [] 0 0)
theorem pe_readend : preadF (psB [] 0) 0 100 = ([], 0, psB [] 0) := rfl
theorem pe_closew (b : List Int) : pcloseF (psB b 1) 0 true = (0, psB b 0) := by
  unfold pcloseF
  rw [psB_at]
  simp only [if_true]
  rw [if_neg (by omega), if_neg (by omega)]
  exact congrArg (Prod.mk 0) (psB_put b b 1 (1 - 1))
theorem pe_closer : pcloseF (psB [] 0) 0 false = (0, ps00) := by
  have e : psPut (psB [] 0) (Int.toNat 0) none = ps00 := by
    funext j
    show (if j = 0 then none else if j = 0 then _ else none) = none
    split
    · rfl
    · rfl
  unfold pcloseF
  rw [psB_at]
  simp only [Bool.false_eq_true, if_false]
  rw [if_neg (by omega), if_pos ⟨trivial, trivial⟩, e]
theorem used_ns0 : usedN (filesOf ns0) 16 = 0 := by decide +kernel
theorem psB_pos (b : List Int) (wt : Int) (h : 0 ≤ wt ∧ wt ≤ 1) : ∀ i p, psB b wt i = some p → 0 ≤ p.rd ∧ 0 ≤ p.wt ∧ p.rd ≤ 100000 ∧ p.wt ≤ 100000 := by
  intro i p hp
  unfold psB psPut ps00 at hp
  split at hp
  · cases hp; exact ⟨by show (0 : Int) ≤ 1; omega, by show (0 : Int) ≤ wt; omega, by show (1 : Int) ≤ 100000; omega, by show wt ≤ 100000; omega⟩
  · cases hp
/-- processes lo to n: their first place names x; their second one y, unless it is closed -/
structure Es (S : FS) (x y lo n : Nat) (cl : Nat → Bool) (A B : Int) : Prop where
  pr : ∀ p : Nat, lo ≤ p → p ≤ n → ∃ b, S.pr (p : Int) = some b ∧ S.sl b 0 = some x ∧ S.sl b 1 = (if cl p then none else some y) ∧ ∀ d, 2 ≤ d → S.sl b d = none
  no : ∀ q : Int, (n : Int) < q → S.pr q = none
  tx : S.th x = some ⟨true, false, 0, 0, false, A⟩
  ty : S.th y = some ⟨true, true, 0, 0, false, B⟩
  xy : x ≠ y
  on : ∀ z t, S.th z = some t → z = x ∨ z = y
  ap : ∀ i j b, S.pr i = some b → S.pr j = some b → i = j
theorem Es.few {S : FS} {x y lo n : Nat} {cl : Nat → Bool} {A B : Int} (h : Es S x y lo n cl A B) (hA : 0 ≤ A ∧ A ≤ 1000) (hB : 0 ≤ B ∧ B ≤ 1000) : Few S 1000 := by
  intro z t hz
  rcases h.on z t hz with rfl | rfl
  · rw [h.tx] at hz; cases hz; exact hA
  · rw [h.ty] at hz; cases hz; exact hB
theorem Es.first {S : FS} {b0 x y : Nat} (hpr : ∀ q : Int, S.pr q = if q = 0 then some b0 else none) (hsl : ∀ d, S.sl b0 d = none) (hth : ∀ z, S.th z = none) (hxy : x ≠ y) :
    Es ((S.put b0 0 x ⟨true, false, 0, 0, false, 1⟩).put b0 1 y ⟨true, true, 0, 0, false, 1⟩) x y 0 0 (fun _ => false) 1 1 := by
  refine ⟨fun p h1 h2 => ⟨b0, ?_, ?_, ?_, fun d hd => ?_⟩, fun q hq => ?_, ?_, put_th' _ _ _ _ _, hxy, fun z t hz => ?_, fun i j b hi hj => ?_⟩
  · obtain rfl : p = 0 := by omega
    show S.pr _ = _
    rw [hpr]; rfl
  · simp [FS.put, FS.setth, FS.setsl, upN]
  · simp [FS.put, FS.setth, FS.setsl, upN]
  · have h0 : d ≠ 0 := by omega
    have h1 : d ≠ 1 := by omega
    simp [FS.put, FS.setth, FS.setsl, upN, h0, h1, hsl]
  · show S.pr q = none
    rw [hpr, if_neg (by omega)]
  · show ((S.put b0 0 x _).setth y _).th x = _
    rw [setth_ne _ _ _ hxy]
    exact put_th' _ _ _ _ _
  · by_cases e1 : z = y
    · exact .inr e1
    · by_cases e2 : z = x
      · exact .inl e2
      · exfalso
        have : ((S.put b0 0 x ⟨true, false, 0, 0, false, 1⟩).put b0 1 y ⟨true, true, 0, 0, false, 1⟩).th z = S.th z := by
          show ((S.put b0 0 x _).setth y _).th z = _
          rw [setth_ne _ _ _ e1]
          show (S.setth x _).th z = _
          rw [setth_ne _ _ _ e2]
        rw [this, hth] at hz; cases hz
  · have hi : S.pr i = some b := hi
    have hj : S.pr j = some b := hj
    rw [hpr] at hi hj
    split at hi
    · split at hj
      · omega
      · cases hj
    · cases hi
theorem bumps_two (S : FS) (f : Nat → Option Nat) {x y : Nat} (h0 : f 0 = some x) (h1 : f 1 = some y) (h2 : ∀ d, 2 ≤ d → f d = none) : S.bumps f 8 = (S.bump x).bump y := by
  simp [FS.bumps, h0, h1, h2 2 (by omega), h2 3 (by omega), h2 4 (by omega), h2 5 (by omega), h2 6 (by omega), h2 7 (by omega)]
theorem Es.copy {S : FS} {x y n b0 b2 B0 : Nat} {A B : Int} (h : Es S x y 0 n (fun _ => false) A B) (hb : S.pr 0 = some b0) (hlt : ∀ i b, S.pr i = some b → b < B0) (h2 : B0 ≤ b2) : Es ((S.twin ((n + 1 : Nat) : Int) b0 b2).bumps (S.sl b0) 8) x y 0 (n + 1) (fun _ => false) (A + 1) (B + 1) := by
  obtain ⟨b0', g1, g2, g3, g4⟩ := h.pr 0 (Nat.le_refl _) (Nat.zero_le _)
  obtain rfl : b0 = b0' := by
    have g1 : S.pr 0 = some b0' := g1
    rw [hb] at g1; exact Option.some.inj g1
  have g3 : S.sl b0 1 = some y := g3
  rw [bumps_two _ _ g2 g3 g4]
  have t1 : (S.twin ((n + 1 : Nat) : Int) b0 b2).bump x = (S.twin ((n + 1 : Nat) : Int) b0 b2).setth x ⟨true, false, 0, 0, false, A + 1⟩ := by
    unfold FS.bump
    rw [show (S.twin ((n + 1 : Nat) : Int) b0 b2).th x = some _ from h.tx]
  rw [t1]
  have t2 : ((S.twin ((n + 1 : Nat) : Int) b0 b2).setth x ⟨true, false, 0, 0, false, A + 1⟩).bump y = ((S.twin ((n + 1 : Nat) : Int) b0 b2).setth x ⟨true, false, 0, 0, false, A + 1⟩).setth y ⟨true, true, 0, 0, false, B + 1⟩ := by
    unfold FS.bump
    rw [setth_ne _ _ _ h.xy.symm, show (S.twin ((n + 1 : Nat) : Int) b0 b2).th y = some _ from h.ty]
  rw [t2]
  have hpr : ∀ q, (((S.twin ((n + 1 : Nat) : Int) b0 b2).setth x ⟨true, false, 0, 0, false, A + 1⟩).setth y ⟨true, true, 0, 0, false, B + 1⟩).pr q = if q = ((n + 1 : Nat) : Int) then some b2 else S.pr q := fun q => rfl
  have hsl : ∀ b, (((S.twin ((n + 1 : Nat) : Int) b0 b2).setth x ⟨true, false, 0, 0, false, A + 1⟩).setth y ⟨true, true, 0, 0, false, B + 1⟩).sl b = if b = b2 then S.sl b0 else S.sl b := fun b => rfl
  refine ⟨fun p h1 hp => ?_, fun q hq => ?_, ?_, setth_eq _ _ _, h.xy, fun z t hz => ?_, fun i j b hi hj => ?_⟩
  · by_cases e : p = n + 1
    · exact ⟨b2, by rw [hpr, e, if_pos rfl], by rw [hsl, if_pos rfl]; exact g2, by rw [hsl, if_pos rfl]; exact g3, fun d hd => by rw [hsl, if_pos rfl]; exact g4 d hd⟩
    · obtain ⟨bp, k1, k2, k3, k4⟩ := h.pr p h1 (by omega)
      have hne : bp ≠ b2 := fun e2 => by have := hlt _ _ k1; omega
      exact ⟨bp, by rw [hpr, if_neg (by omega)]; exact k1, by rw [hsl, if_neg hne]; exact k2, by rw [hsl, if_neg hne]; exact k3, fun d hd => by rw [hsl, if_neg hne]; exact k4 d hd⟩
  · rw [hpr, if_neg (by omega)]; exact h.no q (by omega)
  · rw [setth_ne _ _ _ h.xy]; exact setth_eq _ _ _
  · by_cases e1 : z = y
    · exact .inr e1
    · by_cases e2 : z = x
      · exact .inl e2
      · rw [setth_ne _ _ _ e1, setth_ne _ _ _ e2] at hz
        exact h.on z t hz
  · rw [hpr] at hi hj
    split at hi <;> split at hj
    · omega
    · cases hi
      have := hlt _ _ hj; omega
    · cases hj
      have := hlt _ _ hi; omega
    · exact h.ap i j b hi hj
/-- a process lets go of the writer's end -/
theorem Es.close {S : FS} {x y lo n p b : Nat} {cl : Nat → Bool} {A B : Int} (h : Es S x y lo n cl A B) (hp : lo ≤ p ∧ p ≤ n) (hb : S.pr (p : Int) = some b) : Es ((S.setsl b 1 none).setth y ⟨true, true, 0, 0, false, B - 1⟩) x y lo n (fun q => if q = p then true else cl q) A (B - 1) := by
  have hsl : ∀ b' d, ((S.setsl b 1 none).setth y ⟨true, true, 0, 0, false, B - 1⟩).sl b' d = if b' = b ∧ d = 1 then none else S.sl b' d := fun b' d => by
    show upN S.sl b (upN (S.sl b) 1 none) b' d = _
    unfold upN
    by_cases e : b' = b
    · subst e
      by_cases e2 : d = 1
      · simp [e2]
      · simp [e2]
    · simp [e]
  refine ⟨fun q h1 h2 => ?_, fun q hq => h.no q hq, ?_, setth_eq _ _ _, h.xy, fun z t hz => ?_, fun i j b hi hj => h.ap i j b hi hj⟩
  · obtain ⟨bq, k1, k2, k3, k4⟩ := h.pr q h1 h2
    refine ⟨bq, k1, by rw [hsl, if_neg (by omega)]; exact k2, ?_, fun d hd => by rw [hsl, if_neg (by omega)]; exact k4 d hd⟩
    by_cases e : q = p
    · subst e
      obtain rfl : b = bq := by rw [hb] at k1; exact Option.some.inj k1
      rw [hsl, if_pos ⟨rfl, rfl⟩]
      simp
    · rw [hsl, if_neg (fun hh => e (by have := h.ap _ _ _ k1 (hh.1 ▸ hb); omega)), k3, if_neg e]
  · rw [setth_ne _ _ _ h.xy]; exact h.tx
  · by_cases e1 : z = y
    · exact .inr e1
    · rw [setth_ne _ _ _ e1] at hz
      exact h.on z t hz
/-- the first one leaves -/
theorem Es.leave {S : FS} {x y lo n b : Nat} {cl : Nat → Bool} {A B : Int} (h : Es S x y lo n cl A B) (hb : S.pr (lo : Int) = some b) : Es (((S.setsl b 0 none).setth x ⟨true, false, 0, 0, false, A - 1⟩).drop lo) x y (lo + 1) n cl (A - 1) B := by
  have hpr : ∀ q, (((S.setsl b 0 none).setth x ⟨true, false, 0, 0, false, A - 1⟩).drop lo).pr q = if q = (lo : Int) then none else S.pr q := fun q => rfl
  have hsl : ∀ b' d, b' ≠ b → (((S.setsl b 0 none).setth x ⟨true, false, 0, 0, false, A - 1⟩).drop lo).sl b' d = S.sl b' d := fun b' d e => by
    show upN S.sl b (upN (S.sl b) 0 none) b' d = _
    unfold upN
    simp [e]
  refine ⟨fun q h1 h2 => ?_, fun q hq => ?_, setth_eq _ _ _, ?_, h.xy, fun z t hz => ?_, fun i j b' hi hj => ?_⟩
  · obtain ⟨bq, k1, k2, k3, k4⟩ := h.pr q (by omega) h2
    have hne : bq ≠ b := fun e => by have := h.ap _ _ _ k1 (e ▸ hb); omega
    exact ⟨bq, by rw [hpr, if_neg (by omega)]; exact k1, by rw [hsl _ _ hne]; exact k2, by rw [hsl _ _ hne]; exact k3, fun d hd => by rw [hsl _ _ hne]; exact k4 d hd⟩
  · rw [hpr]
    split
    · rfl
    · exact h.no q hq
  · show ((S.setsl b 0 none).setth x _).th y = _
    rw [setth_ne _ _ _ h.xy.symm]; exact h.ty
  · have hz : ((S.setsl b 0 none).setth x ⟨true, false, 0, 0, false, A - 1⟩).th z = some t := hz
    by_cases e1 : z = x
    · exact .inl e1
    · rw [setth_ne _ _ _ e1] at hz
      exact h.on z t hz
  · rw [hpr] at hi hj
    split at hi
    · cases hi
    · split at hj
      · cases hj
      · exact h.ap i j b' hi hj
theorem used_one {f : Nat → Option Nat} {x : Nat} (h0 : f 0 = some x) (h1 : f 1 = none) (h2 : ∀ d, 2 ≤ d → f d = none) : usedL f 8 = [((0 : Nat) : Int)] := by
  simp [usedL, h0, h1, h2 2 (by omega), h2 3 (by omega), h2 4 (by omega), h2 5 (by omega), h2 6 (by omega), h2 7 (by omega)]
theorem free_all {f : Nat → Option Nat} (h : ∀ d, f d = none) : freeL f 8 = ((0 : Nat) : Int) :: ((1 : Nat) : Int) :: [2, 3, 4, 5, 6, 7] := by
  simp [freeL, h]
end Go.Proofs.YtaldahogjlokkaaGreatDoor
/-
  FdEnds: its calls, at its states.
-/
namespace Go.Proofs.YtaldahogjlokkaaGreatDoor
set_option linter.unusedSimpArgs false
set_option linter.unusedVariables false
open Go.RowKit Own RegJ Two
open Go.Lib hiding intOf

def EnX (w0 : World) (fdb vb tb fb sb pb mb x y lo n : Nat) (cl : Nat → Bool) (A B : Int) (N : Nat) (ps : PS) (O : Nat → Prop) (w : World) : Prop := ∃ S, EX 10 w0 O fdb vb tb fb sb pb mb ns0 0 N 1 S ps w ∧ Es S x y lo n cl A B
def EnP (w0 : World) (fdb vb tb fb sb pb mb x y lo n : Nat) (cl : Nat → Bool) (A B : Int) (N : Nat) (ps : PS) (O : Nat → Prop) (w : World) (v : Value) (e : Ending) (w' : World) : Prop := e = .returned v ∧ Upd O w w' ∧ ∃ O', EnX w0 fdb vb tb fb sb pb mb x y lo n cl A B N ps O' w' ∧ ∀ k, O' k → O k ∨ w.heap.size ≤ k
/-- a row of the call's own beside them -/
def KpE (w0 : World) (O : Nat → Prop) (w : World) (v : Value) (ys : List Int) : Prop := ∃ gb, RowV w 5 v (ucells ys) gb ∧ ∀ g, gb = some g → w0.heap.size ≤ g ∧ ¬ O g
theorem KpE.next {w0 w w' : World} {O O' : Nat → Prop} {v : Value} {ys : List Int} (h : KpE w0 O w v ys) (hU : Upd O w w') (hO : ∀ k, O' k → O k ∨ w.heap.size ≤ k) : KpE w0 O' w' v ys := by
  obtain ⟨gb, h1, h2⟩ := h
  refine ⟨gb, h1.upd hU (fun g hg => (h2 g hg).2), fun g hg => ⟨(h2 g hg).1, fun ho => ?_⟩⟩
  rcases hO g ho with ho | ho
  · exact (h2 g hg).2 ho
  · have := h1.lt g hg; omega
def EnR (w0 : World) (fdb vb tb fb sb pb mb x y lo n : Nat) (cl : Nat → Bool) (A B : Int) (N : Nat) (ps : PS) (O : Nat → Prop) (w : World) (ys : List Int) (e : Ending) (w' : World) : Prop := ∃ a cp O', e = .returned (.tuple #[.slice a ys.length cp, .int .i64 0]) ∧ KpE w0 O' w' (.slice a ys.length cp) ys ∧ Upd O w w' ∧ EnX w0 fdb vb tb fb sb pb mb x y lo n cl A B N ps O' w' ∧ ∀ k, O' k → O k ∨ w.heap.size ≤ k
section
variable {w0 w w' : World} {O : Nat → Prop} {fdb vb tb fb sb pb mb x y lo n N : Nat} {cl : Nat → Bool} {A B : Int} {ps ps' : PS}
theorem EnX.bel (h : EnX w0 fdb vb tb fb sb pb mb x y lo n cl A B N ps O w) : Below w0.heap.size w0 w := by
  obtain ⟨S, h, _⟩ := h
  exact h.bel
theorem EnX.rng (h : EnX w0 fdb vb tb fb sb pb mb x y lo n cl A B N ps O w) : ∀ k, O k → w0.heap.size ≤ k ∧ k < w.heap.size := by
  obtain ⟨S, h, _⟩ := h
  exact h.rng
theorem EnX.below (h : EnX w0 fdb vb tb fb sb pb mb x y lo n cl A B N ps O w) (hB : Below w.heap.size w w') : EnX w0 fdb vb tb fb sb pb mb x y lo n cl A B N ps O w' := by
  obtain ⟨S, h, hS⟩ := h
  exact ⟨S, h.below hB, hS⟩
theorem en_copy {j : Nat} (h : EnX w0 fdb vb tb fb sb pb mb x y 0 j (fun _ => false) A B N ps O w) (hN : N ≤ 1000) (hj : j ≤ 20) (hA : 0 ≤ A ∧ A ≤ 1000) (hB : 0 ≤ B ∧ B ≤ 1000) (k : Nat) (hk : k = j + 1) :
    Calls Tryz.prog 19 #[.pointer (some ⟨fdb, 0, none⟩), .int .i64 0, .int .i64 k] w (EnP w0 fdb vb tb fb sb pb mb x y 0 k (fun _ => false) (A + 1) (B + 1) (N + 1) ps O w (.int .i64 0)) := by
  subst hk
  obtain ⟨S, hE, hS⟩ := h
  obtain ⟨b0, g1, _⟩ := hS.pr 0 (Nat.le_refl _) (Nat.zero_le _)
  have g1 : S.pr 0 = some b0 := g1
  refine (ex_copy hE hN 0 ((j + 1 : Nat) : Int) (by decide) (wf64 _ (by omega)) (by omega) b0 g1 (hS.no _ (by omega)) (hS.few hA hB)).mono ?_
  rintro e w' ⟨b2, hb2, rfl, hU, O', hE', hO⟩
  exact ⟨rfl, hU, O', ⟨_, hE', hS.copy g1 (fun i b hi => (hE.fd.t i b hi).lt) hb2⟩, hO⟩
theorem en_close (h : EnX w0 fdb vb tb fb sb pb mb x y lo n cl A B N ps O w) (p : Nat) (hp : lo ≤ p ∧ p ≤ n) (hn : n ≤ 20) (hc : cl p = false) (hB : 2 ≤ B ∧ B ≤ 1000) :
    Calls Tryz.prog 22 #[.pointer (some ⟨fdb, 0, none⟩), .int .i64 p, .int .i64 1] w (EnP w0 fdb vb tb fb sb pb mb x y lo n (fun q => if q = p then true else cl q) A (B - 1) N ps O w (.int .i64 0)) := by
  obtain ⟨S, hE, hS⟩ := h
  obtain ⟨b, g1, g2, g3, g4⟩ := hS.pr p hp.1 hp.2
  rw [hc] at g3
  simp only [Bool.false_eq_true, if_false] at g3
  refine (ex_close hE p (wf64 p (by omega)) b g1 1 y (by omega) g3 _ hS.ty (by show 2 ≤ B ∧ B ≤ 100000; omega)).mono ?_
  rintro e w' ⟨rfl, hU, O', hE', hO⟩
  exact ⟨rfl, hU, O', ⟨_, hE', hS.close hp g1⟩, hO⟩
theorem en_closel (h : EnX w0 fdb vb tb fb sb pb mb x y lo n cl A 1 N ps O w) (hmc : 0 < w0.heap.size) (p : Nat) (hp : lo ≤ p ∧ p ≤ n) (hn : n ≤ 20) (hc : cl p = false) (hpos : ∀ i p, ps i = some p → 0 ≤ p.rd ∧ 0 ≤ p.wt ∧ p.rd ≤ 100000 ∧ p.wt ≤ 100000) (hr : pcloseF ps 0 true = (0, ps')) :
    Calls Tryz.prog 22 #[.pointer (some ⟨fdb, 0, none⟩), .int .i64 p, .int .i64 1] w (EnP w0 fdb vb tb fb sb pb mb x y lo n (fun q => if q = p then true else cl q) A (1 - 1) N ps' O w (.int .i64 0)) := by
  obtain ⟨S, hE, hS⟩ := h
  obtain ⟨b, g1, g2, g3, g4⟩ := hS.pr p hp.1 hp.2
  rw [hc] at g3
  simp only [Bool.false_eq_true, if_false] at g3
  refine (kp_close hE hmc p (wf64 p (by omega)) b g1 1 y (by omega) g3 _ hS.ty ⟨Int.le_refl _, Int.le_refl _⟩ rfl hpos 0 hr).mono ?_
  rintro e w' ⟨rfl, hU, O', hE', hO⟩
  exact ⟨rfl, hU, O', ⟨_, hE', hS.close hp g1⟩, hO⟩
theorem en_read (h : EnX w0 fdb vb tb fb sb pb mb x y lo n cl A B N ps O w) (hmc : 0 < w0.heap.size) (p : Nat) (hp : lo ≤ p ∧ p ≤ n) (hn : n ≤ 20) (m : Int) (hm : m ≤ 1000) (ys : List Int) (hr : preadF ps 0 m = (ys, 0, ps')) :
    Calls Tryz.prog 17 #[.pointer (some ⟨fdb, 0, none⟩), .int .i64 p, .int .i64 0, .int .i64 m] w (EnR w0 fdb vb tb fb sb pb mb x y lo n cl A B N ps' O w ys) := by
  obtain ⟨S, hE, hS⟩ := h
  obtain ⟨b, g1, g2, g3, g4⟩ := hS.pr p hp.1 hp.2
  refine (kp_rd hE hmc p (wf64 p (by omega)) b g1 0 x (by omega) g2 _ hS.tx rfl rfl m (by omega) ys 0 hr).mono ?_
  rintro e w' ⟨a, cp, gb, O', rfl, hR, hg, hU, hE', hO⟩
  have hz := hE.bel.size
  exact ⟨a, cp, O', rfl, ⟨gb, hR, fun g hgb => ⟨Nat.le_trans hz (hg g hgb).1, (hg g hgb).2⟩⟩, hU, ⟨S, hE', hS⟩, hO⟩
theorem en_write (h : EnX w0 fdb vb tb fb sb pb mb x y lo n cl A B N ps O w) (hmc : 0 < w0.heap.size) (p : Nat) (hp : lo ≤ p ∧ p ≤ n) (hn : n ≤ 20) (hc : cl p = false) (bs : List Int) (m cp : Nat) (a : Option Addr) (hm : bs.length = m) (hv : SrcF O w (.slice a m cp) bs) (hr : pwriteF ps 0 bs = (0, ps')) :
    Calls Tryz.prog 16 #[.pointer (some ⟨fdb, 0, none⟩), .int .i64 p, .int .i64 1, .slice a m cp] w (EnP w0 fdb vb tb fb sb pb mb x y lo n cl A B N ps' O w (.tuple #[.int .i64 m, .int .i64 0])) := by
  obtain ⟨S, hE, hS⟩ := h
  obtain ⟨b, g1, g2, g3, g4⟩ := hS.pr p hp.1 hp.2
  rw [hc] at g3
  simp only [Bool.false_eq_true, if_false] at g3
  refine (kp_wr hE hmc p (wf64 p (by omega)) b g1 1 y (by omega) g3 _ hS.ty rfl rfl bs m cp a hm hv hr).mono ?_
  rintro e w' ⟨rfl, hU, O', hE', hO⟩
  exact ⟨rfl, hU, O', ⟨S, hE', hS⟩, hO⟩
theorem en_leave (h : EnX w0 fdb vb tb fb sb pb mb x y lo n cl A B N ps O w) (hl : lo ≤ n) (hn : n ≤ 20) (hc : cl lo = true) (hA : 2 ≤ A ∧ A ≤ 1000) :
    Calls Tryz.prog 31 #[.pointer (some ⟨fdb, 0, none⟩), .int .i64 lo] w (EnP w0 fdb vb tb fb sb pb mb x y (lo + 1) n cl (A - 1) B N ps O w (.int .i64 0)) := by
  obtain ⟨S, hE, hS⟩ := h
  obtain ⟨b, g1, g2, g3, g4⟩ := hS.pr lo (Nat.le_refl _) hl
  rw [hc, if_pos rfl] at g3
  refine (ex_leave (S' := (S.setsl b 0 none).setth x ⟨true, false, 0, 0, false, A - 1⟩) hE lo (wf64 lo (by omega)) b g1 0 (used_one g2 g3 g4) 0 g1 (fun W hB => ex_close (hE.below hB) lo (wf64 lo (by omega)) b g1 0 x (by omega) g2 _ hS.tx (by show 2 ≤ A ∧ A ≤ 100000; omega))).mono ?_
  rintro e w' ⟨rfl, hU, O', hE', hO⟩
  exact ⟨rfl, hU, O', ⟨_, hE', hS.leave g1⟩, hO⟩
theorem en_leavel (h : EnX w0 fdb vb tb fb sb pb mb x y lo n cl 1 B N ps O w) (hmc : 0 < w0.heap.size) (hl : lo ≤ n) (hn : n ≤ 20) (hc : cl lo = true) (hpos : ∀ i p, ps i = some p → 0 ≤ p.rd ∧ 0 ≤ p.wt ∧ p.rd ≤ 100000 ∧ p.wt ≤ 100000) (hr : pcloseF ps 0 false = (0, ps')) :
    Calls Tryz.prog 31 #[.pointer (some ⟨fdb, 0, none⟩), .int .i64 lo] w (EnP w0 fdb vb tb fb sb pb mb x y (lo + 1) n cl (1 - 1) B N ps' O w (.int .i64 0)) := by
  obtain ⟨S, hE, hS⟩ := h
  obtain ⟨b, g1, g2, g3, g4⟩ := hS.pr lo (Nat.le_refl _) hl
  rw [hc, if_pos rfl] at g3
  refine (ex_leave (S' := (S.setsl b 0 none).setth x ⟨true, false, 0, 0, false, 1 - 1⟩) hE lo (wf64 lo (by omega)) b g1 0 (used_one g2 g3 g4) 0 g1 (fun W hB => kp_close (hE.below hB) hmc lo (wf64 lo (by omega)) b g1 0 x (by omega) g2 _ hS.tx ⟨Int.le_refl _, Int.le_refl _⟩ rfl hpos 0 hr)).mono ?_
  rintro e w' ⟨rfl, hU, O', hE', hO⟩
  exact ⟨rfl, hU, O', ⟨_, hE', hS.leave g1⟩, hO⟩
theorem en_free (h : EnX w0 fdb vb tb fb sb pb mb x y lo n cl A B N ps00 O w) :
    Calls Tryz.prog 25 #[.pointer (some ⟨fb, 0, none⟩)] w fun e w' => e = .returned (.int .i64 10) ∧ Below w.heap.size w w' := by
  obtain ⟨S, hE, hS⟩ := h
  exact ex_free hE 10 (by rw [used_ns0]; rfl)
/-- the bytes lent: not theirs -/
theorem ArgB.srcE {v : Value} {b : List Int} (h : ArgB w0 v b) (hD : EnX w0 fdb vb tb fb sb pb mb x y lo n cl A B N ps O w) : SrcF O w v b := by
  obtain ⟨a, cp, rfl, h1, h2⟩ := h
  refine ⟨a, cp, rfl, h1, fun hp => ?_⟩
  obtain ⟨g, q, rfl, h3, h4⟩ := h2 hp
  exact ⟨g, q, rfl, rdv_far h3 h4 hD.bel, fun ho => by have := (hD.rng g ho).1; omega, Nat.lt_of_lt_of_le h4 hD.bel.size⟩
end
end Go.Proofs.YtaldahogjlokkaaGreatDoor
/-
  FdEnds: its walk.
-/
namespace Go.Proofs.YtaldahogjlokkaaGreatDoor
set_option linter.unusedSimpArgs false
set_option linter.unusedVariables false
open Go.RowKit Own RegJ Two
open Go.Lib hiding intOf

theorem awake_e (w : World) (hm : MC w) : Calls Tryz.prog 10 #[] w fun e w' => e = .returned (.bool true) ∧ Below w.heap.size w w' := @k_awake (capOf 10) w hm rfl
section
variable {w0 w w' : World} {O : Nat → Prop} {fdb vb tb fb sb pb mb : Nat}
theorem en_start (hmc : 0 < w0.heap.size) {b0 : Nat} (h : EX 10 w0 O fdb vb tb fb sb pb mb ns0 0 1 0 (fs00.start 0 b0) ps00 w) :
    Calls Tryz.prog 30 #[.pointer (some ⟨fdb, 0, none⟩), .int .i64 0] w fun e w' => ∃ x y O', e = .returned (.tuple #[.int .i64 1, .int .i64 0]) ∧ Upd O w w' ∧ EnX w0 fdb vb tb fb sb pb mb x y 0 0 (fun _ => false) 1 1 1 (psB [] 1) O' w' ∧ ∀ k, O' k → O k ∨ w.heap.size ≤ k := by
  have hb : (fs00.start 0 b0).pr 0 = some b0 := start_pr _ _ _
  have hs : ∀ d, (fs00.start 0 b0).sl b0 d = none := fun d => start_sl _ _ _ _
  refine (k_pipe h hmc (by omega) 0 (by decide) b0 hb 0 1 _ (by omega) (by omega) (free_all hs) 0 (by rw [used_ns0]; exact pe_make)).mono ?_
  rintro e w' ⟨x, y, hx, hy, hxy, rfl, hU, O', hE, hO⟩
  exact ⟨x, y, O', rfl, hU, ⟨_, hE, Es.first (fun q => rfl) hs (fun z => rfl) hxy⟩, hO⟩
end
theorem KpE.rdu {w0 w : World} {O : Nat → Prop} {v : Value} {ys : List Int} (h : KpE w0 O w v ys) : RdU w v ys := by
  obtain ⟨gb, h1, _⟩ := h
  exact RdU.of h1
theorem KpE.below {w0 w w' : World} {O : Nat → Prop} {v : Value} {ys : List Int} (h : KpE w0 O w v ys) (hB : Below w.heap.size w w') : KpE w0 O w' v ys := by
  obtain ⟨gb, h1, h2⟩ := h
  exact ⟨gb, h1.below hB, h2⟩
set_option maxRecDepth 100000 in
set_option maxHeartbeats 8000000 in
theorem ends_v (v : Value) (b : List Int) (copies : Int) (w : World) (hv : ArgB w v b) (hm : b.length ≤ maxLen) (m0 : Int) (hm0 : w.cell? ⟨0, 0, none⟩ = some (.int .i64 m0)) :
    Calls Tryz.prog 8 #[v, .int .i64 copies] w fun e w' => e = .returned (.bool true) ∧ Below w.heap.size w w' := by
  have hm9 := hm
  unfold maxLen at hm
  obtain ⟨a, c, rfl, hc, hrd⟩ := hv
  obtain ⟨bl, hbl⟩ : ∃ bl, b.length = bl := ⟨_, rfl⟩
  have hV := Lib.hid (And.intro (show ArgB w (.slice a b.length c) b from ⟨a, c, rfl, hc, hrd⟩) hm9)
  rw [hbl] at hV hm ⊢
  have hMC : MC w := ⟨m0, hm0⟩
  by_cases h5 : 64 < bl
  · have d1 : decide ((bl : Int) > 64) = true := by simp; omega
    have haw := awake_e w hMC
    clear hc hrd hbl h5 hm0
    go_enter Tryz.func8, Tryz.ntmps8
    go_wp2_with (go_at_call 10; refine haw.mono ?_; rintro e w2 ⟨rfl, hb2⟩; have H2 := Lib.hid hb2; clear hb2)
    go_ret
    exact ⟨rfl, H2.out⟩
  have d1 : decide ((bl : Int) > 64) = false := by simp; omega
  have hb := both_e w hMC
  obtain ⟨q, hq⟩ : ∃ q : Nat, lowF copies 3 = q := ⟨(lowF copies 3).toNat, by have := (low_bd copies 3 (by omega)).1; omega⟩
  have hq3 : q < 3 := by have := (low_bd copies 3 (by omega)).2; omega
  have HE := Lib.hid (And.intro (show bl ≤ 64 by omega) (And.intro hbl (And.intro hMC (And.intro hMC.lt hq))))
  clear hc hrd hbl h5 hm0 hMC hq hm hm9
  go_enter Tryz.func8, Tryz.ntmps8
  go_wp2_with (first
    | (go_at_call 11; go_loud (refine hb.mono ?_; rintro e w1 ⟨fdb, vb, tb, fb, sb, pb, mb, k1, k2, O1, rfl, hD1⟩; have a1 := ex_start hD1 (by omega) 0 (by decide) (by omega) rfl; clear hb hD1))
    | (go_at_call 12; go_loud (refine a1.mono ?_; rintro e w2 ⟨tb1, -, rfl, -, O2, hD2, -⟩; have a2 := ex_free hD2 10 (by rw [used_ns0]; rfl); have H2 := Lib.hid hD2; clear a1 hD2))
    | (go_at_call 25; go_loud (refine a2.mono ?_; rintro e w3 ⟨rfl, hB3⟩; have a3 := en_start HE.out.2.2.2.1 (H2.out.below hB3); clear a2 hB3 H2))
    | (go_at_call 30; go_loud (refine a3.mono ?_; rintro e w4 ⟨x, y, O4, rfl, -, hE4, -⟩; have H4 := Lib.hid hE4; clear a3 hE4))
    | (go_at_call 15; (with_reducible refine (low_any copies 3 (by omega) (by omega) _).mono ?_); rw [HE.out.2.2.2.2]; rintro e w6 ⟨rfl, rfl⟩; skip))
  go_loopw [13] (fun v13 wr => ∃ k : Nat, 1 ≤ k ∧ k ≤ q + 2 ∧ v13 = .int .i64 k ∧ Hid (∃ (j : Nat) (A B : Int) (O : Nat → Prop), k = j + 1 ∧ A = (j : Int) + 1 ∧ B = (j : Int) + 1 ∧ EnX w fdb vb tb fb sb pb mb x y 0 j (fun _ => false) A B (j + 1) (psB [] 1) O wr)) (fun v13 _ => q + 3 - (intOf v13).toNat)
  case atStart => exact ⟨1, by omega, by omega, rfl, Lib.hid ⟨0, 1, 1, _, rfl, rfl, rfl, H4.out⟩⟩
  case round =>
    obtain ⟨k, hk1, hk2, rfl, hR⟩ := hrel
    by_cases hlt : k < q + 2
    · obtain ⟨j, A, B, O5, ej, eA, eB, hE5⟩ := hR.out
      have hcp := en_copy hE5 (by omega) (by omega) (by omega) (by omega) k ej
      have d2 : decide ((k : Int) ≤ 1 + (q : Int)) = true := by simp; omega
      have i1 : (k : Int) ≤ 10 := by omega
      have i2 : (0 : Int) ≤ k := by omega
      have HJ := Lib.hid (And.intro ej (And.intro eA eB))
      clear hR hE5 ej eA eB H4
      go_wp2_with (go_at_call 19; refine hcp.mono ?_; rintro e w5 ⟨rfl, -, O6, hE6, -⟩; have H6 := Lib.hid hE6; clear hcp hE6)
      go_roundw
      case rel =>
        obtain ⟨ej, eA, eB⟩ := HJ.out
        have hE6 := H6.out
        rw [show j + 1 + 1 = k + 1 by omega] at hE6
        exact ⟨k + 1, by omega, by omega, by go_num, Lib.hid ⟨k, A + 1, B + 1, O6, rfl, by omega, by omega, hE6⟩⟩
      case measure => simp [intOf] <;> omega
    · obtain ⟨j, A, B, O5, ej, eA, eB, hE5⟩ := hR.out
      have d2 : decide ((k : Int) ≤ 1 + (q : Int)) = false := by simp; omega
      obtain rfl : j = q + 1 := by omega
      have hwr := en_write hE5 HE.out.2.2.2.1 0 (by omega) (by omega) rfl b bl c a HE.out.2.1 (hV.out.1.srcE hE5) (pe_write b (by have := HE.out.1; have := HE.out.2.1; omega))
      have HJ := Lib.hid (And.intro eA eB)
      clear hR hE5 ej eA eB H4 hlt
      go_wp2_with (go_at_call 16; go_loud (refine hwr.mono ?_; rintro e w5 ⟨rfl, -, O6, hE6, -⟩; have H6 := Lib.hid hE6; clear hwr hE6))
      go_loopw [16] (fun v16 wq => ∃ k : Nat, 1 ≤ k ∧ k ≤ q + 2 ∧ v16 = .int .i64 k ∧ Hid (∃ (cl : Nat → Bool) (B : Int) (O : Nat → Prop), (∀ p, cl p = decide (1 ≤ p ∧ p < k)) ∧ B = (q : Int) + 3 - k ∧ EnX w fdb vb tb fb sb pb mb x y 0 (q + 1) cl A B (q + 2) (psB b 1) O wq)) (fun v16 _ => q + 3 - (intOf v16).toNat)
      case atStart => exact ⟨1, by omega, by omega, rfl, Lib.hid ⟨_, B, _, (fun p => by simp; omega), by have := HJ.out.2; omega, H6.out⟩⟩
      case round =>
        obtain ⟨k, hk1, hk2, rfl, hR⟩ := hrel
        by_cases hlt : k < q + 2
        · obtain ⟨cl, B2, O7, hcl, eB2, hE7⟩ := hR.out
          have hrd := en_read hE7 HE.out.2.2.2.1 k (by omega) (by omega) 0 (by omega) [] (pe_read0 b)
          have hclk : cl k = false := by rw [hcl]; simp
          have hclo := fun (O8 : Nat → Prop) w8 (hE8 : EnX w fdb vb tb fb sb pb mb x y 0 (q + 1) cl A B2 (q + 2) (psB b 1) O8 w8) => en_close hE8 k (by omega) (by omega) hclk (by omega)
          have d2 : decide ((k : Int) ≤ 1 + (q : Int)) = true := by simp; omega
          have i1 : (k : Int) ≤ 10 := by omega
          have i2 : (0 : Int) ≤ k := by omega
          have HK := Lib.hid (And.intro hcl eB2)
          clear hR hE7 hcl eB2 hclk H6
          go_wp2_with (first
            | (go_at_call 17; go_loud (refine hrd.mono ?_; rintro e w7 ⟨ra, rc, O8, rfl, -, -, hE8, -⟩; have hcl2 := hclo _ _ hE8; clear hrd hE8 hclo))
            | (go_at_call 22; go_loud (refine hcl2.mono ?_; rintro e w8 ⟨rfl, -, O9, hE9, -⟩; have H9 := Lib.hid hE9; clear hcl2 hE9)))
          go_roundw
          case rel =>
            obtain ⟨hcl, eB2⟩ := HK.out
            exact ⟨k + 1, by omega, by omega, by go_num, Lib.hid ⟨_, B2 - 1, O9, (fun p => by
              show (if p = k then true else cl p) = _
              rw [hcl]
              by_cases e : p = k
              · rw [if_pos e, e]; simp; omega
              · rw [if_neg e]; congr 1; apply propext; omega), by omega, H9.out⟩⟩
          case measure => simp [intOf] <;> omega
        · obtain ⟨cl, B2, O7, hcl, eB2, hE7⟩ := hR.out
          have d2 : decide ((k : Int) ≤ 1 + (q : Int)) = false := by simp; omega
          obtain rfl : k = q + 2 := by omega
          obtain rfl : B2 = 1 := by omega
          have hcw := en_closel hE7 HE.out.2.2.2.1 0 (by omega) (by omega) (by rw [hcl]; simp) (psB_pos b 1 (by omega)) (pe_closew b)
          have HK := Lib.hid hcl
          clear hR hE7 hcl eB2 H6 hlt
          go_wp2_with (first
            | (go_at_call 22; go_loud (refine hcw.mono ?_; rintro e w7 ⟨rfl, -, O8, hE8, -⟩; have hr1 := en_read hE8 HE.out.2.2.2.1 1 (by omega) (by omega) 100 (by omega) b (pe_readall b (by have := HE.out.1; have := HE.out.2.1; omega)); clear hcw hE8))
            | (go_at_call 17; refine hr1.mono ?_; rintro e w8 ⟨ra1, rc1, O9, rfl, hK, -, hE9, -⟩; have K1 := Lib.hid hK; have hr2 := en_read hE9 HE.out.2.2.2.1 0 (by omega) (by omega) 100 (by omega) [] pe_readend; clear hr1 hE9 hK)
            | (go_at_call 17; refine hr2.mono ?_; rintro e w9 ⟨ra2, rc2, O10, rfl, -, hU, hE10, hO⟩; have q1 := K1.out.next hU hO; clear K1; have K1 := Lib.hid (And.intro q1 hE10); clear hr2 hE10 q1 hU hO))
          go_loopw [24] (fun v24 wq => ∃ l : Nat, l ≤ q + 2 ∧ v24 = .int .i64 l ∧ Hid (∃ (cl : Nat → Bool) (A B : Int) (ps : PS) (O : Nat → Prop), (∀ p, p < q + 2 → cl p = true) ∧ A = (q : Int) + 2 - l ∧ (l ≤ q + 1 → ps = psB [] 0) ∧ (l = q + 2 → ps = ps00) ∧ KpE w O wq (.slice ra1 b.length rc1) b ∧ EnX w fdb vb tb fb sb pb mb x y l (q + 1) cl A B (q + 2) ps O wq)) (fun v24 _ => q + 3 - (intOf v24).toNat)
          case atStart => exact ⟨0, by omega, rfl, Lib.hid ⟨_, A, _, psB [] 0, O10, (fun p hp => by
              show (if p = 0 then true else cl p) = true
              rw [HK.out]
              by_cases e : p = 0
              · rw [if_pos e]
              · rw [if_neg e]; simp; omega), by have := HJ.out.1; omega, fun _ => rfl, fun h => by omega, K1.out.1, K1.out.2⟩⟩
          case round =>
            obtain ⟨l, hl, rfl, hR⟩ := hrel
            by_cases hlt : l < q + 2
            · obtain ⟨cl3, A3, B3, ps3, O3, hcl3, eA3, hp1, hp2, hK3, hE3⟩ := hR.out
              obtain rfl := hp1 (by omega)
              have hlv : Calls Tryz.prog 31 #[.pointer (some ⟨fdb, 0, none⟩), .int .i64 l] wr (fun e w' => ∃ ps4 v, EnP w fdb vb tb fb sb pb mb x y (l + 1) (q + 1) cl3 (A3 - 1) B3 (q + 2) ps4 O3 wr v e w' ∧ (l + 1 ≤ q + 1 → ps4 = psB [] 0) ∧ (l + 1 = q + 2 → ps4 = ps00)) := by
                by_cases e : l = q + 1
                · obtain rfl : A3 = 1 := by omega
                  exact (en_leavel hE3 HE.out.2.2.2.1 (by omega) (by omega) (hcl3 l (by omega)) (psB_pos [] 0 (by omega)) pe_closer).mono (fun e w' h => ⟨ps00, _, h, fun h => by omega, fun _ => rfl⟩)
                · exact (en_leave hE3 (by omega) (by omega) (hcl3 l (by omega)) (by omega)).mono (fun e w' h => ⟨psB [] 0, _, h, fun _ => rfl, fun h => by omega⟩)
              have d2 : decide ((l : Int) ≤ 1 + (q : Int)) = true := by simp; omega
              have i1 : (l : Int) ≤ 10 := by omega
              have i2 : (0 : Int) ≤ l := by omega
              have HK3 := Lib.hid (And.intro hcl3 (And.intro eA3 hK3))
              clear hR hE3 hcl3 eA3 hK3 K1 hp1 hp2
              go_wp2_with (go_at_call 31; refine hlv.mono ?_; rintro e w8 ⟨ps4, v4, hP, hq1, hq2⟩; obtain rfl := hP.1; have H8 := Lib.hid (And.intro hP (And.intro hq1 hq2)); clear hlv hP hq1 hq2)
              go_roundw
              case rel =>
                obtain ⟨hcl3, eA3, hK3⟩ := HK3.out
                obtain ⟨⟨-, hU, O9, hE9, hO⟩, hq1, hq2⟩ := H8.out
                exact ⟨l + 1, by omega, by go_num, Lib.hid ⟨cl3, A3 - 1, B3, ps4, O9, hcl3, by omega, hq1, hq2, hK3.next hU hO, hE9⟩⟩
              case measure => simp [intOf] <;> omega
            · obtain ⟨cl3, A3, B3, ps3, O3, hcl3, eA3, hp1, hp2, hK3, hE3⟩ := hR.out
              obtain rfl := hp2 (by omega)
              have d2 : decide ((l : Int) ≤ 1 + (q : Int)) = false := by simp; omega
              have hfr := fun W (hB : Below wr.heap.size wr W) => en_free (hE3.below hB)
              have hsm := sameB_any hK3.rdu (hV.out.1.rdu (by rw [HE.out.2.1]; exact hV.out.2) hE3.bel) true (by simp)
              have HB := Lib.hid hE3.bel
              clear hR hE3 hcl3 eA3 hK3 K1 hp1 hp2
              go_wp2_with (first
                | (go_at_call 18; go_loud (refine hsm.mono ?_; rintro e w11 ⟨rfl, q11, rfl⟩; have hf2 := hfr _ (Below.drewN wr q11); clear hsm hfr))
                | (go_at_call 25; go_loud (refine hf2.mono ?_; rintro e w12 ⟨rfl, hB12⟩; have hB := HB.out.trans (((Below.drewN wr q11).trans (hB12.mono (Below.drewN wr q11).size)).mono HB.out.size); have haw := awake_e w12 (MC.below HE.out.2.2.1 hB); have H12 := Lib.hid hB; clear hf2 hB12 hB))
                | (go_at_call 10; go_loud (refine haw.mono ?_; rintro e w13 ⟨rfl, hb2⟩; have H13 := Lib.hid (H12.out.trans (hb2.mono H12.out.size)); clear haw hb2 H12)))
              go_ret
              exact ⟨rfl, H13.out⟩
end Go.Proofs.YtaldahogjlokkaaGreatDoor
