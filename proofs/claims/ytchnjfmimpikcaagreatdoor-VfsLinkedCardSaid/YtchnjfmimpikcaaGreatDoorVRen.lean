/-
  VfsRenamed: what each call answers at its states (plain), and the walk.
-/
import Derived.Test.YtchnjfmimpikcaaGreatDoorVOpD
import Derived.Test.YtchnjfmimpikcaaGreatDoorVSta
import Derived.Test.YtchnjfmimpikcaaGreatDoorSameB
import Derived.Test.YtchnjfmimpikcaaGreatDoorQF0
namespace Go.Proofs.YtchnjfmimpikcaaGreatDoor
set_option linter.unusedSimpArgs false
set_option linter.unusedVariables false
open Go.RowKit Own RegJ Two
open Go.Lib hiding intOf

/-! ### one name below the root -/
theorem one_split {x : Txt} (h : nameE x = 0) : splitE (47 :: x) = 0 ∧ splitL (47 :: x) = [x] := by
  have he : everyE [x] = 0 := every_mk (by unfold firstE; rw [if_pos h]; rfl) (by simp)
  have := join_split he
  unfold joinT at this
  rw [if_neg (by simp)] at this
  simpa using this
theorem one_par {x : Txt} (h : nameE x = 0) : parE (47 :: x) = 0 ∧ parD (47 :: x) = [47] ∧ parN (47 :: x) = x := by
  obtain ⟨h1, h2⟩ := one_split h
  have hp : parE (47 :: x) = 0 := by unfold parE; rw [if_pos h1, if_neg (by rw [h2]; simp)]
  refine ⟨hp, ?_, ?_⟩
  · unfold parD; rw [if_pos hp, h2]; rfl
  · unfold parN; rw [if_pos hp, h2]; rfl
theorem walkR_root (ns : NSt) : walkR ns [47] = (0, 0) := by
  unfold walkR; rw [if_pos splitL_slash.1, splitL_slash.2]; rfl
theorem one_walk {x : Txt} (h : nameE x = 0) (ns : NSt) : walkR ns (47 :: x) = if (findR ns 0 x).2 = 0 then ((findR ns 0 x).1, 0) else (0, (findR ns 0 x).2) := by
  obtain ⟨h1, h2⟩ := one_split h
  unfold walkR; rw [if_pos h1, h2]
  unfold walkL; split <;> rfl
theorem one_parE {x : Txt} (h : nameE x = 0) (ns : NSt) : parEr ns (47 :: x) = 0 ∧ parDi ns (47 :: x) = 0 := by
  obtain ⟨h1, h2, h3⟩ := one_par h
  unfold parEr parDi
  rw [if_pos h1, h2, walkR_root]
  exact ⟨rfl, rfl⟩
/-- the states: a root with these entries, one file -/
def nsR (l : Int) (es : List En) (b : List Int) : NSt := fun j => if j = 0 then some ⟨true, 0, 0, es, []⟩ else if j = 1 then some ⟨false, l, 1, [], b⟩ else none
theorem nsR_far (l : Int) (es : List En) (b : List Int) : ∀ j, 16 ≤ j → nsR l es b j = none := fun j hj => by
  unfold nsR; rw [if_neg (by omega), if_neg (by omega)]
theorem ndAt0 (ns : NSt) : ndAt ns 0 = ns 0 := rfl
theorem dirR (l : Int) (es : List En) (b : List Int) : dirAt (nsR l es b) 0 = some ⟨true, 0, 0, es, []⟩ := rfl
theorem dir0 : dirAt ns0 0 = some ⟨true, 0, 0, [], []⟩ := rfl
theorem put_nsR (l l' : Int) (es es' : List En) (b b' : List Int) : nsPut (nsPut (nsR l es b) 0 (some ⟨true, 0, 0, es', []⟩)) 1 (some ⟨false, l', 1, [], b'⟩) = nsR l' es' b' := by
  funext j; unfold nsPut nsR
  by_cases h1 : j = 1
  · subst h1; simp
  · rw [if_neg h1, if_neg h1]
    by_cases h0 : j = 0
    · subst h0; simp
    · rw [if_neg h0, if_neg h0, if_neg h0, if_neg h1]
theorem put_one (l l' : Int) (es : List En) (b b' : List Int) : nsPut (nsR l es b) 1 (some ⟨false, l', 1, [], b'⟩) = nsR l' es b' := by
  funext j; unfold nsPut nsR
  by_cases h1 : j = 1
  · subst h1; simp
  · rw [if_neg h1]
    simp only [if_neg h1]
theorem put_root (l : Int) (es es' : List En) (b : List Int) : nsPut (nsR l es b) 0 (some ⟨true, 0, 0, es', []⟩) = nsR l es' b := by
  funext j; unfold nsPut nsR
  by_cases h0 : j = 0
  · subst h0; simp
  · simp only [if_neg h0]
section
variable {x y : Txt}
theorem find_one (hx : nameE x = 0) (l : Int) (b : List Int) (z : Txt) : findR (nsR l [(x, 1)] b) 0 z = if x = z then (1, 0) else (0, 9) := by
  unfold findR; rw [dirR]
  simp only [fndE]
  by_cases h : x = z
  · rw [if_pos h]; simp [h]
  · rw [if_neg h]; simp [h]
theorem rn1 (hx : nameE x = 0) : walkR ns0 (47 :: x) = (0, 9) := by rw [one_walk hx]; rfl
theorem ent_new (hx : nameE x = 0) (ns : NSt) (id : Int) (h0 : id ≠ 0) (hn : ndAt ns id ≠ none) (es : List En) (j : Nat) (hA : isAt es x j = false) (hl : es.length ≠ 8) : entR ns es j x id = 0 := by
  unfold entR
  rw [if_neg (by rw [hx]; simp), if_neg (fun h => h.elim h0 hn), if_neg (by rw [hA]; simp), if_neg hl]
theorem rn2 (hx : nameE x = 0) : openF ns0 (47 :: x) 1 = (1, 0, nsR 1 [(x, 1)] []) := by
  unfold openF
  rw [if_neg (by omega), if_pos ⟨by rw [rn1 hx], by decide⟩]
  unfold newF
  obtain ⟨h1, h2⟩ := one_parE hx ns0
  rw [if_pos h1, h2, (one_par hx).2.2]
  unfold madeF
  rw [dir0]
  have hf : freeF ns0 = some 1 := by decide +kernel
  rw [hf]
  simp only
  have hns : nsPut ns0 1 (some ⟨false, 0, 1, [], []⟩) = nsR 0 [] [] := by
    funext j; unfold nsPut nsR ns0
    by_cases h1 : j = 1
    · subst h1; simp
    · rw [if_neg h1, if_neg h1]
  rw [hns]
  have he : entF (nsR 0 [] []) (Int.toNat 0) ⟨true, 0, 0, [], []⟩ x ((1 : Nat) : Int) = (0, nsR 1 [(x, 1)] []) := by
    have h0 := ent_new hx (nsR 0 [] []) 1 (by omega) (by simp [ndAt, nsR]) [] (plc [] x) (by simp [plc, isAt]) (by simp)
    unfold entF
    rw [show ((1 : Nat) : Int) = 1 from rfl, if_pos h0]
    have e2 : insE ([] : List En) (plc [] x) (x, (1 : Int)) = [(x, 1)] := by unfold insE; simp
    rw [show ((⟨true, 0, 0, [], []⟩ : Nd)).es = [] from rfl, e2]
    have e3 : nsPut (nsR 0 [] []) (Int.toNat 0) (some (setEs ⟨true, 0, 0, [], []⟩ [(x, 1)])) = nsR 0 [(x, 1)] [] := put_root 0 [] [(x, 1)] []
    unfold nsEnt
    rw [e3]
    have e4 : nsR 0 [(x, 1)] [] (Int.toNat 1) = some ⟨false, 0, 1, [], []⟩ := rfl
    rw [e4]
    simp only
    have e5 : nsPut (nsR 0 [(x, 1)] []) (Int.toNat 1) (some (addL ⟨false, 0, 1, [], []⟩ 1)) = nsR 1 [(x, 1)] [] := put_one 0 1 [(x, 1)] [] []
    rw [e5]
  rw [he]
  rfl
theorem rn3 (F : Nat) (hF : 8 ≤ F) (b : List Int) (hb : b.length ≤ 512) : wrF (nsR 1 [(x, 1)] []) F 1 0 b = (0, nsR 1 [(x, 1)] b) := by
  have h1 : ndAt (nsR 1 [(x, 1)] []) 1 = some ⟨false, 1, 1, [], []⟩ := rfl
  have hu : usedN (filesOf (nsR 1 [(x, 1)] [])) 16 = 0 := rfl
  have hw : writeB [] 0 b = b := by unfold writeB extB spl; simp
  unfold wrF
  rw [h1]
  simp only [Bool.false_eq_true, if_false]
  rw [if_neg (by omega)]
  by_cases h2 : b.length = 0
  · rw [if_pos h2]
    obtain rfl : b = [] := List.eq_nil_of_length_eq_zero h2
    rfl
  · rw [if_neg h2, if_neg (by omega), hu]
    rw [if_neg (by simp; omega)]
    have e : writeB [] (Int.toNat 0) b = b := hw
    rw [e]
    exact congrArg (Prod.mk 0) (put_one 1 1 [(x, 1)] [] b)
/-- where the other name stands -/
def es2 (x y : Txt) : List En := insE [(x, 1)] (plc [(x, 1)] y) (y, 1)
theorem es2_is (x y : Txt) : es2 x y = [(y, 1), (x, 1)] ∨ es2 x y = [(x, 1), (y, 1)] := by
  unfold es2 insE plc
  by_cases h : nlt x y = true
  · right; simp [List.findIdx_cons, h]
  · left; simp at h; simp [List.findIdx_cons, h]
theorem isAt_one (hxy : x ≠ y) : isAt [(x, (1 : Int))] y (plc [(x, 1)] y) = false := by
  unfold isAt plc
  by_cases h : nlt x y = true
  · simp [List.findIdx_cons, h]
  · simp at h; simp [List.findIdx_cons, h, hxy]
theorem rn4 (hx : nameE x = 0) (hy : nameE y = 0) (hxy : x ≠ y) (b : List Int) : linkF (nsR 1 [(x, 1)] b) (47 :: x) (47 :: y) = (0, nsR 2 (es2 x y) b) := by
  have hw : walkR (nsR 1 [(x, 1)] b) (47 :: x) = (1, 0) := by
    rw [one_walk hx, find_one hx, if_pos rfl]; rfl
  unfold linkF
  rw [hw]
  rw [if_neg (by simp), if_neg (by show ¬ isDirF _ 1 = true; simp [isDirF, ndAt, nsR])]
  unfold atPar
  obtain ⟨h1, h2⟩ := one_parE hy (nsR 1 [(x, 1)] b)
  rw [if_pos h1, h2, (one_par hy).2.2]
  show linkE (nsR 1 [(x, 1)] b) 0 y 1 = _
  unfold linkE
  rw [dirR]
  simp only
  have h0 := ent_new hy (nsR 1 [(x, 1)] b) 1 (by omega) (by simp [ndAt, nsR]) [(x, 1)] (plc [(x, 1)] y) (isAt_one hxy) (by simp)
  unfold entF
  rw [if_pos h0]
  have e3 : nsPut (nsR 1 [(x, 1)] b) (Int.toNat 0) (some (setEs ⟨true, 0, 0, [(x, 1)], []⟩ (es2 x y))) = nsR 1 (es2 x y) b := put_root 1 [(x, 1)] (es2 x y) b
  show (_, nsEnt (nsR 1 [(x, 1)] b) (Int.toNat 0) ⟨true, 0, 0, [(x, 1)], []⟩ (es2 x y) 1) = _
  unfold nsEnt
  rw [e3]
  have e4 : nsR 1 (es2 x y) b (Int.toNat 1) = some ⟨false, 1, 1, [], b⟩ := rfl
  rw [e4]
  simp only
  exact congrArg (Prod.mk 0) (put_one 1 2 (es2 x y) b b)
theorem rn4e (hx : nameE x = 0) (b : List Int) : linkF (nsR 1 [(x, 1)] b) (47 :: x) (47 :: x) = (10, nsR 1 [(x, 1)] b) := by
  have hw : walkR (nsR 1 [(x, 1)] b) (47 :: x) = (1, 0) := by
    rw [one_walk hx, find_one hx, if_pos rfl]; rfl
  unfold linkF
  rw [hw]
  rw [if_neg (by simp), if_neg (by show ¬ isDirF _ 1 = true; simp [isDirF, ndAt, nsR])]
  unfold atPar
  obtain ⟨h1, h2⟩ := one_parE hx (nsR 1 [(x, 1)] b)
  rw [if_pos h1, h2, (one_par hx).2.2]
  show linkE (nsR 1 [(x, 1)] b) 0 x 1 = _
  unfold linkE
  rw [dirR]
  simp only
  have hA : isAt [(x, (1 : Int))] x (plc [(x, 1)] x) = true := by
    have : nlt x x = false := nlt_irr x
    unfold isAt plc; simp [List.findIdx_cons, this]
  have h0 : entR (nsR 1 [(x, 1)] b) [(x, 1)] (plc [(x, 1)] x) x 1 = 10 := by
    unfold entR
    rw [if_neg (by rw [hx]; simp), if_neg (fun h => h.elim (by simp) (by simp [ndAt, nsR])), if_pos hA]
  unfold entF
  rw [if_neg (by rw [h0]; simp), h0]
theorem plc_first (hxy : x ≠ y) : (es2 x y)[plc (es2 x y) x]? = some (x, 1) ∧ (es2 x y).take (plc (es2 x y) x) ++ (es2 x y).drop (plc (es2 x y) x + 1) = [(y, 1)] := by
  have hxx : nlt x x = false := nlt_irr x
  unfold es2 insE
  by_cases h : nlt x y = true
  · have e1 : plc [(x, (1 : Int))] y = 1 := by unfold plc; simp [List.findIdx_cons, h]
    rw [e1]
    have e2 : plc [(x, (1 : Int)), (y, 1)] x = 0 := by unfold plc; simp [List.findIdx_cons, hxx]
    show ([(x, (1 : Int)), (y, 1)])[plc [(x, (1 : Int)), (y, 1)] x]? = _ ∧ _
    constructor
    · rw [e2]; rfl
    · show ([(x, (1 : Int)), (y, 1)]).take (plc [(x, (1 : Int)), (y, 1)] x) ++ ([(x, (1 : Int)), (y, 1)]).drop (plc [(x, (1 : Int)), (y, 1)] x + 1) = _
      rw [e2]; rfl
  · have hn : nlt x y = false := by simpa using h
    have hyx : nlt y x = true := by
      cases h2 : nlt y x with
      | true => rfl
      | false => exact absurd (nlt_tot _ _ hn h2) hxy
    have e1 : plc [(x, (1 : Int))] y = 0 := by unfold plc; simp [List.findIdx_cons, hn]
    rw [e1]
    have e2 : plc [(y, (1 : Int)), (x, 1)] x = 1 := by unfold plc; simp [List.findIdx_cons, hyx, hxx]
    constructor
    · show ([(y, (1 : Int)), (x, 1)])[plc [(y, (1 : Int)), (x, 1)] x]? = _
      rw [e2]; rfl
    · show ([(y, (1 : Int)), (x, 1)]).take (plc [(y, (1 : Int)), (x, 1)] x) ++ ([(y, (1 : Int)), (x, 1)]).drop (plc [(y, (1 : Int)), (x, 1)] x + 1) = _
      rw [e2]; rfl
theorem fnd_es2 (hxy : x ≠ y) : fndE (es2 x y) x = some 1 := by
  unfold fndE
  rcases es2_is x y with h | h <;> rw [h] <;> simp [Ne.symm hxy]
theorem rn5 (hx : nameE x = 0) (hxy : x ≠ y) (b : List Int) : atPar (nsR 2 (es2 x y) b) (47 :: x) (fun d nm => remF (nsR 2 (es2 x y) b) d nm false 12) = (0, nsR 1 [(y, 1)] b) := by
  unfold atPar
  obtain ⟨h1, h2⟩ := one_parE hx (nsR 2 (es2 x y) b)
  rw [if_pos h1, h2, (one_par hx).2.2]
  obtain ⟨p1, p2⟩ := plc_first hxy
  have hf : findR (nsR 2 (es2 x y) b) 0 x = (1, 0) := by
    unfold findR; rw [dirR]; simp only; rw [fnd_es2 hxy]
  show remF (nsR 2 (es2 x y) b) 0 x false 12 = _
  unfold remF
  rw [hf]
  rw [if_neg (by simp), if_neg (by show ¬ isDirF _ 1 ≠ false; simp [isDirF, ndAt, nsR])]
  unfold rmvF
  rw [dirR]
  simp only
  rw [p1]
  simp only [if_true]
  have e4 : nsR 2 (es2 x y) b (Int.toNat 1) = some ⟨false, 2, 1, [], b⟩ := rfl
  rw [e4]
  simp only
  rw [if_neg (by simp)]
  have e5 : nsRem (nsR 2 (es2 x y) b) (Int.toNat 0) ⟨true, 0, 0, es2 x y, []⟩ (plc (es2 x y) x) (Int.toNat 1) = nsR 1 [(y, 1)] b := by
    unfold nsRem
    have : delE (es2 x y) (plc (es2 x y) x) = [(y, 1)] := p2
    rw [show ((⟨true, 0, 0, es2 x y, []⟩ : Nd)).es = es2 x y from rfl, this]
    have e3 : nsPut (nsR 2 (es2 x y) b) (Int.toNat 0) (some (setEs ⟨true, 0, 0, es2 x y, []⟩ [(y, 1)])) = nsR 2 [(y, 1)] b := put_root 2 (es2 x y) [(y, 1)] b
    rw [e3]
    unfold decL
    have e6 : nsR 2 [(y, 1)] b (Int.toNat 1) = some ⟨false, 2, 1, [], b⟩ := rfl
    rw [e6]
    exact put_one 2 1 [(y, 1)] b b
  rw [e5, gone_stay (nd := ⟨false, 1, 1, [], b⟩) rfl (Or.inr (Or.inl (by simp)))]
theorem rn6 (hy : nameE y = 0) (b : List Int) : statF (nsR 1 [(y, 1)] b) (47 :: y) = (#[.int .i64 1, .int .i64 1, .bool false, .int .i64 b.length], 0) := by
  have hw : walkR (nsR 1 [(y, 1)] b) (47 :: y) = (1, 0) := by
    rw [one_walk hy, find_one hy, if_pos rfl]; rfl
  unfold statF
  rw [hw, if_neg (by simp)]
  rfl
theorem rn7 (hx : nameE x = 0) (hy : nameE y = 0) (hxy : x ≠ y) (b : List Int) : statF (nsR 1 [(y, 1)] b) (47 :: x) = (in0, 9) := by
  have hw : walkR (nsR 1 [(y, 1)] b) (47 :: x) = (0, 9) := by
    rw [one_walk hx, find_one hy, if_neg (Ne.symm hxy)]; rfl
  unfold statF
  rw [hw, if_pos (by simp)]
theorem rn8 (b : List Int) (hb : b.length ≤ 512) : readV (filesOf (nsR 1 [(y, 1)] b)) 1 0 999 = (b, 0) := by
  have h1 : fsAt (filesOf (nsR 1 [(y, 1)] b)) 1 = some b := rfl
  unfold readV
  rw [h1]
  simp only
  rw [if_neg (by omega)]
  have : (List.drop (Int.toNat 0) b).take (Int.toNat 999) = b := by
    show (List.drop 0 b).take 999 = b
    rw [List.drop_zero, List.take_of_length_le (by omega)]
  rw [this]
end
/-! ### both at the start -/
set_option maxRecDepth 100000 in
theorem r21new_any (sb : Nat) (w : World) : Calls Tryz.prog 83 #[.pointer (some ⟨sb, 0, none⟩)] w fun e w' => (∃ k, e = .returned (.pointer (some ⟨k, 0, none⟩))) ∧ Below w.heap.size w w' := by
  go_enter Tryz.func83, Tryz.ntmps83
  go_wp2
  go_ret
  exact ⟨⟨_, rfl⟩, ((Upd.refl (fun _ => False) w).alloc _).below (Nat.le_refl _) (fun _ h => h.elim)⟩
set_option maxRecDepth 100000 in
theorem r22new_any (mb : Nat) (w : World) : Calls Tryz.prog 47 #[.pointer (some ⟨mb, 0, none⟩)] w fun e w' => (∃ k, e = .returned (.pointer (some ⟨k, 0, none⟩))) ∧ Below w.heap.size w w' := by
  go_enter Tryz.func47, Tryz.ntmps47
  go_wp2_with (go_at_call 83; refine (r21new_any _ _).mono ?_; rintro e w2 ⟨⟨k, rfl⟩, hB⟩; have HB := Lib.hid hB; clear hB)
  go_ret
  have hB := HB.out
  have hs := hB.size
  simp at hs
  exact ⟨⟨_, rfl⟩, (((Below.refl w.heap.size w).alloc (Nat.le_refl _) _).trans (hB.mono (by simp))).alloc (by omega) _⟩
def BothP [Inhabited CapT] (w0 : World) (e : Ending) (w' : World) : Prop := ∃ vb tb fb sb k, e = .returned (.tuple #[.pointer (some ⟨vb, 0, none⟩), .pointer (some ⟨k, 0, none⟩)]) ∧ DV w0 vb tb fb sb ns0 0 w'
set_option maxRecDepth 100000 in
theorem both_any [Inhabited CapT] (w : World) (hm : MC w) (hc : capN = 8) : Calls Tryz.prog 17 #[] w (BothP w) := by
  have hfn : Calls Tryz.prog 29 #[.int .i64 8] w (FNewP w 8) := fnew_is 8 (by omega) (by omega) w
  have hrn := fun w => rnew_is 8 (by omega) (by omega) w
  have HM := Lib.hid (And.intro hm hc)
  clear hm hc
  go_enter Tryz.func17, Tryz.ntmps17
  go_wp2_with (first
    | (go_at_call 29; (with_reducible refine hfn.mono ?_); rintro e w1 ⟨fb, bb, kb, rfl, hFr, hB, g1, g2, g3, g4, g5, g6⟩; have H1 := Lib.hid (And.intro hFr (And.intro hB (And.intro g1 (And.intro g2 (And.intro g3 (And.intro g4 (And.intro g5 g6))))))); clear hB hFr g1 g2 g3 g4 g5 g6 hfn; have hr1 := hrn w1)
    | (go_at_call 46; (refine hr1.mono ?_); rintro e w2 ⟨mb, q1, q2, rfl, -, hB⟩; obtain ⟨hFr, hB1, g1, g2, g3, g4, g5, g6⟩ := H1.out; have hn := d_vnew (hB1.trans (hB.mono hB1.size)) 8 fb bb kb (hFr.below hB) g1 g2 g3 g4 g5 g6 (by omega) HM.out.2 HM.out.1; clear hB hr1 hFr hB1 g1 g2 g3 g4 g5 g6)
    | (go_at_call 30; (with_reducible refine hn.mono ?_); rintro e w3 ⟨vb, tb, sb, rfl, hD⟩; have H3 := Lib.hid hD; clear hn hD; have hq := r22new_any mb w3)
    | (go_at_call 47; (with_reducible refine hq.mono ?_); rintro e w4 ⟨⟨k, rfl⟩, hB⟩; have H4 := Lib.hid (H3.out.below hB); clear hq hB))
  go_returns
  exact ⟨vb, tb, fb, sb, k, rfl, H4.out⟩
theorem d_stat2 [Inhabited CapT] {w0 w : World} {vb tb fb sb c : Nat} {ns : NSt} (h : DV w0 vb tb fb sb ns c w) (l : Txt) (hl : l.length ≤ 100000) (A : Array Value) (r : Int) (hr : statF ns l = (A, r)) (s : ByteArray) (hs : s = B l) :
    Calls Tryz.prog 14 #[.pointer (some ⟨vb, 0, none⟩), .string s] w (fun e w' => e = .returned (.tuple #[.agg A, .int .i64 r]) ∧ DV w0 vb tb fb sb ns c w' ∧ Below w.heap.size w w') := by
  subst hs
  have h' := h
  obtain ⟨lo, h1, h2, h3⟩ := h
  refine (Stat_is h1 l hl A r hr).mono ?_
  rintro e w' ⟨rfl, hB⟩
  exact ⟨rfl, h'.below hB, hB⟩
theorem d_arg2 [Inhabited CapT] {w0 w : World} {vb tb fb sb c : Nat} {ns : NSt} (h : DV w0 vb tb fb sb ns c w) {b : List Int} {a : Option Addr} {n cc : Nat} (hv : ArgB w0 (.slice a n cc) b) (hm : b.length ≤ maxLen) : RdU w (.slice a n cc) b := by
  obtain ⟨a', c', e, h1, h2⟩ := hv
  cases e
  obtain ⟨lo, k1, k2, k3⟩ := h
  exact RdU.arg hm (fun hp => by
    obtain ⟨g, q, rfl, h3, h4⟩ := h2 hp
    exact ⟨g, q, rfl, rdv_far h3 h4 k2⟩)
theorem cat_one (x : Txt) (s : ByteArray) (hs : s = B x) : (⟨#[47]⟩ : ByteArray) ++ s = B (47 :: x) := by subst hs; exact B_app [47] x
set_option maxRecDepth 100000 in
set_option maxHeartbeats 1000000 in
theorem ren_walk (s1 s2 : ByteArray) (v : Value) (b : List Int) (w : World) (hs1 : s1.size ≤ maxLen) (hs2 : s2.size ≤ maxLen) (hv : ArgB w v b) (hm : b.length ≤ maxLen) (m0 : Int) (hm0 : w.cell? ⟨0, 0, none⟩ = some (.int .i64 m0)) : Calls Tryz.prog 4 #[.string s1, .string s2, v] w (AwP w) := by
  have HM := Lib.hid (show MC w from ⟨m0, hm0⟩)
  clear hm0 hs1 hs2
  unfold maxLen at hm
  obtain ⟨x, hx⟩ : ∃ x, s1 = B x := ⟨_, (B_data s1).symm⟩
  obtain ⟨y, hy⟩ : ∃ y, s2 = B y := ⟨_, (B_data s2).symm⟩
  obtain ⟨a, c, rfl, hc, hrd⟩ := hv
  obtain ⟨bl, hbl⟩ : ∃ bl, b.length = bl := ⟨_, rfl⟩
  have hV := Lib.hid (show ArgB w (.slice a b.length c) b from ⟨a, c, rfl, hc, hrd⟩)
  rw [hbl] at hV hm ⊢
  have haw := vawake w HM.out
  by_cases h5 : 300 < bl
  · have d1 : decide ((bl : Int) > 300) = true := by simp; omega
    have d1n : decide (bl > 300) = true := by simpa using h5
    clear hc hrd hbl h5
    go_enter Tryz.func4, Tryz.ntmps4
    go_wp2_with (go_at_call 8; (with_reducible refine haw.mono ?_); rintro e w1 ⟨rfl, hB⟩; have H1 := Lib.hid hB; clear hB haw)
    go_ret
    exact ⟨rfl, H1.out⟩
  have d1 : decide ((bl : Int) > 300) = false := by simp; omega
  have d1n : decide (bl > 300) = false := by simpa using h5
  have hn1 := name_is x w
  have hn2 := name_is y w
  rw [← hx] at hn1
  rw [← hy] at hn2
  by_cases hnx : nameE x = 0
  · by_cases hny : nameE y = 0
    · rw [hnx] at hn1
      rw [hny] at hn2
      letI : Inhabited CapT := capOf 8
      have hcap : capN = 8 := rfl
      have hbo := both_any w HM.out hcap
      have hb5 : b.length ≤ 512 := by omega
      have l1 := (name_ok hnx).2.2
      have l2 := (name_ok hny).2.2
      have z1 : (47 :: x).length ≤ 100000 := by simp; omega
      have z2 : (47 :: y).length ≤ 100000 := by simp; omega
      have k1 : s1.size ≤ 8 := by rw [hx, B_size]; exact l1
      have k2 : s2.size ≤ 8 := by rw [hy, B_size]; exact l2
      have c1 := cat_one x s1 hx
      have c2 := cat_one y s2 hy
      have eqs : (s1.toList == s2.toList) = decide (x = y) := by rw [hx, hy, B_list, B_list, beq_dec]
      have HE := Lib.hid (And.intro c1 (And.intro c2 (And.intro hnx (And.intro hny (And.intro hb5 (And.intro hbl (And.intro z1 (And.intro z2 hcap))))))))
      clear hx hy hc hrd hbl h5 hb5 l1 l2 z1 z2 c1 c2 hcap hnx hny
      by_cases hxy : x = y
      · rw [decide_eq_true hxy] at eqs
        have HXY := Lib.hid hxy
        clear hxy
        go_enter Tryz.func4, Tryz.ntmps4
        go_wp2_with (first
          | (go_at_call 16; (with_reducible refine hn1.mono ?_); rintro e w1 ⟨rfl, rfl⟩; clear hn1)
          | (go_at_call 16; (with_reducible refine hn2.mono ?_); rintro e w1 ⟨rfl, rfl⟩; clear hn2)
          | (go_at_call 17; (with_reducible refine hbo.mono ?_); rintro e w2 ⟨vb, tb, fb, sb, kk, rfl, hD⟩; have hop := d_open hD (by omega) (47 :: x) HE.out.2.2.2.2.2.2.1 1 1 0 _ (rn2 HE.out.2.2.1) _ HE.out.1; clear hbo hD)
          | (go_at_call 18; (with_reducible refine hop.mono ?_); rintro e w4 ⟨rfl, hD⟩; have hst := d_store hD; have H4 := Lib.hid hD; clear hop hD)
          | (go_at_call 12; (with_reducible refine hst.mono ?_); rintro e w5 ⟨rfl, rfl⟩; clear hst; have hwr := d_write H4.out 1 rfl 0 b (by (have := HE.out.2.2.2.2.1; omega)) (.slice a bl c) hV.out 0 _ (rn3 capN (by rw [HE.out.2.2.2.2.2.2.2.2]; omega) b HE.out.2.2.2.2.1))
          | (go_at_call 13; (with_reducible refine hwr.mono ?_); rintro e w6 ⟨rfl, hD⟩; have hlk := d_link hD (47 :: x) (47 :: y) HE.out.2.2.2.2.2.2.1 HE.out.2.2.2.2.2.2.2.1 10 (nsR 1 [(x, 1)] b) (by rw [← HXY.out]; exact rn4e HE.out.2.2.1 b) _ _ HE.out.1 HE.out.2.1; clear hwr hD)
          | (go_at_call 10; (with_reducible refine hlk.mono ?_); rintro e w7 ⟨rfl, hD⟩; have haw2 := d_aw hD; clear hlk hD)
          | (go_at_call 8; (with_reducible refine haw2.mono ?_); rintro e w16 ⟨rfl, hB⟩; have H16 := Lib.hid hB; clear haw2 hB))
        go_ret
        exact ⟨rfl, H16.out⟩
      · rw [decide_eq_false hxy] at eqs
        have HXY := Lib.hid hxy
        clear hxy
        go_enter Tryz.func4, Tryz.ntmps4
        go_wp2_with (first
          | (go_at_call 16; (with_reducible refine hn1.mono ?_); rintro e w1 ⟨rfl, rfl⟩; clear hn1)
          | (go_at_call 16; (with_reducible refine hn2.mono ?_); rintro e w1 ⟨rfl, rfl⟩; clear hn2)
          | (go_at_call 17; (with_reducible refine hbo.mono ?_); rintro e w2 ⟨vb, tb, fb, sb, kk, rfl, hD⟩; have hop := d_open hD (by omega) (47 :: x) HE.out.2.2.2.2.2.2.1 1 1 0 _ (rn2 HE.out.2.2.1) _ HE.out.1; clear hbo hD)
          | (go_at_call 18; (with_reducible refine hop.mono ?_); rintro e w4 ⟨rfl, hD⟩; have hst := d_store hD; have H4 := Lib.hid hD; clear hop hD)
          | (go_at_call 12; (with_reducible refine hst.mono ?_); rintro e w5 ⟨rfl, rfl⟩; clear hst; have hwr := d_write H4.out 1 rfl 0 b (by (have := HE.out.2.2.2.2.1; omega)) (.slice a bl c) hV.out 0 _ (rn3 capN (by rw [HE.out.2.2.2.2.2.2.2.2]; omega) b HE.out.2.2.2.2.1))
          | (go_at_call 13; (with_reducible refine hwr.mono ?_); rintro e w6 ⟨rfl, hD⟩; have hlk := d_link hD (47 :: x) (47 :: y) HE.out.2.2.2.2.2.2.1 HE.out.2.2.2.2.2.2.2.1 0 _ (rn4 HE.out.2.2.1 HE.out.2.2.2.1 HXY.out b) _ _ HE.out.1 HE.out.2.1; clear hwr hD)
          | (go_at_call 10; (with_reducible refine hlk.mono ?_); rintro e w7 ⟨rfl, hD⟩; have hun := d_un hD (by omega) (47 :: x) HE.out.2.2.2.2.2.2.1 0 _ (rn5 HE.out.2.2.1 HXY.out b) _ HE.out.1; clear hlk hD)
          | (go_at_call 15; (with_reducible refine hun.mono ?_); rintro e w8 ⟨rfl, hD⟩; have hs1 := d_stat hD (47 :: y) HE.out.2.2.2.2.2.2.2.1 _ 0 (rn6 HE.out.2.2.2.1 b) _ HE.out.2.1; clear hun hD)
          | (go_at_call 14; (with_reducible refine hs1.mono ?_); rintro e w9 ⟨rfl, hD⟩; rw [HE.out.2.2.2.2.2.1]; have hD2 := hD.below ((Below.refl _ _).alloc (Nat.le_refl _) (.cells #[.int .i64 1, .int .i64 1, .bool false, .int .i64 bl] 36)); have hc9 := Lib.hid (Blk.new w9 #[.int .i64 1, .int .i64 1, .bool false, .int .i64 bl] 36); have hs2 := d_stat2 hD2 (47 :: x) HE.out.2.2.2.2.2.2.1 _ 9 (rn7 HE.out.2.2.1 HE.out.2.2.2.1 HXY.out b) _ HE.out.1; clear hs1 hD hD2)
          | (go_at_call 14; (with_reducible refine hs2.mono ?_); rintro e w10 ⟨rfl, hD, hB⟩; have hb10 := Blk.below hB hc9.out hc9.out.lt; have H10 := Lib.hid (hb10.alloc (.cells in0 36)); have hD2 := hD.below ((Below.refl _ _).alloc (Nat.le_refl _) (.cells in0 36)); have hst3 := d_store hD2; have hrd := d_read hD2 1 rfl 0 999 (by omega) (by omega) b 0 (rn8 b HE.out.2.2.2.2.1); clear hs2 hD hD2 hB hb10)
          | (go_at_call 12; (with_reducible refine hst3.mono ?_); rintro e w13 ⟨rfl, rfl⟩; clear hst3)
          | (go_at_call 19; (with_reducible refine hrd.mono ?_); rintro e w12 ⟨v1, b1, rfl, hR, hb1, hD, hB⟩; have hb12 := Blk.below hB H10.out H10.out.lt; have c12 := hb12.rd; have hsm := sameB_any (RdU.of hR) (d_arg2 hD hV.out (by (have := HE.out.2.2.2.2.1; unfold maxLen; omega))) true (by simp); have H12 := Lib.hid hD; clear hrd hD hR hb1 hB hb12)
          | (go_at_call 20; (with_reducible refine hsm.mono ?_); rintro e w13 ⟨rfl, q, rfl⟩; have hD := H12.out.below (Below.drewN w12 q); have haw2 := d_aw hD; clear hsm hD)
          | (go_at_call 8; (with_reducible refine haw2.mono ?_); rintro e w16 ⟨rfl, hB⟩; have H16 := Lib.hid hB; clear haw2 hB))
        go_ret
        exact ⟨rfl, H16.out⟩
    · rw [hnx] at hn1
      obtain ⟨N, hN⟩ : ∃ N, nameE y = N := ⟨_, rfl⟩
      rw [hN] at hn2 hny
      have d2 : (N == 0) = false := by simpa using hny
      clear hx hy hc hrd hbl h5 hnx hny hN
      go_enter Tryz.func4, Tryz.ntmps4
      go_wp2_with (first
        | (go_at_call 16; (with_reducible refine hn1.mono ?_); rintro e w1 ⟨rfl, rfl⟩; clear hn1)
        | (go_at_call 16; (with_reducible refine hn2.mono ?_); rintro e w1 ⟨rfl, rfl⟩; clear hn2)
        | (go_at_call 8; (with_reducible refine haw.mono ?_); rintro e w1 ⟨rfl, hB⟩; have H1 := Lib.hid hB; clear hB haw))
      go_ret
      exact ⟨rfl, H1.out⟩
  · obtain ⟨N, hN⟩ : ∃ N, nameE x = N := ⟨_, rfl⟩
    rw [hN] at hn1 hnx
    have d2 : (N == 0) = false := by simpa using hnx
    have d3 : (N != 0) = true := by simpa using hnx
    clear hx hy hc hrd hbl h5 hnx hN hn2
    go_enter Tryz.func4, Tryz.ntmps4
    go_wp2_with (first
      | (go_at_call 16; (with_reducible refine hn1.mono ?_); rintro e w1 ⟨rfl, rfl⟩; clear hn1)
      | (go_at_call 8; (with_reducible refine haw.mono ?_); rintro e w1 ⟨rfl, hB⟩; have H1 := Lib.hid hB; clear hB haw))
    go_ret
    exact ⟨rfl, H1.out⟩
end Go.Proofs.YtchnjfmimpikcaaGreatDoor
