/-
  One file below the root, plain: what the vfs answers of it.
-/
import Derived.Test.YtjpjafajploiaaaGreatDoorVOpD
namespace Go.Proofs.YtjpjafajploiaaaGreatDoor
set_option linter.unusedSimpArgs false
set_option linter.unusedVariables false
open Go.RowKit Own RegJ Two
open Go.Lib hiding intOf

theorem one_split {x : Txt} (h : nameE x = 0) : splitE (47 :: x) = 0 ∧ splitL (47 :: x) = [x] := by
  have he : everyE [x] = 0 := every_mk (by unfold firstE; rw [if_pos h]; rfl) (by simp)
  have := join_split he
  unfold joinT at this
  rw [if_neg (by simp)] at this
  simpa using this
theorem one_par {x : Txt} (h : nameE x = 0) : parE (47 :: x) = 0 ∧ parD (47 :: x) = [47] ∧ parN (47 :: x) = x := by
  obtain ⟨h1, h2⟩ := one_split h
  have hp : parE (47 :: x) = 0 := by unfold parE; rw [if_pos h1, if_neg (by rw [h2]; simp)]
  refine ⟨hp, ?_, ?_⟩
  · unfold parD; rw [if_pos hp, h2]; rfl
  · unfold parN; rw [if_pos hp, h2]; rfl
theorem walkR_root (ns : NSt) : walkR ns [47] = (0, 0) := by
  unfold walkR; rw [if_pos splitL_slash.1, splitL_slash.2]; rfl
theorem one_walk {x : Txt} (h : nameE x = 0) (ns : NSt) : walkR ns (47 :: x) = if (findR ns 0 x).2 = 0 then ((findR ns 0 x).1, 0) else (0, (findR ns 0 x).2) := by
  obtain ⟨h1, h2⟩ := one_split h
  unfold walkR; rw [if_pos h1, h2]
  unfold walkL; split <;> rfl
theorem one_parE {x : Txt} (h : nameE x = 0) (ns : NSt) : parEr ns (47 :: x) = 0 ∧ parDi ns (47 :: x) = 0 := by
  obtain ⟨h1, h2, h3⟩ := one_par h
  unfold parEr parDi
  rw [if_pos h1, h2, walkR_root]
  exact ⟨rfl, rfl⟩
theorem dir0 : dirAt ns0 0 = some ⟨true, 0, 0, [], []⟩ := rfl
/-- the states: a root with these entries, one file -/
def nsR (l : Int) (es : List En) (b : List Int) : NSt := fun j => if j = 0 then some ⟨true, 0, 0, es, []⟩ else if j = 1 then some ⟨false, l, 1, [], b⟩ else none
theorem put_one (l l' : Int) (es : List En) (b b' : List Int) : nsPut (nsR l es b) 1 (some ⟨false, l', 1, [], b'⟩) = nsR l' es b' := by
  funext j; unfold nsPut nsR
  by_cases h1 : j = 1
  · subst h1; simp
  · rw [if_neg h1]
    simp only [if_neg h1]
theorem put_root (l : Int) (es es' : List En) (b : List Int) : nsPut (nsR l es b) 0 (some ⟨true, 0, 0, es', []⟩) = nsR l es' b := by
  funext j; unfold nsPut nsR
  by_cases h0 : j = 0
  · subst h0; simp
  · simp only [if_neg h0]
/-- a root with one file: so often opened, with these bytes -/
def nsO (x : Txt) (op : Int) (b : List Int) : NSt := fun j => if j = 0 then some ⟨true, 0, 0, [(x, 1)], []⟩ else if j = 1 then some ⟨false, 1, op, [], b⟩ else none
theorem o_put (x : Txt) (op op' : Int) (b b' : List Int) : nsPut (nsO x op b) 1 (some ⟨false, 1, op', [], b'⟩) = nsO x op' b' := by
  funext j; unfold nsPut nsO
  by_cases h1 : j = 1
  · subst h1; simp
  · rw [if_neg h1]
    simp only [if_neg h1]
theorem o_nd (x : Txt) (op : Int) (b : List Int) : ndAt (nsO x op b) 1 = some ⟨false, 1, op, [], b⟩ := rfl
section
variable {x : Txt}
theorem o_find (op : Int) (b : List Int) : findR (nsO x op b) 0 x = (1, 0) := by
  unfold findR
  rw [show dirAt (nsO x op b) 0 = some ⟨true, 0, 0, [(x, 1)], []⟩ from rfl]
  simp [fndE]
theorem o_walk (hx : nameE x = 0) (op : Int) (b : List Int) : walkR (nsO x op b) (47 :: x) = (1, 0) := by
  rw [one_walk hx, o_find]; rfl
theorem o_none (hx : nameE x = 0) : walkR ns0 (47 :: x) = (0, 9) := by rw [one_walk hx]; rfl
theorem o_ent (hx : nameE x = 0) (ns : NSt) (id : Int) (h0 : id ≠ 0) (hn : ndAt ns id ≠ none) (es : List En) (j : Nat) (hA : isAt es x j = false) (hl : es.length ≠ 8) : entR ns es j x id = 0 := by
  unfold entR
  rw [if_neg (by rw [hx]; simp), if_neg (fun h => h.elim h0 hn), if_neg (by rw [hA]; simp), if_neg hl]
theorem o_new (hx : nameE x = 0) (n : Int) (hn : 0 ≤ n ∧ n ≤ 7) (hA : flA n = true) : openF ns0 (47 :: x) n = (1, 0, nsO x 1 []) := by
  show openF ns0 (47 :: x) n = (1, 0, nsR 1 [(x, 1)] [])
  unfold openF
  rw [if_neg (by omega), if_pos ⟨by rw [o_none hx], hA⟩]
  unfold newF
  obtain ⟨h1, h2⟩ := one_parE hx ns0
  rw [if_pos h1, h2, (one_par hx).2.2]
  unfold madeF
  rw [dir0]
  have hf : freeF ns0 = some 1 := by decide +kernel
  rw [hf]
  simp only
  have hns : nsPut ns0 1 (some ⟨false, 0, 1, [], []⟩) = nsR 0 [] [] := by
    funext j; unfold nsPut nsR ns0
    by_cases h1 : j = 1
    · subst h1; simp
    · rw [if_neg h1, if_neg h1]
  rw [hns]
  have he : entF (nsR 0 [] []) (Int.toNat 0) ⟨true, 0, 0, [], []⟩ x ((1 : Nat) : Int) = (0, nsR 1 [(x, 1)] []) := by
    have h0 := o_ent hx (nsR 0 [] []) 1 (by omega) (by simp [ndAt, nsR]) [] (plc [] x) (by simp [plc, isAt]) (by simp)
    unfold entF
    rw [show ((1 : Nat) : Int) = 1 from rfl, if_pos h0]
    have e2 : insE ([] : List En) (plc [] x) (x, (1 : Int)) = [(x, 1)] := by unfold insE; simp
    rw [show ((⟨true, 0, 0, [], []⟩ : Nd)).es = [] from rfl, e2]
    have e3 : nsPut (nsR 0 [] []) (Int.toNat 0) (some (setEs ⟨true, 0, 0, [], []⟩ [(x, 1)])) = nsR 0 [(x, 1)] [] := put_root 0 [] [(x, 1)] []
    unfold nsEnt
    rw [e3]
    have e4 : nsR 0 [(x, 1)] [] (Int.toNat 1) = some ⟨false, 0, 1, [], []⟩ := rfl
    rw [e4]
    simp only
    have e5 : nsPut (nsR 0 [(x, 1)] []) (Int.toNat 1) (some (addL ⟨false, 0, 1, [], []⟩ 1)) = nsR 1 [(x, 1)] [] := put_one 0 1 [(x, 1)] [] []
    rw [e5]
  rw [he]
  rfl
theorem o_open (hx : nameE x = 0) (op : Int) (b : List Int) (n : Int) (hn : 0 ≤ n ∧ n ≤ 7) (hB : flB n = false) : openF (nsO x op b) (47 :: x) n = (1, 0, nsO x (op + 1) b) := by
  have hw := o_walk hx op b
  unfold openF
  rw [hw]
  rw [if_neg (by omega), if_neg (by simp), if_neg (by simp)]
  simp only
  rw [o_nd]
  simp only [hB, Bool.false_eq_true, if_false]
  rw [show nsPut (nsO x op b) (Int.toNat 1) (some (addO ⟨false, 1, op, [], b⟩ 1)) = nsO x (op + 1) b from o_put x op (op + 1) b b]
theorem o_close (op : Int) (b : List Int) (h : 1 ≤ op) : closeF (nsO x op b) 1 = (0, nsO x (op - 1) b) := by
  unfold closeF
  rw [o_nd]
  simp only
  rw [if_pos (by omega)]
  rw [show nsPut (nsO x op b) (Int.toNat 1) (some (addO ⟨false, 1, op, [], b⟩ (-1))) = nsO x (op - 1) b from o_put x op (op - 1) b b]
  rw [gone_stay (nd := ⟨false, 1, op - 1, [], b⟩) rfl (.inr (.inl (by show (0 : Int) < 1; omega)))]
theorem o_size (op : Int) (b : List Int) : sizeV (filesOf (nsO x op b)) 1 = ((b.length : Int), 0) := rfl
theorem o_read (op : Int) (b : List Int) (off n : Int) (h0 : 0 ≤ off) (h1 : 0 ≤ n) : readV (filesOf (nsO x op b)) 1 off n = ((b.drop off.toNat).take n.toNat, 0) := by
  unfold readV
  rw [show fsAt (filesOf (nsO x op b)) 1 = some b from rfl]
  simp only
  rw [if_neg (by omega)]
theorem o_used (op : Int) (b : List Int) : usedN (filesOf (nsO x op b)) 16 = (b.length + 63) / 64 := by
  simp [usedN, filesOf, nsO, blks]
theorem o_write (F : Nat) (hF : 8 ≤ F) (op : Int) (bs b : List Int) (off : Nat) (h1 : off + b.length ≤ 512) (h2 : bs.length ≤ 512) (h3 : b ≠ []) : wrF (nsO x op bs) F 1 off b = (0, nsO x op (writeB bs off b)) := by
  have hb : b.length ≠ 0 := fun h => h3 (List.eq_nil_of_length_eq_zero h)
  unfold wrF
  rw [o_nd]
  simp only [Bool.false_eq_true, if_false]
  rw [if_neg (by omega), if_neg hb, if_neg (by omega), o_used, if_neg (by simp only [Int.toNat_natCast]; omega)]
  rw [show Int.toNat (off : Int) = off from by simp]
  exact congrArg (Prod.mk 0) (o_put x op op bs (writeB bs off b))
theorem o_write0 (F : Nat) (op : Int) (bs : List Int) (off : Nat) : wrF (nsO x op bs) F 1 off [] = (0, nsO x op bs) := by
  unfold wrF
  rw [o_nd]
  simp only [Bool.false_eq_true, if_false]
  rw [if_neg (by omega), if_pos (by simp)]
theorem writeB_end (bs b : List Int) : writeB bs bs.length b = bs ++ b := by
  unfold writeB extB spl
  have e : max bs.length (bs.length + b.length) = bs.length + b.length := by omega
  rw [e]
  simp
end
end Go.Proofs.YtjpjafajploiaaaGreatDoor
