/-
  The vfs: what is done at the directory of a path's last name; Mkdir, Unlink, Rmdir, Link.
-/
import Derived.Test.YtchnjfmimpikcaaDoorV2
namespace Go.Proofs.YtchnjfmimpikcaaDoor
set_option linter.unusedSimpArgs false
set_option linter.unusedVariables false
open Go.RowKit Own RegJ Two
open Go.Lib hiding intOf

def parEr (ns : NSt) (l : Txt) : Int := if parE l = 0 then (walkR ns (parD l)).2 else parE l
def parDi (ns : NSt) (l : Txt) : Int := (walkR ns (parD l)).1
theorem parD_len (l : Txt) : (parD l).length ≤ 100000 := by
  unfold parD
  split
  · rename_i h
    have hs : splitE l = 0 := by
      unfold parE at h
      split at h
      · assumption
      · exact h
    have h1 := every_take ((splitL l).length - 1) (split_join hs).2
    have h2 := ljoin_len _ h1
    have h3 := congrArg List.length (ljoin ((splitL l).take ((splitL l).length - 1)))
    simp only [List.length_cons] at h3
    omega
  · simp
section
variable {w w' : World} {vb tb : Nat} {ns ns' : NSt} {lo lo' : Lo} {N c d : Nat}
set_option maxRecDepth 100000 in
theorem par_mkdir [Inhabited CapT] (h : VV w vb tb ns lo c) (l : Txt) (hl : l.length ≤ 100000) (P : Int → World → Prop) (he : ∀ E w1, Below w.heap.size w w1 → parEr ns l = E → E ≠ 0 → P E w1)
    (hk : parEr ns l = 0 → ∀ w1, Below w.heap.size w w1 → Calls Tryd.prog 30 #[.pointer (some ⟨vb, 0, none⟩), .int .i64 (parDi ns l), .string (B (parN l))] w1 fun e w2 => ∃ r, e = .returned (.int .i64 r) ∧ P r w2) :
    Calls Tryd.prog 29 #[.pointer (some ⟨vb, 0, none⟩), .string (B l), .func (.func 30) #[.pointer (some ⟨vb, 0, none⟩)] #[]] w fun e w2 => ∃ r, e = .returned (.int .i64 r) ∧ P r w2 := by
  obtain ⟨m0, hm0⟩ := h.1.2.2.2.1
  have hp := par_is l w hl m0 hm0
  unfold parEr at he hk
  unfold parDi at hk
  obtain ⟨p, hpp⟩ : ∃ p, parE l = p := ⟨_, rfl⟩
  obtain ⟨d, f, hw⟩ : ∃ d f, walkR ns (parD l) = (d, f) := ⟨_, _, rfl⟩
  unfold ParV at hp
  rw [hpp] at hp he hk
  rw [hw] at he hk
  simp only at he hk
  have hwk : ∀ w1, Below w.heap.size w w1 → Calls Tryd.prog 17 #[.pointer (some ⟨vb, 0, none⟩), .string (B (parD l))] w1 fun e w' => e = .returned (.tuple #[.int .i64 d, .int .i64 f]) ∧ Below w1.heap.size w1 w' := fun w1 hB => walk_is (h.1.below hB) (parD l) (parD_len l) d f hw
  generalize B (parD l) = D at *
  generalize B (parN l) = M at *
  clear h hm0 hpp hw hl
  by_cases hp0 : p = 0
  · subst hp0
    rw [if_pos rfl] at he hk
    by_cases hf0 : f = 0
    · subst hf0
      have HK := Lib.hid (hk rfl)
      clear he hk
      go_enter Tryd.func29, Tryd.ntmps29
      go_wp2_with (first
        | (go_at_call 53; (with_reducible refine hp.mono ?_); rintro e w1 ⟨rfl, hB⟩; have hw1 := hwk w1 hB; have H1 := Lib.hid hB; clear hB hp hwk)
        | (go_at_call 17; (with_reducible refine hw1.mono ?_); rintro e w2 ⟨rfl, hB⟩; have hk2 := HK.out w2 (H1.out.trans (hB.mono H1.out.size)); clear hB hw1)
        | (go_at_call 30; (with_reducible refine hk2.mono ?_); rintro e w3 ⟨r, rfl, hP⟩; have HP := Lib.hid hP; clear hP hk2))
      go_ret
      exact ⟨r, rfl, HP.out⟩
    · have d1 : (f != 0) = true := by simpa using hf0
      have HE := Lib.hid (And.intro he hf0)
      clear he hk hf0
      go_enter Tryd.func29, Tryd.ntmps29
      go_wp2_with (first
        | (go_at_call 53; (with_reducible refine hp.mono ?_); rintro e w1 ⟨rfl, hB⟩; have hw1 := hwk w1 hB; have H1 := Lib.hid hB; clear hB hp hwk)
        | (go_at_call 17; (with_reducible refine hw1.mono ?_); rintro e w2 ⟨rfl, hB⟩; have H2 := Lib.hid (H1.out.trans (hB.mono H1.out.size)); clear hB hw1))
      go_ret
      exact ⟨f, rfl, HE.out.1 f w2 H2.out rfl HE.out.2⟩
  · rw [if_neg hp0] at he
    have d1 : (p != 0) = true := by simpa using hp0
    have HE := Lib.hid (And.intro he hp0)
    clear he hk hp0 hwk
    go_enter Tryd.func29, Tryd.ntmps29
    go_wp2_with (go_at_call 53; (with_reducible refine hp.mono ?_); rintro e w1 ⟨rfl, hB⟩; have H1 := Lib.hid hB; clear hB hp)
    go_ret
    exact ⟨p, rfl, HE.out.1 p w1 H1.out rfl HE.out.2⟩
set_option maxRecDepth 100000 in
theorem par_unlink [Inhabited CapT] (h : VV w vb tb ns lo c) (l : Txt) (hl : l.length ≤ 100000) (P : Int → World → Prop) (he : ∀ E w1, Below w.heap.size w w1 → parEr ns l = E → E ≠ 0 → P E w1)
    (hk : parEr ns l = 0 → ∀ w1, Below w.heap.size w w1 → Calls Tryd.prog 39 #[.pointer (some ⟨vb, 0, none⟩), .int .i64 (parDi ns l), .string (B (parN l))] w1 fun e w2 => ∃ r, e = .returned (.int .i64 r) ∧ P r w2) :
    Calls Tryd.prog 29 #[.pointer (some ⟨vb, 0, none⟩), .string (B l), .func (.func 39) #[.pointer (some ⟨vb, 0, none⟩)] #[]] w fun e w2 => ∃ r, e = .returned (.int .i64 r) ∧ P r w2 := by
  obtain ⟨m0, hm0⟩ := h.1.2.2.2.1
  have hp := par_is l w hl m0 hm0
  unfold parEr at he hk
  unfold parDi at hk
  obtain ⟨p, hpp⟩ : ∃ p, parE l = p := ⟨_, rfl⟩
  obtain ⟨d, f, hw⟩ : ∃ d f, walkR ns (parD l) = (d, f) := ⟨_, _, rfl⟩
  unfold ParV at hp
  rw [hpp] at hp he hk
  rw [hw] at he hk
  simp only at he hk
  have hwk : ∀ w1, Below w.heap.size w w1 → Calls Tryd.prog 17 #[.pointer (some ⟨vb, 0, none⟩), .string (B (parD l))] w1 fun e w' => e = .returned (.tuple #[.int .i64 d, .int .i64 f]) ∧ Below w1.heap.size w1 w' := fun w1 hB => walk_is (h.1.below hB) (parD l) (parD_len l) d f hw
  generalize B (parD l) = D at *
  generalize B (parN l) = M at *
  clear h hm0 hpp hw hl
  by_cases hp0 : p = 0
  · subst hp0
    rw [if_pos rfl] at he hk
    by_cases hf0 : f = 0
    · subst hf0
      have HK := Lib.hid (hk rfl)
      clear he hk
      go_enter Tryd.func29, Tryd.ntmps29
      go_wp2_with (first
        | (go_at_call 53; (with_reducible refine hp.mono ?_); rintro e w1 ⟨rfl, hB⟩; have hw1 := hwk w1 hB; have H1 := Lib.hid hB; clear hB hp hwk)
        | (go_at_call 17; (with_reducible refine hw1.mono ?_); rintro e w2 ⟨rfl, hB⟩; have hk2 := HK.out w2 (H1.out.trans (hB.mono H1.out.size)); clear hB hw1)
        | (go_at_call 39; (with_reducible refine hk2.mono ?_); rintro e w3 ⟨r, rfl, hP⟩; have HP := Lib.hid hP; clear hP hk2))
      go_ret
      exact ⟨r, rfl, HP.out⟩
    · have d1 : (f != 0) = true := by simpa using hf0
      have HE := Lib.hid (And.intro he hf0)
      clear he hk hf0
      go_enter Tryd.func29, Tryd.ntmps29
      go_wp2_with (first
        | (go_at_call 53; (with_reducible refine hp.mono ?_); rintro e w1 ⟨rfl, hB⟩; have hw1 := hwk w1 hB; have H1 := Lib.hid hB; clear hB hp hwk)
        | (go_at_call 17; (with_reducible refine hw1.mono ?_); rintro e w2 ⟨rfl, hB⟩; have H2 := Lib.hid (H1.out.trans (hB.mono H1.out.size)); clear hB hw1))
      go_ret
      exact ⟨f, rfl, HE.out.1 f w2 H2.out rfl HE.out.2⟩
  · rw [if_neg hp0] at he
    have d1 : (p != 0) = true := by simpa using hp0
    have HE := Lib.hid (And.intro he hp0)
    clear he hk hp0 hwk
    go_enter Tryd.func29, Tryd.ntmps29
    go_wp2_with (go_at_call 53; (with_reducible refine hp.mono ?_); rintro e w1 ⟨rfl, hB⟩; have H1 := Lib.hid hB; clear hB hp)
    go_ret
    exact ⟨p, rfl, HE.out.1 p w1 H1.out rfl HE.out.2⟩
set_option maxRecDepth 100000 in
theorem par_rmdir [Inhabited CapT] (h : VV w vb tb ns lo c) (l : Txt) (hl : l.length ≤ 100000) (P : Int → World → Prop) (he : ∀ E w1, Below w.heap.size w w1 → parEr ns l = E → E ≠ 0 → P E w1)
    (hk : parEr ns l = 0 → ∀ w1, Below w.heap.size w w1 → Calls Tryd.prog 38 #[.pointer (some ⟨vb, 0, none⟩), .int .i64 (parDi ns l), .string (B (parN l))] w1 fun e w2 => ∃ r, e = .returned (.int .i64 r) ∧ P r w2) :
    Calls Tryd.prog 29 #[.pointer (some ⟨vb, 0, none⟩), .string (B l), .func (.func 38) #[.pointer (some ⟨vb, 0, none⟩)] #[]] w fun e w2 => ∃ r, e = .returned (.int .i64 r) ∧ P r w2 := by
  obtain ⟨m0, hm0⟩ := h.1.2.2.2.1
  have hp := par_is l w hl m0 hm0
  unfold parEr at he hk
  unfold parDi at hk
  obtain ⟨p, hpp⟩ : ∃ p, parE l = p := ⟨_, rfl⟩
  obtain ⟨d, f, hw⟩ : ∃ d f, walkR ns (parD l) = (d, f) := ⟨_, _, rfl⟩
  unfold ParV at hp
  rw [hpp] at hp he hk
  rw [hw] at he hk
  simp only at he hk
  have hwk : ∀ w1, Below w.heap.size w w1 → Calls Tryd.prog 17 #[.pointer (some ⟨vb, 0, none⟩), .string (B (parD l))] w1 fun e w' => e = .returned (.tuple #[.int .i64 d, .int .i64 f]) ∧ Below w1.heap.size w1 w' := fun w1 hB => walk_is (h.1.below hB) (parD l) (parD_len l) d f hw
  generalize B (parD l) = D at *
  generalize B (parN l) = M at *
  clear h hm0 hpp hw hl
  by_cases hp0 : p = 0
  · subst hp0
    rw [if_pos rfl] at he hk
    by_cases hf0 : f = 0
    · subst hf0
      have HK := Lib.hid (hk rfl)
      clear he hk
      go_enter Tryd.func29, Tryd.ntmps29
      go_wp2_with (first
        | (go_at_call 53; (with_reducible refine hp.mono ?_); rintro e w1 ⟨rfl, hB⟩; have hw1 := hwk w1 hB; have H1 := Lib.hid hB; clear hB hp hwk)
        | (go_at_call 17; (with_reducible refine hw1.mono ?_); rintro e w2 ⟨rfl, hB⟩; have hk2 := HK.out w2 (H1.out.trans (hB.mono H1.out.size)); clear hB hw1)
        | (go_at_call 38; (with_reducible refine hk2.mono ?_); rintro e w3 ⟨r, rfl, hP⟩; have HP := Lib.hid hP; clear hP hk2))
      go_ret
      exact ⟨r, rfl, HP.out⟩
    · have d1 : (f != 0) = true := by simpa using hf0
      have HE := Lib.hid (And.intro he hf0)
      clear he hk hf0
      go_enter Tryd.func29, Tryd.ntmps29
      go_wp2_with (first
        | (go_at_call 53; (with_reducible refine hp.mono ?_); rintro e w1 ⟨rfl, hB⟩; have hw1 := hwk w1 hB; have H1 := Lib.hid hB; clear hB hp hwk)
        | (go_at_call 17; (with_reducible refine hw1.mono ?_); rintro e w2 ⟨rfl, hB⟩; have H2 := Lib.hid (H1.out.trans (hB.mono H1.out.size)); clear hB hw1))
      go_ret
      exact ⟨f, rfl, HE.out.1 f w2 H2.out rfl HE.out.2⟩
  · rw [if_neg hp0] at he
    have d1 : (p != 0) = true := by simpa using hp0
    have HE := Lib.hid (And.intro he hp0)
    clear he hk hp0 hwk
    go_enter Tryd.func29, Tryd.ntmps29
    go_wp2_with (go_at_call 53; (with_reducible refine hp.mono ?_); rintro e w1 ⟨rfl, hB⟩; have H1 := Lib.hid hB; clear hB hp)
    go_ret
    exact ⟨p, rfl, HE.out.1 p w1 H1.out rfl HE.out.2⟩
set_option maxRecDepth 100000 in
theorem par_OpenF [Inhabited CapT] (h : VV w vb tb ns lo c) (l : Txt) (hl : l.length ≤ 100000) (u1 u2 : Value) (P : Int → World → Prop) (he : ∀ E w1, Below w.heap.size w w1 → parEr ns l = E → E ≠ 0 → P E w1)
    (hk : parEr ns l = 0 → ∀ w1, Below w.heap.size w w1 → Calls Tryd.prog 31 #[.int .i64 (parDi ns l), .string (B (parN l)), u1, u2] w1 fun e w2 => ∃ r, e = .returned (.int .i64 r) ∧ P r w2) :
    Calls Tryd.prog 29 #[.pointer (some ⟨vb, 0, none⟩), .string (B l), .func (.func 31) #[] #[u1, u2]] w fun e w2 => ∃ r, e = .returned (.int .i64 r) ∧ P r w2 := by
  obtain ⟨m0, hm0⟩ := h.1.2.2.2.1
  have hp := par_is l w hl m0 hm0
  unfold parEr at he hk
  unfold parDi at hk
  obtain ⟨p, hpp⟩ : ∃ p, parE l = p := ⟨_, rfl⟩
  obtain ⟨d, f, hw⟩ : ∃ d f, walkR ns (parD l) = (d, f) := ⟨_, _, rfl⟩
  unfold ParV at hp
  rw [hpp] at hp he hk
  rw [hw] at he hk
  simp only at he hk
  have hwk : ∀ w1, Below w.heap.size w w1 → Calls Tryd.prog 17 #[.pointer (some ⟨vb, 0, none⟩), .string (B (parD l))] w1 fun e w' => e = .returned (.tuple #[.int .i64 d, .int .i64 f]) ∧ Below w1.heap.size w1 w' := fun w1 hB => walk_is (h.1.below hB) (parD l) (parD_len l) d f hw
  generalize B (parD l) = D at *
  generalize B (parN l) = M at *
  clear h hm0 hpp hw hl
  by_cases hp0 : p = 0
  · subst hp0
    rw [if_pos rfl] at he hk
    by_cases hf0 : f = 0
    · subst hf0
      have HK := Lib.hid (hk rfl)
      clear he hk
      go_enter Tryd.func29, Tryd.ntmps29
      go_wp2_with (first
        | (go_at_call 53; (with_reducible refine hp.mono ?_); rintro e w1 ⟨rfl, hB⟩; have hw1 := hwk w1 hB; have H1 := Lib.hid hB; clear hB hp hwk)
        | (go_at_call 17; (with_reducible refine hw1.mono ?_); rintro e w2 ⟨rfl, hB⟩; have hk2 := HK.out w2 (H1.out.trans (hB.mono H1.out.size)); clear hB hw1)
        | (go_at_call 31; (with_reducible refine hk2.mono ?_); rintro e w3 ⟨r, rfl, hP⟩; have HP := Lib.hid hP; clear hP hk2))
      go_ret
      exact ⟨r, rfl, HP.out⟩
    · have d1 : (f != 0) = true := by simpa using hf0
      have HE := Lib.hid (And.intro he hf0)
      clear he hk hf0
      go_enter Tryd.func29, Tryd.ntmps29
      go_wp2_with (first
        | (go_at_call 53; (with_reducible refine hp.mono ?_); rintro e w1 ⟨rfl, hB⟩; have hw1 := hwk w1 hB; have H1 := Lib.hid hB; clear hB hp hwk)
        | (go_at_call 17; (with_reducible refine hw1.mono ?_); rintro e w2 ⟨rfl, hB⟩; have H2 := Lib.hid (H1.out.trans (hB.mono H1.out.size)); clear hB hw1))
      go_ret
      exact ⟨f, rfl, HE.out.1 f w2 H2.out rfl HE.out.2⟩
  · rw [if_neg hp0] at he
    have d1 : (p != 0) = true := by simpa using hp0
    have HE := Lib.hid (And.intro he hp0)
    clear he hk hp0 hwk
    go_enter Tryd.func29, Tryd.ntmps29
    go_wp2_with (go_at_call 53; (with_reducible refine hp.mono ?_); rintro e w1 ⟨rfl, hB⟩; have H1 := Lib.hid hB; clear hB hp)
    go_ret
    exact ⟨p, rfl, HE.out.1 p w1 H1.out rfl HE.out.2⟩
set_option maxRecDepth 100000 in
theorem par_LinkF [Inhabited CapT] (h : VV w vb tb ns lo c) (l : Txt) (hl : l.length ≤ 100000) (u1 u2 : Value) (P : Int → World → Prop) (he : ∀ E w1, Below w.heap.size w w1 → parEr ns l = E → E ≠ 0 → P E w1)
    (hk : parEr ns l = 0 → ∀ w1, Below w.heap.size w w1 → Calls Tryd.prog 44 #[.int .i64 (parDi ns l), .string (B (parN l)), u1, u2] w1 fun e w2 => ∃ r, e = .returned (.int .i64 r) ∧ P r w2) :
    Calls Tryd.prog 29 #[.pointer (some ⟨vb, 0, none⟩), .string (B l), .func (.func 44) #[] #[u1, u2]] w fun e w2 => ∃ r, e = .returned (.int .i64 r) ∧ P r w2 := by
  obtain ⟨m0, hm0⟩ := h.1.2.2.2.1
  have hp := par_is l w hl m0 hm0
  unfold parEr at he hk
  unfold parDi at hk
  obtain ⟨p, hpp⟩ : ∃ p, parE l = p := ⟨_, rfl⟩
  obtain ⟨d, f, hw⟩ : ∃ d f, walkR ns (parD l) = (d, f) := ⟨_, _, rfl⟩
  unfold ParV at hp
  rw [hpp] at hp he hk
  rw [hw] at he hk
  simp only at he hk
  have hwk : ∀ w1, Below w.heap.size w w1 → Calls Tryd.prog 17 #[.pointer (some ⟨vb, 0, none⟩), .string (B (parD l))] w1 fun e w' => e = .returned (.tuple #[.int .i64 d, .int .i64 f]) ∧ Below w1.heap.size w1 w' := fun w1 hB => walk_is (h.1.below hB) (parD l) (parD_len l) d f hw
  generalize B (parD l) = D at *
  generalize B (parN l) = M at *
  clear h hm0 hpp hw hl
  by_cases hp0 : p = 0
  · subst hp0
    rw [if_pos rfl] at he hk
    by_cases hf0 : f = 0
    · subst hf0
      have HK := Lib.hid (hk rfl)
      clear he hk
      go_enter Tryd.func29, Tryd.ntmps29
      go_wp2_with (first
        | (go_at_call 53; (with_reducible refine hp.mono ?_); rintro e w1 ⟨rfl, hB⟩; have hw1 := hwk w1 hB; have H1 := Lib.hid hB; clear hB hp hwk)
        | (go_at_call 17; (with_reducible refine hw1.mono ?_); rintro e w2 ⟨rfl, hB⟩; have hk2 := HK.out w2 (H1.out.trans (hB.mono H1.out.size)); clear hB hw1)
        | (go_at_call 44; (with_reducible refine hk2.mono ?_); rintro e w3 ⟨r, rfl, hP⟩; have HP := Lib.hid hP; clear hP hk2))
      go_ret
      exact ⟨r, rfl, HP.out⟩
    · have d1 : (f != 0) = true := by simpa using hf0
      have HE := Lib.hid (And.intro he hf0)
      clear he hk hf0
      go_enter Tryd.func29, Tryd.ntmps29
      go_wp2_with (first
        | (go_at_call 53; (with_reducible refine hp.mono ?_); rintro e w1 ⟨rfl, hB⟩; have hw1 := hwk w1 hB; have H1 := Lib.hid hB; clear hB hp hwk)
        | (go_at_call 17; (with_reducible refine hw1.mono ?_); rintro e w2 ⟨rfl, hB⟩; have H2 := Lib.hid (H1.out.trans (hB.mono H1.out.size)); clear hB hw1))
      go_ret
      exact ⟨f, rfl, HE.out.1 f w2 H2.out rfl HE.out.2⟩
  · rw [if_neg hp0] at he
    have d1 : (p != 0) = true := by simpa using hp0
    have HE := Lib.hid (And.intro he hp0)
    clear he hk hp0 hwk
    go_enter Tryd.func29, Tryd.ntmps29
    go_wp2_with (go_at_call 53; (with_reducible refine hp.mono ?_); rintro e w1 ⟨rfl, hB⟩; have H1 := Lib.hid hB; clear hB hp)
    go_ret
    exact ⟨p, rfl, HE.out.1 p w1 H1.out rfl HE.out.2⟩
end
end Go.Proofs.YtchnjfmimpikcaaDoor
