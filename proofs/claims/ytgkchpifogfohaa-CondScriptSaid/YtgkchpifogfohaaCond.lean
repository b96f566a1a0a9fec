/-
  The conditions, as they lie in memory: who waits at each. What the program's functions that only read answer.
-/
import Derived.Test.YtgkchpifogfohaaCondS
import Derived.Test.YtgkchpifogfohaaRegF
import Derived.Handy
import Derived.Lib.Hide
namespace Go.Proofs.Ytgkchpifogfohaa
set_option linter.unusedSimpArgs false
set_option linter.unusedVariables false
open Go.RowKit Go.Lib RegJ Own Sl

theorem ret_int {k : IntKind} {a b : Int} (h : a = b) : Ending.returned (.int k a) = .returned (.int k b) := by rw [h]
theorem ret_bool {a b : Bool} (h : a = b) : Ending.returned (.bool a) = .returned (.bool b) := by rw [h]

/-- n conditions: the object (bc), its list of lists (bl), the rows -/
structure CR (w : World) (n bc bl : Nat) (vs : Nat → Value) (bs : Nat → Option Nat) (ls : Nat → List Int) : Prop where
  hc : Blk w bc #[.slice (some ⟨bl, 0, none⟩) n n] 57
  hl : Blk w bl ((List.range n).map vs).toArray 46
  ne : bc ≠ bl
  row : ∀ i, Ints w 3 (vs i) (ls i) (bs i)
  own : ∀ i g, bs i = some g → g ≠ bc ∧ g ≠ bl
  inj : ∀ i j g, bs i = some g → bs j = some g → i = j
  out : ∀ i, n ≤ i → ls i = []

def CFoot (bc bl : Nat) (bs : Nat → Option Nat) : Nat → Prop := fun k => k = bc ∨ k = bl ∨ ∃ i, bs i = some k

theorem CR.lt {w : World} {n bc bl : Nat} {vs : Nat → Value} {bs : Nat → Option Nat} {ls : Nat → List Int} (h : CR w n bc bl vs bs ls) (k : Nat) (hk : CFoot bc bl bs k) : k < w.heap.size := by
  rcases hk with rfl | rfl | ⟨i, hi⟩
  · exact h.hc.lt
  · exact h.hl.lt
  · exact (h.row i).lt k hi
theorem CR.upd {w w' : World} {n bc bl : Nat} {vs : Nat → Value} {bs : Nat → Option Nat} {ls : Nat → List Int} {F : Nat → Prop} (h : CR w n bc bl vs bs ls) (hu : Upd F w w') (hf : ∀ k, CFoot bc bl bs k → ¬ F k) : CR w' n bc bl vs bs ls :=
  ⟨Blk.upd hu h.hc (hf _ (Or.inl rfl)), Blk.upd hu h.hl (hf _ (Or.inr (Or.inl rfl))), h.ne, fun i => (h.row i).upd hu (fun g hg => hf g (Or.inr (Or.inr ⟨i, hg⟩))), h.own, h.inj, h.out⟩
theorem CR.below {w w' : World} {n bc bl : Nat} {vs : Nat → Value} {bs : Nat → Option Nat} {ls : Nat → List Int} (h : CR w n bc bl vs bs ls) (hb : Below w.heap.size w w') : CR w' n bc bl vs bs ls :=
  h.upd (Upd.of_below (F := fun _ => False) hb) (fun _ _ hf => hf)
theorem CR.cell {w : World} {n bc bl : Nat} {vs : Nat → Value} {bs : Nat → Option Nat} {ls : Nat → List Int} (h : CR w n bc bl vs bs ls) (i : Nat) (hi : i < n) : w.cell? ⟨bl, i, none⟩ = some (vs i) := by
  rw [h.hl.rd]; simp [hi]

/-- where t waits: the first list that holds it; -1: none -/
def ofF (n : Nat) (ls : Nat → List Int) (t : Int) : Int := Lib.idxBy (fun _ y => (ls y).contains t) ((List.range n).take n) (default : Nat)
theorem ofF_hit {n : Nat} {ls : Nat → List Int} {t : Int} (k : Nat) (hk : k < n) (h : t ∈ ls k) (hne : ∀ j, j < k → t ∉ ls j) : ofF n ls t = k := by
  unfold ofF
  have e : ∀ j, j < n → (List.range n)[j]! = j := fun j hj => by simp [hj]
  refine Lib.idxBy_hit _ _ n k _ hk (by simp) ?_ (fun j hj => ?_)
  · rw [e k hk]; simpa using h
  · rw [e j (by omega)]; simpa using hne j hj
theorem ofF_miss {n : Nat} {ls : Nat → List Int} {t : Int} (hne : ∀ j, j < n → t ∉ ls j) : ofF n ls t = -1 := by
  unfold ofF
  have e : ∀ j, j < n → (List.range n)[j]! = j := fun j hj => by simp [hj]
  refine Lib.idxBy_miss _ _ n _ (fun j hj => ?_)
  rw [e j hj]; simpa using hne j hj
theorem ofF_cases (n : Nat) (ls : Nat → List Int) (t : Int) : (ofF n ls t = -1 ∧ ∀ j, j < n → t ∉ ls j) ∨ ∃ k, k < n ∧ ofF n ls t = (k : Nat) ∧ t ∈ ls k ∧ ∀ j, j < k → t ∉ ls j := by
  by_cases h : ∃ k, k < n ∧ t ∈ ls k
  · right
    have hex : ∃ k, k < n ∧ t ∈ ls k ∧ ∀ j, j < k → t ∉ ls j := by
      obtain ⟨k, hk, ht⟩ := h
      induction k using Nat.strongRecOn with
      | _ k ih =>
        by_cases h2 : ∃ j, j < k ∧ t ∈ ls j
        · obtain ⟨j, hj, hjt⟩ := h2
          exact ih j hj (by omega) hjt
        · exact ⟨k, hk, ht, fun j hj hjt => h2 ⟨j, hj, hjt⟩⟩
    obtain ⟨k, hk, ht, hm⟩ := hex
    exact ⟨k, hk, ofF_hit k hk ht hm, ht, hm⟩
  · left
    have : ∀ j, j < n → t ∉ ls j := fun j hj hjt => h ⟨j, hj, hjt⟩
    exact ⟨ofF_miss this, this⟩

theorem of_gives {w : World} {n bc bl : Nat} {vs : Nat → Value} {bs : Nat → Option Nat} {ls : Nat → List Int} (h : CR w n bc bl vs bs ls) (t : Int) (B j : Nat) (hc : w.cell? ⟨B, 0, none⟩ = some (.int .i64 t)) :
    FnGives Try.prog 33 #[.pointer (some ⟨B, 0, none⟩)] #[vs j] (.bool ((ls j).contains t)) w := by
  show Calls Try.prog 33 #[vs j, .pointer (some ⟨B, 0, none⟩)] w _
  have hr := h.row j
  go_enter Try.func33, Try.ntmps33
  go_wp2_with (go_at_call 34; refine (contains_any hr _).mono ?_; rintro e w1 ⟨rfl, rfl⟩)
  go_ret
  exact ⟨ret_bool (by simp), 0, rfl⟩
theorem enters_of1 : ∀ args w, (callFunc 33 args).run Try.prog w = .ok (.enter 33 args) w := enters_of Try.func33 (by kernel_rfl) rfl

theorem of_any {w : World} {n bc bl : Nat} {vs : Nat → Value} {bs : Nat → Option Nat} {ls : Nat → List Int} (h : CR w n bc bl vs bs ls) (t : Int) (hn : n ≤ 64) :
    Calls Try.prog 21 #[.pointer (some ⟨bc, 0, none⟩), .int .i64 t] w fun e w' => e = .returned (.int .i64 (ofF n ls t)) ∧ Below w.heap.size w w' := by
  have hcon : ∀ W, Below w.heap.size w W → W.cell? ⟨w.heap.size, 0, none⟩ = some (.int .i64 t) → w.heap.size < W.heap.size → Calls Try.prog 32 #[.slice (some ⟨bl, 0, none⟩) n n, .func (.func 33) #[] #[.pointer (some ⟨w.heap.size, 0, none⟩)]] W fun e w' => e = .returned (.int .i64 (ofF n ls t)) ∧ ∃ q, w' = W.drewN q := fun W hb hcell hsz => by
    have hW := h.below hb
    exact Try.slices_IndexFunc_f32 vs (fun j => (ls j).contains t) 33 #[.pointer (some ⟨w.heap.size, 0, none⟩)] enters_of1 bl 0 n n (List.range n) W
      (fun W2 j hb2 => of_gives (hW.below hb2) t _ j ((hb2.cell (p := ⟨w.heap.size, 0, none⟩) hsz).trans hcell)) (by simp) (by omega) (fun j hj => by
        have hj' : j < n := by simpa using hj
        rw [Nat.zero_add, hW.cell j hj']
        simp [hj'])
  have c1 := h.hc.rd
  have hl := h.hc.lt
  clear h
  go_enter Try.func21, Try.ntmps21
  go_wp2_with (go_at_call 32; refine (hcon _ ((Below.refl _ _).alloc (Nat.le_refl _) _) (by simp) (by simp)).mono ?_; rintro e w1 ⟨rfl, q, rfl⟩)
  go_ret
  exact ⟨rfl, below_drewN' ((Below.refl _ _).alloc (Nat.le_refl _) _) q⟩

theorem has_yes {w : World} {n bc bl : Nat} (h : Blk w bc #[.slice (some ⟨bl, 0, none⟩) n n] 57) (i : Nat) (hi : i < n) (hn : n ≤ 64) :
    Calls Try.prog 26 #[.pointer (some ⟨bc, 0, none⟩), .int .i64 i] w fun e w' => e = .returned (.bool true) ∧ w = w' := by
  have c1 := h.rd
  have h0 : (0 : Int) ≤ (i : Int) := by omega
  have hd : decide (i < n) = true := by simp [hi]
  have hd2 : decide ((i : Int) < (n : Int)) = true := by simp; omega
  clear h
  go_enter Try.func26, Try.ntmps26
  go_wp2
  go_ret
  exact ⟨rfl, rfl⟩
theorem has_no {w : World} {n bc bl : Nat} (h : Blk w bc #[.slice (some ⟨bl, 0, none⟩) n n] 57) (i : Int) (hi : i < 0 ∨ n ≤ i) (hn : n ≤ 64) :
    Calls Try.prog 26 #[.pointer (some ⟨bc, 0, none⟩), .int .i64 i] w fun e w' => e = .returned (.bool false) ∧ w = w' := by
  have c1 := h.rd
  clear h
  by_cases h0 : i < 0
  · clear hi
    go_enter Try.func26, Try.ntmps26
    go_wp2
    all_goals go_ret
    all_goals exact ⟨ret_bool (by simp; try omega), rfl⟩
  · have h1 : (n : Int) ≤ i := by omega
    have hd2 : decide (i < (n : Int)) = false := by simp; omega
    have h2 : 0 ≤ i := by omega
    clear hi h0
    go_enter Try.func26, Try.ntmps26
    go_wp2
    all_goals go_ret
    all_goals exact ⟨ret_bool (by simp; try omega), rfl⟩

theorem Try.info46 : (Try.prog.info? 46).map (fun i => (i.zero, i.size, i.bytes)) = some (some (.slice none 0 0), 1, 24) := by kernel_rfl
theorem made_rows (w : World) (n : Nat) (h : n ≤ 64) : (Instr.makeSlice 55 (.int .i64 (n : Int)) (.int .i64 (n : Int))).run Try.prog w = .ok (.slice (some ⟨w.heap.size, 0, none⟩) n n) (w.alloc (.cells ((List.range n).map fun _ => Value.slice none 0 0).toArray 46)) := by
  obtain ⟨i0, hi, hz0, hz1, hz2⟩ := info_parts Try.info46
  have := run_make (P := Try.prog) w 55 46 i0 (.slice none 0 0) Try.underlying55 hi hz0 .i64 .i64 n n (by omega) (Int.le_refl _) (by rw [hz2]; omega) (by omega)
  rw [this]
  simp only [Int.toNat_natCast, hz1, Nat.mul_one]
  congr 2
  congr 1
  apply Array.ext
  · simp [madeCells]
  · intro i h1 h2
    simp [madeCells, Value.cells, Nat.mod_one]
def NewPost (n : Nat) (w : World) (e : Ending) (w' : World) : Prop := ∃ bc bl, e = .returned (.tuple #[.pointer (some ⟨bc, 0, none⟩), .int .i64 0]) ∧ CR w' n bc bl (fun _ => .slice none 0 0) (fun _ => none) (fun _ => []) ∧ w.heap.size ≤ bc ∧ w.heap.size ≤ bl ∧ Below w.heap.size w w'
theorem new_any (n : Nat) (h1 : 1 ≤ n) (h2 : n ≤ 4) (w : World) :
    Calls Try.prog 8 #[.int .i64 n] w (NewPost n w) := by
  have hmk := fun w => made_rows w n (by omega)
  have i1 : ¬ (n : Int) < 1 := by omega
  have i2 : ¬ 4 < (n : Int) := by omega
  go_enter Try.func8, Try.ntmps8
  go_wp2
  go_ret2
  refine ⟨w.heap.size + 1, w.heap.size, rfl, ⟨Blk.new' (by simp), (Blk.new _ _ _).alloc _, by omega, fun i => Or.inl ⟨rfl, rfl, rfl⟩, fun i g hg => (by cases hg), fun i j g hg => (by cases hg), fun i _ => rfl⟩, by omega, by omega, ((Below.refl _ _).alloc (Nat.le_refl _) _).alloc (by simp) _⟩
theorem new_no (n : Int) (h : n < 1 ∨ 4 < n) (w : World) :
    Calls Try.prog 8 #[.int .i64 n] w fun e w' => e = .returned (.tuple #[.pointer none, .int .i64 2]) ∧ w = w' := by
  by_cases h0 : n < 1
  · clear h
    go_enter Try.func8, Try.ntmps8
    go_wp2
    go_ret2
    exact ⟨rfl, rfl⟩
  · have h1 : 4 < n := by omega
    clear h
    go_enter Try.func8, Try.ntmps8
    go_wp2
    go_ret2
    exact ⟨rfl, rfl⟩

/-- one place of a function turned -/
def put {α : Type} (f : Nat → α) (i : Nat) (x : α) : Nat → α := fun j => if j = i then x else f j
theorem put_same {α : Type} (f : Nat → α) (i : Nat) (x : α) : put f i x i = x := by simp [put]
theorem put_ne {α : Type} (f : Nat → α) {i j : Nat} (x : α) (h : j ≠ i) : put f i x j = f j := by simp [put, h]

theorem range_put {α : Type} (f : Nat → α) (n i : Nat) (x : α) (hi : i < n) : ((List.range n).map f).toArray.setIfInBounds i x = ((List.range n).map (put f i x)).toArray := by
  apply Array.ext_getElem?
  intro j
  rw [Array.getElem?_setIfInBounds]
  by_cases hj : i = j
  · subst hj; simp [hi, put]
  · rw [if_neg hj]
    by_cases hjn : j < n
    · have hj' : ¬ j = i := fun e => hj e.symm
      simp [hjn, put, hj']
    · simp [hjn]

theorem CR.put {W w0 : World} {n bc bl : Nat} {vs : Nat → Value} {bs : Nat → Option Nat} {ls : Nat → List Int} (h : CR W n bc bl vs bs ls) {i : Nat} (hi : i < n) (hu : Upd (fun k => bs i = some k) W w0) {v : Value} {xs : List Int} {b' : Option Nat}
    (hv : Ints w0 3 v xs b') (hb' : ∀ g, b' = some g → bs i = some g ∨ W.heap.size ≤ g) :
    CR (w0.setCell ⟨bl, i, none⟩ v) n bc bl (put vs i v) (put bs i b') (put ls i xs) ∧ Upd (CFoot bc bl bs) W (w0.setCell ⟨bl, i, none⟩ v) ∧ ∀ k, CFoot bc bl (put bs i b') k → CFoot bc bl bs k ∨ W.heap.size ≤ k := by
  have hbc : Blk w0 bc _ _ := Blk.upd hu h.hc (fun e => (h.own i _ e).1 rfl)
  have hbl : Blk w0 bl _ _ := Blk.upd hu h.hl (fun e => (h.own i _ e).2 rfl)
  have hnew : ∀ g, b' = some g → g ≠ bc ∧ g ≠ bl := fun g hg => by
    rcases hb' g hg with h1 | h1
    · exact h.own i g h1
    · have h2 := h.hc.lt; have h3 := h.hl.lt; constructor <;> omega
  have hoth : ∀ j g, j ≠ i → bs j = some g → b' ≠ some g := fun j g hj hg hb => by
    rcases hb' g hb with h1 | h1
    · exact hj (h.inj j i g hg h1)
    · have := (h.row j).lt g hg; omega
  refine ⟨⟨hbc.set_ne h.ne _, ?_, h.ne, fun j => ?_, fun j g hg => ?_, fun j k g hj hk => ?_, fun j hj => ?_⟩, ?_, fun k hk => ?_⟩
  · exact Blk.of (hbl.set i v) (range_put vs n i v hi)
  · have keep : ∀ {E v' xs' b''}, Ints w0 E v' xs' b'' → (∀ g, b'' = some g → g ≠ bl) → Ints (w0.setCell ⟨bl, i, none⟩ v) E v' xs' b'' := fun hI hg => hI.keep (fun g hg' => Below.heap_setCell _ _ _ _ (hg g hg'))
    by_cases hj : j = i
    · subst hj
      rw [put_same, put_same, put_same]
      exact keep hv (fun g hg => (hnew g hg).2)
    · rw [put_ne _ _ hj, put_ne _ _ hj, put_ne _ _ hj]
      exact keep ((h.row j).upd hu (fun g hg e => hj (h.inj j i g hg e))) (fun g hg => (h.own j g hg).2)
  · by_cases hj : j = i
    · subst hj; rw [put_same] at hg; exact hnew g hg
    · rw [put_ne _ _ hj] at hg; exact h.own j g hg
  · by_cases hji : j = i
    · by_cases hki : k = i
      · omega
      · subst hji
        rw [put_same] at hj; rw [put_ne _ _ hki] at hk
        exact absurd hj (hoth k g hki hk)
    · by_cases hki : k = i
      · subst hki
        rw [put_same] at hk; rw [put_ne _ _ hji] at hj
        exact absurd hk (hoth j g hji hj)
      · rw [put_ne _ _ hji] at hj; rw [put_ne _ _ hki] at hk
        exact h.inj j k g hj hk
  · have : j ≠ i := by omega
    rw [put_ne _ _ this]; exact h.out j hj
  · exact Upd.setCell (F := CFoot bc bl bs) (p := ⟨bl, i, none⟩) (hu.mono fun k _ (hk : bs i = some k) => (Or.inr (Or.inr ⟨i, hk⟩) : CFoot bc bl bs k)) (fun _ => (Or.inr (Or.inl rfl) : CFoot bc bl bs bl)) v
  · rcases hk with rfl | rfl | ⟨j, hj⟩
    · exact Or.inl (Or.inl rfl)
    · exact Or.inl (Or.inr (Or.inl rfl))
    · by_cases hji : j = i
      · subst hji
        rw [put_same] at hj
        rcases hb' k hj with h1 | h1
        · exact Or.inl (Or.inr (Or.inr ⟨j, h1⟩))
        · exact Or.inr h1
      · rw [put_ne _ _ hji] at hj
        exact Or.inl (Or.inr (Or.inr ⟨j, hj⟩))
end Go.Proofs.Ytgkchpifogfohaa
