/-
  CondScript: the walk.
-/
import Derived.Test.YtgkchpifogfohaaCondOrd
import Derived.Test.YtgkchpifogfohaaScrP
namespace Go.Proofs.Ytgkchpifogfohaa
set_option linter.unusedSimpArgs false
set_option linter.unusedVariables false
open Go.RowKit Go.Lib Own Sl
open RegJ hiding Up
open RegF hiding put_size

/-- the acts, as they lie: three numbers each -/
def Acts (w : World) (av : Option Addr) (len : Nat) : Prop := ∀ i, i < len → ∃ g o d t j, av = some ⟨g, o, none⟩ ∧ w.cell? ⟨g, o + i * 3, none⟩ = some (.int .i64 d) ∧ w.cell? ⟨g, o + i * 3 + 1, none⟩ = some (.int .i64 t) ∧ w.cell? ⟨g, o + i * 3 + 2, none⟩ = some (.int .i64 j)
def ScrP (w : World) (e : Ending) (w' : World) : Prop := e = .returned (.bool true) ∧ Below w.heap.size w w'
set_option maxRecDepth 100000 in
theorem scr_long (n : Int) (av : Option Addr) (len cap : Nat) (cs : Array Value) (hm : len ≤ maxLen) (hl : 100 < len) (w : World) :
    Calls Try.prog 4 #[.int .i64 n, .slice av len cap, .agg cs] w (ScrP w) := by
  unfold maxLen at hm
  have d1 : decide ((len : Int) > 100) = true := by simp; omega
  have haw := awake_any
  go_enter Try.func4, Try.ntmps4
  go_wp2_with (go_at_call 12; refine (haw _).mono ?_; rintro e w' ⟨rfl, hB⟩)
  go_ret
  exact ⟨rfl, ((Below.refl _ _).alloc (Nat.le_refl _) _).trans (hB.mono (by simp))⟩
set_option maxRecDepth 100000 in
theorem scr_arg (n : Int) (av : Option Addr) (len cap : Nat) (cs : Array Value) (hl : len ≤ 100) (hn : n < 1 ∨ 4 < n) (w : World) :
    Calls Try.prog 4 #[.int .i64 n, .slice av len cap, .agg cs] w (ScrP w) := by
  have d1 : decide ((len : Int) > 100) = false := by simp; omega
  have haw := awake_any
  have h1 := new_no n hn
  have h2 := rnew_no n hn
  clear hn
  go_enter Try.func4, Try.ntmps4
  go_wp2_with (first
    | (go_at_call 8; refine (h1 _).mono ?_; rintro e w' ⟨rfl, rfl⟩)
    | (go_at_call 13; refine (h2 _).mono ?_; rintro e w' ⟨rfl, rfl⟩)
    | (go_at_call 14; refine (num_is _ _).mono ?_; rintro e w' ⟨rfl, rfl⟩)
    | (go_at_call 12; refine (haw _).mono ?_; rintro e w' ⟨rfl, hB⟩))
  go_ret
  exact ⟨rfl, ((Below.refl _ _).alloc (Nat.le_refl _) _).trans (hB.mono (by simp))⟩
theorem st_cell {W w : World} {n bc br bk : Nat} {Q : Nat → Int} {E : Nat → Prop} {lc lr : Nat → List Int} (h : St W w n bc br bk Q E lc lr) {a : Addr} {v : Value} (hc : W.cell? a = some v) : w.cell? a = some v := by
  obtain ⟨rl, vs, bs, -, -, -, -, -, -, hw⟩ := h
  exact below_cell (hw.below (Nat.le_refl _)) hc
/-- both are there, nobody waits -/
theorem st0 {w w1 w2 : World} {n bc br rl : Nat} {Q : Nat → Int} (hC : Cd w1 (fun k => k < (w.alloc (.cells #[.int .i64 (Q 0), .int .i64 (Q 1), .int .i64 (Q 2), .int .i64 (Q 3), .int .i64 (Q 4), .int .i64 (Q 5), .int .i64 (Q 6), .int .i64 (Q 7), .int .i64 (Q 8), .int .i64 (Q 9), .int .i64 (Q 10), .int .i64 (Q 11), .int .i64 (Q 12), .int .i64 (Q 13), .int .i64 (Q 14), .int .i64 (Q 15)] 23)).heap.size) n bc (fun _ => [])) (hB : Below (w.alloc (.cells #[.int .i64 (Q 0), .int .i64 (Q 1), .int .i64 (Q 2), .int .i64 (Q 3), .int .i64 (Q 4), .int .i64 (Q 5), .int .i64 (Q 6), .int .i64 (Q 7), .int .i64 (Q 8), .int .i64 (Q 9), .int .i64 (Q 10), .int .i64 (Q 11), .int .i64 (Q 12), .int .i64 (Q 13), .int .i64 (Q 14), .int .i64 (Q 15)] 23)).heap.size (w.alloc (.cells #[.int .i64 (Q 0), .int .i64 (Q 1), .int .i64 (Q 2), .int .i64 (Q 3), .int .i64 (Q 4), .int .i64 (Q 5), .int .i64 (Q 6), .int .i64 (Q 7), .int .i64 (Q 8), .int .i64 (Q 9), .int .i64 (Q 10), .int .i64 (Q 11), .int .i64 (Q 12), .int .i64 (Q 13), .int .i64 (Q 14), .int .i64 (Q 15)] 23)) w1) (hR : RR w2 n br rl (fun _ => .slice none 0 0) (fun _ => none) (fun _ => [])) (hb1 : w1.heap.size ≤ br) (hb2 : w1.heap.size ≤ rl) (hB2 : Below w1.heap.size w1 w2) :
    St w (w2.alloc (.cells #[.int .i64 (Q 0), .int .i64 (Q 1), .int .i64 (Q 2), .int .i64 (Q 3), .int .i64 (Q 4), .int .i64 (Q 5), .int .i64 (Q 6), .int .i64 (Q 7), .int .i64 (Q 8), .int .i64 (Q 9), .int .i64 (Q 10), .int .i64 (Q 11), .int .i64 (Q 12), .int .i64 (Q 13), .int .i64 (Q 14), .int .i64 (Q 15)] 30)) n bc br w2.heap.size Q (fun j => j = w.heap.size) (fun _ => []) (fun _ => []) ∧ Blk (w2.alloc (.cells #[.int .i64 (Q 0), .int .i64 (Q 1), .int .i64 (Q 2), .int .i64 (Q 3), .int .i64 (Q 4), .int .i64 (Q 5), .int .i64 (Q 6), .int .i64 (Q 7), .int .i64 (Q 8), .int .i64 (Q 9), .int .i64 (Q 10), .int .i64 (Q 11), .int .i64 (Q 12), .int .i64 (Q 13), .int .i64 (Q 14), .int .i64 (Q 15)] 30)) w.heap.size #[.int .i64 (Q 0), .int .i64 (Q 1), .int .i64 (Q 2), .int .i64 (Q 3), .int .i64 (Q 4), .int .i64 (Q 5), .int .i64 (Q 6), .int .i64 (Q 7), .int .i64 (Q 8), .int .i64 (Q 9), .int .i64 (Q 10), .int .i64 (Q 11), .int .i64 (Q 12), .int .i64 (Q 13), .int .i64 (Q 14), .int .i64 (Q 15)] 23 := by
  have hs : (w.alloc (.cells #[.int .i64 (Q 0), .int .i64 (Q 1), .int .i64 (Q 2), .int .i64 (Q 3), .int .i64 (Q 4), .int .i64 (Q 5), .int .i64 (Q 6), .int .i64 (Q 7), .int .i64 (Q 8), .int .i64 (Q 9), .int .i64 (Q 10), .int .i64 (Q 11), .int .i64 (Q 12), .int .i64 (Q 13), .int .i64 (Q 14), .int .i64 (Q 15)] 23)).heap.size = w.heap.size + 1 := by simp
  have hs1 := hB.size
  have hs2 := hB2.size
  have hb3 : Below w2.heap.size w2 (w2.alloc (.cells #[.int .i64 (Q 0), .int .i64 (Q 1), .int .i64 (Q 2), .int .i64 (Q 3), .int .i64 (Q 4), .int .i64 (Q 5), .int .i64 (Q 6), .int .i64 (Q 7), .int .i64 (Q 8), .int .i64 (Q 9), .int .i64 (Q 10), .int .i64 (Q 11), .int .i64 (Q 12), .int .i64 (Q 13), .int .i64 (Q 14), .int .i64 (Q 15)] 30)) := (Below.refl _ _).alloc (Nat.le_refl _) _
  have hkb : Blk (w2.alloc (.cells #[.int .i64 (Q 0), .int .i64 (Q 1), .int .i64 (Q 2), .int .i64 (Q 3), .int .i64 (Q 4), .int .i64 (Q 5), .int .i64 (Q 6), .int .i64 (Q 7), .int .i64 (Q 8), .int .i64 (Q 9), .int .i64 (Q 10), .int .i64 (Q 11), .int .i64 (Q 12), .int .i64 (Q 13), .int .i64 (Q 14), .int .i64 (Q 15)] 30)) w.heap.size #[.int .i64 (Q 0), .int .i64 (Q 1), .int .i64 (Q 2), .int .i64 (Q 3), .int .i64 (Q 4), .int .i64 (Q 5), .int .i64 (Q 6), .int .i64 (Q 7), .int .i64 (Q 8), .int .i64 (Q 9), .int .i64 (Q 10), .int .i64 (Q 11), .int .i64 (Q 12), .int .i64 (Q 13), .int .i64 (Q 14), .int .i64 (Q 15)] 23 := ((Blk.below hB2 (Blk.below hB (Blk.new w #[.int .i64 (Q 0), .int .i64 (Q 1), .int .i64 (Q 2), .int .i64 (Q 3), .int .i64 (Q 4), .int .i64 (Q 5), .int .i64 (Q 6), .int .i64 (Q 7), .int .i64 (Q 8), .int .i64 (Q 9), .int .i64 (Q 10), .int .i64 (Q 11), .int .i64 (Q 12), .int .i64 (Q 13), .int .i64 (Q 14), .int .i64 (Q 15)] 23) (by omega)) (by omega))).alloc _
  refine ⟨⟨rl, fun _ => .slice none 0 0, fun _ => none, ?_, hR.below hb3, ?_, fun j hj => ?_, by omega, fun j hj => ⟨by omega, by omega⟩, ?_⟩, hkb⟩
  · have h1 := (hC.more hB2).more hb3
    obtain ⟨bl, vs', bs', h1, h2, h3, h4⟩ := h1
    have hmap : ∀ j, (j < w.heap.size ∨ j = w2.heap.size ∨ CFoot br rl (fun _ => none) j ∨ j = w.heap.size) → ((j < (w.alloc (.cells #[.int .i64 (Q 0), .int .i64 (Q 1), .int .i64 (Q 2), .int .i64 (Q 3), .int .i64 (Q 4), .int .i64 (Q 5), .int .i64 (Q 6), .int .i64 (Q 7), .int .i64 (Q 8), .int .i64 (Q 9), .int .i64 (Q 10), .int .i64 (Q 11), .int .i64 (Q 12), .int .i64 (Q 13), .int .i64 (Q 14), .int .i64 (Q 15)] 23)).heap.size ∨ w1.heap.size ≤ j ∧ j < w2.heap.size) ∨ w2.heap.size ≤ j ∧ j < (w2.alloc (.cells #[.int .i64 (Q 0), .int .i64 (Q 1), .int .i64 (Q 2), .int .i64 (Q 3), .int .i64 (Q 4), .int .i64 (Q 5), .int .i64 (Q 6), .int .i64 (Q 7), .int .i64 (Q 8), .int .i64 (Q 9), .int .i64 (Q 10), .int .i64 (Q 11), .int .i64 (Q 12), .int .i64 (Q 13), .int .i64 (Q 14), .int .i64 (Q 15)] 30)).heap.size) := fun j hj => by
      have hs3 : (w2.alloc (.cells #[.int .i64 (Q 0), .int .i64 (Q 1), .int .i64 (Q 2), .int .i64 (Q 3), .int .i64 (Q 4), .int .i64 (Q 5), .int .i64 (Q 6), .int .i64 (Q 7), .int .i64 (Q 8), .int .i64 (Q 9), .int .i64 (Q 10), .int .i64 (Q 11), .int .i64 (Q 12), .int .i64 (Q 13), .int .i64 (Q 14), .int .i64 (Q 15)] 30)).heap.size = w2.heap.size + 1 := by simp
      rcases hj with h | h | h | h
      · exact Or.inl (Or.inl (by omega))
      · exact Or.inr ⟨by omega, by omega⟩
      · have hl := hR.lt j h
        rcases h with h | h | ⟨i, h⟩
        · exact Or.inl (Or.inr ⟨by omega, by omega⟩)
        · exact Or.inl (Or.inr ⟨by omega, by omega⟩)
        · cases h
      · exact Or.inl (Or.inl (by omega))
    exact ⟨bl, vs', bs', h1, fun k hk hk' => h2 k hk (hmap k hk'), fun k hk => h3 k (hmap k hk), h4⟩
  · unfold KR; rw [keys16]; exact Blk.new _ _ _
  · have hl := hR.lt j hj
    rcases hj with h | h | ⟨i, h⟩
    · exact ⟨by omega, by omega, by omega⟩
    · exact ⟨by omega, by omega, by omega⟩
    · cases h
  · have h1 : Below w.heap.size w w1 := ((Below.refl _ _).alloc (Nat.le_refl _) _).trans (hB.mono (by omega))
    exact ((Keep.of_below h1).trans ((Keep.of_below hB2).mono (fun _ h => h))).trans ((Keep.of_below hb3).mono (fun _ h => h))
/-! ### within a round: bx is the act, b a list that is held -/
def Md (w wx : World) (n bc br bk bx : Nat) (Q : Nat → Int) (x : Array Value) (b : Option Nat) (v : Value) (xs : List Int) (lc lr : Nat → List Int) : Prop :=
  St w wx n bc br bk Q (fun k => (k = w.heap.size ∨ k = bx) ∨ b = some k) lc lr ∧ Blk wx w.heap.size #[.int .i64 (Q 0), .int .i64 (Q 1), .int .i64 (Q 2), .int .i64 (Q 3), .int .i64 (Q 4), .int .i64 (Q 5), .int .i64 (Q 6), .int .i64 (Q 7), .int .i64 (Q 8), .int .i64 (Q 9), .int .i64 (Q 10), .int .i64 (Q 11), .int .i64 (Q 12), .int .i64 (Q 13), .int .i64 (Q 14), .int .i64 (Q 15)] 23 ∧ Blk wx bx x 43 ∧ Ints wx 3 v xs b ∧ ∀ g, b = some g → g ≠ w.heap.size ∧ g ≠ bx
def MdP (r : Value) (w : World) (n bc br bk bx : Nat) (Q : Nat → Int) (x : Array Value) (b : Option Nat) (v : Value) (xs : List Int) (lc lr : Nat → List Int) (e : Ending) (w' : World) : Prop := e = .returned r ∧ Md w w' n bc br bk bx Q x b v xs lc lr
section
variable {w wx : World} {n bc br bk bx : Nat} {Q : Nat → Int} {x : Array Value} {b : Option Nat} {v : Value} {xs : List Int} {lc lr ls : Nat → List Int}
theorem md_start {wr : World} (h : St w wr n bc br bk Q (fun j => j = w.heap.size) ls ls) (hk : Blk wr w.heap.size #[.int .i64 (Q 0), .int .i64 (Q 1), .int .i64 (Q 2), .int .i64 (Q 3), .int .i64 (Q 4), .int .i64 (Q 5), .int .i64 (Q 6), .int .i64 (Q 7), .int .i64 (Q 8), .int .i64 (Q 9), .int .i64 (Q 10), .int .i64 (Q 11), .int .i64 (Q 12), .int .i64 (Q 13), .int .i64 (Q 14), .int .i64 (Q 15)] 23) : Md w (wr.alloc (.cells x 43)) n bc br bk wr.heap.size Q x none (.slice none 0 0) [] ls ls := by
  refine ⟨(h.more ((Below.refl _ _).alloc (Nat.le_refl _) _)).anti (fun j hj => ?_), hk.alloc _, Blk.new _ _ _, Or.inl ⟨rfl, rfl, rfl⟩, fun g hg => by cases hg⟩
  rcases hj with (hj | hj) | hj
  · exact Or.inl hj
  · exact Or.inr ⟨by omega, by subst hj; simp⟩
  · cases hj
theorem md_call {f : FuncId} {args : Array Value} {r : Value} {lc' lr' : Nat → List Int} (h : Md w wx n bc br bk bx Q x b v xs lc lr) (hc : ∀ E, St w wx n bc br bk Q E lc lr → Calls Try.prog f args wx (StP r w wx n bc br bk Q E lc' lr')) :
    Calls Try.prog f args wx (MdP r w n bc br bk bx Q x b v xs lc' lr') := by
  obtain ⟨h1, h2, h3, h4, h5⟩ := h
  refine (hc _ h1).mono ?_
  rintro e w' ⟨rfl, hS, hK⟩
  exact ⟨rfl, hS, Blk.upd hK h2 (fun hn => hn (Or.inl (Or.inl rfl))), Blk.upd hK h3 (fun hn => hn (Or.inl (Or.inr rfl))), h4.upd hK (fun g hg hn => hn (Or.inr hg)), h5⟩
theorem md_drew (q : Nat) (h : Md w wx n bc br bk bx Q x b v xs lc lr) : Md w (wx.drewN q) n bc br bk bx Q x b v xs lc lr := by
  obtain ⟨h1, h2, h3, h4, h5⟩ := h
  have hu := (Upd.refl (fun _ => False) wx).drewN q
  exact ⟨h1.turn hu (fun _ h => h.elim), Blk.upd hu h2 (fun h => h), Blk.upd hu h3 (fun h => h), h4.upd hu (fun _ _ h => h), h5⟩
def MdL (w : World) (n bc br bk bx : Nat) (Q : Nat → Int) (x : Array Value) (xs : List Int) (lc lr : Nat → List Int) (e : Ending) (w' : World) : Prop := ∃ v b, e = .returned v ∧ Md w w' n bc br bk bx Q x b v xs lc lr
theorem md_list (h : Md w wx n bc br bk bx Q x b v xs lc lr) (hF : Fine n lc) (hn : n ≤ 4) (I : Int) :
    Calls Try.prog 20 #[.pointer (some ⟨bc, 0, none⟩), .int .i64 I] wx (MdL w n bc br bk bx Q x (lsAt lc I) lc lr) := by
  obtain ⟨h1, h2, h3, h4, h5⟩ := h
  refine (st_clist (h1.anti (E' := fun k => k = w.heap.size ∨ k = bx) (fun j hj => Or.inl hj)) hF hn I).mono ?_
  rintro e w' ⟨v', b', rfl, hI, hS, hb, hK⟩
  exact ⟨v', b', rfl, hS, Blk.upd hK h2 (fun hn => hn (Or.inl rfl)), Blk.upd hK h3 (fun hn => hn (Or.inr rfl)), hI, fun g hg => by
    have := hb g hg
    have l2 := h2.lt
    have l3 := h3.lt
    exact ⟨by omega, by omega⟩⟩
def MdR (wx : World) (xs : List Int) (e : Ending) (w' : World) : Prop := ∃ v, e = .returned v ∧ RdI w' v xs ∧ wx = w'
theorem md_rlist (h : Md w wx n bc br bk bx Q x b v xs lc lr) (hF : Fine n lr) (hn : n ≤ 4) (I : Int) :
    Calls Try.prog 24 #[.pointer (some ⟨br, 0, none⟩), .int .i64 I] wx (MdR wx (lsAt lr I)) := by
  refine (st_rlist h.1 hF hn I).mono ?_
  rintro e w' ⟨v', rfl, hr, -, rfl⟩
  exact ⟨v', rfl, hr, rfl⟩
def MdO (w : World) (n bc br bk : Nat) (Q : Nat → Int) (lc lr : Nat → List Int) (e : Ending) (w' : World) : Prop := (∃ v, e = .returned v) ∧ St w w' n bc br bk Q (fun j => j = w.heap.size) lc lr ∧ Blk w' w.heap.size #[.int .i64 (Q 0), .int .i64 (Q 1), .int .i64 (Q 2), .int .i64 (Q 3), .int .i64 (Q 4), .int .i64 (Q 5), .int .i64 (Q 6), .int .i64 (Q 7), .int .i64 (Q 8), .int .i64 (Q 9), .int .i64 (Q 10), .int .i64 (Q 11), .int .i64 (Q 12), .int .i64 (Q 13), .int .i64 (Q 14), .int .i64 (Q 15)] 23
theorem md_over (h : Md w wx n bc br bk bx Q x b v xs lc lr) (hl : xs.length ≤ 1000) : Calls Try.prog 25 #[v] wx (MdO w n bc br bk Q lc lr) := by
  obtain ⟨h1, h2, h3, h4, h5⟩ := h
  refine (over_is h4 hl).mono ?_
  rintro e w' ⟨⟨r, rfl⟩, hu⟩
  exact ⟨⟨r, rfl⟩, (h1.turn hu (fun j hj => Or.inr hj)).anti (fun j hj => Or.inl (Or.inl hj)), Blk.upd hu h2 (fun hb => (h5 _ hb).1 rfl)⟩
theorem lsAt_len (hF : Fine n ls) (I : Int) : (lsAt ls I).length ≤ 1000 := by
  unfold lsAt; split
  · simp
  · exact hF.good.len _
theorem md_key (h : Md w wx n bc br bk bx Q x b v xs lc lr) : KeyAt wx w.heap.size Q := fun j hj => by
  have h2 := h.2.1
  rw [← keys16] at h2
  rw [h2.rd]; simp [hj]
end
/-! ### two calls in a region that draws its order -/
def JJ (c d : Nat) (S : Bool → Bool → World → Prop) (f : Nat → Bool) (w : World) : Prop := S (f c) (f d) w
section
variable {c d k : Nat} {S : Bool → Bool → World → Prop} {f : Nat → Bool} {w : World}
theorem fset_ne (hk : k ≠ c) : fset f k c = f c := by unfold fset; simp; intro h; exact absurd h.symm hk
theorem fset_eq : fset f c c = true := by unfold fset; simp
theorem JJ.other (h : JJ c d S f w) (hc : k ≠ c) (hd : k ≠ d) : JJ c d S (fset f k) w := by unfold JJ at *; rw [fset_ne hc, fset_ne hd]; exact h
theorem JJ.one (h : JJ c d S f w) (hf : f c = false) : S false (f d) w := by unfold JJ at h; rw [hf] at h; exact h
theorem JJ.two (h : JJ c d S f w) (hf : f d = false) : S (f c) false w := by unfold JJ at h; rw [hf] at h; exact h
theorem JJ.fin1 (h : S true (f d) w) (hd : c ≠ d) : JJ c d S (fset f c) w := by unfold JJ; rw [fset_eq, fset_ne hd]; exact h
theorem JJ.fin2 (h : S (f c) true w) (hd : d ≠ c) : JJ c d S (fset f d) w := by unfold JJ; rw [fset_eq, fset_ne hd]; exact h
theorem JJ.over1 (h : JJ c d S f w) (hc : f c = true) : S true (f d) w := by unfold JJ at h; rw [hc] at h; exact h
theorem JJ.over (h : JJ c d S f w) (hc : f c = true) (hd : f d = true) : S true true w := by unfold JJ at h; rw [hc, hd] at h; exact h
end
set_option maxRecDepth 100000 in
set_option maxHeartbeats 4000000 in
theorem scr_walk (n : Nat) (av : Option Addr) (len cap : Nat) (cs : Array Value) (Q : Nat → Int) (hcs : cs = ((List.range 16).map fun j => Value.int .i64 (Q j)).toArray) (hl : len ≤ 100) (hn1 : 1 ≤ n) (hn4 : n ≤ 4) (w : World) (hA : Acts w av len) :
    Calls Try.prog 4 #[.int .i64 n, .slice av len cap, .agg cs] w (ScrP w) := by
  have d1 : decide ((len : Int) > 100) = false := by simp; omega
  have haw := awake_any
  have h1 := fun w => new_cd n hn1 hn4 w
  have h2 := fun w => rnew_any n hn1 hn4 w
  have HA := Lib.hid hA
  clear hA
  rw [keys16] at hcs
  subst hcs
  go_enter Try.func4, Try.ntmps4
  go_wp2_with (first
    | (go_at_call 8; refine (h1 _).mono ?_; rintro e w1 ⟨bc, rfl, hC1, hB1⟩)
    | (go_at_call 13; refine (h2 _).mono ?_; rintro e w2 ⟨br, rl, rfl, hR2, hb1, hb2, hB2⟩; have c1 := (Blk.below hB2 (Blk.below hB1 (Blk.new w _ _) (by simp)) (by have := hB1.size; simp at this; omega)).rd)
    | (go_at_call 14; refine (num_is _ _).mono ?_; rintro e w' ⟨rfl, rfl⟩))
  clear c1 h1 h2
  have HST := Lib.hid (st0 (Q := Q) hC1 hB1 hR2 hb1 hb2 hB2)
  clear hC1 hB1 hR2 hb1 hb2 hB2
  go_loopw [12] (fun ix wr => ∃ (i : Nat) (ls : Nat → List Int), i ≤ len ∧ ix = .int .i64 i ∧ Fine n ls ∧ St w wr n bc br w2.heap.size Q (fun j => j = w.heap.size) ls ls ∧ Blk wr w.heap.size #[.int .i64 (Q 0), .int .i64 (Q 1), .int .i64 (Q 2), .int .i64 (Q 3), .int .i64 (Q 4), .int .i64 (Q 5), .int .i64 (Q 6), .int .i64 (Q 7), .int .i64 (Q 8), .int .i64 (Q 9), .int .i64 (Q 10), .int .i64 (Q 11), .int .i64 (Q 12), .int .i64 (Q 13), .int .i64 (Q 14), .int .i64 (Q 15)] 23) (fun ix _ => len - (intOf ix).toNat)
  case atStart => exact ⟨0, _, Nat.zero_le _, rfl, Fine.nil n, HST.out.1, HST.out.2⟩
  case round =>
    obtain ⟨i, ls, hi, rfl, hF, hS, hkb⟩ := hrel
    clear HST
    by_cases hil : i < len
    · obtain ⟨g, o, d, t, j, rfl, k0, k1, k2⟩ := HA.out i hil
      have d2 : decide ((i : Int) < (len : Int)) = true := by simp; omega
      have i1 : (i : Int) < (len : Int) := by omega
      replace k0 := st_cell hS k0
      replace k1 := st_cell hS k1
      replace k2 := st_cell hS k2
      have HF := Lib.hid hF
      have HM := Lib.hid (md_start (x := #[.int .i64 d, .int .i64 t, .int .i64 j]) hS hkb)
      clear hF hS hkb
      have hlo := low_any t 16 (by omega) (by omega)
      have hlb := low_bd t 16 (by omega)
      generalize lowF t 16 = t' at hlo hlb
      by_cases hd0 : d = 0
      · subst hd0
        go_wp2_with (go_at_call 15; (with_reducible refine (hlo _).mono ?_); rintro e w' ⟨rfl, rfl⟩; clear hlo)
        refine region_J (JJ 4 10 (fun a b w' => Md w w' n bc br w2.heap.size wr.heap.size Q #[.int .i64 0, .int .i64 t, .int .i64 j] none (.slice none 0 0) [] (Sel a (waitL n ls t' j) ls) (Sel b (waitL n ls t' j) ls))) (by kernel_rfl) (by kernel_rfl) ?_ ?_
        · exact md_drew 1 HM.out
        · iterate 13
            apply wpJ_op rfl (by rfl)
            · intro f w' hf hJ Q1 hQ
              have c1 := (show Md w w' n bc br w2.heap.size wr.heap.size Q #[.int .i64 0, .int .i64 t, .int .i64 j] none (.slice none 0 0) [] (Sel (f 4) (waitL n ls t' j) ls) (Sel (f 10) (waitL n ls t' j) ls) from hJ).2.2.1.rd
              simp only [Act.put, List.setIfInBounds_toArray, List.set_cons_zero, List.set_cons_succ] at hQ
              go_wp2_with (first
                | (go_at_call 9; refine (md_call (JJ.one hJ hf.1) (fun E hE => st_cwait hE HF.out hn4 t' j hlb)).mono ?_; rintro e w3 ⟨rfl, hM3⟩)
                | (go_at_call 16; refine (md_call (JJ.two hJ hf.1) (fun E hE => st_rwait hE HF.out hn4 t' j hlb)).mono ?_; rintro e w3 ⟨rfl, hM3⟩)
                | (go_at_call 14; refine (num_is _ _).mono ?_; rintro e w3 ⟨rfl, rfl⟩))
              first
                | exact hQ _ _ rfl (hJ.other (by decide) (by decide))
                | exact hQ _ _ rfl (JJ.fin1 hM3 (by decide))
                | exact hQ _ _ rfl (JJ.fin2 hM3 (by decide))
            simp only [Act.put, List.setIfInBounds_toArray, List.set_cons_zero, List.set_cons_succ]
          refine wpJ_nil ?_
          intro w3 hJ3
          have HM3 := Lib.hid (show Md w w3 n bc br w2.heap.size wr.heap.size Q #[.int .i64 0, .int .i64 t, .int .i64 j] none (.slice none 0 0) [] (waitL n ls t' j) (waitL n ls t' j) from hJ3.over rfl rfl)
          clear hJ3 HM
          have HF2 := HF.out.wait t' j hlb
          have c1 := HM3.out.2.2.1.rd
          have hls := md_list HM3.out HF2 hn4 j
          clear HM3
          go_wp2_with (first
            | (go_at_call 20; (with_reducible refine hls.mono ?_); rintro e w4 ⟨u, b, rfl, hM4⟩; clear hls c1; have c1 := hM4.2.2.1.rd; have ho := md_call hM4 (fun E hE => st_cof hE hn4 t'); clear hM4)
            | (go_at_call 21; (with_reducible refine ho.mono ?_); rintro e w5 ⟨rfl, hM5⟩; clear ho c1; have c1 := hM5.2.2.1.rd; have hro := md_call hM5 (fun E hE => st_rof hE hn4 t'); clear hM5)
            | (go_at_call 22; (with_reducible refine hro.mono ?_); rintro e w6 ⟨rfl, hM6⟩; clear hro c1; have c1 := hM6.2.2.1.rd; have hrl := md_rlist hM6 HF2 hn4 j; have HM6 := Lib.hid hM6; clear hM6)
            | (go_at_call 24; (with_reducible refine hrl.mono ?_); rintro e w7 ⟨v2, rfl, hr2, rfl⟩; clear hrl; have hsm := same_any HM6.out.2.2.2.1.rdI hr2 true (by simp); clear hr2)
            | (go_at_call 23; (with_reducible refine hsm.mono ?_); rintro e w8 ⟨rfl, q8, rfl⟩; clear hsm; have hov := md_over (md_drew q8 HM6.out) (lsAt_len HF2 j))
            | (go_at_call 25; (with_reducible refine hov.mono ?_); rintro e w9 ⟨⟨r, rfl⟩, hS9⟩; clear hov c1; have HS9 := Lib.hid hS9; clear hS9))
          go_roundw
          case rel => exact ⟨i + 1, _, by omega, by go_num, HF2, HS9.out.1, HS9.out.2⟩
          case measure => simp [intOf]; omega
      · by_cases hd1 : d = 1
        · subst hd1
          clear hd0
          have hs := md_call HM.out (fun E hE => st_csig hE HF.out hn4 j)
          unfold sigV at hs
          clear HM
          go_wp2_with (first
            | (go_at_call 15; (with_reducible refine (hlo _).mono ?_); rintro e w' ⟨rfl, rfl⟩; clear hlo)
            | (go_at_call 10; (with_reducible refine hs.mono ?_); rintro e w1' ⟨rfl, hM1⟩; clear hs; have HM1 := Lib.hid hM1; clear hM1))
          refine region_J (JJ 4 99 (fun a _ w' => Md w w' n bc br w2.heap.size wr.heap.size Q #[.int .i64 1, .int .i64 t, .int .i64 j] none (.slice none 0 0) [] (sigL ls j (sigO Q ls j)) (Sel a (sigL ls j (sigO Q ls j)) ls))) (by kernel_rfl) (by kernel_rfl) ?_ ?_
          · exact md_drew 1 HM1.out
          · iterate 10
              apply wpJ_op rfl (by rfl)
              · intro f w' hf hJ Q1 hQ
                have c1 := (show Md w w' n bc br w2.heap.size wr.heap.size Q #[.int .i64 1, .int .i64 t, .int .i64 j] none (.slice none 0 0) [] (sigL ls j (sigO Q ls j)) (Sel (f 4) (sigL ls j (sigO Q ls j)) ls) from hJ).2.2.1.rd
                simp only [Act.put, List.setIfInBounds_toArray, List.set_cons_zero, List.set_cons_succ] at hQ
                go_wp2_with (first
                  | (go_at_call 17; refine (md_call (JJ.one hJ hf.1) (fun E hE => st_rsig hE HF.out hn4 j w.heap.size (md_key (JJ.one hJ hf.1)))).mono ?_; unfold sigV; rintro e w3 ⟨rfl, hM3⟩)
                  | fail)
                first
                  | exact hQ _ _ rfl (hJ.other (by decide) (by decide))
                  | exact hQ _ _ rfl (JJ.fin1 hM3 (by decide))
              simp only [Act.put, List.setIfInBounds_toArray, List.set_cons_zero, List.set_cons_succ]
            refine wpJ_nil ?_
            intro w3 hJ3
            have HM3 := Lib.hid (show Md w w3 n bc br w2.heap.size wr.heap.size Q #[.int .i64 1, .int .i64 t, .int .i64 j] none (.slice none 0 0) [] (sigL ls j (sigO Q ls j)) (sigL ls j (sigO Q ls j)) from hJ3.over1 rfl)
            clear hJ3 HM1
            have HF2 := HF.out.sig Q j
            have c1 := HM3.out.2.2.1.rd
            have hls := md_list HM3.out HF2 hn4 j
            clear HM3
            go_wp2_with (first
              | (go_at_call 20; (with_reducible refine hls.mono ?_); rintro e w4 ⟨u, b, rfl, hM4⟩; clear hls c1; have c1 := hM4.2.2.1.rd; have ho := md_call hM4 (fun E hE => st_cof hE hn4 t'); clear hM4)
              | (go_at_call 21; (with_reducible refine ho.mono ?_); rintro e w5 ⟨rfl, hM5⟩; clear ho c1; have c1 := hM5.2.2.1.rd; have hro := md_call hM5 (fun E hE => st_rof hE hn4 t'); clear hM5)
              | (go_at_call 22; (with_reducible refine hro.mono ?_); rintro e w6 ⟨rfl, hM6⟩; clear hro c1; have c1 := hM6.2.2.1.rd; have hrl := md_rlist hM6 HF2 hn4 j; have HM6 := Lib.hid hM6; clear hM6)
              | (go_at_call 24; (with_reducible refine hrl.mono ?_); rintro e w7 ⟨v2, rfl, hr2, rfl⟩; clear hrl; have hsm := same_any HM6.out.2.2.2.1.rdI hr2 true (by simp); clear hr2)
              | (go_at_call 23; (with_reducible refine hsm.mono ?_); rintro e w8 ⟨rfl, q8, rfl⟩; clear hsm; have hov := md_over (md_drew q8 HM6.out) (lsAt_len HF2 j))
              | (go_at_call 25; (with_reducible refine hov.mono ?_); rintro e w9 ⟨⟨r, rfl⟩, hS9⟩; clear hov c1; have HS9 := Lib.hid hS9; clear hS9))
            go_roundw
            case rel => exact ⟨i + 1, _, by omega, by go_num, HF2, HS9.out.1, HS9.out.2⟩
            case measure => simp [intOf]; omega
        · by_cases hd2 : d = 2
          · subst hd2
            clear hd0 hd1
            have hs := md_call HM.out (fun E hE => st_ccan hE HF.out hn4 t')
            clear HM
            go_wp2_with (first
              | (go_at_call 15; (with_reducible refine (hlo _).mono ?_); rintro e w' ⟨rfl, rfl⟩; clear hlo)
              | (go_at_call 18; (with_reducible refine hs.mono ?_); rintro e w1' ⟨rfl, hM1⟩; clear hs; have hs2 := md_call hM1 (fun E hE => st_rcan hE HF.out hn4 t'); clear hM1)
              | (go_at_call 19; (with_reducible refine hs2.mono ?_); rintro e w3 ⟨rfl, hM3⟩; clear hs2; have HF2 := HF.out.can t'; have c1 := hM3.2.2.1.rd; have hls := md_list hM3 HF2 hn4 j; clear hM3)
              | (go_at_call 20; (with_reducible refine hls.mono ?_); rintro e w4 ⟨u, b, rfl, hM4⟩; clear hls c1; have c1 := hM4.2.2.1.rd; have ho := md_call hM4 (fun E hE => st_cof hE hn4 t'); clear hM4)
              | (go_at_call 21; (with_reducible refine ho.mono ?_); rintro e w5 ⟨rfl, hM5⟩; clear ho c1; have c1 := hM5.2.2.1.rd; have hro := md_call hM5 (fun E hE => st_rof hE hn4 t'); clear hM5)
              | (go_at_call 22; (with_reducible refine hro.mono ?_); rintro e w6 ⟨rfl, hM6⟩; clear hro c1; have c1 := hM6.2.2.1.rd; have hrl := md_rlist hM6 HF2 hn4 j; have HM6 := Lib.hid hM6; clear hM6)
              | (go_at_call 24; (with_reducible refine hrl.mono ?_); rintro e w7 ⟨v2, rfl, hr2, rfl⟩; clear hrl; have hsm := same_any HM6.out.2.2.2.1.rdI hr2 true (by simp); clear hr2)
              | (go_at_call 23; (with_reducible refine hsm.mono ?_); rintro e w8 ⟨rfl, q8, rfl⟩; clear hsm; have hov := md_over (md_drew q8 HM6.out) (lsAt_len HF2 j))
              | (go_at_call 25; (with_reducible refine hov.mono ?_); rintro e w9 ⟨⟨r, rfl⟩, hS9⟩; clear hov c1; have HS9 := Lib.hid hS9; clear hS9))
            go_roundw
            case rel => exact ⟨i + 1, _, by omega, by go_num, HF2, HS9.out.1, HS9.out.2⟩
            case measure => simp [intOf]; omega
          · have e0 : (d == 0) = false := by simpa using hd0
            have e1 : (d == 1) = false := by simpa using hd1
            have e2 : (d == 2) = false := by simpa using hd2
            clear hd0 hd1 hd2
            have HF2 := HF.out
            have c1 := HM.out.2.2.1.rd
            have hls := md_list HM.out HF2 hn4 j
            clear HM
            go_wp2_with (first
              | (go_at_call 15; (with_reducible refine (hlo _).mono ?_); rintro e w' ⟨rfl, rfl⟩; clear hlo)
              | (go_at_call 20; (with_reducible refine hls.mono ?_); rintro e w4 ⟨u, b, rfl, hM4⟩; clear hls c1; have c1 := hM4.2.2.1.rd; have ho := md_call hM4 (fun E hE => st_cof hE hn4 t'); clear hM4)
              | (go_at_call 21; (with_reducible refine ho.mono ?_); rintro e w5 ⟨rfl, hM5⟩; clear ho c1; have c1 := hM5.2.2.1.rd; have hro := md_call hM5 (fun E hE => st_rof hE hn4 t'); clear hM5)
              | (go_at_call 22; (with_reducible refine hro.mono ?_); rintro e w6 ⟨rfl, hM6⟩; clear hro c1; have c1 := hM6.2.2.1.rd; have hrl := md_rlist hM6 HF2 hn4 j; have HM6 := Lib.hid hM6; clear hM6)
              | (go_at_call 24; (with_reducible refine hrl.mono ?_); rintro e w7 ⟨v2, rfl, hr2, rfl⟩; clear hrl; have hsm := same_any HM6.out.2.2.2.1.rdI hr2 true (by simp); clear hr2)
              | (go_at_call 23; (with_reducible refine hsm.mono ?_); rintro e w8 ⟨rfl, q8, rfl⟩; clear hsm; have hov := md_over (md_drew q8 HM6.out) (lsAt_len HF2 j))
              | (go_at_call 25; (with_reducible refine hov.mono ?_); rintro e w9 ⟨⟨r, rfl⟩, hS9⟩; clear hov c1; have HS9 := Lib.hid hS9; clear hS9))
            go_roundw
            case rel => exact ⟨i + 1, _, by omega, by go_num, HF2, HS9.out.1, HS9.out.2⟩
            case measure => simp [intOf]; omega
    · have hil' : i = len := by omega
      subst hil'
      have d2 : decide ((i : Int) < (i : Int)) = false := by simp
      have HS := Lib.hid hS
      clear hS hkb hF
      go_wp2_with (go_at_call 12; refine (haw _).mono ?_; rintro e w' ⟨rfl, hB⟩)
      go_ret
      obtain ⟨rl, vs, bs, -, -, -, -, -, -, hw⟩ := HS.out
      exact ⟨rfl, (hw.below (Nat.le_refl _)).trans (hB.mono hw.size)⟩
theorem script_walk (n : Int) (av : Option Addr) (len cap : Nat) (cs : Array Value) (Q : Nat → Int) (w : World) (hm : len ≤ maxLen) (hA : Acts w av len) (hcs : cs = ((List.range 16).map fun j => Value.int .i64 (Q j)).toArray) :
    Calls Try.prog 4 #[.int .i64 n, .slice av len cap, .agg cs] w fun e w' => e = .returned (.bool true) ∧ Below w.heap.size w w' := by
  by_cases hl : 100 < len
  · exact scr_long n av len cap cs hm hl w
  · by_cases hn : n < 1 ∨ 4 < n
    · exact scr_arg n av len cap cs (by omega) hn w
    · obtain ⟨k, rfl⟩ : ∃ k : Nat, n = k := ⟨n.toNat, by omega⟩
      exact scr_walk k av len cap cs Q hcs (by omega) (by omega) (by omega) w hA
end Go.Proofs.Ytgkchpifogfohaa
