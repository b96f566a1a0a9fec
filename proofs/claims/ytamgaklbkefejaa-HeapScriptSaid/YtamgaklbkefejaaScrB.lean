/-
  HeapScript: both heaps beside one another, with blocks that are kept.
-/
import Derived.Test.YtamgaklbkefejaaScrA
namespace Go.Proofs.Ytamgaklbkefejaa
set_option linter.unusedSimpArgs false
set_option linter.unusedVariables false
open Go.RowKit Go.Lib Own
open RegJ hiding Up
open RegF hiding put_size

def S2 (W w : World) (bh br : Nat) (E : Nat → Prop) (xs ys : List It) : Prop := ∃ b c zs, zs.Perm xs ∧ Hp w bh zs b ∧ Rh w br ys c ∧ (∀ k, Own3 bh b k → ¬ Own3 br c k) ∧ (∀ k, (Own3 bh b k ∨ Own3 br c k) → W.heap.size ≤ k ∧ ¬ E k) ∧ (∀ k, E k → W.heap.size ≤ k ∧ k < w.heap.size) ∧ Below W.heap.size W w
def S2P (v : Value) (W w0 : World) (bh br : Nat) (E : Nat → Prop) (xs ys : List It) (e : Ending) (w' : World) : Prop := e = .returned v ∧ S2 W w' bh br E xs ys ∧ Upd (fun k => ¬ E k) w0 w'
theorem Rh.lt {w : World} {br : Nat} {xs : List It} {c : Option Nat} (h : Rh w br xs c) : br < w.heap.size ∧ ∀ g, c = some g → g < w.heap.size := by
  obtain ⟨v, h1, h2, _⟩ := h
  exact ⟨h1.lt, h2.lt⟩
section
variable {W w w' : World} {bh br : Nat} {E : Nat → Prop} {xs ys : List It}
theorem S2.size (h : S2 W w bh br E xs ys) : W.heap.size ≤ w.heap.size := by
  obtain ⟨b, c, zs, _, _, _, _, _, _, hB⟩ := h
  exact hB.size
theorem S2.anti {E' : Nat → Prop} (h : S2 W w bh br E xs ys) (hE : ∀ k, E' k → E k) : S2 W w bh br E' xs ys := by
  obtain ⟨b, c, zs, h1, h2, h3, h4, h5, h6, h7⟩ := h
  exact ⟨b, c, zs, h1, h2, h3, h4, fun k hk => ⟨(h5 k hk).1, fun he => (h5 k hk).2 (hE k he)⟩, fun k hk => h6 k (hE k hk), h7⟩
/-- new blocks are laid: they are kept from now on -/
theorem S2.more (h : S2 W w bh br E xs ys) (hB : Below w.heap.size w w') : S2 W w' bh br (fun k => E k ∨ (w.heap.size ≤ k ∧ k < w'.heap.size)) xs ys := by
  obtain ⟨b, c, zs, h1, h2, h3, h4, h5, h6, h7⟩ := h
  have hl := h2.1.lt
  have hl2 := h3.lt
  have hs := hB.size
  have hs7 := h7.size
  refine ⟨b, c, zs, h1, ⟨h2.1.below hB, h2.2⟩, h3.below hB, h4, fun k hk => ⟨(h5 k hk).1, fun he => ?_⟩, fun k hk => ?_, h7.trans (hB.mono h7.size)⟩
  · rcases he with he | he
    · exact (h5 k hk).2 he
    · rcases hk with (hk | hk) | (hk | hk)
      · omega
      · have := hl.2 k hk; omega
      · omega
      · have := hl2.2 k hk; omega
  · rcases hk with hk | hk
    · have := h6 k hk; omega
    · omega
/-- somebody turns kept blocks -/
theorem S2.turn {F : Nat → Prop} (h : S2 W w bh br E xs ys) (hu : Upd F w w') (hF : ∀ k, F k → E k) : S2 W w' bh br E xs ys := by
  obtain ⟨b, c, zs, h1, h2, h3, h4, h5, h6, h7⟩ := h
  have hs := hu.size
  refine ⟨b, c, zs, h1, ⟨h2.1.upd hu (fun e => (h5 _ (Or.inl (Or.inl rfl))).2 (hF _ e)) (fun g hg e => (h5 _ (Or.inl (Or.inr hg))).2 (hF _ e)), h2.2⟩, h3.upd hu (fun e => (h5 _ (Or.inr (Or.inl rfl))).2 (hF _ e)) (fun g hg e => (h5 _ (Or.inr (Or.inr hg))).2 (hF _ e)), h4, h5, fun k hk => ⟨(h6 k hk).1, by have := (h6 k hk).2; omega⟩, ?_⟩
  exact h7.trans (hu.below h7.size (fun k hk => (h6 k (hF k hk)).1))
theorem s2_c {f : FuncId} {args : Array Value} {v : Value} {xs' : List It} (h : S2 W w bh br E xs ys) (hc : ∀ b zs, zs.Perm xs → Hp w bh zs b → Calls Try.prog f args w (HpP v bh b w xs')) : Calls Try.prog f args w (S2P v W w bh br E xs' ys) := by
  obtain ⟨b, c, zs, h1, h2, h3, h4, h5, h6, h7⟩ := h
  have hl := h2.1.lt
  have hl2 := h3.lt
  refine (hc b zs h1 h2).mono ?_
  rintro e w' ⟨rfl, us, b', hu, hh, hf⟩
  have hs := hf.1.size
  have own : ∀ k, Own3 bh b' k → Own3 bh b k ∨ w.heap.size ≤ k := fun k hk => by
    rcases hk with hk | hk
    · exact Or.inl (Or.inl hk)
    · exact (hf.2 k hk).imp Or.inr id
  have lt2 : ∀ k, Own3 br c k → k < w.heap.size := fun k hk => by
    rcases hk with rfl | hk
    · exact hl2.1
    · exact hl2.2 k hk
  refine ⟨rfl, ⟨b', c, us, hu, hh, h3.upd hf.1 (fun e => h4 _ e (Or.inl rfl)) (fun g hg e => h4 _ e (Or.inr hg)), fun k hk hk' => ?_, fun k hk => ?_, fun k hk => ⟨(h6 k hk).1, by have := (h6 k hk).2; omega⟩, h7.trans (hf.1.below h7.size (fun k hk => (h5 k (Or.inl hk)).1))⟩, hf.1.mono (fun k _ hk he => (h5 k (Or.inl hk)).2 he)⟩
  · rcases own k hk with h | h
    · exact h4 k h hk'
    · have := lt2 k hk'; omega
  · rcases hk with hk | hk
    · rcases own k hk with h | h
      · exact h5 k (Or.inl h)
      · exact ⟨by have := h7.size; omega, fun he => by have := (h6 k he).2; omega⟩
    · exact h5 k (Or.inr hk)
theorem s2_r {f : FuncId} {args : Array Value} {v : Value} {ys' : List It} (h : S2 W w bh br E xs ys) (hc : ∀ c, Rh w br ys c → Calls Try.prog f args w (RhP v br c w ys')) : Calls Try.prog f args w (S2P v W w bh br E xs ys') := by
  obtain ⟨b, c, zs, h1, h2, h3, h4, h5, h6, h7⟩ := h
  have hl := h2.1.lt
  have hl2 := h3.lt
  refine (hc c h3).mono ?_
  rintro e w' ⟨rfl, c', hh, hf⟩
  have hs := hf.1.size
  have own : ∀ k, Own3 br c' k → Own3 br c k ∨ w.heap.size ≤ k := fun k hk => by
    rcases hk with hk | hk
    · exact Or.inl (Or.inl hk)
    · exact (hf.2 k hk).imp Or.inr id
  have lt2 : ∀ k, Own3 bh b k → k < w.heap.size := fun k hk => by
    rcases hk with rfl | hk
    · exact hl.1
    · exact hl.2 k hk
  refine ⟨rfl, ⟨b, c', zs, h1, ⟨h2.1.upd hf.1 (fun e => h4 _ (Or.inl rfl) e) (fun g hg e => h4 _ (Or.inr hg) e), h2.2⟩, hh, fun k hk hk' => ?_, fun k hk => ?_, fun k hk => ⟨(h6 k hk).1, by have := (h6 k hk).2; omega⟩, h7.trans (hf.1.below h7.size (fun k hk => (h5 k (Or.inr hk)).1))⟩, hf.1.mono (fun k _ hk he => (h5 k (Or.inr hk)).2 he)⟩
  · rcases own k hk' with h | h
    · exact h4 k hk h
    · have := lt2 k hk; omega
  · rcases hk with hk | hk
    · exact h5 k (Or.inl hk)
    · rcases own k hk with h | h
      · exact h5 k (Or.inr h)
      · exact ⟨by have := h7.size; omega, fun he => by have := (h6 k he).2; omega⟩
end

/-! ### with the kept blocks' cells (K), and a row that is held (b) -/
abbrev Kb := List (Nat × Array Value × TypeId)
def KE (K : Kb) (b : Option Nat) (k : Nat) : Prop := (∃ cs T, (k, cs, T) ∈ K) ∨ b = some k
def Md (W w : World) (bh br : Nat) (K : Kb) (b : Option Nat) (v : Value) (l : List It) (xs ys : List It) : Prop :=
  S2 W w bh br (KE K b) xs ys ∧ (∀ k cs T, (k, cs, T) ∈ K → Blk w k cs T ∧ b ≠ some k) ∧ Its w v l b
def MdP (r : Value) (W : World) (bh br : Nat) (K : Kb) (b : Option Nat) (v : Value) (l : List It) (xs ys : List It) (e : Ending) (w' : World) : Prop := e = .returned r ∧ Md W w' bh br K b v l xs ys
section
variable {W w w' : World} {bh br : Nat} {K : Kb} {b : Option Nat} {v : Value} {l xs ys : List It}
theorem Md.blk (h : Md W w bh br K b v l xs ys) (k : Nat) (cs : Array Value) (T : TypeId) (hm : (k, cs, T) ∈ K) : Blk w k cs T := (h.2.1 k cs T hm).1
theorem Md.size (h : Md W w bh br K b v l xs ys) : W.heap.size ≤ w.heap.size := h.1.size
theorem Md.step {xs' ys' : List It} (h : Md W w bh br K b v l xs ys) (hS : S2 W w' bh br (KE K b) xs' ys') (hu : Upd (fun k => ¬ KE K b k) w w') : Md W w' bh br K b v l xs' ys' :=
  ⟨hS, fun k cs T hm => ⟨Blk.upd hu (h.2.1 k cs T hm).1 (fun hn => hn (Or.inl ⟨cs, T, hm⟩)), (h.2.1 k cs T hm).2⟩, h.2.2.upd hu (fun g hg hn => hn (Or.inr hg))⟩
theorem md_c {f : FuncId} {args : Array Value} {r : Value} {xs' : List It} (h : Md W w bh br K b v l xs ys) (hc : ∀ b zs, zs.Perm xs → Hp w bh zs b → Calls Try.prog f args w (HpP r bh b w xs')) : Calls Try.prog f args w (MdP r W bh br K b v l xs' ys) := by
  refine (s2_c h.1 hc).mono ?_
  rintro e w' ⟨rfl, hS, hu⟩
  exact ⟨rfl, h.step hS hu⟩
theorem md_r {f : FuncId} {args : Array Value} {r : Value} {ys' : List It} (h : Md W w bh br K b v l xs ys) (hc : ∀ c, Rh w br ys c → Calls Try.prog f args w (RhP r br c w ys')) : Calls Try.prog f args w (MdP r W bh br K b v l xs ys') := by
  refine (s2_r h.1 hc).mono ?_
  rintro e w' ⟨rfl, hS, hu⟩
  exact ⟨rfl, h.step hS hu⟩
theorem Md.below (h : Md W w bh br K b v l xs ys) (hB : Below w.heap.size w w') : Md W w' bh br K b v l xs ys :=
  h.step ((h.1.more hB).anti (fun k hk => Or.inl hk)) (Upd.of_below hB)
theorem Md.drewN (q : Nat) (h : Md W w bh br K b v l xs ys) : Md W (w.drewN q) bh br K b v l xs ys := h.below (below_drewN' (Below.refl _ _) q)
theorem KE_lt (h : Md W w bh br K b v l xs ys) (k : Nat) (hk : KE K b k) : k < w.heap.size := by
  rcases hk with ⟨cs, T, hm⟩ | hk
  · exact (h.blk k cs T hm).lt
  · exact h.2.2.lt k hk
/-- a new block, kept -/
theorem Md.new (h : Md W w bh br K b v l xs ys) (cs : Array Value) (T : TypeId) : Md W (w.alloc (.cells cs T)) bh br ((w.heap.size, cs, T) :: K) b v l xs ys := by
  have hB : Below w.heap.size w (w.alloc (.cells cs T)) := (Below.refl _ _).alloc (Nat.le_refl _) _
  have h' := h.below hB
  refine ⟨(h.1.more hB).anti (fun k hk => ?_), fun k ds U hm => ?_, h'.2.2⟩
  · rcases hk with ⟨ds, U, hm⟩ | hk
    · rw [List.mem_cons] at hm
      rcases hm with hm | hm
      · refine Or.inr ?_
        have : k = w.heap.size := congrArg Prod.fst hm
        subst this
        simp
      · exact Or.inl (Or.inl ⟨ds, U, hm⟩)
    · exact Or.inl (Or.inr hk)
  · rw [List.mem_cons] at hm
    rcases hm with hm | hm
    · cases hm
      exact ⟨Blk.new _ _ _, fun hb => by have := h.2.2.lt _ hb; omega⟩
    · exact h'.2.1 k ds U hm
/-- fewer are kept -/
theorem Md.less {K' : Kb} (h : Md W w bh br K b v l xs ys) (hK : ∀ e, e ∈ K' → e ∈ K) : Md W w bh br K' none (.slice none 0 0) [] xs ys :=
  ⟨h.1.anti (fun k hk => by
    rcases hk with ⟨cs, T, hm⟩ | hk
    · exact Or.inl ⟨cs, T, hK _ hm⟩
    · cases hk), fun k cs T hm => ⟨(h.2.1 k cs T (hK _ hm)).1, fun hb => by cases hb⟩, Or.inl ⟨rfl, rfl, rfl⟩⟩
theorem Md.fewer {K' : Kb} (h : Md W w bh br K b v l xs ys) (hK : ∀ e, e ∈ K' → e ∈ K) : Md W w bh br K' b v l xs ys :=
  ⟨h.1.anti (fun k hk => by
    rcases hk with ⟨cs, T, hm⟩ | hk
    · exact Or.inl ⟨cs, T, hK _ hm⟩
    · exact Or.inr hk), fun k cs T hm => h.2.1 k cs T (hK _ hm), h.2.2⟩
/-- All -/
def MdA (W : World) (bh br : Nat) (K : Kb) (ws : List It) (e : Ending) (w' : World) : Prop := ∃ a c b, e = .returned (.slice a ws.length c) ∧ Md W w' bh br K b (.slice a ws.length c) ws ws ws
theorem md_all (h : Md W w bh br K b v l ys ys) {n : Nat} (hW : WF ys n) : Calls Try.prog 20 #[.pointer (some ⟨bh, 0, none⟩)] w (MdA W bh br K ys) := by
  have h0 := h.less (K' := K) (fun _ h => h)
  obtain ⟨b1, c1, zs, h1, h2, h3, h4, h5, h6, h7⟩ := h.1
  refine (all_is h2.1).mono ?_
  rintro e w' ⟨a, c, us, b', rfl, hu, ho, hI, hb, hB⟩
  have e : us = ys := order_eq ho hW.ord (hu.trans h1)
  subst e
  have h' := h0.below hB
  refine ⟨a, c, b', rfl, (h0.1.more hB).anti (fun k hk => ?_), fun k cs T hm => ⟨h'.blk k cs T hm, fun hn => ?_⟩, hI⟩
  · rcases hk with ⟨cs, T, hm⟩ | hk
    · exact Or.inl (Or.inl ⟨cs, T, hm⟩)
    · exact Or.inr ⟨hb k hk, hI.lt k hk⟩
  · have h9 := hb k hn
    have h8 := (h0.blk k cs T hm).lt
    omega
/-- the held row is turned -/
theorem Md.over {l' : List It} {v' : Value} (h : Md W w bh br K b v l xs ys) (hu : Upd (fun k => b = some k) w w') (hI : Its w' v' l' b) : Md W w' bh br K b v' l' xs ys :=
  ⟨h.1.turn hu (fun k hk => Or.inr hk), fun k cs T hm => ⟨Blk.upd hu (h.blk k cs T hm) (h.2.1 k cs T hm).2, (h.2.1 k cs T hm).2⟩, hI⟩
/-- the document's list -/
theorem Md.view (h : Md W w bh br K b v l xs ys) : ∃ a c, Blk w br #[.slice a ys.length c] 39 ∧ ∀ k, k < ys.length → ∃ g, a = some ⟨g, 0, none⟩ ∧ w.cell? ⟨g, k * 2, none⟩ = some (.int .i64 (X ys k).1) ∧ w.cell? ⟨g, k * 2 + 1, none⟩ = some (.int .i64 (X ys k).2) := by
  obtain ⟨b1, c1, zs, h1, h2, h3, h4, h5, h6, h7⟩ := h.1
  exact h3.view
end
theorem Its.view {w : World} {a : Option Addr} {n c : Nat} {b : Option Nat} {ys : List It} (h : Its w (.slice a n c) ys b) : ∀ k, k < ys.length → ∃ g, a = some ⟨g, 0, none⟩ ∧ w.cell? ⟨g, k * 2, none⟩ = some (.int .i64 (X ys k).1) ∧ w.cell? ⟨g, k * 2 + 1, none⟩ = some (.int .i64 (X ys k).2) := by
  intro k hk
  rcases h with ⟨_, h0, _⟩ | ⟨g, cap, rest, hv, rfl, hB, _, _⟩
  · rw [h0] at hk; simp at hk
  · simp only [Value.slice.injEq] at hv
    obtain ⟨rfl, -, -⟩ := hv
    obtain ⟨k1, k2⟩ := blk_its hB k hk
    exact ⟨g, rfl, k1, k2⟩
def SameD (w : World) (e : Ending) (w' : World) : Prop := e = .returned (.bool true) ∧ Below w.heap.size w w'
set_option maxRecDepth 100000 in
theorem same_doc {w : World} {a1 a2 : Option Addr} {c1 c2 : Nat} {ys : List It}
    (h1 : ∀ k, k < ys.length → ∃ g, a1 = some ⟨g, 0, none⟩ ∧ w.cell? ⟨g, k * 2, none⟩ = some (.int .i64 (X ys k).1) ∧ w.cell? ⟨g, k * 2 + 1, none⟩ = some (.int .i64 (X ys k).2))
    (h2 : ∀ k, k < ys.length → ∃ g, a2 = some ⟨g, 0, none⟩ ∧ w.cell? ⟨g, k * 2, none⟩ = some (.int .i64 (X ys k).1) ∧ w.cell? ⟨g, k * 2 + 1, none⟩ = some (.int .i64 (X ys k).2)) (hlen : ys.length ≤ 2000) :
    Calls Try.prog 23 #[.slice a1 ys.length c1, .slice a2 ys.length c2] w (SameD w) := by
  have H := Lib.hid (And.intro h1 h2)
  clear h1 h2
  generalize hL : ys.length = L at *
  clear hL
  go_enter Try.func23, Try.ntmps23
  go_wp2
  go_loopw [5] (fun kx wr => ∃ k q : Nat, k ≤ L ∧ kx = .int .i64 k ∧ wr = w.drewN q) (fun kx _ => L - (intOf kx).toNat)
  case atStart => exact ⟨0, 0, Nat.zero_le _, rfl, rfl⟩
  case round =>
    obtain ⟨k, q, hk, rfl, rfl⟩ := hrel
    by_cases hkl : k < L
    · obtain ⟨g1, rfl, k1, k2⟩ := H.out.1 k hkl
      obtain ⟨g2, rfl, k3, k4⟩ := H.out.2 k hkl
      have d1 : decide ((k : Int) < (L : Int)) = true := by simp; omega
      have i1 : (k : Int) < (L : Int) := by omega
      have i2 : (0 : Int) ≤ k := by omega
      generalize (X ys k).1 = p at k1 k3
      generalize (X ys k).2 = r at k2 k4
      go_wp2
      go_quiet (fail)
      go_wp2
      go_roundw
      case rel => exact ⟨k + 1, q + nq, by omega, by go_num, by first | rfl | rw [World.drewN_drewN]⟩
      case measure => simp [intOf]; omega
    · have d1 : decide ((k : Int) < (L : Int)) = false := by simp; omega
      go_wp2
      go_ret
      exact ⟨rfl, below_drewN' (Below.refl _ _) q⟩
end Go.Proofs.Ytamgaklbkefejaa
