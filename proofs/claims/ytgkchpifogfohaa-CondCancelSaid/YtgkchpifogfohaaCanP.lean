/-
  Who went away: the rows of two conditions while threads come and go, plain.
-/
import Derived.Test.YtgkchpifogfohaaBits
import Derived.Test.YtgkchpifogfohaaSame
namespace Go.Proofs.Ytgkchpifogfohaa
set_option linter.unusedSimpArgs false
set_option linter.unusedVariables false
open Go.RowKit Go.Lib Own Sl
open RegJ hiding Up
open RegF hiding put_size

/-- m wait at the first one: of those below i the ones that came and did not go -/
structure Nums (one gone : Int) (ls : Nat → List Int) (i m : Nat) : Prop where
  len : (ls 0).length = m
  mem : ∀ y ∈ ls 0, 0 ≤ y ∧ y < i ∧ bitF one y.toNat = true ∧ bitF gone y.toNat = false
  two : ∀ y ∈ ls 1, 0 ≤ y ∧ y < i
section
variable {one gone : Int} {ls : Nat → List Int} {i m : Nat}
theorem Nums.no (h : Nums one gone ls i m) (hout : ∀ j, 2 ≤ j → ls j = []) (j : Nat) : (i : Int) ∉ ls j := by
  intro hj
  by_cases h0 : j = 0
  · subst h0; have := h.mem _ hj; omega
  by_cases h1 : j = 1
  · subst h1; have := h.two _ hj; omega
  rw [hout j (by omega)] at hj; simp at hj
theorem Nums.up (h : Nums one gone ls i m) : Nums one gone ls (i + 1) m := ⟨h.len, fun y hy => by have := h.mem y hy; exact ⟨this.1, by omega, this.2.2⟩, fun y hy => by have := h.two y hy; omega⟩
theorem Nums.in0 (hg : Good ls) (h : Nums one gone ls i m) (h1 : bitF one i = true) (h2 : bitF gone i = false) : Nums one gone (insF ls 0 i) (i + 1) (m + 1) := by
  refine ⟨by rw [ins_len, h.len], fun y hy => ?_, fun y hy => ?_⟩
  · rw [mem_insF hg] at hy
    rcases hy with hy | ⟨_, rfl⟩
    · exact h.up.mem y hy
    · exact ⟨by omega, by omega, by simpa using h1, by simpa using h2⟩
  · rw [mem_insF hg] at hy
    rcases hy with hy | ⟨h, _⟩
    · exact h.up.two y hy
    · cases h
theorem Nums.in1 (hg : Good ls) (h : Nums one gone ls i m) : Nums one gone (insF ls 1 i) (i + 1) m := by
  refine ⟨?_, fun y hy => ?_, fun y hy => ?_⟩
  · rw [← h.len]; unfold insF; rw [put_ne _ _ (show (0 : Nat) ≠ 1 by decide)]
  · rw [mem_insF hg] at hy
    rcases hy with hy | ⟨h, _⟩
    · exact h.up.mem y hy
    · cases h
  · rw [mem_insF hg] at hy
    rcases hy with hy | ⟨_, rfl⟩
    · exact h.up.two y hy
    · omega
theorem Nums.off0 (hg : Good ls) (h : Nums one gone ls i m) (hn : ∀ j, (i : Int) ∉ ls j) (hb : (i : Int) < 1000) : Nums one gone (delF (insF ls 0 i) 0 i) (i + 1) m := by
  have hg' := hg.ins 0 (i : Int) ⟨by omega, hb⟩ hn
  have hin : (i : Int) ∈ insF ls 0 i 0 := (mem_insF hg 0 i 0 i).2 (Or.inr ⟨rfl, rfl⟩)
  refine ⟨?_, fun y hy => ?_, fun y hy => ?_⟩
  · have h1 := del_len hg' 0 i hin
    rw [ins_len, h.len] at h1; omega
  · rw [mem_delF, mem_insF hg] at hy
    rcases hy with ⟨hy | ⟨_, rfl⟩, hne⟩
    · exact h.up.mem y hy
    · exact absurd ⟨rfl, rfl⟩ hne
  · rw [mem_delF, mem_insF hg] at hy
    rcases hy with ⟨hy | ⟨h, _⟩, hne⟩
    · exact h.up.two y hy
    · cases h
theorem Nums.off1 (hg : Good ls) (h : Nums one gone ls i m) : Nums one gone (delF (insF ls 1 i) 1 i) (i + 1) m := by
  refine ⟨?_, fun y hy => ?_, fun y hy => ?_⟩
  · rw [← h.len]; unfold delF insF; rw [put_ne _ _ (show (0 : Nat) ≠ 1 by decide), put_ne _ _ (show (0 : Nat) ≠ 1 by decide)]
  · rw [mem_delF, mem_insF hg] at hy
    rcases hy with ⟨hy | ⟨h, _⟩, _⟩
    · exact h.up.mem y hy
    · cases h
  · rw [mem_delF, mem_insF hg] at hy
    rcases hy with ⟨hy | ⟨_, rfl⟩, _⟩
    · exact h.up.two y hy
    · omega
end

/-- the conditions of a law, packed -/
def Cn (W wr : World) (bc bk : Nat) (Q : Nat → Int) (R : (Nat → List Int) → Prop) : Prop := ∃ ls, Cd wr (fun j => j < W.heap.size ∨ j = bk) 2 bc ls ∧ KR wr bk Q ∧ Keep (fun j => j < W.heap.size) W wr ∧ R ls
def CnP (v : Value) (W : World) (bc bk : Nat) (Q : Nat → Int) (R : (Nat → List Int) → Prop) (e : Ending) (w' : World) : Prop := e = .returned v ∧ Cn W w' bc bk Q R
theorem Cn.imp {W wr : World} {bc bk : Nat} {Q : Nat → Int} {R S : (Nat → List Int) → Prop} (h : Cn W wr bc bk Q R) (hi : ∀ ls, Good ls → (∀ j, 2 ≤ j → ls j = []) → R ls → S ls) : Cn W wr bc bk Q S := by
  obtain ⟨ls, hC, hk, hw, hr⟩ := h
  refine ⟨ls, hC, hk, hw, hi ls hC.good ?_ hr⟩
  obtain ⟨bl, vs, bs, h1, _⟩ := hC
  exact fun j hj => h1.out j hj
theorem Cn.drew {W wr : World} {bc bk : Nat} {Q : Nat → Int} {R : (Nat → List Int) → Prop} (h : Cn W wr bc bk Q R) (q : Nat) : Cn W (wr.drewN q) bc bk Q R := by
  obtain ⟨ls, hC, hk, hw, hr⟩ := h
  exact ⟨ls, hC.other ((Upd.refl (fun _ => False) wr).drewN q) (fun _ h => h.elim), hk, Upd.drewN hw q, hr⟩
/-- after a Wait -/
def In (R : (Nat → List Int) → Prop) (c i : Nat) (ls' : Nat → List Int) : Prop := ∃ ls, R ls ∧ Good ls ∧ (∀ j, 2 ≤ j → ls j = []) ∧ ls' = insF ls c i
def Off (R : (Nat → List Int) → Prop) (c i : Nat) (ls' : Nat → List Int) : Prop := ∃ ls, R ls ∧ ls' = delF ls c i
theorem cn_wait {W wr : World} {bc bk : Nat} {Q : Nat → Int} {R : (Nat → List Int) → Prop} (h : Cn W wr bc bk Q R) (i c : Nat) (C : Int) (hC : C = c) (hc : c < 2) (hi : i < 16) (hR : ∀ ls, (∀ j, 2 ≤ j → ls j = []) → R ls → ∀ j, (i : Int) ∉ ls j) :
    Calls Try.prog 9 #[.pointer (some ⟨bc, 0, none⟩), .int .i64 i, .int .i64 C] wr (CnP (.int .i64 0) W bc bk Q (In R c i)) := by
  obtain ⟨ls, hCd, hk, hw, hr⟩ := h
  have hout : ∀ j, 2 ≤ j → ls j = [] := by obtain ⟨bl, vs, bs, h1, _⟩ := hCd; exact fun j hj => h1.out j hj
  refine (wait_cd hCd (by omega) i c C hC (by omega) hc (hR ls hout hr)).mono ?_
  rintro e w' ⟨rfl, hC', hK'⟩
  exact ⟨rfl, _, hC', hk.keep hK' (Or.inr rfl), hw.trans (hK'.mono (fun j hj => Or.inl hj)), ls, hr, hCd.good, hout, rfl⟩
theorem cn_cancel {W wr : World} {bc bk : Nat} {Q : Nat → Int} {R : (Nat → List Int) → Prop} (h : Cn W wr bc bk Q R) (i c : Nat) (hc : c < 2) (hR : ∀ ls, R ls → (i : Int) ∈ ls c) :
    Calls Try.prog 18 #[.pointer (some ⟨bc, 0, none⟩), .int .i64 i] wr (CnP (.bool true) W bc bk Q (Off R c i)) := by
  obtain ⟨ls, hCd, hk, hw, hr⟩ := h
  refine (cancel_cd hCd (by omega) i c hc (hR ls hr)).mono ?_
  rintro e w' ⟨rfl, hC', hK'⟩
  exact ⟨rfl, _, hC', hk.keep hK' (Or.inr rfl), hw.trans (hK'.mono (fun j hj => Or.inl hj)), ls, hr, rfl⟩
theorem cn_nobody {W wr : World} {bc bk : Nat} {Q : Nat → Int} {R : (Nat → List Int) → Prop} (h : Cn W wr bc bk Q R) (i : Nat) (hR : ∀ ls, (∀ j, 2 ≤ j → ls j = []) → R ls → ∀ j, (i : Int) ∉ ls j) :
    Calls Try.prog 18 #[.pointer (some ⟨bc, 0, none⟩), .int .i64 i] wr (CnP (.bool false) W bc bk Q R) := by
  obtain ⟨ls, hCd, hk, hw, hr⟩ := h
  have hout : ∀ j, 2 ≤ j → ls j = [] := by obtain ⟨bl, vs, bs, h1, _⟩ := hCd; exact fun j hj => h1.out j hj
  refine (nobody_cd hCd (by omega) i (hR ls hout hr)).mono ?_
  rintro e w' ⟨rfl, hC', hK'⟩
  exact ⟨rfl, _, hC', hk.keep hK' (Or.inr rfl), hw.trans (hK'.mono (fun j hj => Or.inl hj)), hr⟩

/-! ### the second half: a list is held -/
def Hd (W wr : World) (bc bk : Nat) (Q : Nat → Int) (v : Value) (xs : List Int) (one gone : Int) (m : Nat) : Prop :=
  ∃ ls b, Cd wr (fun j => j < W.heap.size ∨ j = bk ∨ b = some j) 2 bc ls ∧ KR wr bk Q ∧ Keep (fun j => j < W.heap.size) W wr ∧ Ints wr 3 v xs b ∧ ls 1 = xs ∧ (ls 0).length = m ∧ ∀ y ∈ ls 0, 0 ≤ y ∧ y < 16 ∧ bitF one y.toNat = true ∧ bitF gone y.toNat = false
def HdList (W : World) (bc bk : Nat) (Q : Nat → Int) (one gone : Int) (m : Nat) (e : Ending) (w' : World) : Prop := ∃ a n c xs, e = .returned (.slice a n c) ∧ Hd W w' bc bk Q (.slice a n c) xs one gone m
theorem Cd.antiK {w : World} {K K' : Nat → Prop} {n bc : Nat} {ls : Nat → List Int} (h : Cd w K n bc ls) (hK : ∀ j, K' j → K j) : Cd w K' n bc ls := by
  obtain ⟨bl, vs, bs, h1, h2, h3, h4⟩ := h
  exact ⟨bl, vs, bs, h1, fun k hk hk' => h2 k hk (hK k hk'), fun k hk => h3 k (hK k hk), h4⟩
theorem cn_list {W wr : World} {bc bk : Nat} {Q : Nat → Int} {one gone : Int} {m : Nat} (h : Cn W wr bc bk Q (fun ls => Nums one gone ls 16 m)) :
    Calls Try.prog 20 #[.pointer (some ⟨bc, 0, none⟩), .int .i64 1] wr (HdList W bc bk Q one gone m) := by
  obtain ⟨ls, hCd, hk, hw, hr⟩ := h
  refine (list_cd hCd (by omega) 1 1 rfl (by omega)).mono ?_
  rintro e w' ⟨v', b', rfl, hI, hb, hC', hB⟩
  obtain ⟨a, n, c, rfl⟩ : ∃ a n c, v' = .slice a n c := by
    rcases hI with ⟨rfl, _⟩ | ⟨g, cap, rest, rfl, _⟩
    · exact ⟨_, _, _, rfl⟩
    · exact ⟨_, _, _, rfl⟩
  refine ⟨a, n, c, ls 1, rfl, ls, b', (hCd.more hB).antiK (fun j hj => ?_), hk.keep (Keep.of_below hB) (K := fun _ => True) trivial, hw.trans (Keep.of_below hB), hI, rfl, hr.len, fun y hy => by have := hr.mem y hy; exact ⟨this.1, this.2.1, this.2.2⟩⟩
  rcases hj with hj | hj | hj
  · exact Or.inl (Or.inl hj)
  · exact Or.inl (Or.inr hj)
  · exact Or.inr ⟨hb j hj, hI.lt j hj⟩
def HdSig (W : World) (bc bk : Nat) (Q : Nat → Int) (v : Value) (xs : List Int) (one gone : Int) (m : Nat) (e : Ending) (w' : World) : Prop := ∃ z : Nat, e = .returned (.tuple #[.int .i64 z, .bool true]) ∧ z < 16 ∧ bitF one z = true ∧ bitF gone z = false ∧ Hd W w' bc bk Q v xs one gone m
theorem hd_sig {W wr : World} {bc bk : Nat} {Q : Nat → Int} {v : Value} {xs : List Int} {one gone : Int} {m : Nat} (h : Hd W wr bc bk Q v xs one gone (m + 1)) :
    Calls Try.prog 10 #[.pointer (some ⟨bc, 0, none⟩), .int .i64 0, .func (.func 11) #[.pointer (some ⟨bk, 0, none⟩)] #[]] wr (HdSig W bc bk Q v xs one gone m) := by
  obtain ⟨ls, b, hC, hK, hw, hI, h1, hl, hm⟩ := h
  obtain ⟨y, r, he⟩ : ∃ y r, ls 0 = y :: r := by
    cases hls : ls 0 with
    | nil => rw [hls] at hl; simp at hl
    | cons y r => exact ⟨y, r, rfl⟩
  have hin : bestF Q y r ∈ ls 0 := by rw [he]; exact bestF_mem Q y r
  have hbm := hm _ hin
  have hdl := del_len hC.good 0 _ hin
  refine (sig_cd hC (by omega) 0 0 rfl (by omega) y r he bk Q hK (fun t ht => ⟨(hm t ht).1, (hm t ht).2.1⟩)).mono ?_
  rintro e w' ⟨rfl, hC', hK'⟩
  generalize bestF Q y r = z at *
  obtain ⟨zn, rfl⟩ : ∃ zn : Nat, z = zn := ⟨z.toNat, by omega⟩
  refine ⟨zn, rfl, by omega, by simpa using hbm.2.2.1, by simpa using hbm.2.2.2, _, b, hC', hK.keep hK' (Or.inr (Or.inl rfl)), hw.trans (hK'.mono (fun j hj => Or.inl hj)), hI.upd hK' (fun g hg hn => hn (Or.inr (Or.inr hg))), ?_, by omega, fun t ht => ?_⟩
  · rw [← h1]; unfold delF; rw [put_ne _ _ (show (1 : Nat) ≠ 0 by decide)]
  · rw [mem_delF] at ht
    exact hm t ht.1
theorem hd_nil {W wr : World} {bc bk : Nat} {Q : Nat → Int} {v : Value} {xs : List Int} {one gone : Int} (h : Hd W wr bc bk Q v xs one gone 0) (bf : Value) :
    Calls Try.prog 10 #[.pointer (some ⟨bc, 0, none⟩), .int .i64 0, bf] wr (fun e w' => e = .returned (.tuple #[.int .i64 (-1), .bool false]) ∧ Hd W w' bc bk Q v xs one gone 0) := by
  obtain ⟨ls, b, hC, hK, hw, hI, h1, hl, hm⟩ := h
  refine (snil_cd hC (by omega) 0 0 rfl (by omega) (List.eq_nil_of_length_eq_zero hl) bf).mono ?_
  rintro e w' ⟨rfl, hC', hK'⟩
  exact ⟨rfl, ls, b, hC', hK.keep hK' (Or.inr (Or.inl rfl)), hw.trans (hK'.mono (fun j hj => Or.inl hj)), hI.upd hK' (fun g hg hn => hn (Or.inr (Or.inr hg))), h1, hl, hm⟩
theorem Hd.drew {W wr : World} {bc bk : Nat} {Q : Nat → Int} {v : Value} {xs : List Int} {one gone : Int} {m : Nat} (h : Hd W wr bc bk Q v xs one gone m) (q : Nat) : Hd W (wr.drewN q) bc bk Q v xs one gone m := by
  obtain ⟨ls, b, hC, hK, hw, hI, h1, hl, hm⟩ := h
  exact ⟨ls, b, hC.other ((Upd.refl (fun _ => False) wr).drewN q) (fun _ h => h.elim), hK, Upd.drewN hw q, hI, h1, hl, hm⟩
/-- the list once more, beside the one that is held -/
def HdTwo (W : World) (v : Value) (e : Ending) (w' : World) : Prop := ∃ a n c xs, e = .returned (.slice a n c) ∧ RdI w' (.slice a n c) xs ∧ RdI w' v xs ∧ Keep (fun j => j < W.heap.size) W w'
theorem hd_list {W wr : World} {bc bk : Nat} {Q : Nat → Int} {v : Value} {xs : List Int} {one gone : Int} {m : Nat} (h : Hd W wr bc bk Q v xs one gone m) :
    Calls Try.prog 20 #[.pointer (some ⟨bc, 0, none⟩), .int .i64 1] wr (HdTwo W v) := by
  obtain ⟨ls, b, hC, hK, hw, hI, h1, hl, hm⟩ := h
  refine (list_cd hC (by omega) 1 1 rfl (by omega)).mono ?_
  rintro e w' ⟨v', b', rfl, hI', hb, hC', hB⟩
  obtain ⟨a, n, c, rfl⟩ : ∃ a n c, v' = .slice a n c := by
    rcases hI' with ⟨rfl, _⟩ | ⟨g, cap, rest, rfl, _⟩
    · exact ⟨_, _, _, rfl⟩
    · exact ⟨_, _, _, rfl⟩
  rw [h1] at hI'
  exact ⟨a, n, c, xs, rfl, hI'.rdI, (hI.upd (Upd.of_below (F := fun _ => False) hB) (fun _ _ h => h)).rdI, hw.trans (Keep.of_below hB)⟩
end Go.Proofs.Ytgkchpifogfohaa
