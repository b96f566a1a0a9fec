/-
  Nodes that go: the plain law. Links are how many entries name a node.
-/
import Derived.Test.YtchnjfmimpikcaaDoorIClose
namespace Go.Proofs.YtchnjfmimpikcaaDoor
set_option linter.unusedSimpArgs false
set_option linter.unusedVariables false
open Go.RowKit Own RegJ Two
open Go.Lib hiding intOf

abbrev NSt := Nat → Option Nd
def decL (ns : NSt) (m : Nat) : NSt := match ns m with | some k => nsPut ns m (some (addL k (-1))) | none => ns
def gone : Nat → NSt → Nat → NSt
  | 0, ns, _ => ns
  | f + 1, ns, i => match ns i with
    | none => ns
    | some nd => if i = 0 ∨ 0 < nd.links ∨ 0 < nd.opens then ns else nd.es.foldl (fun s e => if (s e.2.toNat).isSome then gone f (decL s e.2.toNat) e.2.toNat else s) (nsPut ns i none)
def goneL (f : Nat) (es : List En) (s : NSt) : NSt := es.foldl (fun s e => if (s e.2.toNat).isSome then gone f (decL s e.2.toNat) e.2.toNat else s) s
theorem goneL_cons (f : Nat) (e : En) (es : List En) (s : NSt) : goneL f (e :: es) s = goneL f es (if (s e.2.toNat).isSome then gone f (decL s e.2.toNat) e.2.toNat else s) := rfl
theorem goneL_snoc (f : Nat) (es : List En) (e : En) (s : NSt) : goneL f (es ++ [e]) s = (if ((goneL f es s) e.2.toNat).isSome then gone f (decL (goneL f es s) e.2.toNat) e.2.toNat else goneL f es s) := by
  unfold goneL; rw [List.foldl_append]; rfl
theorem gone_stay {f : Nat} {ns : NSt} {i : Nat} {nd : Nd} (hi : ns i = some nd) (h : i = 0 ∨ 0 < nd.links ∨ 0 < nd.opens) : gone f ns i = ns := by
  cases f with
  | zero => rfl
  | succ f => unfold gone; rw [hi]; simp only; rw [if_pos h]
theorem gone_none {f : Nat} {ns : NSt} {i : Nat} (hi : ns i = none) : gone f ns i = ns := by
  cases f with
  | zero => rfl
  | succ f => unfold gone; rw [hi]
theorem gone_go {f : Nat} {ns : NSt} {i : Nat} {nd : Nd} (hi : ns i = some nd) (h : ¬ (i = 0 ∨ 0 < nd.links ∨ 0 < nd.opens)) : gone (f + 1) ns i = goneL f nd.es (nsPut ns i none) := by
  unfold gone; rw [hi]; simp only; rw [if_neg h]; rfl
theorem put_eq (ns : NSt) (i : Nat) (x : Option Nd) : nsPut ns i x i = x := by unfold nsPut; rw [if_pos rfl]
theorem put_ne (ns : NSt) (i : Nat) (x : Option Nd) {j : Nat} (h : j ≠ i) : nsPut ns i x j = ns j := by unfold nsPut; rw [if_neg h]
def cntE (es : List En) (m : Nat) : Nat := (es.map Prod.snd).count (m : Int)
def cntO (o : Option Nd) (m : Nat) : Nat := match o with | some nd => cntE nd.es m | none => 0
def refs (ns : NSt) (m : Nat) : Nat → Nat
  | 0 => 0
  | k + 1 => refs ns m k + cntO (ns k) m
theorem refs_put_out (ns : NSt) (i : Nat) (x : Option Nd) (m : Nat) : ∀ k, k ≤ i → refs (nsPut ns i x) m k = refs ns m k
  | 0, _ => rfl
  | k + 1, h => by unfold refs; rw [refs_put_out ns i x m k (by omega), put_ne ns i x (by omega)]
theorem refs_put (ns : NSt) (i : Nat) (x : Option Nd) (m : Nat) : ∀ k, i < k → refs (nsPut ns i x) m k + cntO (ns i) m = refs ns m k + cntO x m
  | 0, h => by omega
  | k + 1, h => by
    unfold refs
    by_cases hk : i = k
    · subst hk
      rw [refs_put_out ns i x m i (Nat.le_refl _), put_eq]; omega
    · rw [put_ne ns i x (by omega)]
      have := refs_put ns i x m k (by omega)
      omega
def one (o : Option Nd) : Nat := if o.isSome then 1 else 0
theorem lenN_put_out (ns : NSt) (i : Nat) (x : Option Nd) : ∀ k, k ≤ i → lenN (nsPut ns i x) k = lenN ns k
  | 0, _ => rfl
  | k + 1, h => by unfold lenN; rw [lenN_put_out ns i x k (by omega), put_ne ns i x (by omega)]
theorem lenN_put (ns : NSt) (i : Nat) (x : Option Nd) : ∀ k, i < k → lenN (nsPut ns i x) k + one (ns i) = lenN ns k + one x
  | 0, h => by omega
  | k + 1, h => by
    unfold lenN
    by_cases hk : i = k
    · subst hk
      rw [lenN_put_out ns i x i (Nat.le_refl _), put_eq]; unfold one; omega
    · rw [put_ne ns i x (by omega)]
      have := lenN_put ns i x k (by omega)
      omega
def lnk (ns : NSt) (m : Nat) : Int := match ns m with | some nd => nd.links | none => 0
structure Inv (ns : NSt) (pend : List Int) : Prop where
  ids : ∀ i nd, ns i = some nd → ∀ e ∈ nd.es, 1 ≤ e.2 ∧ e.2 < 16
  pids : ∀ x ∈ pend, 1 ≤ x ∧ x < 16
  cnt : ∀ m : Nat, ((refs ns m 16 + pend.count (m : Int) : Nat) : Int) = lnk ns m
  far : ∀ i, 16 ≤ i → ns i = none
  opn : ∀ i nd, ns i = some nd → 0 ≤ nd.opens
  bnd : ∀ i nd, ns i = some nd → nd.links ≤ 100000
section
variable {ns : NSt} {pend : List Int}
theorem Inv.lt (h : Inv ns pend) {i : Nat} {nd : Nd} (hi : ns i = some nd) : i < 16 := by
  rcases Nat.lt_or_ge i 16 with h1 | h1
  · exact h1
  · rw [h.far i h1] at hi; cases hi
theorem Inv.links (h : Inv ns pend) {i : Nat} {nd : Nd} (hi : ns i = some nd) : 0 ≤ nd.links := by
  have := h.cnt i; unfold lnk at this; rw [hi] at this; simp only at this; omega
theorem Inv.isl (h : Inv ns pend) {x : Int} (hx : x ∈ pend) : ∃ nd, ns x.toNat = some nd ∧ 1 ≤ nd.links := by
  have hc := h.cnt x.toNat
  have hp := h.pids x hx
  have hm : ((x.toNat : Nat) : Int) = x := by omega
  rw [hm] at hc
  have : 0 < pend.count x := List.count_pos_iff.2 hx
  unfold lnk at hc
  cases hn : ns x.toNat with
  | none => rw [hn] at hc; simp only at hc; omega
  | some nd => rw [hn] at hc; simp only at hc; exact ⟨nd, rfl, by omega⟩
/-- an entry's name is taken back -/
theorem Inv.dec {x : Int} (h : Inv ns (x :: pend)) : Inv (decL ns x.toNat) pend ∧ ∃ nd, ns x.toNat = some nd ∧ decL ns x.toNat = nsPut ns x.toNat (some (addL nd (-1))) := by
  obtain ⟨nd, hn, hl⟩ := h.isl (List.mem_cons_self ..)
  have hp := h.pids x (List.mem_cons_self ..)
  have hd : decL ns x.toNat = nsPut ns x.toNat (some (addL nd (-1))) := by unfold decL; rw [hn]
  refine ⟨?_, nd, hn, hd⟩
  rw [hd]
  have h16 := h.lt hn
  refine ⟨fun i nd' hi => ?_, fun y hy => h.pids y (List.mem_cons_of_mem _ hy), fun m => ?_, fun i hi => ?_, fun i nd' hi => ?_, fun i nd' hi => ?_⟩
  · by_cases e : i = x.toNat
    · subst e; rw [put_eq] at hi; cases hi; exact h.ids _ nd hn
    · rw [put_ne _ _ _ e] at hi; exact h.ids i nd' hi
  · have hc := h.cnt m
    have hr := refs_put ns x.toNat (some (addL nd (-1))) m 16 h16
    have h0 : cntO (some (addL nd (-1))) m = cntO (ns x.toNat) m := by rw [hn]; rfl
    rw [h0] at hr
    have hr' : refs (nsPut ns x.toNat (some (addL nd (-1)))) m 16 = refs ns m 16 := by omega
    rw [hr']
    rw [List.count_cons] at hc
    unfold lnk at hc ⊢
    by_cases e : m = x.toNat
    · subst e
      rw [put_eq]
      rw [hn] at hc
      have hm : (x == ((x.toNat : Nat) : Int)) = true := by simp; omega
      rw [if_pos hm] at hc
      simp only [addL] at hc ⊢
      omega
    · rw [put_ne _ _ _ e]
      have hm : ¬ (x == (m : Int)) = true := by simp; omega
      rw [if_neg hm] at hc
      exact hc
  · rw [put_ne _ _ _ (by omega)]; exact h.far i hi
  · by_cases e : i = x.toNat
    · subst e; rw [put_eq] at hi; cases hi; exact h.opn _ nd hn
    · rw [put_ne _ _ _ e] at hi; exact h.opn i nd' hi
  · by_cases e : i = x.toNat
    · subst e; rw [put_eq] at hi; cases hi; have := h.bnd _ nd hn; simp only [addL]; omega
    · rw [put_ne _ _ _ e] at hi; exact h.bnd i nd' hi
/-- a node is gone: what its entries named is still to be taken back -/
theorem Inv.kill (h : Inv ns pend) {i : Nat} {nd : Nd} (hi : ns i = some nd) (hl : ¬ 0 < nd.links) : Inv (nsPut ns i none) (nd.es.map Prod.snd ++ pend) := by
  have h16 := h.lt hi
  refine ⟨fun j nd' hj => ?_, fun y hy => ?_, fun m => ?_, fun j hj => ?_, fun j nd' hj => ?_, fun j nd' hj => ?_⟩
  · by_cases e : j = i
    · subst e; rw [put_eq] at hj; cases hj
    · rw [put_ne _ _ _ e] at hj; exact h.ids j nd' hj
  · rw [List.mem_append] at hy
    rcases hy with hy | hy
    · rw [List.mem_map] at hy
      obtain ⟨e, he, rfl⟩ := hy
      exact h.ids i nd hi e he
    · exact h.pids y hy
  · have hc := h.cnt m
    have hr := refs_put ns i none m 16 h16
    rw [hi] at hr
    have h0 : cntO (none : Option Nd) m = 0 := rfl
    have h1 : cntO (some nd) m = (nd.es.map Prod.snd).count (m : Int) := rfl
    rw [h0, h1] at hr
    rw [List.count_append]
    unfold lnk at hc ⊢
    by_cases e : m = i
    · subst e
      rw [put_eq]
      rw [hi] at hc
      simp only at hc ⊢
      omega
    · rw [put_ne _ _ _ e]
      omega
  · by_cases e : j = i
    · subst e; rw [put_eq]
    · rw [put_ne _ _ _ e]; exact h.far j hj
  · by_cases e : j = i
    · subst e; rw [put_eq] at hj; cases hj
    · rw [put_ne _ _ _ e] at hj; exact h.opn j nd' hj
  · by_cases e : j = i
    · subst e; rw [put_eq] at hj; cases hj
    · rw [put_ne _ _ _ e] at hj; exact h.bnd j nd' hj
theorem lenN_dec {m : Nat} (ns : NSt) (hm : m < 16) : lenN (decL ns m) 16 = lenN ns 16 := by
  unfold decL
  cases hn : ns m with
  | none => rfl
  | some k =>
    simp only
    have := lenN_put ns m (some (addL k (-1))) 16 hm
    rw [hn] at this
    unfold one at this
    simp at this
    exact this
end
theorem goneL_inv {f : Nat} (ih : ∀ ns i pend, Inv ns pend → Inv (gone f ns i) pend) {pend : List Int} : ∀ (es : List En) (s : NSt), Inv s (es.map Prod.snd ++ pend) → Inv (goneL f es s) pend
  | [], s, h => h
  | e :: es, s, h => by
    rw [goneL_cons]
    obtain ⟨hd, nd, hn, _⟩ := Inv.dec h
    rw [if_pos (by rw [hn]; rfl)]
    exact goneL_inv ih es _ (ih _ _ _ hd)
theorem gone_inv : ∀ (f : Nat) (ns : NSt) (i : Nat) (pend : List Int), Inv ns pend → Inv (gone f ns i) pend
  | 0, _, _, _, h => h
  | f + 1, ns, i, pend, h => by
    cases hn : ns i with
    | none => rw [gone_none hn]; exact h
    | some nd =>
      by_cases hs : i = 0 ∨ 0 < nd.links ∨ 0 < nd.opens
      · rw [gone_stay hn hs]; exact h
      · rw [gone_go hn hs]
        exact goneL_inv (gone_inv f) nd.es _ (h.kill hn (fun e => hs (Or.inr (Or.inl e))))
theorem goneL_len {f : Nat} (ih : ∀ ns i pend, Inv ns pend → lenN (gone f ns i) 16 ≤ lenN ns 16) {pend : List Int} : ∀ (es : List En) (s : NSt), Inv s (es.map Prod.snd ++ pend) → lenN (goneL f es s) 16 ≤ lenN s 16
  | [], s, h => Nat.le_refl _
  | e :: es, s, h => by
    rw [goneL_cons]
    obtain ⟨hd, nd, hn, _⟩ := Inv.dec h
    rw [if_pos (by rw [hn]; rfl)]
    refine Nat.le_trans (goneL_len ih es _ (gone_inv f _ _ _ hd)) (Nat.le_trans (ih _ _ _ hd) ?_)
    rw [lenN_dec _ (h.lt hn)]; exact Nat.le_refl _
theorem gone_len : ∀ (f : Nat) (ns : NSt) (i : Nat) (pend : List Int), Inv ns pend → lenN (gone f ns i) 16 ≤ lenN ns 16
  | 0, _, _, _, h => Nat.le_refl _
  | f + 1, ns, i, pend, h => by
    cases hn : ns i with
    | none => rw [gone_none hn]; exact Nat.le_refl _
    | some nd =>
      by_cases hs : i = 0 ∨ 0 < nd.links ∨ 0 < nd.opens
      · rw [gone_stay hn hs]; exact Nat.le_refl _
      · rw [gone_go hn hs]
        refine Nat.le_trans (goneL_len (gone_len f) nd.es _ (h.kill hn (fun e => hs (Or.inr (Or.inl e))))) ?_
        have := lenN_put ns i none 16 (h.lt hn)
        have : one (none : Option Nd) = 0 := rfl
        omega
theorem kill_len {ns : NSt} {i : Nat} {nd : Nd} (hn : ns i = some nd) (h16 : i < 16) : lenN (nsPut ns i none) 16 + 1 = lenN ns 16 := by
  have := lenN_put ns i none 16 h16
  rw [hn] at this
  unfold one at this
  simpa using this
/-- all but these are there for a reason -/
def CleanBut (ns : NSt) (p : Nat → Prop) : Prop := ∀ j nd, j ≠ 0 → ¬ p j → ns j = some nd → 0 < nd.links ∨ 0 < nd.opens
theorem goneL_clean {f : Nat} (ih : ∀ ns i pend, Inv ns pend → lenN ns 16 < f → CleanBut ns (fun j => j = i) → CleanBut (gone f ns i) (fun _ => False)) {pend : List Int} :
    ∀ (es : List En) (s : NSt), Inv s (es.map Prod.snd ++ pend) → lenN s 16 < f → CleanBut s (fun _ => False) → CleanBut (goneL f es s) (fun _ => False)
  | [], s, _, _, h => h
  | e :: es, s, h, hf, hc => by
    rw [goneL_cons]
    obtain ⟨hd, nd, hn, hdd⟩ := Inv.dec h
    rw [if_pos (by rw [hn]; rfl)]
    have hl := lenN_dec s (h.lt hn)
    refine goneL_clean ih es _ (gone_inv f _ _ _ hd) (Nat.lt_of_le_of_lt (gone_len f _ _ _ hd) (by omega)) (ih _ _ _ hd (by omega) ?_)
    intro j nd' hj0 hje hj
    have hje' : j ≠ e.2.toNat := hje
    rw [hdd, put_ne _ _ _ hje'] at hj
    exact hc j nd' hj0 (fun h => h) hj
theorem gone_clean : ∀ (f : Nat) (ns : NSt) (i : Nat) (pend : List Int), Inv ns pend → lenN ns 16 < f → CleanBut ns (fun j => j = i) → CleanBut (gone f ns i) (fun _ => False)
  | 0, _, _, _, _, hf, _ => by omega
  | f + 1, ns, i, pend, h, hf, hc => by
    cases hn : ns i with
    | none =>
      rw [gone_none hn]
      intro j nd hj0 _ hj
      exact hc j nd hj0 (fun e => by rw [e, hn] at hj; cases hj) hj
    | some nd =>
      by_cases hs : i = 0 ∨ 0 < nd.links ∨ 0 < nd.opens
      · rw [gone_stay hn hs]
        intro j nd' hj0 _ hj
        by_cases e : j = i
        · subst e; rw [hn] at hj; cases hj
          rcases hs with hs | hs
          · exact absurd hs hj0
          · exact hs
        · exact hc j nd' hj0 e hj
      · rw [gone_go hn hs]
        have hk := kill_len hn (h.lt hn)
        refine goneL_clean (gone_clean f) nd.es _ (h.kill hn (fun e => hs (Or.inr (Or.inl e)))) (by omega) ?_
        intro j nd' hj0 _ hj
        by_cases e : j = i
        · subst e; rw [put_eq] at hj; cases hj
        · rw [put_ne _ _ _ e] at hj; exact hc j nd' hj0 e hj
end Go.Proofs.YtchnjfmimpikcaaDoor
