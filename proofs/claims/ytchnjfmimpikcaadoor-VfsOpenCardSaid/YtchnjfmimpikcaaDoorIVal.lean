/-
  What every table of nodes keeps, act by act: the plain law.
-/
import Derived.Test.YtchnjfmimpikcaaDoorIRem
namespace Go.Proofs.YtchnjfmimpikcaaDoor
set_option linter.unusedSimpArgs false
set_option linter.unusedVariables false
open Go.RowKit Own RegJ Two
open Go.Lib hiding intOf

theorem at_uniq {es : List En} {nm : Txt} {i j : Nat} (h : At es nm i) (h' : At es nm j) : i = j := by
  rcases Nat.lt_trichotomy i j with e | e | e
  · have hl : i < es.length := by have := h'.1; omega
    have h1 := h'.2.1 i es[i] (List.getElem?_eq_getElem hl) e
    have h2 := h.2.2 i es[i] (List.getElem?_eq_getElem hl) (Nat.le_refl _)
    rw [h1] at h2; cases h2
  · exact e
  · have hl : j < es.length := by have := h.1; omega
    have h1 := h.2.1 j es[j] (List.getElem?_eq_getElem hl) e
    have h2 := h'.2.2 j es[j] (List.getElem?_eq_getElem hl) (Nat.le_refl _)
    rw [h1] at h2; cases h2
theorem at_ex {es : List En} (hS : Srt es) (nm : Txt) : ∃ j, At es nm j := by
  refine ⟨es.findIdx (fun x => !nlt x.1 nm), List.findIdx_le_length, fun k x hx hk => ?_, fun k x hx hk => ?_⟩
  · have hl := (List.getElem?_eq_some_iff.1 hx)
    have := List.not_of_lt_findIdx hk
    rw [hl.2] at this
    simpa using this
  · have hl := (List.getElem?_eq_some_iff.1 hx)
    have hf : es.findIdx (fun x => !nlt x.1 nm) < es.length := by have := hl.1; omega
    have hp := List.findIdx_getElem (w := hf)
    simp only [Bool.not_eq_true'] at hp
    by_cases e : es.findIdx (fun x => !nlt x.1 nm) = k
    · have : es[es.findIdx (fun x => !nlt x.1 nm)] = x := by rw [← hl.2]; congr 1
      rw [this] at hp; exact hp
    · have h1 := srt_at hS (List.getElem?_eq_getElem hf) hx (by omega)
      cases hn : nlt x.1 nm with
      | false => rfl
      | true => rw [nlt_trans _ _ _ h1 hn] at hp; cases hp
theorem refs_le {ns : NSt} (h : ∀ i nd, ns i = some nd → nd.es.length ≤ 8) (m : Nat) : ∀ k, refs ns m k ≤ k * 8
  | 0 => Nat.le_refl _
  | k + 1 => by
    unfold refs
    have := refs_le h m k
    have : cntO (ns k) m ≤ 8 := by
      unfold cntO
      cases hn : ns k with
      | none => simp
      | some nd =>
        simp only
        unfold cntE
        exact Nat.le_trans List.count_le_length (by rw [List.length_map]; exact h k nd hn)
    omega
/-- what is left of a node behind a going -/
def Sub (ns ns' : NSt) : Prop := ∀ j nd', ns' j = some nd' → ∃ nd, ns j = some nd ∧ nd'.dir = nd.dir ∧ nd'.es = nd.es ∧ nd'.opens = nd.opens
theorem Sub.refl (ns : NSt) : Sub ns ns := fun j nd' h => ⟨nd', h, rfl, rfl, rfl⟩
theorem Sub.trans {a b c : NSt} (h : Sub a b) (k : Sub b c) : Sub a c := fun j nd' hj => by
  obtain ⟨nd, h1, h2, h3, h4⟩ := k j nd' hj
  obtain ⟨nd0, g1, g2, g3, g4⟩ := h j nd h1
  exact ⟨nd0, g1, h2.trans g2, h3.trans g3, h4.trans g4⟩
theorem sub_dec (ns : NSt) (m : Nat) : Sub ns (decL ns m) := fun j nd' hj => by
  unfold decL at hj
  cases hm : ns m with
  | none => rw [hm] at hj; exact ⟨nd', hj, rfl, rfl, rfl⟩
  | some k =>
    rw [hm] at hj
    simp only at hj
    by_cases e : j = m
    · subst e; rw [put_eq] at hj; cases hj; exact ⟨k, hm, rfl, rfl, rfl⟩
    · rw [put_ne _ _ _ e] at hj; exact ⟨nd', hj, rfl, rfl, rfl⟩
theorem sub_put (ns : NSt) (i : Nat) : Sub ns (nsPut ns i none) := fun j nd' hj => by
  by_cases e : j = i
  · subst e; rw [put_eq] at hj; cases hj
  · rw [put_ne _ _ _ e] at hj; exact ⟨nd', hj, rfl, rfl, rfl⟩
theorem goneL_sub {f : Nat} (ih : ∀ ns i, Sub ns (gone f ns i)) : ∀ (es : List En) (s : NSt), Sub s (goneL f es s)
  | [], s => Sub.refl s
  | e :: es, s => by
    rw [goneL_cons]
    split
    · exact ((sub_dec s _).trans (ih _ _)).trans (goneL_sub ih es _)
    · exact goneL_sub ih es s
theorem gone_sub : ∀ (f : Nat) (ns : NSt) (i : Nat), Sub ns (gone f ns i)
  | 0, ns, _ => Sub.refl ns
  | f + 1, ns, i => by
    cases hn : ns i with
    | none => rw [gone_none hn]; exact Sub.refl ns
    | some nd =>
      by_cases hs : i = 0 ∨ 0 < nd.links ∨ 0 < nd.opens
      · rw [gone_stay hn hs]; exact Sub.refl ns
      · rw [gone_go hn hs]
        exact (sub_put ns i).trans (goneL_sub (gone_sub f) nd.es _)
/-- the root stays -/
def Rt (ns : NSt) : Prop := (ns 0).isSome = true
theorem rt_put {ns : NSt} (h : Rt ns) (i : Nat) (x : Option Nd) (hx : i = 0 → x.isSome = true) : Rt (nsPut ns i x) := by
  unfold Rt nsPut at *
  split
  · rename_i e; exact hx e.symm
  · exact h
theorem rt_dec {ns : NSt} (h : Rt ns) (m : Nat) : Rt (decL ns m) := by
  unfold decL
  cases hm : ns m with
  | none => exact h
  | some k => exact rt_put h _ _ (fun _ => rfl)
theorem goneL_rt {f : Nat} (ih : ∀ ns i, Rt ns → Rt (gone f ns i)) : ∀ (es : List En) (s : NSt), Rt s → Rt (goneL f es s)
  | [], s, h => h
  | e :: es, s, h => by
    rw [goneL_cons]
    split
    · exact goneL_rt ih es _ (ih _ _ (rt_dec h _))
    · exact goneL_rt ih es s h
theorem gone_rt : ∀ (f : Nat) (ns : NSt) (i : Nat), Rt ns → Rt (gone f ns i)
  | 0, ns, _, h => h
  | f + 1, ns, i, h => by
    cases hn : ns i with
    | none => rw [gone_none hn]; exact h
    | some nd =>
      by_cases hs : i = 0 ∨ 0 < nd.links ∨ 0 < nd.opens
      · rw [gone_stay hn hs]; exact h
      · rw [gone_go hn hs]
        exact goneL_rt (gone_rt f) nd.es _ (rt_put h _ _ (fun e => absurd (Or.inl e) hs))
structure IV (ns : NSt) (c : Nat) : Prop where
  inv : Inv ns []
  root : Rt ns
  len : ∀ i nd, ns i = some nd → nd.es.length ≤ 8
  srt : ∀ i nd, ns i = some nd → Srt nd.es
  opn : ∀ i nd, ns i = some nd → nd.opens ≤ c
  clean : CleanBut ns (fun _ => False)
  fil : ∀ i nd, ns i = some nd → nd.dir = false → nd.es = []
theorem Inv.bd {ns : NSt} (h : Inv ns []) (h8 : ∀ i nd, ns i = some nd → nd.es.length ≤ 8) {i : Nat} {nd : Nd} (hi : ns i = some nd) : nd.links ≤ 128 := by
  have h1 := h.cnt i
  have h2 := refs_le h8 i 16
  unfold lnk at h1
  rw [hi] at h1
  simp only [List.count_nil] at h1
  omega
theorem IV.le {ns : NSt} {c d : Nat} (h : IV ns c) (hcd : c ≤ d) : IV ns d := ⟨h.inv, h.root, h.len, h.srt, fun i nd hi => by have := h.opn i nd hi; omega, h.clean, h.fil⟩
/-- a node as it was but for how often it is open -/
theorem Inv.opens {ns : NSt} {pend : List Int} (h : Inv ns pend) {i : Nat} {nd nd' : Nd} (hi : ns i = some nd) (hl : nd'.links = nd.links) (he : nd'.es = nd.es) (ho : 0 ≤ nd'.opens) : Inv (nsPut ns i (some nd')) pend := by
  have h16 := h.lt hi
  refine ⟨fun k nd2 hk => ?_, h.pids, fun m => ?_, fun k hk => ?_, fun k nd2 hk => ?_, fun k nd2 hk => ?_⟩
  · by_cases e : k = i
    · subst e; rw [put_eq] at hk; cases hk; rw [he]; exact h.ids _ nd hi
    · rw [put_ne _ _ _ e] at hk; exact h.ids k nd2 hk
  · have hc := h.cnt m
    have hr := refs_put ns i (some nd') m 16 h16
    have h0 : cntO (some nd') m = cntO (ns i) m := by rw [hi]; unfold cntO; simp only; rw [he]
    rw [h0] at hr
    have hlk : lnk (nsPut ns i (some nd')) m = lnk ns m := by
      unfold lnk
      by_cases e : m = i
      · subst e; rw [put_eq, hi]; exact hl
      · rw [put_ne _ _ _ e]
    rw [hlk]; omega
  · rw [put_ne _ _ _ (by omega)]; exact h.far k hk
  · by_cases e : k = i
    · subst e; rw [put_eq] at hk; cases hk; exact ho
    · rw [put_ne _ _ _ e] at hk; exact h.opn k nd2 hk
  · by_cases e : k = i
    · subst e; rw [put_eq] at hk; cases hk; rw [hl]; exact h.bnd _ nd hi
    · rw [put_ne _ _ _ e] at hk; exact h.bnd k nd2 hk
theorem Inv.make {ns : NSt} (h : Inv ns []) {i : Nat} (h16 : i < 16) (hn : ns i = none) (dir : Bool) : Inv (nsPut ns i (some ⟨dir, 0, 1, [], []⟩)) [] := by
  have hci := h.cnt i
  refine ⟨fun k nd2 hk => ?_, h.pids, fun m => ?_, fun k hk => ?_, fun k nd2 hk => ?_, fun k nd2 hk => ?_⟩
  · by_cases e : k = i
    · subst e; rw [put_eq] at hk; cases hk; intro y hy; cases hy
    · rw [put_ne _ _ _ e] at hk; exact h.ids k nd2 hk
  · have hc := h.cnt m
    have hr := refs_put ns i (some ⟨dir, 0, 1, [], []⟩) m 16 h16
    have h0 : cntO (some ⟨dir, 0, 1, [], []⟩) m = 0 := rfl
    have h1 : cntO (ns i) m = 0 := by rw [hn]; rfl
    rw [h0, h1] at hr
    have hlk : lnk (nsPut ns i (some ⟨dir, 0, 1, [], []⟩)) m = lnk ns m := by
      unfold lnk
      by_cases e : m = i
      · subst e; rw [put_eq, hn]
      · rw [put_ne _ _ _ e]
    rw [hlk]; omega
  · rw [put_ne _ _ _ (by omega)]; exact h.far k hk
  · by_cases e : k = i
    · subst e; rw [put_eq] at hk; cases hk; exact Int.le_of_lt Int.one_pos
    · rw [put_ne _ _ _ e] at hk; exact h.opn k nd2 hk
  · by_cases e : k = i
    · subst e; rw [put_eq] at hk; cases hk; simp
    · rw [put_ne _ _ _ e] at hk; exact h.bnd k nd2 hk
theorem cnt_ins (es : List En) (j : Nat) (x : En) (m : Nat) : cntE (insE es j x) m = cntE es m + [x.2].count (m : Int) := by
  unfold cntE
  have hs : es.map Prod.snd = (es.take j).map Prod.snd ++ (es.drop j).map Prod.snd := by rw [← List.map_append, List.take_append_drop]
  rw [hs]
  unfold insE
  rw [List.map_append, List.map_cons, List.count_append, List.count_append, List.count_cons, List.count_cons, List.count_nil]
  omega
theorem nsEnt_eq {ns : NSt} {i k : Nat} {nd nk : Nd} (es : List En) (hi : ns i = some nd) (hk : ns k = some nk) : ∃ nk', nsPut ns i (some (setEs nd es)) k = some nk' ∧ nk'.links = nk.links ∧ nk'.opens = nk.opens ∧ nsEnt ns i nd es k = nsPut (nsPut ns i (some (setEs nd es))) k (some (addL nk' 1)) := by
  obtain ⟨nk', hk', hl', ho'⟩ : ∃ nk', nsPut ns i (some (setEs nd es)) k = some nk' ∧ nk'.links = nk.links ∧ nk'.opens = nk.opens := by
    by_cases e : k = i
    · subst e; rw [hi] at hk; cases hk; exact ⟨_, put_eq _ _ _, rfl, rfl⟩
    · exact ⟨nk, by rw [put_ne _ _ _ e]; exact hk, rfl, rfl⟩
  refine ⟨nk', hk', hl', ho', ?_⟩
  unfold nsEnt
  simp only [Int.toNat_natCast]
  rw [hk']
theorem put_some {ns : NSt} {i j : Nat} {x nd : Nd} (h : nsPut ns i (some x) j = some nd) : (j = i ∧ nd = x) ∨ (j ≠ i ∧ ns j = some nd) := by
  by_cases e : j = i
  · subst e; rw [put_eq] at h; cases h; exact Or.inl ⟨rfl, rfl⟩
  · rw [put_ne _ _ _ e] at h; exact Or.inr ⟨e, h⟩
theorem Inv.enter {ns : NSt} (h : Inv ns []) (h8 : ∀ i nd, ns i = some nd → nd.es.length ≤ 8) {i k : Nat} {nd nk : Nd} (hi : ns i = some nd) (hk : ns k = some nk) (hk0 : k ≠ 0) (j : Nat) (nm : Txt) : Inv (nsEnt ns i nd (insE nd.es j (nm, (k : Int))) k) [] := by
  have hi16 := h.lt hi
  have hk16 := h.lt hk
  obtain ⟨nk', hk', hl', ho', he⟩ := nsEnt_eq (insE nd.es j (nm, (k : Int))) hi hk
  rw [he]
  have hbd := h.bd h8 hk
  refine ⟨fun l nd2 hl => ?_, h.pids, fun m => ?_, fun l hl => ?_, fun l nd2 hl => ?_, fun l nd2 hl => ?_⟩
  · have key : ∀ l nd3, nsPut ns i (some (setEs nd (insE nd.es j (nm, (k : Int))))) l = some nd3 → ∀ e ∈ nd3.es, 1 ≤ e.2 ∧ e.2 < 16 := fun l nd3 hl3 => by
      rcases put_some hl3 with ⟨rfl, rfl⟩ | ⟨e, h3⟩
      · intro y hy
        unfold setEs insE at hy
        simp only [List.mem_append, List.mem_cons] at hy
        rcases hy with hy | rfl | hy
        · exact h.ids _ nd hi y (List.mem_of_mem_take hy)
        · simp only; omega
        · exact h.ids _ nd hi y (List.mem_of_mem_drop hy)
      · exact h.ids l nd3 h3
    rcases put_some hl with ⟨rfl, rfl⟩ | ⟨e, h3⟩
    · exact key _ nk' hk'
    · exact key l nd2 h3
  · have hc := h.cnt m
    have hr := refs_put ns i (some (setEs nd (insE nd.es j (nm, (k : Int))))) m 16 hi16
    rw [hi] at hr
    have h0 : cntO (some (setEs nd (insE nd.es j (nm, (k : Int))))) m = cntE (insE nd.es j (nm, (k : Int))) m := rfl
    have h1 : cntO (some nd) m = cntE nd.es m := rfl
    rw [h0, h1, cnt_ins] at hr
    dsimp only at hr
    have hr2 := refs_put (nsPut ns i (some (setEs nd (insE nd.es j (nm, (k : Int)))))) k (some (addL nk' 1)) m 16 hk16
    have h2 : cntO (some (addL nk' 1)) m = cntO (nsPut ns i (some (setEs nd (insE nd.es j (nm, (k : Int))))) k) m := by rw [hk']; rfl
    rw [h2] at hr2
    rw [List.count_nil] at hc ⊢
    have hlk : lnk (nsPut (nsPut ns i (some (setEs nd (insE nd.es j (nm, (k : Int)))))) k (some (addL nk' 1))) m = lnk ns m + [(k : Int)].count (m : Int) := by
      unfold lnk
      by_cases e : m = k
      · subst e; rw [put_eq, hk]; simp only [addL, List.count_singleton_self]; rw [hl']; rfl
      · rw [put_ne _ _ _ e]
        have : [(k : Int)].count (m : Int) = 0 := by rw [List.count_eq_zero]; simp; omega
        rw [this]
        by_cases e2 : m = i
        · subst e2; rw [put_eq, hi]; simp [setEs]
        · rw [put_ne _ _ _ e2]; simp
    rw [hlk]; omega
  · rw [put_ne _ _ _ (by omega), put_ne _ _ _ (by omega)]; exact h.far l hl
  · rcases put_some hl with ⟨rfl, rfl⟩ | ⟨e, h3⟩
    · show 0 ≤ nk'.opens
      rw [ho']; exact h.opn _ nk hk
    · rcases put_some h3 with ⟨rfl, rfl⟩ | ⟨e, h3⟩
      · exact h.opn _ nd hi
      · exact h.opn l nd2 h3
  · rcases put_some hl with ⟨rfl, rfl⟩ | ⟨e, h3⟩
    · show nk'.links + 1 ≤ 100000
      rw [hl']; omega
    · rcases put_some h3 with ⟨rfl, rfl⟩ | ⟨e, h3⟩
      · exact h.bnd _ nd hi
      · exact h.bnd l nd2 h3
/-- behind a going everything holds -/
theorem iv_gone {ns : NSt} {c i : Nat} (hV : Inv ns []) (hr : Rt ns) (h8 : ∀ i nd, ns i = some nd → nd.es.length ≤ 8) (hS : ∀ i nd, ns i = some nd → Srt nd.es) (ho : ∀ i nd, ns i = some nd → nd.opens ≤ c) (hc : CleanBut ns (fun j => j = i)) (hf : ∀ i nd, ns i = some nd → nd.dir = false → nd.es = []) : IV (gone 17 ns i) c := by
  have hsb := gone_sub 17 ns i
  refine ⟨gone_inv 17 ns i [] hV, gone_rt 17 ns i hr, fun j nd hj => ?_, fun j nd hj => ?_, fun j nd hj => ?_, gone_clean 17 ns i [] hV (by have := lenN_le ns 16; omega) hc, fun j nd hj hd => ?_⟩
  · obtain ⟨nd0, h1, _, h2, _⟩ := hsb j nd hj; rw [h2]; exact h8 j nd0 h1
  · obtain ⟨nd0, h1, _, h2, _⟩ := hsb j nd hj; rw [h2]; exact hS j nd0 h1
  · obtain ⟨nd0, h1, _, _, h2⟩ := hsb j nd hj; rw [h2]; exact ho j nd0 h1
  · obtain ⟨nd0, h1, h2, h3, _⟩ := hsb j nd hj; rw [h3]; exact hf j nd0 h1 (by rw [← h2]; exact hd)
section
variable {ns : NSt} {c : Nat}
theorem IV.make (h : IV ns c) {i : Nat} (h16 : i < 16) (hn : ns i = none) (dir : Bool) : IV (nsPut ns i (some ⟨dir, 0, 1, [], []⟩)) (c + 1) := by
  refine ⟨h.inv.make h16 hn dir, rt_put h.root _ _ (fun _ => rfl), fun j nd hj => ?_, fun j nd hj => ?_, fun j nd hj => ?_, fun j nd hj0 _ hj => ?_, fun j nd hj hd => by
      rcases put_some hj with ⟨rfl, rfl⟩ | ⟨e, h3⟩
      · rfl
      · exact h.fil j nd h3 hd⟩
  · rcases put_some hj with ⟨rfl, rfl⟩ | ⟨e, h3⟩
    · exact Nat.zero_le _
    · exact h.len j nd h3
  · rcases put_some hj with ⟨rfl, rfl⟩ | ⟨e, h3⟩
    · exact List.Pairwise.nil
    · exact h.srt j nd h3
  · rcases put_some hj with ⟨rfl, rfl⟩ | ⟨e, h3⟩
    · simp only; omega
    · have := h.opn j nd h3; omega
  · rcases put_some hj with ⟨rfl, rfl⟩ | ⟨e, h3⟩
    · exact Or.inr Int.one_pos
    · exact h.clean j nd hj0 (fun h => h) h3
theorem IV.opened (h : IV ns c) {i : Nat} {nd : Nd} (hi : ns i = some nd) : IV (nsPut ns i (some (addO nd 1))) (c + 1) := by
  have h0 := h.inv.opn i nd hi
  have h1 := h.opn i nd hi
  refine ⟨h.inv.opens hi rfl rfl (by simp only [addO]; omega), rt_put h.root _ _ (fun _ => rfl), fun j nd2 hj => ?_, fun j nd2 hj => ?_, fun j nd2 hj => ?_, fun j nd2 hj0 _ hj => ?_, fun j nd2 hj hd2 => by
      rcases put_some hj with ⟨rfl, rfl⟩ | ⟨e, h3⟩
      · exact h.fil _ nd hi hd2
      · exact h.fil j nd2 h3 hd2⟩
  · rcases put_some hj with ⟨rfl, rfl⟩ | ⟨e, h3⟩
    · exact h.len _ nd hi
    · exact h.len j nd2 h3
  · rcases put_some hj with ⟨rfl, rfl⟩ | ⟨e, h3⟩
    · exact h.srt _ nd hi
    · exact h.srt j nd2 h3
  · rcases put_some hj with ⟨rfl, rfl⟩ | ⟨e, h3⟩
    · simp only [addO]; omega
    · have := h.opn j nd2 h3; omega
  · rcases put_some hj with ⟨rfl, rfl⟩ | ⟨e, h3⟩
    · exact Or.inr (by simp only [addO]; omega)
    · exact h.clean j nd2 hj0 (fun h => h) h3
theorem IV.closed1 (h : IV ns c) {i : Nat} {nd : Nd} (hi : ns i = some nd) (ho : 0 < nd.opens) : Inv (nsPut ns i (some (addO nd (-1)))) [] := h.inv.opens hi rfl rfl (by simp only [addO]; omega)
theorem IV.closed (h : IV ns c) {i : Nat} {nd : Nd} (hi : ns i = some nd) (ho : 0 < nd.opens) : IV (gone 17 (nsPut ns i (some (addO nd (-1)))) i) (c + 1) := by
  have h1 := h.opn i nd hi
  refine iv_gone (h.closed1 hi ho) (rt_put h.root _ _ (fun _ => rfl)) (fun j nd2 hj => ?_) (fun j nd2 hj => ?_) (fun j nd2 hj => ?_) (fun j nd2 hj0 hji hj => ?_) (fun j nd2 hj hd2 => by
      rcases put_some hj with ⟨rfl, rfl⟩ | ⟨e, h3⟩
      · exact h.fil _ nd hi hd2
      · exact h.fil j nd2 h3 hd2)
  · rcases put_some hj with ⟨rfl, rfl⟩ | ⟨e, h3⟩
    · exact h.len _ nd hi
    · exact h.len j nd2 h3
  · rcases put_some hj with ⟨rfl, rfl⟩ | ⟨e, h3⟩
    · exact h.srt _ nd hi
    · exact h.srt j nd2 h3
  · rcases put_some hj with ⟨rfl, rfl⟩ | ⟨e, h3⟩
    · simp only [addO]; omega
    · have := h.opn j nd2 h3; omega
  · rcases put_some hj with ⟨rfl, rfl⟩ | ⟨e, h3⟩
    · exact absurd rfl hji
    · exact h.clean j nd2 hj0 (fun h => h) h3
theorem IV.entered (h : IV ns c) {i k : Nat} {nd nk : Nd} (hi : ns i = some nd) (hd : nd.dir = true) (hk : ns k = some nk) (hk0 : k ≠ 0) {j : Nat} {nm : Txt} (hA : At nd.es nm j) (hno : isAt nd.es nm j = false) (h8 : nd.es.length ≠ 8) : IV (nsEnt ns i nd (insE nd.es j (nm, (k : Int))) k) (c + 1) := by
  have hl8 := h.len i nd hi
  obtain ⟨nk', hk', hl', ho', he⟩ := nsEnt_eq (insE nd.es j (nm, (k : Int))) hi hk
  have hlk := h.inv.links hk
  have key0 : ∀ l nd3, nsPut ns i (some (setEs nd (insE nd.es j (nm, (k : Int))))) l = some nd3 → nd3.dir = false → nd3.es = [] := fun l nd3 hl3 hd3 => by
    rcases put_some hl3 with ⟨rfl, rfl⟩ | ⟨e, h3⟩
    · have : nd.dir = false := hd3
      rw [hd] at this; cases this
    · exact h.fil l nd3 h3 hd3
  refine ⟨h.inv.enter h.len hi hk hk0 j nm, ?_, fun l nd2 hl => ?_, fun l nd2 hl => ?_, fun l nd2 hl => ?_, fun l nd2 hl0 _ hl => ?_, fun l nd2 hl hd2 => by
    rw [he] at hl
    rcases put_some hl with ⟨rfl, rfl⟩ | ⟨e, h3⟩
    · exact key0 _ nk' hk' hd2
    · exact key0 l nd2 h3 hd2⟩
  · rw [he]; exact rt_put (rt_put h.root _ _ (fun _ => rfl)) _ _ (fun _ => rfl)
  · rw [he] at hl
    have key : ∀ l nd3, nsPut ns i (some (setEs nd (insE nd.es j (nm, (k : Int))))) l = some nd3 → nd3.es.length ≤ 8 := fun l nd3 hl3 => by
      rcases put_some hl3 with ⟨rfl, rfl⟩ | ⟨e, h3⟩
      · show (insE nd.es j (nm, (k : Int))).length ≤ 8
        rw [insE_len]; omega
      · exact h.len l nd3 h3
    rcases put_some hl with ⟨rfl, rfl⟩ | ⟨e, h3⟩
    · exact key _ nk' hk'
    · exact key l nd2 h3
  · rw [he] at hl
    have key : ∀ l nd3, nsPut ns i (some (setEs nd (insE nd.es j (nm, (k : Int))))) l = some nd3 → Srt nd3.es := fun l nd3 hl3 => by
      rcases put_some hl3 with ⟨rfl, rfl⟩ | ⟨e, h3⟩
      · exact insE_srt (h.srt _ nd hi) hA hno
      · exact h.srt l nd3 h3
    rcases put_some hl with ⟨rfl, rfl⟩ | ⟨e, h3⟩
    · exact key _ nk' hk'
    · exact key l nd2 h3
  · rw [he] at hl
    rcases put_some hl with ⟨rfl, rfl⟩ | ⟨e, h3⟩
    · show nk'.opens ≤ _
      rw [ho']; have := h.opn _ nk hk; omega
    · rcases put_some h3 with ⟨rfl, rfl⟩ | ⟨e, h3⟩
      · have := h.opn _ nd hi; simp only [setEs]; omega
      · have := h.opn l nd2 h3; omega
  · rw [he] at hl
    rcases put_some hl with ⟨rfl, rfl⟩ | ⟨e, h3⟩
    · refine Or.inl ?_
      show 0 < nk'.links + 1
      rw [hl']; omega
    · rcases put_some h3 with ⟨rfl, rfl⟩ | ⟨e, h3⟩
      · exact h.clean _ nd hl0 (fun h => h) hi
      · exact h.clean l nd2 hl0 (fun h => h) h3
theorem IV.removed (h : IV ns c) {i k : Nat} {nd nk : Nd} (hi : ns i = some nd) (hd : nd.dir = true) (hk : ns k = some nk) {j : Nat} {nm : Txt} (hx : nd.es[j]? = some (nm, (k : Int))) : IV (gone 17 (nsRem ns i nd j k) k) (c + 1) := by
  obtain ⟨hdec, nk', hk', hde⟩ := (h.inv.del hi hx).dec
  simp only [Int.toNat_natCast] at hdec hk' hde
  have hjl : j < nd.es.length := (List.getElem?_eq_some_iff.1 hx).1
  have hrt : Rt (nsRem ns i nd j k) := rt_dec (rt_put h.root _ _ (fun _ => rfl)) _
  have hsub : Sub (nsPut ns i (some (setEs nd (delE nd.es j)))) (nsRem ns i nd j k) := sub_dec _ _
  refine iv_gone hdec hrt (fun l nd2 hl => ?_) (fun l nd2 hl => ?_) (fun l nd2 hl => ?_) (fun l nd2 hl0 hlk hl => ?_) (fun l nd2 hl hd2 => by
    obtain ⟨nd3, h3, g1, g2, _⟩ := hsub l nd2 hl
    rw [g2]
    rw [g1] at hd2
    rcases put_some h3 with ⟨rfl, rfl⟩ | ⟨e, h3⟩
    · have : nd.dir = false := hd2
      rw [hd] at this; cases this
    · exact h.fil l nd3 h3 hd2)
  · obtain ⟨nd3, h3, _, h4, _⟩ := hsub l nd2 hl
    rw [h4]
    rcases put_some h3 with ⟨rfl, rfl⟩ | ⟨e, h3⟩
    · have := h.len _ nd hi
      show (delE nd.es j).length ≤ 8
      rw [delE_len hjl]; omega
    · exact h.len l nd3 h3
  · obtain ⟨nd3, h3, _, h4, _⟩ := hsub l nd2 hl
    rw [h4]
    rcases put_some h3 with ⟨rfl, rfl⟩ | ⟨e, h3⟩
    · exact delE_srt (h.srt _ nd hi)
    · exact h.srt l nd3 h3
  · obtain ⟨nd3, h3, _, _, h4⟩ := hsub l nd2 hl
    rw [h4]
    rcases put_some h3 with ⟨rfl, rfl⟩ | ⟨e, h3⟩
    · have := h.opn _ nd hi; simp only [setEs]; omega
    · have := h.opn l nd3 h3; omega
  · have hl' : nsPut (nsPut ns i (some (setEs nd (delE nd.es j)))) k (some (addL nk' (-1))) l = some nd2 := by rw [← hde]; exact hl
    rcases put_some hl' with ⟨rfl, rfl⟩ | ⟨e, h3⟩
    · exact absurd rfl hlk
    · rcases put_some h3 with ⟨rfl, rfl⟩ | ⟨e, h3⟩
      · exact h.clean _ nd hl0 (fun h => h) hi
      · exact h.clean l nd2 hl0 (fun h => h) h3
theorem IV.zero : IV ns0 0 := by
  have h0 : ∀ i nd, ns0 i = some nd → i = 0 ∧ nd = ⟨true, 0, 0, [], []⟩ := fun i nd hi => by
    unfold ns0 at hi
    split at hi
    · rename_i e; cases hi; exact ⟨e, rfl⟩
    · cases hi
  refine ⟨⟨fun i nd hi e he => ?_, fun x hx => (by cases hx), fun m => ?_, fun i hi => ?_, fun i nd hi => ?_, fun i nd hi => ?_⟩, rfl, fun i nd hi => ?_, fun i nd hi => ?_, fun i nd hi => ?_, fun i nd hi0 _ hi => ?_, fun i nd hi _ => by obtain ⟨_, rfl⟩ := h0 i nd hi; rfl⟩
  · obtain ⟨_, rfl⟩ := h0 i nd hi; cases he
  · have hr : refs ns0 m 16 = 0 := by
      have : ∀ k, refs ns0 m k = 0 := by
        intro k
        induction k with
        | zero => rfl
        | succ k ih =>
          unfold refs
          rw [ih]
          cases hk : ns0 k with
          | none => rfl
          | some nd => obtain ⟨_, rfl⟩ := h0 k nd hk; rfl
      exact this 16
    rw [hr]
    unfold lnk
    cases hm : ns0 m with
    | none => rfl
    | some nd => obtain ⟨_, rfl⟩ := h0 m nd hm; rfl
  · unfold ns0; rw [if_neg (by omega)]
  · obtain ⟨_, rfl⟩ := h0 i nd hi; exact Int.le_refl _
  · obtain ⟨_, rfl⟩ := h0 i nd hi; simp
  · obtain ⟨_, rfl⟩ := h0 i nd hi; exact Nat.zero_le _
  · obtain ⟨_, rfl⟩ := h0 i nd hi; exact List.Pairwise.nil
  · obtain ⟨_, rfl⟩ := h0 i nd hi; exact Int.le_refl _
  · exact absurd (h0 i nd hi).1 hi0
end
end Go.Proofs.YtchnjfmimpikcaaDoor
