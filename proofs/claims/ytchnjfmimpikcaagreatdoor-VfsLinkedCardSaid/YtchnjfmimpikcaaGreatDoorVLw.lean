/-
  Plain: what a Link leaves, and an Unlink of one of the two names.
-/
import Derived.Test.YtchnjfmimpikcaaGreatDoorVEr
namespace Go.Proofs.YtchnjfmimpikcaaGreatDoor
set_option linter.unusedSimpArgs false
set_option linter.unusedVariables false
open Go.RowKit Own RegJ Two
open Go.Lib hiding intOf

/-! ### walks -/
theorem walkL_snoc (ns : NSt) : ∀ (xs : List Txt) (id d : Int) (x : Txt), walkL ns id xs = (d, 0) → walkL ns id (xs ++ [x]) = if (findR ns d x).2 = 0 then ((findR ns d x).1, 0) else (0, (findR ns d x).2)
  | [], id, d, x, h => by
    unfold walkL at h; cases h
    show walkL ns id [x] = _
    unfold walkL
    split <;> rfl
  | y :: ys, id, d, x, h => by
    unfold walkL at h
    split at h
    · rename_i h0
      show walkL ns id (y :: (ys ++ [x])) = _
      unfold walkL
      rw [if_pos h0]
      exact walkL_snoc ns ys _ d x h
    · rename_i h0
      exact absurd (Prod.mk.inj h).2 h0
theorem walkL_init (ns : NSt) : ∀ (xs : List Txt) (id a : Int) (x : Txt), walkL ns id (xs ++ [x]) = (a, 0) → ∃ d, walkL ns id xs = (d, 0) ∧ findR ns d x = (a, 0)
  | [], id, a, x, h => by
    refine ⟨id, rfl, ?_⟩
    have h : walkL ns id [x] = (a, 0) := h
    unfold walkL at h
    split at h
    · rename_i h0
      unfold walkL at h
      have h1 := (Prod.mk.inj h).1
      exact Prod.ext h1 h0
    · rename_i h0; exact absurd (Prod.mk.inj h).2 h0
  | y :: ys, id, a, x, h => by
    have h : walkL ns id (y :: (ys ++ [x])) = (a, 0) := h
    unfold walkL at h
    split at h
    · rename_i h0
      obtain ⟨d, h1, h2⟩ := walkL_init ns ys _ a x h
      refine ⟨d, ?_, h2⟩
      unfold walkL
      rw [if_pos h0]; exact h1
    · rename_i h0; exact absurd (Prod.mk.inj h).2 h0
/-- walks that end well go on alike -/
theorem walkL_more {ns ns' : NSt} (hf : ∀ id x, (findR ns id x).2 = 0 → findR ns' id x = findR ns id x) : ∀ (xs : List Txt) (id d : Int), walkL ns id xs = (d, 0) → walkL ns' id xs = (d, 0)
  | [], id, d, h => h
  | y :: ys, id, d, h => by
    unfold walkL at h ⊢
    split at h
    · rename_i h0
      rw [hf _ _ h0, if_pos h0]
      exact walkL_more hf ys _ d h
    · rename_i h0; exact absurd (Prod.mk.inj h).2 h0
/-- a walk to a directory does not go over an entry that names a file -/
theorem walkL_past {ns ns' : NSt} {ds : Int} {nms : Txt} {x : Int} (hf : ∀ id y, ¬ (id = ds ∧ y = nms) → findR ns' id y = findR ns id y) (hx : findR ns ds nms = (x, 0)) (hn : dirAt ns x = none) :
    ∀ (xs : List Txt) (id d : Int), walkL ns id xs = (d, 0) → dirAt ns d ≠ none → walkL ns' id xs = (d, 0)
  | [], id, d, h, _ => h
  | y :: ys, id, d, h, hd => by
    unfold walkL at h ⊢
    by_cases he : id = ds ∧ y = nms
    · obtain ⟨rfl, rfl⟩ := he
      rw [hx] at h
      simp only at h
      rw [if_pos trivial] at h
      cases ys with
      | nil => unfold walkL at h; cases h; exact absurd hn hd
      | cons z zs =>
        unfold walkL at h
        have : findR ns x z = (0, 11) := by unfold findR; rw [hn]
        rw [this] at h
        simp at h
    · rw [hf _ _ he]
      split at h
      · rename_i h0
        rw [if_pos h0]
        exact walkL_past hf hx hn ys _ d h hd
      · rename_i h0; exact absurd (Prod.mk.inj h).2 h0
/-- a path's walk: its directory's walk, and its last name -/
theorem walkR_last {ns : NSt} {t : Txt} {d : Int} (hp : parE t = 0) (hd : walkR ns (parD t) = (d, 0)) : walkR ns t = if (findR ns d (parN t)).2 = 0 then ((findR ns d (parN t)).1, 0) else (0, (findR ns d (parN t)).2) := by
  have hs : splitE t = 0 := by
    unfold parE at hp
    split at hp
    · assumption
    · exact hp
  have hne : splitL t ≠ [] := fun e => by unfold parE at hp; rw [if_pos hs, if_pos e] at hp; cases hp
  obtain ⟨-, h1, h2, -⟩ := par_back hs hne
  unfold walkR at hd ⊢
  rw [if_pos h1] at hd
  rw [if_pos hs, ← h2]
  exact walkL_snoc ns _ 0 d _ hd
/-- a path that leads to a file has a directory and a last name -/
theorem walkR_up {ns : NSt} {s : Txt} {x : Int} (h : walkR ns s = (x, 0)) (hr : Rd ns) (hn : dirAt ns x = none) : parE s = 0 ∧ ∃ d, walkR ns (parD s) = (d, 0) ∧ findR ns d (parN s) = (x, 0) := by
  have hs : splitE s = 0 := by
    unfold walkR at h
    split at h
    · assumption
    · rename_i h0; exact absurd (Prod.mk.inj h).2 h0
  have hne : splitL s ≠ [] := fun e => by
    unfold walkR at h
    rw [if_pos hs, e] at h
    cases h
    obtain ⟨nd, h1, -⟩ := root_at hr
    rw [hn] at h1; cases h1
  obtain ⟨h0, h1, h2, -⟩ := par_back hs hne
  unfold walkR at h
  rw [if_pos hs, ← h2] at h
  obtain ⟨d, h3, h4⟩ := walkL_init ns _ 0 x _ h
  refine ⟨h0, d, ?_, h4⟩
  unfold walkR
  rw [if_pos h1]; exact h3
/-! ### entries -/
theorem fnd_ins {es : List En} {j : Nat} {nm : Txt} {id : Int} (hn : fndE es nm = none) (y : Txt) : fndE (insE es j (nm, id)) y = if y = nm then some id else fndE es y := by
  unfold fndE insE at *
  rw [List.find?_append, List.find?_cons]
  have hsp := List.take_append_drop j es
  by_cases e : y = nm
  · subst e
    rw [if_pos rfl]
    have h1 : (es.take j).find? (fun x => decide (x.1 = y)) = none := by
      rw [← hsp, List.find?_append] at hn
      cases h : (es.take j).find? (fun x => decide (x.1 = y)) with
      | none => rfl
      | some z => rw [h] at hn; simp at hn
    rw [h1]; simp
  · rw [if_neg e]
    have h1 : decide ((nm, id).1 = y) = false := by simp; exact fun h => e h.symm
    rw [h1]
    simp only
    conv => rhs; rw [← hsp, List.find?_append]
theorem fnd_del {es : List En} {j : Nat} {x : En} (hS : Srt es) (hx : es[j]? = some x) (y : Txt) : fndE (delE es j) y = if y = x.1 then none else fndE es y := by
  have hsp := split_at hx
  unfold fndE delE
  by_cases e : y = x.1
  · rw [if_pos e]
    have : (es.take j ++ es.drop (j + 1)).find? (fun z => decide (z.1 = y)) = none := List.find?_eq_none.2 fun z hz hd => by
      have hd := of_decide_eq_true hd
      rw [e] at hd
      rw [List.mem_append] at hz
      rcases hz with hz | hz
      · obtain ⟨k, hk, hkz⟩ := List.getElem_of_mem hz
        rw [List.length_take] at hk
        have h1 : es[k]? = some z := by rw [List.getElem_take] at hkz; rw [List.getElem?_eq_getElem (by omega), hkz]
        have := srt_one hS h1 hx hd
        omega
      · obtain ⟨k, hk, hkz⟩ := List.getElem_of_mem hz
        rw [List.length_drop] at hk
        have h1 : es[j + 1 + k]? = some z := by rw [List.getElem_drop] at hkz; rw [List.getElem?_eq_getElem (by omega), hkz]
        have := srt_one hS h1 hx hd
        omega
    rw [this]; rfl
  · rw [if_neg e]
    conv => rhs; rw [hsp]
    rw [List.find?_append, List.find?_append, List.find?_cons]
    have h1 : decide (x.1 = y) = false := by simp; exact fun h => e h.symm
    rw [h1]
/-! ### the states -/
theorem find_dir {ns : NSt} {d : Int} {x : Txt} {a : Int} (h : findR ns d x = (a, 0)) : dirAt ns d ≠ none := fun e => by
  unfold findR at h; rw [e] at h; exact absurd (Prod.mk.inj h).2 (by decide)
theorem find_fnd {ns : NSt} {d : Int} {x : Txt} {a : Int} (h : findR ns d x = (a, 0)) : ∃ nd, dirAt ns d = some nd ∧ fndE nd.es x = some a := by
  unfold findR at h
  cases hd : dirAt ns d with
  | none => rw [hd] at h; exact absurd (Prod.mk.inj h).2 (by decide)
  | some nd =>
    rw [hd] at h
    simp only at h
    cases hf : fndE nd.es x with
    | none => rw [hf] at h; exact absurd (Prod.mk.inj h).2 (by decide)
    | some k => rw [hf] at h; exact ⟨nd, rfl, by rw [(Prod.mk.inj h).1] at hf; exact hf⟩
theorem find_cong {ns ns' : NSt} {j : Int} (h : (dirAt ns' j).map (fun nd : Nd => nd.es) = (dirAt ns j).map (fun nd : Nd => nd.es)) (y : Txt) : findR ns' j y = findR ns j y := by
  unfold findR
  cases h1 : dirAt ns' j with
  | none =>
    cases h2 : dirAt ns j with
    | none => rfl
    | some b => rw [h1, h2] at h; cases h
  | some a =>
    cases h2 : dirAt ns j with
    | none => rw [h1, h2] at h; cases h
    | some b =>
      rw [h1, h2] at h
      have e : a.es = b.es := by simpa using h
      simp only
      rw [e]
theorem dirAt_neg {ns : NSt} {j : Int} (h : ¬ 0 ≤ j) : dirAt ns j = none := by unfold dirAt ndAt; rw [if_neg h]
theorem dirAt_of {ns : NSt} {j : Nat} {nd : Nd} (h : ns j = some nd) : dirAt ns (j : Int) = if nd.dir = true then some nd else none := by
  unfold dirAt; rw [ndAt_nat h]
theorem dirAt_non {ns : NSt} {j : Nat} (h : ns j = none) : dirAt ns (j : Int) = none := by
  unfold dirAt ndAt; simp [h]
theorem walkR_more {ns ns' : NSt} (hf : ∀ id x, (findR ns id x).2 = 0 → findR ns' id x = findR ns id x) {l : Txt} {d : Int} (h : walkR ns l = (d, 0)) : walkR ns' l = (d, 0) := by
  unfold walkR at h ⊢
  split at h
  · rename_i h0; rw [if_pos h0]; exact walkL_more hf _ 0 d h
  · rename_i h0; exact absurd (Prod.mk.inj h).2 h0
theorem walkR_past {ns ns' : NSt} {ds : Int} {nms : Txt} {x : Int} (hf : ∀ id y, ¬ (id = ds ∧ y = nms) → findR ns' id y = findR ns id y) (hx : findR ns ds nms = (x, 0)) (hn : dirAt ns x = none) {l : Txt} {d : Int} (h : walkR ns l = (d, 0)) (hd : dirAt ns d ≠ none) : walkR ns' l = (d, 0) := by
  unfold walkR at h ⊢
  split at h
  · rename_i h0; rw [if_pos h0]; exact walkL_past hf hx hn _ 0 d h hd
  · rename_i h0; exact absurd (Prod.mk.inj h).2 h0
/-- two paths name one file -/
structure LkS (ns : NSt) (s t : Txt) (x : Nat) (ds d : Int) : Prop where
  ps : parE s = 0
  ws : walkR ns (parD s) = (ds, 0)
  fs : findR ns ds (parN s) = ((x : Int), 0)
  pt : parE t = 0
  wt : walkR ns (parD t) = (d, 0)
  ft : findR ns d (parN t) = ((x : Int), 0)
  ne : ¬ (d = ds ∧ parN t = parN s)
  nd : ∃ nx, ns x = some nx ∧ nx.dir = false ∧ 2 ≤ nx.links
section
variable {ns ns' ns1 : NSt} {s t : Txt} {x c : Nat} {ds d : Int}
theorem LkS.walk_s (h : LkS ns s t x ds d) : walkR ns s = ((x : Int), 0) := by
  rw [walkR_last h.ps h.ws, h.fs]; rfl
theorem LkS.walk_t (h : LkS ns s t x ds d) : walkR ns t = ((x : Int), 0) := by
  rw [walkR_last h.pt h.wt, h.ft]; rfl
theorem named (hV : IV ns c) {x : Nat} {nx : Nd} (hx : ns x = some nx) {d : Int} {nm : Txt} (hf : findR ns d nm = ((x : Int), 0)) : 1 ≤ nx.links := by
  obtain ⟨nd, hd, hf2⟩ := find_fnd hf
  obtain ⟨i, rfl, hi, -⟩ := dirAt_some hd
  have hm := List.mem_of_getElem? (fnd_at (hV.srt i nd hi) hf2)
  have h16 : i < 16 := hV.inv.lt hi
  have h1 := hV.inv.cnt x
  have h2 := refs_ge hi x 16 h16
  unfold lnk at h1
  rw [hx] at h1
  have h3 : 0 < cntE nd.es x := by
    unfold cntE
    rw [List.count_pos_iff]
    exact List.mem_map_of_mem (f := Prod.snd) hm
  simp only [List.count_nil] at h1
  omega
theorem lk1 (hV : IV ns c) (hr : Rd ns) (h : linkF ns s t = (0, ns1)) : ∃ (x : Nat) (ds d : Int), LkS ns1 s t x ds d := by
  unfold linkF at h
  obtain ⟨x0, e0, hw⟩ : ∃ x0 e0, walkR ns s = (x0, e0) := ⟨_, _, rfl⟩
  rw [hw] at h
  simp only at h
  by_cases he : e0 = 0
  · subst he
    rw [if_neg (by simp)] at h
    obtain ⟨x, nx, rfl, hx⟩ := walkR_nd hV hw
    by_cases hdd : isDirF ns x = true
    · rw [if_pos hdd] at h; exact absurd (Prod.mk.inj h).1 (by decide)
    · rw [if_neg hdd] at h
      have hnx : dirAt ns (x : Int) = none := by
        rw [isDirF_dirAt] at hdd
        cases h1 : dirAt ns (x : Int) with
        | none => rfl
        | some y => rw [h1] at hdd; simp at hdd
      have hxd : nx.dir = false := by
        rw [dirAt_of hx] at hnx
        cases hb : nx.dir with
        | false => rfl
        | true => rw [hb] at hnx; simp at hnx
      obtain ⟨ps, ds, ws, fs⟩ := walkR_up hw hr hnx
      have hl1 := named hV hx fs
      unfold atPar parEr parDi at h
      by_cases hp : parE t = 0
      · rw [if_pos hp] at h
        obtain ⟨d, e1, hwd⟩ : ∃ d e1, walkR ns (parD t) = (d, e1) := ⟨_, _, rfl⟩
        rw [hwd] at h
        simp only at h
        by_cases he1 : e1 = 0
        · subst he1
          rw [if_pos rfl] at h
          unfold linkE at h
          cases hd : dirAt ns d with
          | none => rw [hd] at h; exact absurd (Prod.mk.inj h).1 (by decide)
          | some nd =>
            rw [hd] at h
            simp only at h
            obtain ⟨i, rfl, hi, hid⟩ := dirAt_some hd
            have hix : i ≠ x := fun e => by subst e; rw [hi] at hx; cases hx; rw [hid] at hxd; cases hxd
            simp only [Int.toNat_natCast] at h
            unfold entF at h
            split at h
            · rename_i hen
              have hno : fndE nd.es (parN t) = none := by
                refine fnd_no (hV.srt i nd hi) (plc_at (hV.srt i nd hi) _) ?_
                unfold entR at hen
                by_cases h1 : nameE (parN t) ≠ 0
                · rw [if_pos h1] at hen; exact absurd hen h1
                · rw [if_neg h1] at hen
                  split at hen
                  · exact absurd hen (by decide)
                  · split at hen
                    · exact absurd hen (by decide)
                    · rename_i h2; simpa using h2
              have hn1 : ns1 = nsPut (nsPut ns i (some (setEs nd (insE nd.es (plc nd.es (parN t)) (parN t, (x : Int)))))) x (some (addL nx 1)) := by
                have h2 := (Prod.mk.inj h).2.symm
                unfold nsEnt at h2
                simp only [Int.toNat_natCast] at h2
                rw [put_ne _ _ _ (fun e => hix e.symm), hx] at h2
                exact h2
              have hf1 : ∀ (j : Int) (y : Txt), findR ns1 j y = if j = (i : Int) ∧ y = parN t then ((x : Int), 0) else findR ns j y := by
                intro j y
                by_cases h0 : 0 ≤ j
                · obtain ⟨k, rfl⟩ : ∃ k : Nat, j = k := ⟨j.toNat, by omega⟩
                  by_cases hki : k = i
                  · subst hki
                    have e1 : ns1 k = some (setEs nd (insE nd.es (plc nd.es (parN t)) (parN t, (x : Int)))) := by rw [hn1, put_ne _ _ _ hix, put_eq]
                    unfold findR
                    rw [dirAt_of e1, if_pos (show (setEs nd (insE nd.es (plc nd.es (parN t)) (parN t, (x : Int)))).dir = true from hid), hd]
                    simp only
                    rw [show (setEs nd (insE nd.es (plc nd.es (parN t)) (parN t, (x : Int)))).es = insE nd.es (plc nd.es (parN t)) (parN t, (x : Int)) from rfl, fnd_ins hno]
                    by_cases hy : y = parN t
                    · rw [if_pos hy, if_pos (by simp [hy])]
                    · rw [if_neg hy, if_neg (fun e => hy e.2)]
                  · rw [if_neg (fun e => hki (by have := e.1; omega))]
                    refine find_cong ?_ y
                    by_cases hkx : k = x
                    · subst hkx
                      have e1 : ns1 k = some (addL nx 1) := by rw [hn1, put_eq]
                      rw [dirAt_of e1, if_neg (by show ¬ nx.dir = true; rw [hxd]; decide), hnx]
                    · have e1 : ns1 k = ns k := by rw [hn1, put_ne _ _ _ hkx, put_ne _ _ _ hki]
                      cases hk : ns k with
                      | none => rw [dirAt_non hk, dirAt_non (e1.trans hk)]
                      | some nk => rw [dirAt_of hk, dirAt_of (e1.trans hk)]
                · rw [if_neg (fun e => h0 (by have := e.1; omega))]
                  exact find_cong (by rw [dirAt_neg h0, dirAt_neg h0]) y
              have hold : findR ns (i : Int) (parN t) = (0, 9) := by unfold findR; rw [hd]; simp only; rw [hno]
              have hmore : ∀ id y, (findR ns id y).2 = 0 → findR ns1 id y = findR ns id y := fun id y hz => by
                rw [hf1, if_neg]
                rintro ⟨rfl, rfl⟩
                rw [hold] at hz; exact absurd hz (by decide)
              refine ⟨x, ds, i, ps, walkR_more hmore ws, ?_, hp, walkR_more hmore hwd, ?_, ?_, addL nx 1, by rw [hn1, put_eq], hxd, ?_⟩
              · rw [hmore _ _ (by rw [fs]), fs]
              · rw [hf1, if_pos (by simp)]
              · rintro ⟨rfl, e⟩
                rw [e] at hold; rw [hold] at fs
                exact absurd (Prod.mk.inj fs).2 (by decide)
              · show 2 ≤ nx.links + 1; omega
            · rename_i hen; exact absurd (Prod.mk.inj h).1 hen
        · rw [if_neg he1] at h; exact absurd (Prod.mk.inj h).1 he1
      · rw [if_neg hp, if_neg hp] at h; exact absurd (Prod.mk.inj h).1 hp
  · rw [if_pos he] at h; exact absurd (Prod.mk.inj h).1 he
theorem same_dirs (h : SameN ns ns') (j : Int) : (dirAt ns' j).map (fun nd : Nd => nd.es) = (dirAt ns j).map (fun nd : Nd => nd.es) := by
  by_cases h0 : 0 ≤ j
  · obtain ⟨k, rfl⟩ : ∃ k : Nat, j = k := ⟨j.toNat, by omega⟩
    obtain ⟨h1, h2⟩ := h.cond
    cases hk : ns' k with
    | none =>
      have h3 := h1 k
      rw [hk] at h3
      have h4 : ns k = none := by cases h5 : ns k with | none => rfl | some y => rw [h5] at h3; simp at h3
      rw [dirAt_non hk, dirAt_non h4]
    | some nk =>
      obtain ⟨n0, e0, e1, -, -, e4⟩ := h2 k nk hk
      rw [dirAt_of hk, dirAt_of e0, e1]
      by_cases hd : n0.dir = true
      · rw [if_pos hd, if_pos hd]; simp only [Option.map_some]; rw [e4]
      · rw [if_neg hd, if_neg hd]
  · rw [dirAt_neg h0, dirAt_neg h0]
theorem LkS.wr (h : LkS ns s t x ds d) (hs : SameN ns ns') : LkS ns' s t x ds d := by
  have hf : ∀ j y, findR ns' j y = findR ns j y := fun j y => find_cong (same_dirs hs j) y
  refine ⟨h.ps, walkR_more (fun j y _ => hf j y) h.ws, by rw [hf]; exact h.fs, h.pt, walkR_more (fun j y _ => hf j y) h.wt, by rw [hf]; exact h.ft, h.ne, ?_⟩
  obtain ⟨nx, h1, h2, h3⟩ := h.nd
  obtain ⟨g1, g2⟩ := hs.cond
  have h4 := g1 x
  rw [h1] at h4
  cases hx : ns' x with
  | none => rw [hx] at h4; simp at h4
  | some n' =>
    obtain ⟨n0, e0, e1, e2, -, -⟩ := g2 x n' hx
    rw [h1] at e0; cases e0
    exact ⟨n', rfl, e1.trans h2, by omega⟩
theorem LkS.file (h : LkS ns s t x ds d) : ∃ nx, ns x = some nx ∧ nx.dir = false ∧ 2 ≤ nx.links ∧ dirAt ns (x : Int) = none ∧ isDirF ns (x : Int) = false := by
  obtain ⟨nx, h1, h2, h3⟩ := h.nd
  have hd : dirAt ns (x : Int) = none := by rw [dirAt_of h1, h2]; rfl
  exact ⟨nx, h1, h2, h3, hd, by rw [isDirF_dirAt, hd]; rfl⟩
theorem LkS.un (h : LkS ns s t x ds d) (hV : IV ns c) {nx : Nd} (hx : ns x = some nx) : ∃ ns3, atPar ns s (fun d nm => remF ns d nm false 12) = (0, ns3) ∧ walkR ns3 t = ((x : Int), 0) ∧ walkR ns3 s = (0, 9) ∧ ns3 x = some (addL nx (-1)) := by
  obtain ⟨nx', h1, h2, h3, hdn, hif⟩ := h.file
  rw [hx] at h1; cases h1
  obtain ⟨nd, hd, hf⟩ := find_fnd h.fs
  obtain ⟨i, rfl, hi, hid⟩ := dirAt_some hd
  have hix : i ≠ x := fun e => by subst e; rw [hi] at hx; cases hx; rw [hid] at h2; cases h2
  have hS := hV.srt i nd hi
  have hat := fnd_at hS hf
  have hrem : nsRem ns i nd (plc nd.es (parN s)) x = nsPut (nsPut ns i (some (setEs nd (delE nd.es (plc nd.es (parN s)))))) x (some (addL nx (-1))) := by
    unfold nsRem decL
    rw [put_ne _ _ _ (fun e => hix e.symm), hx]
  have hgo : gone 17 (nsRem ns i nd (plc nd.es (parN s)) x) x = nsRem ns i nd (plc nd.es (parN s)) x := by
    rw [hrem]
    exact gone_stay (nd := addL nx (-1)) (put_eq _ _ _) (Or.inr (Or.inl (by show 0 < nx.links + -1; omega)))
  obtain ⟨ns3, hn3⟩ : ∃ ns3, nsRem ns i nd (plc nd.es (parN s)) x = ns3 := ⟨_, rfl⟩
  rw [hn3] at hgo hrem
  have hf3 : ∀ (j : Int) (y : Txt), findR ns3 j y = if j = (i : Int) ∧ y = parN s then (0, 9) else findR ns j y := by
    intro j y
    by_cases h0 : 0 ≤ j
    · obtain ⟨k, rfl⟩ : ∃ k : Nat, j = k := ⟨j.toNat, by omega⟩
      by_cases hki : k = i
      · subst hki
        have e1 : ns3 k = some (setEs nd (delE nd.es (plc nd.es (parN s)))) := by rw [hrem, put_ne _ _ _ hix, put_eq]
        unfold findR
        rw [dirAt_of e1, if_pos (show (setEs nd (delE nd.es (plc nd.es (parN s)))).dir = true from hid), hd]
        simp only
        rw [show (setEs nd (delE nd.es (plc nd.es (parN s)))).es = delE nd.es (plc nd.es (parN s)) from rfl, fnd_del hS hat]
        by_cases hy : y = parN s
        · rw [if_pos hy, if_pos (by simp [hy])]
        · rw [if_neg hy, if_neg (fun e => hy e.2)]
      · rw [if_neg (fun e => hki (by have := e.1; omega))]
        refine find_cong ?_ y
        by_cases hkx : k = x
        · subst hkx
          have e1 : ns3 k = some (addL nx (-1)) := by rw [hrem, put_eq]
          rw [dirAt_of e1, if_neg (by show ¬ nx.dir = true; rw [h2]; decide), hdn]
        · have e1 : ns3 k = ns k := by rw [hrem, put_ne _ _ _ hkx, put_ne _ _ _ hki]
          cases hk : ns k with
          | none => rw [dirAt_non hk, dirAt_non (e1.trans hk)]
          | some nk => rw [dirAt_of hk, dirAt_of (e1.trans hk)]
    · rw [if_neg (fun e => h0 (by have := e.1; omega))]
      exact find_cong (by rw [dirAt_neg h0, dirAt_neg h0]) y
  have hpast : ∀ id y, ¬ (id = (i : Int) ∧ y = parN s) → findR ns3 id y = findR ns id y := fun id y hn => by rw [hf3, if_neg hn]
  refine ⟨ns3, ?_, ?_, ?_, by rw [hrem, put_eq]⟩
  · unfold atPar parEr parDi
    rw [if_pos h.ps, h.ws]
    simp only
    rw [if_pos trivial]
    unfold remF
    rw [h.fs]
    simp only
    rw [if_neg (by simp), hif, if_neg (by simp)]
    unfold rmvF
    rw [hd]
    simp only
    rw [hat]
    simp only
    rw [if_pos trivial]
    simp only [Int.toNat_natCast]
    rw [hx]
    simp only
    rw [if_neg (by rw [h2]; simp), hn3, hgo]
  · have hwt := walkR_past hpast h.fs hdn h.wt (find_dir h.ft)
    rw [walkR_last h.pt hwt, hpast _ _ h.ne, h.ft]; rfl
  · have hws := walkR_past hpast h.fs hdn h.ws (find_dir h.fs)
    have h9 : findR ns3 (i : Int) (parN s) = (0, 9) := by rw [hf3, if_pos (by simp)]
    rw [walkR_last h.ps hws, h9]; rfl
/-- what Stat tells of either -/
theorem stat_of {l : Txt} {nx : Nd} (hw : walkR ns l = ((x : Int), 0)) (hx : ns x = some nx) (hd : nx.dir = false) : statF ns l = (#[.int .i64 x, .int .i64 nx.links, .bool false, .int .i64 nx.bs.length], 0) := by
  unfold statF
  rw [hw]
  simp only
  rw [if_neg (by simp)]
  unfold getA
  rw [ndAt_nat hx]
  simp only
  unfold sizeN
  rw [hd]
  rfl
end
end Go.Proofs.YtchnjfmimpikcaaGreatDoor
/-
  VfsLinked: the walk.
-/
namespace Go.Proofs.YtchnjfmimpikcaaGreatDoor
set_option linter.unusedSimpArgs false
set_option linter.unusedVariables false
open Go.RowKit Own RegC Three Two
open RegJ hiding Up
open RegF hiding put_size
open Go.Lib hiding intOf

section
variable [Inhabited CapT] {W w w' : World} {E : Nat → Prop} {vb tb fb sb rv rt rs c1 c2 : Nat} {ns1 ns2 : NSt}
theorem pl_walk (h : PV W E vb tb fb sb rv rt rs ns1 ns2 c1 c2 w) (l : Txt) (hl : l.length ≤ 100000) (a r : Int) (hr : walkR ns1 l = (a, r)) : Calls Tryz.prog 11 #[.pointer (some ⟨vb, 0, none⟩), .string (B l)] w fun e w' => e = .returned (.tuple #[.int .i64 a, .int .i64 r]) ∧ Below w.heap.size w w' := by
  obtain ⟨lo, O, k1, k2, k2s, k3, k4, k5, k6⟩ := h.ex
  exact walk_is k1.1 l hl a r hr
theorem pl_stat (h : PV W E vb tb fb sb rv rt rs ns1 ns2 c1 c2 w) (l : Txt) (hl : l.length ≤ 100000) (A : Array Value) (r : Int) (hr : statF ns1 l = (A, r)) : Calls Tryz.prog 14 #[.pointer (some ⟨vb, 0, none⟩), .string (B l)] w fun e w' => e = .returned (.tuple #[.agg A, .int .i64 r]) ∧ Below w.heap.size w w' := by
  obtain ⟨lo, O, k1, k2, k2s, k3, k4, k5, k6⟩ := h.ex
  exact Stat_is k1 l hl A r hr
end
theorem wf16 {x : Nat} (h : x < 16) : (Lit.int .i64 (x : Int)).wf = true := (show ∀ k : Nat, k < 16 → (Lit.int .i64 (k : Int)).wf = true by decide) x h
set_option maxRecDepth 100000 in
set_option maxHeartbeats 8000000 in
theorem linked_v (av : Option Addr) (len cap : Nat) (S T : ByteArray) (v : Value) (b : List Int) (w : World) (hm : len ≤ maxLen) (hA : ActsV w av len) (hs1 : S.size ≤ maxLen) (hs2 : T.size ≤ maxLen) (hv : ArgB w v b) (hbm : b.length ≤ maxLen) (m0 : Int) (hm0 : w.cell? ⟨0, 0, none⟩ = some (.int .i64 m0)) :
    Calls Tryz.prog 3 #[.slice av len cap, .string S, .string T, v] w (AwP w) := by
  have HM := Lib.hid (show MC w from ⟨m0, hm0⟩)
  have HV := Lib.hid hv
  obtain ⟨a, cc, rfl, -, -⟩ := hv
  have hgr : Calls Tryz.prog 7 #[.slice av len cap, .int .i64 40] w (GrV w av len 40) := great_v (cap := cap) hA hm 40 (by omega)
  obtain ⟨s, hS⟩ : ∃ s, B s = S := ⟨_, B_data S⟩
  obtain ⟨t, hT⟩ : ∃ t, B t = T := ⟨_, B_data T⟩
  have hzs : S.size = s.length := by rw [← hS]; exact B_size s
  have hzt : T.size = t.length := by rw [← hT]; exact B_size t
  obtain ⟨bl, hbl⟩ : ∃ bl, b.length = bl := ⟨_, rfl⟩
  have HS := Lib.hid (And.intro hS (And.intro hT (And.intro hzs (And.intro hzt hbl))))
  rw [hbl] at HV ⊢
  clear hS hT hzs hzt hbl hA hm hm0 hbm
  letI : Inhabited CapT := capOf 8
  have hcap : capN = 8 := rfl
  have HC := Lib.hid hcap
  clear hcap
  have haw := vawake w HM.out
  by_cases hs : S.size > 200
  · have d6 : decide ((S.size : Int) > 200) = true := by simp; omega
    have d6n : decide (S.size > 200) = true := by simpa using hs
    clear hs hs1 hs2
    go_enter Tryz.func3, Tryz.ntmps3
    go_upto_region 2 with (go_at_call 7; (with_reducible refine hgr.mono ?_); rintro e w3 ⟨b, rfl, hb, rfl⟩; clear hgr hb; cases b)
    all_goals (go_wp2_with (go_at_call 8; (with_reducible refine haw.mono ?_); rintro e w7 ⟨rfl, hB⟩; have H7 := Lib.hid hB; clear haw hB); go_ret; exact ⟨rfl, H7.out⟩)
  have d6 : decide ((S.size : Int) > 200) = false := by simp; omega
  have d6n : decide (S.size > 200) = false := by simpa using hs
  by_cases ht : T.size > 200
  · have d7 : decide ((T.size : Int) > 200) = true := by simp; omega
    have d7n : decide (T.size > 200) = true := by simpa using ht
    clear hs ht hs1 hs2
    go_enter Tryz.func3, Tryz.ntmps3
    go_upto_region 2 with (go_at_call 7; (with_reducible refine hgr.mono ?_); rintro e w3 ⟨b, rfl, hb, rfl⟩; clear hgr hb; cases b)
    all_goals (go_wp2_with (go_at_call 8; (with_reducible refine haw.mono ?_); rintro e w7 ⟨rfl, hB⟩; have H7 := Lib.hid hB; clear haw hB); go_ret; exact ⟨rfl, H7.out⟩)
  have d7 : decide ((T.size : Int) > 200) = false := by simp; omega
  have d7n : decide (T.size > 200) = false := by simpa using ht
  by_cases hb6 : bl > 600
  · have d8 : decide ((bl : Int) > 600) = true := by simp; omega
    have d8n : decide (bl > 600) = true := by simpa using hb6
    clear hs ht hs1 hs2 hb6
    go_enter Tryz.func3, Tryz.ntmps3
    go_upto_region 2 with (go_at_call 7; (with_reducible refine hgr.mono ?_); rintro e w3 ⟨b, rfl, hb, rfl⟩; clear hgr hb; cases b)
    all_goals (go_wp2_with (go_at_call 8; (with_reducible refine haw.mono ?_); rintro e w7 ⟨rfl, hB⟩; have H7 := Lib.hid hB; clear haw hB); go_ret; exact ⟨rfl, H7.out⟩)
  have d8 : decide ((bl : Int) > 600) = false := by simp; omega
  have d8n : decide (bl > 600) = false := by simpa using hb6
  have HZ := Lib.hid (show s.length ≤ 100000 ∧ t.length ≤ 100000 ∧ b.length ≤ 1000000 by have := HS.out.2.2; omega)
  clear hs ht hs1 hs2 hb6
  go_enter Tryz.func3, Tryz.ntmps3
  go_upto_if 39 with (go_at_call 7; (with_reducible refine hgr.mono ?_); rintro e w3 ⟨b1, rfl, hb, rfl⟩; clear hgr; have HG := Lib.hid hb; clear hb; cases b1)
  · have HL := Lib.hid (HG.out (by first | rfl | trivial))
    clear HG haw
    have hpl := played_v HC.out av len cap w HL.out.1 HL.out.2 HM.out
    go_upto_region 6 with (go_at_call 9; (with_reducible refine hpl.mono ?_); rintro e w1 ⟨vb, tb, fb, sb, rv, rt, rs, ns, rfl, hR, hT⟩; have HP := Lib.hid (And.intro hR hT); clear hpl hR hT)
    obtain ⟨st, hst⟩ : ∃ st, linkF ns s t = st := ⟨_, rfl⟩
    obtain ⟨r, nsa⟩ := st
    have HST := Lib.hid hst
    clear hst
    have hlk := PV.left HP.out.2 (fun lo hV _ _ _ => Link_is hV s t HZ.out.1 HZ.out.2.1 r _ HST.out)
    rw [HS.out.1, HS.out.2.1] at hlk
    by_cases hr : r = 0
    · subst hr
      obtain ⟨x, ds, d, hK⟩ := lk1 HP.out.2.iv HP.out.1 HST.out
      have HK := Lib.hid hK
      have k1 := hK.walk_s
      have k2 := hK.walk_t
      obtain ⟨rw1, nsb, hwr⟩ : ∃ rw1 nsb, wrF nsa capN x 0 b = (rw1, nsb) := ⟨_, _, rfl⟩
      have hsn := (wrF_is nsa capN x 0 b).2
      rw [hwr] at hsn
      have hK2 := hK.wr hsn
      obtain ⟨nx, hx, hxd, hxl, -, -⟩ := hK2.file
      have hq1 := stat_of hK2.walk_s hx hxd
      have hq2 := stat_of hK2.walk_t hx hxd
      obtain ⟨L, hLL⟩ : ∃ L, nx.links = L := ⟨_, rfl⟩
      obtain ⟨Z, hZZ⟩ : ∃ Z : Int, (nx.bs.length : Int) = Z := ⟨_, rfl⟩
      rw [hLL, hZZ] at hq1 hq2
      rw [hLL] at hxl
      have HLZ := Lib.hid (And.intro hLL (And.intro hZZ hxl))
      clear hLL hZZ hxl
      have HW := Lib.hid (And.intro hwr (And.intro hK2 (And.intro hx (And.intro hxd (And.intro hq1 (And.intro hq2 (And.intro k1 k2)))))))
      clear hK k1 k2 hwr hsn hK2 hq1 hq2
      go_upto_region 10 with (first
        | (go_at_call 10; (with_reducible refine hlk.mono ?_); rintro e w2 ⟨rfl, hT2, -⟩; have H2 := Lib.hid hT2; have hwa := pl_walk hT2 s HZ.out.1 _ _ HW.out.2.2.2.2.2.2.1; rw [HS.out.1] at hwa; clear hlk hT2)
        | (go_at_call 11; (with_reducible refine hwa.mono ?_); rintro e w3 ⟨rfl, hB⟩; have H3 := Lib.hid (H2.out.below hB); have hwb := pl_walk H3.out t HZ.out.2.1 _ _ HW.out.2.2.2.2.2.2.2; rw [HS.out.2.1] at hwb; clear hwa hB)
        | (go_at_call 11; (with_reducible refine hwb.mono ?_); rintro e w4 ⟨rfl, hB⟩; have H4 := Lib.hid (H3.out.below hB); clear hwb hB))
      have hst := d_store H4.out.dv
      have hwt := PV.left H4.out (fun lo hV hlf hls hlb => p_wr hV H4.out.bel hlb hls x (wf16 (HK.out.nd.elim fun nx h => hV.2.inv.lt h.1)) 0 b HZ.out.2.2 _ HV.out rw1 nsb HW.out.1)
      go_upto_region 11 with (first
        | (go_at_call 12; (with_reducible refine hst.mono ?_); rintro e w7 ⟨rfl, rfl⟩; clear hst)
        | (go_at_call 13; (with_reducible refine hwt.mono ?_); rintro e w5 ⟨rfl, hT5, -⟩; have H5 := Lib.hid hT5; have hsa := pl_stat hT5 s HZ.out.1 _ _ HW.out.2.2.2.2.1; rw [HS.out.1] at hsa; clear hwt hT5))
      obtain ⟨nsc, hu, hwt3, hws3, hx3⟩ := HW.out.2.1.un H5.out.iv HW.out.2.2.1
      have hq3 : statF nsc t = (#[.int .i64 (x : Int), .int .i64 (L - 1), .bool false, .int .i64 Z], 0) := by
        rw [stat_of hwt3 hx3 HW.out.2.2.2.1]
        show ((#[.int .i64 (x : Int), .int .i64 (nx.links + -1), .bool false, .int .i64 (nx.bs.length : Int)] : Array Value), (0 : Int)) = _
        rw [HLZ.out.1, HLZ.out.2.1]
        rfl
      have hL8 : L ≤ 128 := by
        have h1 := H5.out.iv.inv.bd H5.out.iv.len HW.out.2.2.1
        rw [HLZ.out.1] at h1; exact h1
      have HU := Lib.hid (And.intro hu (And.intro hws3 hq3))
      clear hu hwt3 hws3 hx3 hq3
      go_upto_region 12 with (go_at_call 14; (with_reducible refine hsa.mono ?_); rintro e w6 ⟨rfl, hB⟩; have H6 := Lib.hid (H5.out.below hB); clear hsa hB)
      have H7 := Lib.hid (And.intro ((H6.out.new (.cells #[.int .i64 (x : Int), .int .i64 L, .bool false, .int .i64 Z] 36)).less (E' := fun k => k = w6.heap.size) (fun k hk => Or.inr hk)) (Blk.new w6 #[.int .i64 (x : Int), .int .i64 L, .bool false, .int .i64 Z] 36))
      generalize w6.alloc (.cells #[.int .i64 (x : Int), .int .i64 L, .bool false, .int .i64 Z] 36) = w7 at *
      generalize w6.heap.size = bp at *
      have hsb := pl_stat H7.out.1 t HZ.out.2.1 _ _ HW.out.2.2.2.2.2.1
      rw [HS.out.2.1] at hsb
      go_upto_region 13 with (go_at_call 14; (with_reducible refine hsb.mono ?_); rintro e w8 ⟨rfl, hB⟩; have H8 := Lib.hid (And.intro (H7.out.1.below hB) (Blk.below hB H7.out.2 H7.out.2.lt)); clear hsb hB)
      have hA8 : Below w8.heap.size w8 (w8.alloc (.cells #[.int .i64 (x : Int), .int .i64 L, .bool false, .int .i64 Z] 36)) := (Below.refl _ _).alloc (Nat.le_refl _) _
      have H9 := Lib.hid (And.intro (H8.out.1.new (.cells #[.int .i64 (x : Int), .int .i64 L, .bool false, .int .i64 Z] 36)) (And.intro (Blk.below hA8 H8.out.2 H8.out.2.lt) (Blk.new w8 #[.int .i64 (x : Int), .int .i64 L, .bool false, .int .i64 Z] 36)))
      clear hA8
      generalize w8.alloc (.cells #[.int .i64 (x : Int), .int .i64 L, .bool false, .int .i64 Z] 36) = w9 at *
      generalize w8.heap.size = bq at *
      have hun := PV.left H9.out.1 (fun lo hV _ _ _ => Unlink_is hV (by have := HL.out.1; omega) s HZ.out.1 0 _ HU.out.1)
      rw [HS.out.1] at hun
      go_upto_region 14 with (go_at_call 15; (with_reducible refine hun.mono ?_); rintro e w10 ⟨rfl, hT10, hu10⟩; have H10 := Lib.hid (And.intro hT10 (And.intro (Blk.upd hu10 H9.out.2.1 (fun hn => hn (Or.inl rfl))) (Blk.upd hu10 H9.out.2.2 (fun hn => hn (Or.inr rfl))))); clear hun hT10 hu10)
      have hsc := pl_stat H10.out.1 t HZ.out.2.1 _ _ HU.out.2.2
      rw [HS.out.2.1] at hsc
      go_upto_region 15 with (go_at_call 14; (with_reducible refine hsc.mono ?_); rintro e w11 ⟨rfl, hB⟩; have H11 := Lib.hid (And.intro (H10.out.1.below hB) (And.intro (Blk.below hB H10.out.2.1 H10.out.2.1.lt) (Blk.below hB H10.out.2.2 H10.out.2.2.lt))); clear hsc hB)
      have hA11 : Below w11.heap.size w11 (w11.alloc (.cells #[.int .i64 (x : Int), .int .i64 (L - 1), .bool false, .int .i64 Z] 36)) := (Below.refl _ _).alloc (Nat.le_refl _) _
      have H12 := Lib.hid (And.intro (H11.out.1.below hA11) (And.intro (Blk.below hA11 H11.out.2.1 H11.out.2.1.lt) (And.intro (Blk.below hA11 H11.out.2.2 H11.out.2.2.lt) (Blk.new w11 #[.int .i64 (x : Int), .int .i64 (L - 1), .bool false, .int .i64 Z] 36))))
      clear hA11
      generalize w11.alloc (.cells #[.int .i64 (x : Int), .int .i64 (L - 1), .bool false, .int .i64 Z] 36) = w12 at *
      generalize w11.heap.size = br at *
      have hwc := pl_walk H12.out.1 s HZ.out.1 _ _ HU.out.2.1
      rw [HS.out.1] at hwc
      have i1 : 2 ≤ L := HLZ.out.2.2
      have x1 : ((x : Int) == (x : Int)) = true := by simp
      have x2 : (L == L) = true := by simp
      have x3 : (Z == Z) = true := by simp
      have x4 : (L - 1 == L - 1) = true := by simp
      have x5 : decide (L ≥ 2) = true := by simpa using i1
      have x6 : decide (2 ≤ L) = true := by simpa using i1
      go_upto_region 16 with (go_at_call 11; (with_reducible refine hwc.mono ?_); rintro e w13 ⟨rfl, hB⟩; have H13 := Lib.hid (And.intro (H12.out.1.below hB) (And.intro (Blk.below hB H12.out.2.1 H12.out.2.1.lt) (And.intro (Blk.below hB H12.out.2.2.1 H12.out.2.2.1.lt) (Blk.below hB H12.out.2.2.2 H12.out.2.2.2.lt)))); clear hwc hB)
      have p1 := H13.out.2.1.rd
      have p2 := H13.out.2.2.1.rd
      have p3 := H13.out.2.2.2.rd
      have haw := d_aw H13.out.1.dv
      go_wp2_with (go_at_call 8; (with_reducible refine haw.mono ?_); rintro e w14 ⟨rfl, hB⟩; have H14 := Lib.hid hB; clear haw hB)
      go_ret
      exact ⟨rfl, H14.out⟩
    · have e1 : (r != 0) = true := by simpa using hr
      go_wp2_with (first
        | (go_at_call 10; (with_reducible refine hlk.mono ?_); rintro e w2 ⟨rfl, hT2, -⟩; have haw := d_aw hT2.dv; clear hlk hT2)
        | (go_at_call 8; (with_reducible refine haw.mono ?_); rintro e w7 ⟨rfl, hB⟩; have H7 := Lib.hid hB; clear haw hB))
      go_ret
      exact ⟨rfl, H7.out⟩
  · clear HG
    go_wp2_with (go_at_call 8; (with_reducible refine haw.mono ?_); rintro e w7 ⟨rfl, hB⟩; have H7 := Lib.hid hB; clear haw hB)
    go_ret
    exact ⟨rfl, H7.out⟩
end Go.Proofs.YtchnjfmimpikcaaGreatDoor
