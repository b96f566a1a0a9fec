/-
  Enter: the walk.
-/
import Derived.Deep.CutRange
import Derived.Test.YtchnjfmimpikcaaDoorIEnter
import Derived.Test.YtchnjfmimpikcaaDoorIDel
namespace Go.Proofs.YtchnjfmimpikcaaDoor
set_option linter.unusedSimpArgs false
set_option linter.unusedVariables false
open Go.RowKit Own RegJ Two
open Go.Lib hiding intOf

theorem get_nd [Inhabited CapT] {w : World} {tb : Nat} {ns : Nat → Option Nd} {lo : Lo} {N : Nat} (h : TB w tb ns lo N) (i : Nat) (nd : Nd) (hi : ns i = some nd) (k : Nat) (hk : lo (.node i) = some k) : Calls Tryd.prog 36 #[.pointer (some ⟨tb, 0, none⟩), .int .i64 i] w fun e w' => e = .returned (.pointer (some ⟨k, 0, none⟩)) ∧ w = w' := by
  have := get_is h i (some k) (by unfold ndAt; rw [if_pos (by omega)]; simp only [Int.toNat_natCast]; rw [hi]; exact hk)
  unfold ptr at this; exact this
theorem get_no [Inhabited CapT] {w : World} {tb : Nat} {ns : Nat → Option Nd} {lo : Lo} {N : Nat} (h : TB w tb ns lo N) (id : Int) (hi : ndAt ns id = none) : Calls Tryd.prog 36 #[.pointer (some ⟨tb, 0, none⟩), .int .i64 id] w fun e w' => e = .returned (.pointer none) ∧ w = w' := by
  have := get_is h id none (by rw [hi])
  unfold ptr at this; exact this
theorem ndAt_some {ns : Nat → Option Nd} {id : Int} {nd : Nd} (h : ndAt ns id = some nd) : ∃ i : Nat, id = i ∧ ns i = some nd := by
  unfold ndAt at h
  split at h
  · exact ⟨id.toNat, by omega, h⟩
  · cases h
section
variable {w : World} {tb : Nat} {ns : Nat → Option Nd} {lo : Lo} {N : Nat}
set_option maxRecDepth 100000 in
theorem enter_nodir [Inhabited CapT] (h : TB w tb ns lo N) (dir id : Int) (nm : Txt) (hd : dirAt ns dir = none) : Calls Tryd.prog 45 #[.pointer (some ⟨tb, 0, none⟩), .int .i64 dir, .string (B nm), .int .i64 id] w fun e w' => e = .returned (.int .i64 11) ∧ w = w' := by
  have hf := find_no h dir nm hd
  clear h hd
  generalize B nm = s at *
  go_enter Tryd.func45, Tryd.ntmps45
  go_wp2_with (go_at_call 61; refine hf.mono ?_; rintro e w' ⟨rfl, rfl⟩)
  go_ret
  exact ⟨rfl, rfl⟩
theorem one_en (es : List En) : One2 (es.map enV) := by
  intro a ha
  rw [List.mem_map] at ha
  obtain ⟨x, _, rfl⟩ := ha
  exact ⟨rfl, rfl⟩
theorem insE_map (es : List En) (j : Nat) (x : En) : (insE es j x).map enV = (es.map enV).take j ++ enV x :: (es.map enV).drop j := by
  unfold insE
  rw [List.map_append, List.map_cons, List.map_take, List.map_drop]
/-- Enter's answer in a directory -/
def entR (ns : Nat → Option Nd) (es : List En) (j : Nat) (nm : Txt) (id : Int) : Int :=
  if nameE nm ≠ 0 then nameE nm else if id = 0 ∨ ndAt ns id = none then 4 else if isAt es nm j = true then 10 else if es.length = 8 then 15 else 0
/-- the nodes behind an Enter -/
def nsEnt (ns : Nat → Option Nd) (i : Nat) (nd : Nd) (es : List En) (id : Int) : Nat → Option Nd :=
  match nsPut ns i (some (setEs nd es)) id.toNat with
  | some m => nsPut (nsPut ns i (some (setEs nd es))) id.toNat (some (addL m 1))
  | none => nsPut ns i (some (setEs nd es))
def EntP [Inhabited CapT] (w : World) (tb : Nat) (ns : Nat → Option Nd) (lo : Lo) (N : Nat) (i : Nat) (nd : Nd) (nm : Txt) (id : Int) (e : Ending) (w' : World) : Prop :=
  ∃ j : Nat, At nd.es nm j ∧ e = .returned (.int .i64 (entR ns nd.es j nm id)) ∧ ((entR ns nd.es j nm id ≠ 0 ∧ Below w.heap.size w w') ∨ (entR ns nd.es j nm id = 0 ∧ ∃ lo', TB w' tb (nsEnt ns i nd (insE nd.es j (nm, id)) id) lo' N ∧ TFr lo lo' w w'))
set_option maxRecDepth 100000 in
set_option maxHeartbeats 2000000 in
theorem enter_is [Inhabited CapT] (h : TB w tb ns lo N) (i : Nat) (id : Int) (nm : Txt) (nd : Nd) (hi : ns i = some nd) (hd : nd.dir = true) (hlk : ∀ m, ndAt ns id = some m → 0 ≤ m.links ∧ m.links ≤ 100000) :
    Calls Tryd.prog 45 #[.pointer (some ⟨tb, 0, none⟩), .int .i64 i, .string (B nm), .int .i64 id] w (EntP w tb ns lo N i nd nm id) := by
  have hf := find_yes h i nm nd hi hd
  have hnm := name_is nm
  have hI : ∀ (j : Nat) (W : World) a c b bx, At nd.es nm j → Row2 W 101 (.slice a nd.es.length c) (nd.es.map enV) b → (∀ g, b = some g → bx ≠ g) → Blk W bx #[.string (B nm), .int .i64 id] 101 → Calls Tryd.prog 63 #[.slice a nd.es.length c, .int .i64 j, .slice (some ⟨bx, 0, none⟩) 1 1] W (InsP b W ((insE nd.es j (nm, id)).map enV) (nd.es.length + 1)) := fun j W a c b bx hA hr hne hB => by
    obtain ⟨_, _, _, _, _, h8, _⟩ := h.node i nd hi
    have := insert_any hr (by omega) j hA.1 bx (enV (nm, id)) hB hne (one_en [(nm, id)]) (one_en nd.es)
    rw [insE_map]
    exact this
  have H := Lib.hid (And.intro h (And.intro hi (And.intro hd (And.intro hlk hI))))
  clear h hi hd hlk hI
  obtain ⟨s, hs⟩ : ∃ s, B nm = s := ⟨_, rfl⟩
  rw [hs] at hf hnm ⊢
  have HS := Lib.hid hs
  clear hs
  go_enter Tryd.func45, Tryd.ntmps45
  go_upto_region 4 with (go_at_call 61; refine hf.mono ?_; rintro e w1 ⟨j, rfl, hA, hB⟩; have HA := Lib.hid (And.intro hA hB); clear hA hB hf)
  by_cases hn0 : nameE nm = 0
  · rw [hn0] at hnm
    have hT := H.out.1.below HA.out.2
    obtain ⟨kd, v, k1, k2, k3, k4, k5⟩ := hT.node _ _ H.out.2.1
    have hgd := get_nd hT i nd H.out.2.1 kd k1
    have HN := Lib.hid hn0
    clear hn0
    by_cases hid : id = 0 ∨ ndAt ns id = none
    · have hr : entR ns nd.es j nm id = 4 := by unfold entR; rw [if_neg (by simp [HN.out]), if_pos hid]
      have HR : Hid (EntP w tb ns lo N i nd nm id (.returned (.int .i64 4)) w1) := Lib.hid ⟨j, HA.out.1, by rw [hr], Or.inl ⟨by rw [hr]; decide, HA.out.2⟩⟩
      cases hx : ndAt ns id with
      | none =>
        have hgi := get_no hT id hx
        clear hT k2 k3 hid hr
        by_cases hii : id = (i : Int)
        · exfalso
          rw [hii] at hx
          unfold ndAt at hx
          rw [if_pos (by omega)] at hx
          simp only [Int.toNat_natCast] at hx
          rw [H.out.2.1] at hx; cases hx
        · clear hii hx
          go_wp2_with (first
            | (go_at_call 60; refine (hnm _).mono ?_; rintro e w' ⟨rfl, rfl⟩)
            | (go_at_call 36; (with_reducible refine hgd.mono ?_); rintro e w' ⟨rfl, rfl⟩)
            | (go_at_call 36; (with_reducible refine hgi.mono ?_); rintro e w' ⟨rfl, rfl⟩))
          go_ret
          exact HR.out
      | some m =>
        have h0 : id = 0 := by
          rcases hid with h | h
          · exact h
          · rw [hx] at h; cases h
        subst h0
        obtain ⟨i2, e2, hm⟩ := ndAt_some hx
        obtain ⟨km, v2, m1, m2, _⟩ := hT.node _ _ hm
        have hgi := get_nd hT i2 m hm km m1
        rw [← e2] at hgi
        clear hT k2 k3 hid hr m2 hx e2 hm m1
        go_wp2_with (first
          | (go_at_call 60; refine (hnm _).mono ?_; rintro e w' ⟨rfl, rfl⟩)
          | (go_at_call 36; (with_reducible refine hgd.mono ?_); rintro e w' ⟨rfl, rfl⟩)
          | (go_at_call 36; (with_reducible refine hgi.mono ?_); rintro e w' ⟨rfl, rfl⟩))
        go_ret
        exact HR.out
    · obtain ⟨m, hx⟩ : ∃ m, ndAt ns id = some m := by
        cases hx : ndAt ns id with
        | none => exact absurd (Or.inr hx) hid
        | some m => exact ⟨m, rfl⟩
      have hid0 : ¬ id = 0 := fun e => hid (Or.inl e)
      have hlk := H.out.2.2.2.1 m hx
      obtain ⟨i2, e2, hm⟩ := ndAt_some hx
      obtain ⟨km, v2, m1, m2, m3, _⟩ := hT.node _ _ hm
      have hgi := get_nd hT i2 m hm km m1
      rw [← e2] at hgi
      have d3 : (id == 0) = false := by simpa using hid0
      obtain ⟨a, c, rfl⟩ := k3.slice
      have c1 := k2.rd
      have hr0 : entR ns nd.es j nm id = if isAt nd.es nm j = true then 10 else if nd.es.length = 8 then 15 else 0 := by unfold entR; rw [if_neg (by simp [HN.out]), if_neg hid]
      have HE := Lib.hid (And.intro hx (And.intro e2 (And.intro hm (And.intro m1 hlk))))
      have HK := Lib.hid (And.intro hT (And.intro k1 (And.intro k2 k3)))
      have hl : (nd.es.map enV).length = nd.es.length := List.length_map _
      rw [hl] at c1 HK
      obtain ⟨n, hn⟩ : ∃ n, nd.es.length = n := ⟨_, rfl⟩
      rw [hn] at c1 HK hr0 k4
      have HL := Lib.hid hn
      clear hid hid0 hlk e2 hm m1 m2 m3 hT k2 k3 hx k1 hl hn k5
      cases hia : isAt nd.es nm j with
      | true =>
        rw [hia, if_pos rfl] at hr0
        have HR : Hid (EntP w tb ns lo N i nd nm id (.returned (.int .i64 10)) w1) := Lib.hid ⟨j, HA.out.1, by rw [hr0], Or.inl ⟨by rw [hr0]; decide, HA.out.2⟩⟩
        clear hr0 hia
        go_wp2_with (first
          | (go_at_call 60; refine (hnm _).mono ?_; rintro e w' ⟨rfl, rfl⟩)
          | (go_at_call 36; (with_reducible refine hgd.mono ?_); rintro e w' ⟨rfl, rfl⟩)
          | (go_at_call 36; (with_reducible refine hgi.mono ?_); rintro e w' ⟨rfl, rfl⟩))
        go_ret
        exact HR.out
      | false =>
        rw [hia, if_neg (by simp)] at hr0
        by_cases h8 : n = 8
        · rw [if_pos h8] at hr0
          have HR : Hid (EntP w tb ns lo N i nd nm id (.returned (.int .i64 15)) w1) := Lib.hid ⟨j, HA.out.1, by rw [hr0], Or.inl ⟨by rw [hr0]; decide, HA.out.2⟩⟩
          clear hr0 hia
          subst h8
          go_wp2_with (first
            | (go_at_call 60; refine (hnm _).mono ?_; rintro e w' ⟨rfl, rfl⟩)
            | (go_at_call 36; (with_reducible refine hgd.mono ?_); rintro e w' ⟨rfl, rfl⟩)
            | (go_at_call 36; (with_reducible refine hgi.mono ?_); rintro e w' ⟨rfl, rfl⟩))
          go_ret
          exact HR.out
        · rw [if_neg h8] at hr0
          have d4 : ((n : Int) == 8) = false := by simp; omega
          have HR := Lib.hid (And.intro hr0 (And.intro hia h8))
          clear hr0 hia h8
          go_upto_region 14 with (first
            | (go_at_call 60; refine (hnm _).mono ?_; rintro e w' ⟨rfl, rfl⟩)
            | (go_at_call 36; (with_reducible refine hgd.mono ?_); rintro e w' ⟨rfl, rfl⟩)
            | (go_at_call 36; (with_reducible refine hgi.mono ?_); rintro e w' ⟨rfl, rfl⟩))
          obtain ⟨hT, k1, k2, k3⟩ := HK.out
          have hkl := hT.lt _ _ k1
          have hW : Below w1.heap.size w1 (w1.alloc (.cells #[.string s, .int .i64 id] 101)) := (Below.refl _ _).alloc (Nat.le_refl _) _
          have hTW := hT.below hW
          have k2W := k2.alloc (.cells #[.string s, .int .i64 id] 101)
          have k3W := k3.below hW
          have hins := H.out.2.2.2.2 j (w1.alloc (.cells #[.string s, .int .i64 id] 101)) a c (lo (.ents i)) w1.heap.size HA.out.1 (by rw [HL.out]; exact k3W) (fun g hg e => absurd (hT.lt _ _ hg) (by omega)) (by rw [HS.out]; exact Blk.new _ _ _)
          rw [HL.out] at hins
          have HW := Lib.hid (And.intro hTW (And.intro k1 (And.intro k2W (And.intro k3W hW))))
          clear hT k1 k2 k3 hTW k2W k3W hW
          go_upto_region 15 with (go_at_call 63; (with_reducible refine hins.mono ?_); rintro e w2 ⟨a', c', b', rfl, hr, hb, hu⟩; clear hins; have hkb : lo (.ents i) ≠ some kd := (fun e => by have := HW.out.1.inj _ _ _ e HW.out.2.1; cases this); have hk2 := Blk.upd hu HW.out.2.2.1 hkb; have HX := Lib.hid (And.intro hr (And.intro hb (And.intro hu hk2))); have c3 := hk2.rd; have nf3 := hk2.nf; clear hr hb hu hk2 hkb)
          obtain ⟨hr, hb, hu, hk2⟩ := HX.out
          have hk3 : Blk (w2.setCell ⟨kd, 3, none⟩ (.slice a' (n + 1) c')) kd #[.bool nd.dir, .int .i64 nd.links, .int .i64 nd.opens, .slice a' (n + 1) c'] 73 := Blk.of (hk2.set 3 (.slice a' (n + 1) c')) rfl
          have hu3 : Upd (fun k => k = kd ∨ lo (.ents i) = some k) (w1.alloc (.cells #[.string s, .int .i64 id] 101)) (w2.setCell ⟨kd, 3, none⟩ (.slice a' (n + 1) c')) := ((hu.mono (G := fun k => k = kd ∨ lo (.ents i) = some k) (fun k _ e => Or.inr e)).setCell (p := ⟨kd, 3, none⟩) (fun _ => Or.inl rfl) _)
          have hbk : ∀ g, b' = some g → g ≠ kd := fun g hg e => by
            rcases hb g hg with h1 | h1
            · have := HW.out.1.inj _ _ _ h1 (e ▸ HW.out.2.1); cases this
            · have := HW.out.1.lt _ _ HW.out.2.1; omega
          have hr3 : Row2 (w2.setCell ⟨kd, 3, none⟩ (.slice a' (n + 1) c')) 101 (.slice a' (n + 1) c') ((insE nd.es j (nm, id)).map enV) b' := hr.upd ((Upd.refl (fun k => k = kd) w2).setCell (p := ⟨kd, 3, none⟩) (fun _ => rfl) _) (fun g hg e => hbk g hg e)
          have hS := (HW.out.1.node _ _ H.out.2.1)
          obtain ⟨_, _, _, _, _, h8', hSr⟩ := hS
          have hT3 := HW.out.1.ents (v := .slice a' (n + 1) c') (es := insE nd.es j (nm, id)) (b := b') H.out.2.1 HW.out.2.1 hu3 hk3 hr3 hb (by rw [insE_len, HL.out]; have := HR.out.2.2; omega) (insE_srt hSr HA.out.1 HR.out.2.1)
          have hfr3 : TFr lo (loEnt lo i b') w (w2.setCell ⟨kd, 3, none⟩ (.slice a' (n + 1) c')) := by
            have z1 := HA.out.2.size
            have z2 := HW.out.2.2.2.2.size
            refine ⟨((Upd.of_below (F := fun k => ∃ r, lo r = some k) (HA.out.2.trans (HW.out.2.2.2.2.mono z1))).trans (hu3.mono (fun k _ e => ?_)) (fun _ _ h => h)), fun r k hk => ?_, rfl, rfl⟩
            · rcases e with e | e
              · exact ⟨_, by rw [e]; exact HW.out.2.1⟩
              · exact ⟨_, e⟩
            · rcases loEnt_old hk with ⟨g1, _⟩ | ⟨_, g1⟩
              · exact Or.inl ⟨r, g1⟩
              · rcases hb k g1 with h1 | h1
                · exact Or.inl ⟨_, h1⟩
                · exact Or.inr (by omega)
          generalize w2.setCell ⟨kd, 3, none⟩ (.slice a' (n + 1) c') = w3 at hk3 hu3 hr3 hT3 hfr3 ⊢
          obtain ⟨hx, e2, hm, m1, hlk⟩ := HE.out
          obtain ⟨m', hm', hml⟩ : ∃ m', nsPut ns i (some (setEs nd (insE nd.es j (nm, id)))) i2 = some m' ∧ m'.links = m.links := by
            unfold nsPut
            by_cases hii : i2 = i
            · rw [if_pos hii]
              subst hii
              rw [H.out.2.1] at hm; cases hm
              exact ⟨_, rfl, rfl⟩
            · rw [if_neg hii]; exact ⟨m, hm, rfl⟩
          obtain ⟨km', v3, q1, q2, _⟩ := hT3.node _ _ hm'
          have hkm : km' = km := by
            have q1' : lo (.node i2) = some km' := q1
            rw [m1] at q1'; cases q1'; rfl
          subst hkm
          rw [hml] at q2
          have c5 := q2.rd
          have nf5 := q2.nf
          have l0 := hlk.1
          have l1 := hlk.2
          have HT3 := Lib.hid (And.intro hT3 (And.intro hfr3 (And.intro hm' (And.intro hml (And.intro q1 (And.intro q2 e2))))))
          clear hr hb hu hk2 hk3 hu3 hbk hr3 hSr h8' hT3 hfr3 hx e2 hm m1 hlk hm' hml q1 q2 c3 nf3 c1
          generalize m.links = L at *
          go_wp2_with (fail)
          go_ret
          obtain ⟨hT3, hfr3, hm', hml, q1, q2, e2⟩ := HT3.out
          have hu4 : Upd (fun k => k = km') w3 (w3.setCell ⟨km', 1, none⟩ (.int .i64 (L + 1))) := (Upd.refl (fun k => k = km') w3).setCell (p := ⟨km', 1, none⟩) (fun _ => rfl) _
          have hT4 := hT3.num (nd' := addL m' 1) hm' q1 rfl rfl rfl hu4 (fun v hv => Blk.of (hv.set 1 (.int .i64 (L + 1))) (by rw [← hml]; rfl))
          have hns : nsEnt ns i nd (insE nd.es j (nm, id)) id = nsPut (nsPut ns i (some (setEs nd (insE nd.es j (nm, id))))) i2 (some (addL m' 1)) := by
            have et : id.toNat = i2 := by omega
            unfold nsEnt
            rw [et, hm']
          refine ⟨j, HA.out.1, by rw [HR.out.1]; rfl, Or.inr ⟨HR.out.1, loEnt lo i b', ?_, ?_⟩⟩
          · rw [hns]; exact hT4
          · exact ⟨hfr3.1.trans (hu4.mono (G := fun k => ∃ r, loEnt lo i b' r = some k) (fun k _ (e : k = km') => ⟨Rl.node i2, e ▸ q1⟩)) (fun k hk ⟨r, hr⟩ => by
              rcases hfr3.2.1 r k hr with h1 | h1
              · exact h1
              · omega), hfr3.2⟩
  · have hr : entR ns nd.es j nm id = nameE nm := by unfold entR; rw [if_pos (by simpa using hn0)]
    have HR : Hid (EntP w tb ns lo N i nd nm id (.returned (.int .i64 (nameE nm))) w1) := Lib.hid ⟨j, HA.out.1, by rw [hr], Or.inl ⟨by rw [hr]; exact hn0, HA.out.2⟩⟩
    have d1 : (nameE nm == 0) = false := by simpa using hn0
    have d2 : (nameE nm != 0) = true := by simpa using hn0
    generalize nameE nm = E at *
    clear hn0 hr
    go_wp2_with (go_at_call 60; refine (hnm _).mono ?_; rintro e w' ⟨rfl, rfl⟩)
    go_ret
    exact HR.out
end
end Go.Proofs.YtchnjfmimpikcaaDoor
