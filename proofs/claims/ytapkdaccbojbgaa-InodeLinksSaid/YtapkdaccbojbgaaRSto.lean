/-
  The document's store, of empty files: at, Make, Cut, Size.
-/
import Derived.Test.YtapkdaccbojbgaaINmW
import Derived.Test.YtapkdaccbojbgaaThree
namespace Go.Proofs.Ytapkdaccbojbgaa
set_option linter.unusedSimpArgs false
set_option linter.unusedVariables false
open Go.RowKit Own RegJ
open Go.Lib hiding intOf
open Three

theorem infoFile : (Try.prog.info? 129).map (fun i => (i.zero, i.size, i.bytes)) = some (some (.agg #[.int .i64 0, .slice none 0 0, .slice none 0 0]), 3, 56) := by kernel_rfl
theorem underF : Try.prog.underlying 68 = some (.slice 129) := Try.underlying68
def fileV (x : Int) : V3 := (.int .i64 x, .slice none 0 0, .slice none 0 0)
theorem one_file (fl : List Int) : One3 (fl.map fileV) := by
  intro a ha
  rw [List.mem_map] at ha
  obtain ⟨x, _, rfl⟩ := ha
  exact ⟨rfl, rfl, rfl⟩
/-- the document's store as it lies -/
structure RS (w : World) (sb : Nat) (fl : List Int) (fb : Option Nat) : Prop where
  blk : ∃ mp v, Blk w sb #[mp, v] 70 ∧ Row3 w 129 v (fl.map fileV) fb
  ne : ∀ g, fb = some g → g ≠ sb
theorem RS.upd {F : Nat → Prop} {w w' : World} {sb : Nat} {fl : List Int} {fb : Option Nat} (h : RS w sb fl fb) (hu : Upd F w w') (h1 : ¬ F sb) (h2 : ∀ g, fb = some g → ¬ F g) : RS w' sb fl fb := by
  obtain ⟨mp, v, hb, hr⟩ := h.blk
  exact ⟨⟨mp, v, Blk.upd hu hb h1, hr.upd hu h2⟩, h.ne⟩
theorem RS.lt {w : World} {sb : Nat} {fl : List Int} {fb : Option Nat} (h : RS w sb fl fb) : sb < w.heap.size ∧ ∀ g, fb = some g → g < w.heap.size := by
  obtain ⟨mp, v, hb, hr⟩ := h.blk
  exact ⟨hb.lt, hr.lt⟩
def atR (fl : List Int) (id r : Int) : Prop := (r = -1 ∧ id ∉ fl) ∨ ∃ j : Nat, r = j ∧ fl[j]? = some id
set_option maxRecDepth 100000 in
theorem sat_is {w : World} {sb : Nat} {fl : List Int} {fb : Option Nat} (h : RS w sb fl fb) (hl : fl.length ≤ 2000) (id : Int) : Calls Try.prog 66 #[.pointer (some ⟨sb, 0, none⟩), .int .i64 id] w fun e w' => (∃ r, e = .returned (.int .i64 r) ∧ atR fl id r) ∧ w = w' := by
  obtain ⟨mp, v, hb, hr⟩ := h.blk
  obtain ⟨a, c, rfl⟩ := hr.slice
  rw [List.length_map] at hb hr
  have c1 := hb.rd
  have H := Lib.hid hr
  clear h hb hr
  generalize hnn : fl.length = n at *
  have HN := Lib.hid hnn
  clear hnn
  go_enter Try.func66, Try.ntmps66
  go_wp2_with (fail)
  go_loopw [5] (fun v5 wr => ∃ i : Nat, i ≤ n ∧ v5 = .int .i64 i ∧ Hid (∀ j, j < i → fl[j]? ≠ some id) ∧ wr = w) (fun v5 _ => n - (intOf v5).toNat)
  case atStart => exact ⟨0, Nat.zero_le _, rfl, Lib.hid (fun j hj => by omega), rfl⟩
  case round =>
    obtain ⟨i, hi, rfl, HA, rfl⟩ := hrel
    by_cases hil : i < n
    · have d1 : decide ((i : Int) < (n : Int)) = true := by simp; omega
      have d1n : decide (i < n) = true := by simp; omega
      have i1 : (i : Int) < (n : Int) := by omega
      have i2 : (0 : Int) ≤ i := by omega
      obtain ⟨x, hx⟩ : ∃ x, fl[i]? = some x := ⟨_, List.getElem?_eq_getElem (by rw [HN.out]; exact hil)⟩
      have hrr := H.out
      rcases hrr with ⟨_, hnil, _⟩ | ⟨g, cap, rest, hv, hb', hB, hc, hm⟩
      · rw [List.map_eq_nil_iff] at hnil; rw [hnil] at hx; cases hx
      simp only [Value.slice.injEq] at hv
      obtain ⟨rfl, -, -⟩ := hv
      obtain ⟨r1, _, _⟩ := Three.blk_row hB i (fileV x) (by rw [List.getElem?_map, hx]; rfl)
      have r1' : wr.cell? ⟨g, i * 3, none⟩ = some (.int .i64 x) := r1
      clear hB hc hm hb' r1
      by_cases hxi : x = id
      · subst hxi
        have HX := Lib.hid hx
        clear hx
        go_wp2_with (fail)
        go_ret
        exact ⟨⟨_, rfl, Or.inr ⟨i, rfl, HX.out⟩⟩, rfl⟩
      · have d2 : (x == id) = false := by simpa using hxi
        have HX := Lib.hid (And.intro hx hxi)
        clear hx hxi
        go_wp2_with (fail)
        go_roundw
        case rel => exact ⟨i + 1, by omega, by go_num, Lib.hid (fun j hj => by
          by_cases hji : j < i
          · exact HA.out j hji
          · have : j = i := by omega
            subst this; rw [HX.out.1]; intro e; exact HX.out.2 (Option.some.inj e)), by trivial⟩
        case measure => simp [intOf]; omega
    · have d1 : decide ((i : Int) < (n : Int)) = false := by simp; omega
      have d1n : decide (i < n) = false := by simp; omega
      go_wp2_with (fail)
      go_ret
      refine ⟨⟨_, rfl, Or.inl ⟨rfl, fun hm => ?_⟩⟩, rfl⟩
      obtain ⟨k, hk, he⟩ := List.getElem_of_mem hm
      exact HA.out k (by rw [HN.out] at hk; omega) (by rw [List.getElem?_eq_getElem hk, he])
theorem Row3.news {w : World} {T : TypeId} {a : Option Addr} {n c : Nat} {xs : List V3} {b : Option Nat} (h : Row3 w T (.slice a n c) xs b) : 0 < n → ∃ A, a = some A ∧ ∀ (j : Nat) (u : Value), (cells3 xs)[j]? = some u → w.cell? (A.add j) = some u := by
  intro hn
  rcases h with ⟨h, _⟩ | ⟨g, cap, rest, hv, hb, hB, hc, hm⟩
  · cases h; omega
  · simp only [Value.slice.injEq] at hv
    obtain ⟨rfl, -, -⟩ := hv
    refine ⟨_, rfl, fun j u hj => ?_⟩
    have hjl := (List.getElem?_eq_some_iff.1 hj).1
    rw [Two.add0, Nat.zero_add, hB.rd, List.getElem?_toArray, List.getElem?_append_left hjl]
    exact hj
def SP (w : World) (sb : Nat) (fb : Option Nat) (m : Nat) (w' : World) : Prop := ∃ fl' fb', RS w' sb fl' fb' ∧ fl'.length ≤ m ∧ (∀ g, fb' = some g → fb = some g ∨ w.heap.size ≤ g) ∧ Upd (fun k => k = sb ∨ fb = some k) w w'
set_option maxRecDepth 100000 in
theorem ssize_is {w : World} {sb : Nat} {fl : List Int} {fb : Option Nat} (h : RS w sb fl fb) (hl : fl.length ≤ 2000) (id : Int) : Calls Try.prog 61 #[.pointer (some ⟨sb, 0, none⟩), .int .i64 id] w fun e w' => (∃ r, e = .returned (.tuple #[.int .i64 0, .int .i64 r])) ∧ w = w' := by
  have ha := sat_is h hl id
  obtain ⟨mp, v, hb, hr⟩ := h.blk
  obtain ⟨a, c, rfl⟩ := hr.slice
  rw [List.length_map] at hb hr
  have c1 := hb.rd
  have H := Lib.hid (And.intro hr hl)
  clear h hb hr hl
  generalize hnn : fl.length = n at *
  have HN := Lib.hid hnn
  clear hnn
  go_enter Try.func61, Try.ntmps61
  go_upto_region 2 with (go_at_call 66; refine ha.mono ?_; rintro e w' ⟨⟨r, rfl, hq⟩, rfl⟩; clear ha; have HQ := Lib.hid hq; clear hq)
  rcases HQ.out with ⟨rfl, _⟩ | ⟨j, rfl, hx⟩
  · go_wp2_with (fail)
    go_returns
    exact ⟨⟨_, rfl⟩, rfl⟩
  · have hjl := (List.getElem?_eq_some_iff.1 hx).1
    rw [HN.out] at hjl
    have hrr := H.out.1
    rcases hrr with ⟨_, hnil, _⟩ | ⟨g, cap, rest, hv, hb', hB, hc, hm⟩
    · rw [List.map_eq_nil_iff] at hnil; rw [hnil] at hx; cases hx
    simp only [Value.slice.injEq] at hv
    obtain ⟨rfl, -, -⟩ := hv
    obtain ⟨_, r1, _⟩ := Three.blk_row hB j (fileV id) (by rw [List.getElem?_map, hx]; rfl)
    have r1' : w.cell? ⟨g, j * 3 + 1, none⟩ = some (.slice none 0 0) := r1
    have i1 : (j : Int) < (n : Int) := by omega
    have i2 : (0 : Int) ≤ j := by omega
    have d1 : decide ((j : Int) < 0) = false := by simp
    clear hB hc hm hb' r1 hx
    go_wp2_with (fail)
    go_returns
    exact ⟨⟨_, rfl⟩, rfl⟩
set_option maxRecDepth 100000 in
theorem smake2_is {w : World} {sb : Nat} {fl : List Int} {fb : Option Nat} (h : RS w sb fl fb) (hl : fl.length ≤ 2000) (i : Nat) : Calls Try.prog 58 #[.pointer (some ⟨sb, 0, none⟩), .int .i64 i] w fun e w' => (∃ r, e = .returned (.int .i64 r)) ∧ SP w sb fb (fl.length + 1) w' := by
  have ha := sat_is h hl i
  have h0 := h
  obtain ⟨mp, v, hb, hr⟩ := h.blk
  obtain ⟨a, c, rfl⟩ := hr.slice
  rw [List.length_map] at hb hr
  have c1 := hb.rd
  have f1 := hb.nf
  have d0 : decide ((i : Int) < 0) = false := by simp
  have H := Lib.hid (And.intro h0 (And.intro hl (And.intro hb hr)))
  clear h hb hr hl h0
  generalize hnn : fl.length = n at *
  have HN := Lib.hid hnn
  clear hnn
  go_enter Try.func58, Try.ntmps58
  go_upto_if 10 with (go_at_call 66; refine ha.mono ?_; rintro e w' ⟨⟨r, rfl, hq⟩, rfl⟩; clear ha; have HQ := Lib.hid hq; clear hq)
  rcases HQ.out with ⟨rfl, _⟩ | ⟨j, rfl, hx⟩
  · have d1 : decide ((-1 : Int) ≥ 0) = false := by decide
    have hmt := H.out.2.2.1.lt
    have E3 : Hid ((fl.map fileV ++ [fileV (i : Int)]).length = fl.length + 1) := Lib.hid (by simp)
    go_wp2_with (first
      | (at_builtin; refine wp_app3 rfl _ _ 68 129 _ 56 infoFile rfl (by decide) underF rfl _ [] none rfl (Or.inl ⟨rfl, rfl, rfl⟩) a n c (fl.map fileV) (by rw [List.length_map]; exact HN.out) rfl (Row3.news H.out.2.2.2) (one_file fl) (by have := H.out.2.1; rw [List.length_map, HN.out]; simp; omega) ?_; intro v1 w1 b1 hr1 hb1 hu1; have H1 := Lib.hid (And.intro hr1 (And.intro hb1 hu1)); clear hr1 hb1 hu1)
      | (at_builtin; refine wp_app3 rfl _ _ 68 129 _ 56 infoFile rfl (by decide) underF rfl v1 (fl.map fileV) b1 rfl (H1.out.1.below ((Below.refl _ _).alloc (Nat.le_refl _) _)) (some ⟨w1.heap.size, 0, none⟩) 1 1 [fileV i] rfl rfl (fun _ => ⟨_, rfl, fun j u hj => by rw [Two.add0, (Blk.new w1 #[.int .i64 i, .slice none 0 0, .slice none 0 0] 129).rd, Nat.zero_add]; exact List.getElem?_toArray.trans hj⟩) (one_file [(i : Int)]) (by have := H.out.2.1; rw [List.length_map, HN.out]; simp; omega) ?_; intro v2 w2 b2 hr2 hb2 hu2; obtain ⟨a2, q2, hv2⟩ := hr2.slice; rw [E3.out] at hv2; subst hv2; have hne1 : ∀ g, b1 = some g → w.heap.size ≤ g := (fun g hg => by rcases H1.out.2.1 g hg with h | h; cases h; exact h); have hz1 := H1.out.2.2.size; have hu12 : Upd (fun _ => False) w w2 := ((H1.out.2.2.mono (fun _ _ e => by cases e)).alloc _).trans hu2 (fun k hk e => by have := hne1 k e; omega); have hb2' := Blk.upd hu12 H.out.2.2.1 (fun h => h); have f2 := hb2'.nf; have c2 := hb2'.rd; have H2 := Lib.hid (And.intro hr2 (And.intro hb2 (And.intro hu12 (And.intro hne1 (And.intro hz1 hb2'))))); clear hr2 hb2 hu2 hb2' hu12 hne1 hz1))
    go_ret
    obtain ⟨hr2, hb2, hu12, hne1, hz1, hB2⟩ := H2.out
    have hz2 := hu12.size
    have hb2f : ∀ g, b2 = some g → w.heap.size ≤ g := fun g hg => by
      rcases hb2 g hg with h | h
      · exact hne1 g h
      · have : w1.heap.size ≤ g := by simp at h; omega
        omega
    have hu3 : Upd (fun k => k = sb) w2 (w2.setCell ⟨sb, 1, none⟩ (.slice a2 (fl.length + 1) q2)) := (Upd.refl (fun k => k = sb) w2).setCell (p := ⟨sb, 1, none⟩) (fun _ => rfl) _
    refine ⟨⟨_, rfl⟩, fl ++ [(i : Int)], b2, ⟨⟨mp, _, Blk.of (hB2.set 1 _) rfl, ?_⟩, fun g hg e => by have := hb2f g hg; omega⟩, by rw [List.length_append, HN.out]; simp, fun g hg => Or.inr (hb2f g hg), (hu12.mono (fun _ _ h => h.elim)).trans hu3 (fun k _ e => Or.inl e)⟩
    have := hr2.upd hu3 (fun g hg e => by have := hb2f g hg; omega)
    rw [List.map_append]
    exact this
  · have d1 : decide ((j : Int) ≥ 0) = true := by simp
    clear hx
    go_wp2_with (fail)
    go_ret
    refine ⟨⟨_, rfl⟩, fl, fb, H.out.1, by rw [HN.out]; omega, fun g hg => Or.inl hg, Upd.refl _ _⟩
theorem Blk.same {w : World} {b : Nat} {cs : Array Value} {T : TypeId} (h : Blk w b cs T) {i : Nat} {v : Value} (hv : cs[i]? = some v) : Blk (w.setCell ⟨b, i, none⟩ v) b cs T := by
  refine Blk.of (h.set i v) ?_
  apply Array.ext_getElem?
  intro j
  rw [Array.getElem?_setIfInBounds]
  split
  · rename_i e; subst e
    split
    · exact hv.symm
    · rename_i h1
      rw [Array.getElem?_eq_none (by omega)] at hv; cases hv
  · rfl
theorem rest_at {xs : List V3} {rest : List Value} {k : Nat} {x : V3} (hx : xs[k]? = some x) : (cells3 xs ++ rest).toArray[k * 3 + 1]? = some x.2.1 ∧ (cells3 xs ++ rest).toArray[k * 3 + 2]? = some x.2.2 := by
  have hk : k < xs.length := (List.getElem?_eq_some_iff.1 hx).1
  have hl := cells3_len xs
  obtain ⟨h1, h2, h3⟩ := cells3_at xs k x hx
  simp only [List.getElem?_toArray]
  rw [List.getElem?_append_left (by omega), List.getElem?_append_left (by omega)]
  exact ⟨h2, h3⟩
def CutP (w : World) (sb : Nat) (fl : List Int) (fb : Option Nat) (id : Int) (e : Ending) (w' : World) : Prop := (∃ r, e = .returned (.int .i64 r) ∧ ((r = 4 ∧ id ∉ fl) ∨ (r = 0 ∧ id ∈ fl))) ∧ RS w' sb fl fb ∧ Upd (fun k => fb = some k) w w'
set_option maxRecDepth 100000 in
theorem scut2_is {w : World} {sb : Nat} {fl : List Int} {fb : Option Nat} (h : RS w sb fl fb) (hl : fl.length ≤ 2000) (id : Int) : Calls Try.prog 72 #[.pointer (some ⟨sb, 0, none⟩), .int .i64 id] w (CutP w sb fl fb id) := by
  have ha := sat_is h hl id
  have h0 := h
  obtain ⟨mp, v, hb, hr⟩ := h.blk
  obtain ⟨a, c, rfl⟩ := hr.slice
  rw [List.length_map] at hb hr
  have c1 := hb.rd
  have H := Lib.hid (And.intro h0 (And.intro hb hr))
  clear h hb hr hl h0
  generalize hnn : fl.length = n at *
  have HN := Lib.hid hnn
  clear hnn
  go_enter Try.func72, Try.ntmps72
  go_upto_if 11 with (go_at_call 66; refine ha.mono ?_; rintro e w' ⟨⟨r, rfl, hq⟩, rfl⟩; clear ha; have HQ := Lib.hid hq; clear hq)
  rcases HQ.out with ⟨rfl, hno⟩ | ⟨j, rfl, hx⟩
  · have HO := Lib.hid hno
    clear hno
    go_wp2_with (fail)
    go_ret
    exact ⟨⟨_, rfl, Or.inl ⟨rfl, HO.out⟩⟩, H.out.1, Upd.refl _ _⟩
  · have hjl := (List.getElem?_eq_some_iff.1 hx).1
    rw [HN.out] at hjl
    have hrr := H.out.2.2
    rcases hrr with ⟨_, hnil, _⟩ | ⟨g, cap, rest, hv, hb', hB, hc, hm⟩
    · rw [List.map_eq_nil_iff] at hnil; rw [hnil] at hx; cases hx
    simp only [Value.slice.injEq] at hv
    obtain ⟨rfl, -, rfl⟩ := hv
    have hxm : (fl.map fileV)[j]? = some (fileV id) := by rw [List.getElem?_map, hx]; rfl
    obtain ⟨_, r1, r2⟩ := Three.blk_row hB j (fileV id) hxm
    have r1' : w.cell? ⟨g, j * 3 + 1, none⟩ = some (.slice none 0 0) := r1
    have r2' : w.cell? ⟨g, j * 3 + 2, none⟩ = some (.slice none 0 0) := r2
    have fg := hB.nf
    have i1 : (j : Int) < (n : Int) := by omega
    have i2 : (0 : Int) ≤ j := by omega
    have d1 : decide ((j : Int) < 0) = false := by simp
    have HX := Lib.hid (And.intro hx (And.intro hB (And.intro hb' (And.intro hc (And.intro hm hxm)))))
    clear hB hc hm hb' r1 r2 hx hxm
    go_wp2_with (fail)
    go_loopw [6] (fun v6 wr => v6 = .int .i64 0 ∧ wr = w) (fun _ _ => 0)
    case atStart => exact ⟨rfl, rfl⟩
    case round =>
      obtain ⟨rfl, rfl⟩ := hrel
      have mixed : Try.prog.follows .mixedOrders = true := by kernel_rfl
      go_upto_region 8 with (fail)
      go_region
      all_goals go_wp2
      all_goals go_ret
      all_goals
        obtain ⟨hx, hB, hb', hc, hm, hxm⟩ := HX.out
        obtain ⟨e1, e2⟩ := rest_at (rest := rest) hxm
        have hne := H.out.1.ne g hb'
        refine ⟨⟨_, rfl, Or.inr ⟨rfl, List.mem_of_getElem? hx⟩⟩, ⟨⟨mp, _, ?_, Or.inr ⟨g, c, rest, by rw [List.length_map, HN.out], hb', ?_, hc, hm⟩⟩, H.out.1.ne⟩, ?_⟩
        · exact (H.out.2.1.drew.set_ne (a := ⟨g, _, none⟩) (fun e => hne e.symm) _).set_ne (a := ⟨g, _, none⟩) (fun e => hne e.symm) _
        · first
            | exact Blk.same (Blk.same hB.drew e1) e2
            | exact Blk.same (Blk.same hB.drew e2) e1
        · exact ((Upd.refl _ wr).drew.setCell (p := ⟨g, _, none⟩) (fun _ => hb') _).setCell (p := ⟨g, _, none⟩) (fun _ => hb') _
end Go.Proofs.Ytapkdaccbojbgaa
