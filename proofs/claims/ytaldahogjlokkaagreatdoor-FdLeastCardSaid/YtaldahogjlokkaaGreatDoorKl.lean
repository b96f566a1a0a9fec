/-
  Descriptors' law: what is written at the end stands behind all that is there.
-/
import Derived.Test.YtaldahogjlokkaaGreatDoorKs
import Derived.Deep.Slices
namespace Go.Proofs.YtaldahogjlokkaaGreatDoor
set_option linter.unusedSimpArgs false
set_option linter.unusedVariables false
open Go.RowKit Own RegJ Two
open Go.Lib hiding intOf

theorem nameL : nameE [108, 111, 103] = 0 := by kernel_rfl
theorem flE5 : flE 5 = true := by kernel_rfl
theorem flE4 : flE 4 = true := by kernel_rfl
/-- the pieces before i, one behind the other -/
def cat (Bs : Nat → List Int) : Nat → List Int
  | 0 => []
  | i + 1 => cat Bs i ++ Bs i
theorem cat_len (Bs : Nat → List Int) : ∀ i, (∀ j, j < i → (Bs j).length ≤ 40) → (cat Bs i).length ≤ 40 * i
  | 0, _ => by simp [cat]
  | i + 1, h => by
    have h1 := cat_len Bs i (fun j hj => h j (by omega))
    have h2 := h i (by omega)
    show (cat Bs i ++ Bs i).length ≤ _
    rw [List.length_append]
    omega
theorem o_app {x : Txt} (F : Nat) (hF : 8 ≤ F) (op : Int) (bs b : List Int) (h : bs.length + b.length ≤ 512) : wrF (nsO x op bs) F 1 (bs.length : Int) b = (0, nsO x op (bs ++ b)) := by
  by_cases h0 : b = []
  · subst h0; rw [List.append_nil]; exact o_write0 F op bs bs.length
  · have := o_write (x := x) F hF op bs b bs.length (by omega) (by omega) h0
    rw [writeB_end] at this
    exact this
/-- a slice of rows of bytes: each one as it came -/
def RowsV (w : World) (av : Option Addr) (len : Nat) : Prop := ∀ i, i < len → ∃ g o v bs, av = some ⟨g, o, none⟩ ∧ g < w.heap.size ∧ w.cell? ⟨g, o + i, none⟩ = some v ∧ ArgB w v bs
theorem ArgB.news {w0 w : World} {a : Option Addr} {m c : Nat} {b : List Int} (h : ArgB w0 (.slice a m c) b) (hp : 0 < m) (hB : Below w0.heap.size w0 w) : ∃ A, a = some A ∧ ∀ (j : Nat) (u : Value), (ucells b)[j]? = some u → w.cell? (A.add j) = some u := by
  obtain ⟨a', c', e, h1, h2⟩ := h
  cases e
  obtain ⟨g, q, rfl, h3, h4⟩ := h2 hp
  have h5 := rdv_far h3 h4 hB
  refine ⟨_, rfl, fun j u hj => ?_⟩
  obtain ⟨A, e, h6⟩ := h5 j u hj
  cases e
  exact h6
/-- two processes, each with one end of the same file -/
def ApS (S : FS) (b1 b2 x y : Nat) : Prop := S.pr 1 = some b1 ∧ S.pr 2 = some b2 ∧ S.sl b1 0 = some x ∧ S.sl b2 0 = some y ∧ x ≠ y ∧ (∃ p, S.th x = some ⟨false, false, 1, p, true, 1⟩) ∧ (∃ p, S.th y = some ⟨false, false, 1, p, true, 1⟩)
theorem ApS.setx {S : FS} {b1 b2 x y : Nat} (h : ApS S b1 b2 x y) (t : Th) (h1 : t.pp = false) (h2 : t.wr = false) (h3 : t.id = 1) (h4 : t.en = true) (h5 : t.nm = 1) : ApS (S.setth x t) b1 b2 x y := by
  obtain ⟨a1, a2, a3, a4, a5, a6, p, a7⟩ := h
  obtain ⟨t1, t2, t3, t4, t5, t6⟩ := t
  simp only at h1 h2 h3 h4 h5
  subst h1 h2 h3 h4 h5
  exact ⟨a1, a2, a3, a4, a5, ⟨_, setth_eq _ _ _⟩, p, (setth_ne S x _ (fun e => a5 e.symm)).trans a7⟩
theorem ApS.sety {S : FS} {b1 b2 x y : Nat} (h : ApS S b1 b2 x y) (t : Th) (h1 : t.pp = false) (h2 : t.wr = false) (h3 : t.id = 1) (h4 : t.en = true) (h5 : t.nm = 1) : ApS (S.setth y t) b1 b2 x y := by
  obtain ⟨a1, a2, a3, a4, a5, ⟨p, a6⟩, a7⟩ := h
  obtain ⟨t1, t2, t3, t4, t5, t6⟩ := t
  simp only at h1 h2 h3 h4 h5
  subst h1 h2 h3 h4 h5
  exact ⟨a1, a2, a3, a4, a5, ⟨p, (setth_ne S y _ a5).trans a6⟩, _, setth_eq _ _ _⟩
/-- .. and not the vfs' head -/
def KpA (w0 : World) (O : Nat → Prop) (vb : Nat) (w : World) (v : Value) (ys : List Int) : Prop := ∃ gb, RowV w 5 v (ucells ys) gb ∧ ∀ g, gb = some g → w0.heap.size ≤ g ∧ ¬ O g ∧ g ≠ vb
theorem KpA.next {w0 w w' : World} {O O' : Nat → Prop} {vb : Nat} {v : Value} {ys : List Int} (h : KpA w0 O vb w v ys) (hU : Upd O w w') (hO : ∀ k, O' k → O k ∨ w.heap.size ≤ k) : KpA w0 O' vb w' v ys := by
  obtain ⟨gb, h1, h2⟩ := h
  refine ⟨gb, h1.upd hU (fun g hg => (h2 g hg).2.1), fun g hg => ⟨(h2 g hg).1, fun ho => ?_, (h2 g hg).2.2⟩⟩
  rcases hO g ho with ho | ho
  · exact (h2 g hg).2.1 ho
  · have := h1.lt g hg
    omega
section
variable {w0 w w' : World} {O : Nat → Prop} {fdb vb tb fb sb pb mb : Nat} {ns : NSt} {c N : Nat} {S : FS}
/-- a step beside them -/
theorem FX.apart [Inhabited CapT] {F : Nat → Prop} (h : FX w0 O fdb vb tb fb sb pb mb ns c N S w) (hmc : 0 < w0.heap.size) (hu : Upd F w w') (hF : ∀ k, F k → w0.heap.size ≤ k ∧ ¬ O k ∧ k ≠ vb) : FX w0 O fdb vb tb fb sb pb mb ns c N S w' := by
  obtain ⟨lo, h1, h2, h3, h4, h5, h6, h7, h8⟩ := h
  exact ⟨lo, h1.upd hu (fun hk => (hF _ hk).2.2 rfl) (fun r k hr hk => (hF k hk).2.1 (h4 r k hr)) (fun hk => by have := (hF _ hk).1; omega), h2.trans (hu.below h2.size (fun k hk => (hF k hk).1)), fun k hk => ⟨(h3 k hk).1, Nat.lt_of_lt_of_le (h3 k hk).2 hu.size⟩, h4, h5, h6, h7.upd hu (fun k hk hf => (hF k hf).2.1 (h8 k hk).1), h8⟩
theorem FX.vlt [Inhabited CapT] (h : FX w0 O fdb vb tb fb sb pb mb ns c N S w) : vb < w.heap.size := by
  obtain ⟨lo, h1, _⟩ := h
  obtain ⟨l1, l2, l3⟩ := h1.lts
  omega
theorem ap_two [Inhabited CapT] {b1 b2 : Nat} (h : FX w0 O fdb vb tb fb sb pb mb ns c N ((fs00.start 1 b1).start 2 b2) w) (hne : b1 ≠ b2) : ∃ S, FX w0 O fdb vb tb fb sb pb mb ns c N S w ∧ S.pr 1 = some b1 ∧ S.pr 2 = some b2 ∧ (∀ k, S.sl b1 k = none) ∧ (∀ k, S.sl b2 k = none) :=
  ⟨_, h, by simp [FS.start], by simp [FS.start], fun k => by simp [FS.start, upN, hne], fun k => by simp [FS.start, upN]⟩
theorem ap_one [Inhabited CapT] {b1 b2 x : Nat} {t : Th} (h : FX w0 O fdb vb tb fb sb pb mb ns c N (S.put b1 0 x t) w) (h1 : S.pr 1 = some b1) (h2 : S.pr 2 = some b2) (h3 : ∀ k, S.sl b2 k = none) (hne : b1 ≠ b2) :
    ∃ S, FX w0 O fdb vb tb fb sb pb mb ns c N S w ∧ S.pr 1 = some b1 ∧ S.pr 2 = some b2 ∧ S.sl b1 0 = some x ∧ (∀ k, S.sl b2 k = none) ∧ S.th x = some t :=
  ⟨_, h, h1, h2, put_eq' _ _ _ _ _, fun k => (by have := h3 k; simp [FS.put, FS.setth, FS.setsl, upN, Ne.symm hne, this]), put_th' _ _ _ _ _⟩
theorem ap_both [Inhabited CapT] {b1 b2 x y : Nat} {p1 p2 : Int} (h : FX w0 O fdb vb tb fb sb pb mb ns c N (S.put b2 0 y ⟨false, false, 1, p2, true, 1⟩) w) (h1 : S.pr 1 = some b1) (h2 : S.pr 2 = some b2) (h3 : S.sl b1 0 = some x) (hne : b1 ≠ b2) (h4 : S.th x = some ⟨false, false, 1, p1, true, 1⟩) (hxy : x ≠ y) :
    ∃ S, FX w0 O fdb vb tb fb sb pb mb ns c N S w ∧ ApS S b1 b2 x y :=
  ⟨_, h, h1, h2, (by simp [FS.put, FS.setth, FS.setsl, upN, hne, h3]), put_eq' _ _ _ _ _, hxy, ⟨p1, (setth_ne S y _ hxy).trans h4⟩, p2, put_th' _ _ _ _ _⟩
/-- what a round of the loop leaves -/
def ApR [Inhabited CapT] (w0 : World) (fdb vb tb fb sb pb mb b1 b2 x y : Nat) (bs : List Int) (w : World) (v : Value) : Prop := ∃ S O, FX w0 O fdb vb tb fb sb pb mb (nsO [108, 111, 103] 2 bs) 6 2 S w ∧ ApS S b1 b2 x y ∧ KpA w0 O vb w v bs
theorem ap_row [Inhabited CapT] {b1 b2 x y : Nat} {bs : List Int} {v : Value} {gb g5 : Option Nat} (hmc : 0 < w0.heap.size) (hg : ∀ g, gb = some g → w0.heap.size ≤ g ∧ ¬ O g ∧ g ≠ vb) (h : FX w0 O fdb vb tb fb sb pb mb (nsO [108, 111, 103] 2 bs) 6 2 S w) (hS : ApS S b1 b2 x y)
    (hr : RowV w' 5 v (ucells bs) g5) (hn : ∀ g, g5 = some g → gb = some g ∨ w.heap.size ≤ g) (hu : Upd (fun k => gb = some k) w w') : ApR w0 fdb vb tb fb sb pb mb b1 b2 x y bs w' v := by
  refine ⟨S, O, h.apart hmc hu hg, hS, g5, hr, fun g e => ?_⟩
  rcases hn g e with e | e
  · exact hg g e
  · have h1 := h.vlt
    have h2 := h.bel.size
    exact ⟨by omega, h.far e, by omega⟩
end
theorem ap_rel [Inhabited CapT] {w0 w : World} {fdb vb tb fb sb pb mb b1 b2 x y i m len : Nat} {Bs : Nat → List Int} {v13 : Value} (hj : ∀ j, j < i → (Bs j).length ≤ 40) (hm : (Bs i).length = m) (h40 : m ≤ 40) (hil : i < len) (h : ApR w0 fdb vb tb fb sb pb mb b1 b2 x y (cat Bs i ++ Bs i) w v13) :
    ∃ i' : Nat, i' ≤ len ∧ Value.int .i64 ((i : Int) + 1) = .int .i64 i' ∧ ∃ ra q rc, v13 = .slice ra q rc ∧ Hid ((∀ j, j < i' → (Bs j).length ≤ 40) ∧ q = (cat Bs i').length ∧ ApR w0 fdb vb tb fb sb pb mb b1 b2 x y (cat Bs i') w (.slice ra q rc)) := by
  have hl : (ucells (cat Bs i ++ Bs i)).length = (cat Bs (i + 1)).length := by rw [ucells, List.length_map]; rfl
  obtain ⟨S, O, h1, h2, g, h3, h4⟩ := h
  obtain ⟨ra, rc, e, -, -⟩ := h3.slice
  refine ⟨i + 1, by omega, rfl, ra, _, rc, e, Lib.hid ⟨fun j hjl => ?_, hl, ?_⟩⟩
  · by_cases e : j = i
    · subst e; omega
    · exact hj j (by omega)
  · rw [← e]
    exact ⟨S, O, h1, h2, g, h3, h4⟩
set_option maxRecDepth 100000 in
set_option maxHeartbeats 8000000 in
theorem appends_v (av : Option Addr) (len cap : Nat) (sk : Int) (w : World) (hm : len ≤ maxLen) (hA : RowsV w av len) (m0 : Int) (hm0 : w.cell? ⟨0, 0, none⟩ = some (.int .i64 m0)) :
    Calls Tryz.prog 3 #[.slice av len cap, .int .i64 sk] w fun e w' => e = .returned (.bool true) ∧ Below w.heap.size w w' := by
  letI : Inhabited CapT := capOf 10
  unfold maxLen at hm
  by_cases h5 : 12 < len
  · have d1 : decide ((len : Int) > 12) = true := by simp; omega
    have haw := k_awake w ⟨m0, hm0⟩ rfl
    clear hm h5 hm0 hA
    go_enter Tryz.func3, Tryz.ntmps3
    go_wp2_with (go_at_call 10; refine haw.mono ?_; rintro e w2 ⟨rfl, hb2⟩; have H2 := Lib.hid hb2; clear hb2)
    go_ret
    exact ⟨rfl, H2.out⟩
  have d1 : decide ((len : Int) > 12) = false := by simp; omega
  have hb := both_f w ⟨m0, hm0⟩ rfl
  obtain ⟨V, hV⟩ : ∃ V : Nat → (Nat × Nat) × Value × List Int, ∀ i, i < len → av = some ⟨(V i).1.1, (V i).1.2, none⟩ ∧ (V i).1.1 < w.heap.size ∧ w.cell? ⟨(V i).1.1, (V i).1.2 + i, none⟩ = some (V i).2.1 ∧ ArgB w (V i).2.1 (V i).2.2 :=
    Go.Deep.choose_lt (show ∀ i, i < len → ∃ V : (Nat × Nat) × Value × List Int, av = some ⟨V.1.1, V.1.2, none⟩ ∧ V.1.1 < w.heap.size ∧ w.cell? ⟨V.1.1, V.1.2 + i, none⟩ = some V.2.1 ∧ ArgB w V.2.1 V.2.2 from fun i hi => by obtain ⟨g, o, v, bs, h⟩ := hA i hi; exact ⟨((g, o), v, bs), h⟩)
  obtain ⟨Bs, hBs⟩ : ∃ Bs : Nat → List Int, Bs = fun i => (V i).2.2 := ⟨_, rfl⟩
  have HE := Lib.hid (And.intro (show capI = capV 10 from rfl) (show MC w from ⟨m0, hm0⟩))
  have HV := Lib.hid (show len ≤ 12 ∧ ∀ i, i < len → ∃ g o v, av = some ⟨g, o, none⟩ ∧ g < w.heap.size ∧ w.cell? ⟨g, o + i, none⟩ = some v ∧ ArgB w v (Bs i) from ⟨by omega, fun i hi => ⟨_, _, _, (hV i hi).1, (hV i hi).2.1, (hV i hi).2.2.1, by rw [hBs]; exact (hV i hi).2.2.2⟩⟩)
  clear hm h5 hm0 hA hV hBs
  go_enter Tryz.func3, Tryz.ntmps3
  go_wp2_with (first
      | (go_at_call 11; go_loud (refine hb.mono ?_; rintro e w1 ⟨fdb, vb, tb, fb, sb, pb, mb, k1, k2, O1, rfl, hD1⟩; have a1 := k_start hD1 (by omega) 1 (by decide) (by omega) rfl; clear hb hD1))
      | (go_at_call 12; refine a1.mono ?_; rintro e w2 ⟨b1, -, rfl, -, O2, hD2, -⟩; have a2 := k_start hD2 (by omega) 2 (by decide) (by omega) rfl; have hbl := (hD2.fd.t 1 b1 (start_pr _ _ _)).lt; clear a1 hD2)
      | (go_at_call 12; refine a2.mono ?_; rintro e w3 ⟨b2, hbg, rfl, -, O3, hD3, -⟩; have hbb : b1 ≠ b2 := (by omega); obtain ⟨S3, hS3, p1, p2, s1, s2⟩ := ap_two hD3 hbb; have a3 := k_open hS3 (by omega) 1 (by decide) b1 p1 0 (by omega) (s1 0) (fun k hk => by omega) [47, 108, 111, 103] (by simp) 5 1 (o_new nameL 5 (by omega) (by decide)) ⟨#[47, 108, 111, 103]⟩ rfl; have H3 := Lib.hid (And.intro p1 (And.intro p2 (And.intro s1 (And.intro s2 hbb)))); clear a2 hD3 hbl hbg hS3 p1 p2 s1 s2 hbb)
      | (go_at_call 13; refine a3.mono ?_; rintro e w4 ⟨x, -, rfl, -, O4, hD4, -⟩; rw [flE5] at hD4; obtain ⟨q1, q2, q3, q4, q5⟩ := H3.out; obtain ⟨S4, hS4, p1, p2, s1, s2, t1⟩ := ap_one hD4 q1 q2 q4 q5; have a4 := k_open hS4 (by omega) 2 (by decide) b2 p2 0 (by omega) (s2 0) (fun k hk => by omega) [47, 108, 111, 103] (by simp) 4 1 (o_open nameL 1 [] 4 (by omega) (by decide)) ⟨#[47, 108, 111, 103]⟩ rfl; have H4 := Lib.hid (And.intro p1 (And.intro p2 (And.intro s1 (And.intro q5 (And.intro t1 (hS4.fd.x x _ t1).lt))))); clear a3 hD4 H3 q1 q2 q3 q4 q5 hS4 p1 p2 s1 s2 t1)
      | (go_at_call 13; refine a4.mono ?_; rintro e w5 ⟨y, hyg, rfl, -, O5, hD5, -⟩; rw [flE4] at hD5; obtain ⟨q1, q2, q3, q4, q5, q6⟩ := H4.out; have hxy : x ≠ y := (by omega); obtain ⟨S5, hS5, hA5⟩ := ap_both hD5 q1 q2 q3 q4 q5 hxy; have hS5' : FX w O5 fdb vb tb fb sb pb mb (nsO [108, 111, 103] 2 []) 6 2 S5 w5 := hS5; have H5 := Lib.hid (And.intro hS5' hA5); clear a4 hD5 H4 q1 q2 q3 q4 q5 q6 hxy hS5 hS5' hA5 hyg))
  go_loopw [13, 14] (fun v13 v14 wr => ∃ i : Nat, i ≤ len ∧ v14 = .int .i64 i ∧ ∃ ra q rc, v13 = .slice ra q rc ∧ Hid ((∀ j, j < i → (Bs j).length ≤ 40) ∧ q = (cat Bs i).length ∧ ApR w fdb vb tb fb sb pb mb b1 b2 x y (cat Bs i) wr (.slice ra q rc))) (fun _ v14 _ => len - (intOf v14).toNat)
  case atStart => exact ⟨0, Nat.zero_le _, rfl, _, _, _, rfl, Lib.hid ⟨fun j hj => by omega, rfl, S5, O5, H5.out.1, H5.out.2, none, Or.inl ⟨rfl, rfl, rfl⟩, fun g hg => by cases hg⟩⟩
  case round =>
    obtain ⟨i, hi, rfl, ra, q, rc, rfl, HR⟩ := hrel
    obtain ⟨hj, hq, S, O, hD, hP, hK⟩ := HR.out
    clear HR
    have HD := Lib.hid hD
    have HP := Lib.hid hP
    have HK := Lib.hid hK
    have hcl := cat_len Bs i hj
    clear hP hK
    by_cases hil : i < len
    · obtain ⟨g, o, v, rfl, hg, hc, hab⟩ := HV.out.2 i hil
      have habc := hab
      obtain ⟨a, cp, rfl, -, -⟩ := habc
      obtain ⟨m, hm⟩ : ∃ m, (Bs i).length = m := ⟨_, rfl⟩
      rw [hm] at hc hab
      have d5 : decide ((i : Int) < (len : Int)) = true := by simp; omega
      have i5 : (i : Int) < (len : Int) := by omega
      have i6 : (0 : Int) ≤ i := by omega
      have i7 : (len : Int) ≤ 12 := by have := HV.out.1; omega
      have k2 := (hD.bel.cell (by exact hg)).trans hc
      by_cases h40 : m ≤ 40
      · have d6 : decide ((m : Int) > 40) = false := by simp; omega
        have HI := Lib.hid (show (Bs i).length = m ∧ m ≤ 40 ∧ g < w.heap.size ∧ (cat Bs i).length ≤ 440 ∧ ArgB w (.slice a m cp) (Bs i) ∧ w.cell? ⟨g, o + i, none⟩ = some (.slice a m cp) from ⟨hm, h40, hg, by have := HV.out.1; omega, hab, hc⟩)
        have HJ := Lib.hid hj
        clear hD hm h40 hg hc hab hcl hj hq
        cases hev : (Go.bits Go.BinOp.and Go.IntKind.i64 (i : Int) 1 == 0) with
        | true =>
          go_wp2_with (first
      | (go_at_call 15; go_loud (refine (low_any sk 100 (by omega) (by omega) _).mono ?_; rintro e w2 ⟨rfl, rfl⟩; obtain ⟨px, tx⟩ := HP.out.2.2.2.2.2.1; have a2 := k_seek HD.out 1 (by decide) b1 HP.out.1 0 x (by omega) HP.out.2.2.1 _ tx rfl (lowF sk 100) (low_bd sk 100 (by omega)).1; clear tx))
      | (go_at_call 14; go_loud (refine a2.mono ?_; rintro e w3 ⟨rfl, hU3, O3, hD3, hO3⟩; have hA3 := HP.out.setx ⟨false, false, 1, lowF sk 100, true, 1⟩ rfl rfl rfl rfl rfl; obtain ⟨pz, tz⟩ := hA3.2.2.2.2.2.1; have a3 := k_write (ns2 := nsO [108, 111, 103] 2 (cat Bs i ++ Bs i)) hD3 1 (by decide) b1 hA3.1 0 x (by omega) hA3.2.2.1 _ tz rfl (by show (Lit.int .i64 1).wf = true; decide) (Bs i) m cp a HI.out.1 (by have := HI.out.2.1; omega) (HI.out.2.2.2.2.1.src hD3) ((cat Bs i).length : Int) (by have := HI.out.2.2.2.1; omega) (.inr ⟨rfl, 0, o_size 2 _⟩) (o_app capN (by rw [show capN = 10 from congrArg CapT.n HE.out.1]; omega) 2 (cat Bs i) (Bs i) (by have := HI.out; omega)); have k3 := (hD3.bel.cell (by exact HI.out.2.2.1)).trans HI.out.2.2.2.2.2; have H3 := Lib.hid (And.intro (HK.out.next hU3 hO3) (And.intro hD3 (hA3.setx ⟨false, false, 1, ((cat Bs i).length : Int) + m, true, 1⟩ rfl rfl rfl rfl rfl))); clear a2 hU3 hD3 hO3 hA3 tz k2))
      | (go_at_call 16; go_loud (refine a3.mono ?_; rintro e w4 ⟨rfl, hU4, O4, hD4, hO4⟩; have k4 := (hD4.bel.cell (by exact HI.out.2.2.1)).trans HI.out.2.2.2.2.2; obtain ⟨gb, hr4, hg4⟩ := H3.out.1.next hU4 hO4; have H4 := Lib.hid (And.intro hr4 (And.intro hg4 (And.intro (show FX w O4 fdb vb tb fb sb pb mb (nsO [108, 111, 103] 2 (cat Bs i ++ Bs i)) 6 2 _ w4 from hD4) H3.out.2.2))); clear a3 hU4 hD4 hO4 hr4 hg4 H3 k3))
      | (at_builtin; go_loud (refine wp_appV rfl _ _ 34 5 (.int .u8 0) 1 (by kernel_rfl) rfl (by decide) Tryz.underlying34 rfl (.slice ra q rc) (ucells (cat Bs i)) gb rfl H4.out.1 a m cp (ucells (Bs i)) (by rw [← HI.out.1]; simp [ucells]) rfl (fun hp => HI.out.2.2.2.2.1.news hp H4.out.2.2.1.bel) (one_u _) (by have := HI.out; simp [ucells]; omega) ?_; intro v5 w5 g5 h5 hg5 hU5; rw [← ucells_app] at h5; have H5 := Lib.hid (ap_row HE.out.2.lt H4.out.2.1 H4.out.2.2.1 H4.out.2.2.2 h5 hg5 hU5); clear h5 hg5 hU5 H4 k4)))
          go_roundw
          case rel => exact ap_rel HJ.out HI.out.1 HI.out.2.1 hil H5.out
          case measure => simp [intOf]; omega
        | false =>
          go_wp2_with (first
      | (go_at_call 15; go_loud (refine (low_any sk 100 (by omega) (by omega) _).mono ?_; rintro e w2 ⟨rfl, rfl⟩; obtain ⟨px, tx⟩ := HP.out.2.2.2.2.2.1; have a2 := k_seek HD.out 1 (by decide) b1 HP.out.1 0 x (by omega) HP.out.2.2.1 _ tx rfl (lowF sk 100) (low_bd sk 100 (by omega)).1; clear tx))
      | (go_at_call 14; go_loud (refine a2.mono ?_; rintro e w3 ⟨rfl, hU3, O3, hD3, hO3⟩; have hA3 := HP.out.setx ⟨false, false, 1, lowF sk 100, true, 1⟩ rfl rfl rfl rfl rfl; obtain ⟨pz, tz⟩ := hA3.2.2.2.2.2.2; have a3 := k_write (ns2 := nsO [108, 111, 103] 2 (cat Bs i ++ Bs i)) hD3 2 (by decide) b2 hA3.2.1 0 y (by omega) hA3.2.2.2.1 _ tz rfl (by show (Lit.int .i64 1).wf = true; decide) (Bs i) m cp a HI.out.1 (by have := HI.out.2.1; omega) (HI.out.2.2.2.2.1.src hD3) ((cat Bs i).length : Int) (by have := HI.out.2.2.2.1; omega) (.inr ⟨rfl, 0, o_size 2 _⟩) (o_app capN (by rw [show capN = 10 from congrArg CapT.n HE.out.1]; omega) 2 (cat Bs i) (Bs i) (by have := HI.out; omega)); have k3 := (hD3.bel.cell (by exact HI.out.2.2.1)).trans HI.out.2.2.2.2.2; have H3 := Lib.hid (And.intro (HK.out.next hU3 hO3) (And.intro hD3 (hA3.sety ⟨false, false, 1, ((cat Bs i).length : Int) + m, true, 1⟩ rfl rfl rfl rfl rfl))); clear a2 hU3 hD3 hO3 hA3 tz k2))
      | (go_at_call 16; go_loud (refine a3.mono ?_; rintro e w4 ⟨rfl, hU4, O4, hD4, hO4⟩; have k4 := (hD4.bel.cell (by exact HI.out.2.2.1)).trans HI.out.2.2.2.2.2; obtain ⟨gb, hr4, hg4⟩ := H3.out.1.next hU4 hO4; have H4 := Lib.hid (And.intro hr4 (And.intro hg4 (And.intro (show FX w O4 fdb vb tb fb sb pb mb (nsO [108, 111, 103] 2 (cat Bs i ++ Bs i)) 6 2 _ w4 from hD4) H3.out.2.2))); clear a3 hU4 hD4 hO4 hr4 hg4 H3 k3))
      | (at_builtin; go_loud (refine wp_appV rfl _ _ 34 5 (.int .u8 0) 1 (by kernel_rfl) rfl (by decide) Tryz.underlying34 rfl (.slice ra q rc) (ucells (cat Bs i)) gb rfl H4.out.1 a m cp (ucells (Bs i)) (by rw [← HI.out.1]; simp [ucells]) rfl (fun hp => HI.out.2.2.2.2.1.news hp H4.out.2.2.1.bel) (one_u _) (by have := HI.out; simp [ucells]; omega) ?_; intro v5 w5 g5 h5 hg5 hU5; rw [← ucells_app] at h5; have H5 := Lib.hid (ap_row HE.out.2.lt H4.out.2.1 H4.out.2.2.1 H4.out.2.2.2 h5 hg5 hU5); clear h5 hg5 hU5 H4 k4)))
          go_roundw
          case rel => exact ap_rel HJ.out HI.out.1 HI.out.2.1 hil H5.out
          case measure => simp [intOf]; omega
      · have d6 : decide ((m : Int) > 40) = true := by simp; omega
        have haw := k_awake wr (MC.below HE.out.2 hD.bel) HE.out.1
        have H0 := Lib.hid hD.bel
        clear hD hm h40 hg hc hab hcl hj hq
        go_wp2_with (go_at_call 10; refine haw.mono ?_; rintro e w9 ⟨rfl, hb9⟩; have H9 := Lib.hid (H0.out.trans (hb9.mono H0.out.size)); clear haw hb9 H0)
        go_ret
        exact ⟨rfl, H9.out⟩
    · have d5 : decide ((i : Int) < (len : Int)) = false := by simp; omega
      have d5n : decide (i < len) = false := by simp; omega
      obtain rfl : i = len := by omega
      obtain ⟨py, ty⟩ := HP.out.2.2.2.2.2.2
      have a6 := k_seek hD 2 (by decide) b2 HP.out.2.1 0 y (by omega) HP.out.2.2.2.1 _ ty rfl 0 (by omega)
      have hlen := HV.out.1
      have HY := Lib.hid (show readV (filesOf (nsO [108, 111, 103] 2 (cat Bs i))) 1 0 600 = (cat Bs i, 0) by
        rw [o_read 2 _ 0 600 (by omega) (by omega)]
        show (List.take 600 (List.drop 0 (cat Bs i)), (0 : Int)) = _
        rw [List.drop_zero, List.take_of_length_le (by omega)])
      have HI := Lib.hid (show (cat Bs i).length ≤ 480 by omega)
      clear hil hi hD ty hcl hj hq hlen
      go_wp2_with (first
      | (go_at_call 14; go_loud (refine a6.mono ?_; rintro e w6 ⟨rfl, hU6, O6, hD6, hO6⟩; have hA6 := HP.out.sety ⟨false, false, 1, 0, true, 1⟩ rfl rfl rfl rfl rfl; have a7 := k_read hD6 2 (by decide) b2 hA6.2.1 0 y (by omega) hA6.2.2.2.1 _ (setth_eq _ _ _) rfl rfl (by show (Lit.int .i64 1).wf = true; decide) (by simp) 600 (by omega) (cat Bs i) 0 HY.out (by have := HI.out; omega); have H6 := Lib.hid (HK.out.next hU6 hO6); clear a6 hU6 hD6 hO6 hA6))
      | (go_at_call 17; go_loud (refine a7.mono ?_; rintro e w7 ⟨sa, sc, g2, O7, rfl, hR7, -, hU7, hD7, hO7⟩; obtain ⟨gb, hr7, -⟩ := H6.out.next hU7 hO7; have hsm := sameB_any (RdU.of hR7) (RdU.of hr7) true (by simp); have H7 := Lib.hid hD7.bel; clear a7 hR7 hU7 hD7 hO7 hr7 H6))
      | (go_at_call 18; go_loud (refine hsm.mono ?_; rintro e w8 ⟨rfl, q9, rfl⟩; have hB8 := H7.out.trans ((Below.drewN w7 q9).mono H7.out.size); have haw := k_awake (w7.drewN q9) (MC.below HE.out.2 hB8) HE.out.1; have H8 := Lib.hid hB8; clear hsm hB8 H7))
      | (go_at_call 10; go_loud (refine haw.mono ?_; rintro e w9 ⟨rfl, hb9⟩; have H9 := Lib.hid (H8.out.trans (hb9.mono H8.out.size)); clear haw hb9 H8)))
      go_ret
      exact ⟨rfl, H9.out⟩
end Go.Proofs.YtaldahogjlokkaaGreatDoor
