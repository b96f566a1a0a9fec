/-
  Descriptors' law: who opens gets the least descriptor that is free.
-/
import Derived.Test.YtaldahogjlokkaaGreatDoorKf
namespace Go.Proofs.YtaldahogjlokkaaGreatDoor
set_option linter.unusedSimpArgs false
set_option linter.unusedVariables false
open Go.RowKit Own RegJ Two
open Go.Lib hiding intOf

theorem CJ.any {C : Nat} {md : Region.Mode} {ops : Array Oper} {W w : World} {Q : World → Prop} {f : Nat → Bool} (h : CJ C md ops W Q f w) {F : World → Prop} (hW : F W) (hQ : ∀ u, Q u → F u) : F w := by
  have h2 := h.2
  cases hC : f C with
  | true => rw [hC] at h2; exact hQ w h2
  | false => rw [hC] at h2; rw [show w = W from h2]; exact hW
theorem nameF2 : nameE [102] = 0 := by kernel_rfl
/-- how many places name something -/
def cntU (f : Nat → Option Nat) : Nat → Nat
  | 0 => 0
  | i + 1 => cntU f i + (if (f i).isSome then 1 else 0)
theorem cntU_le (f : Nat → Option Nat) : ∀ i, cntU f i ≤ i
  | 0 => Nat.le_refl _
  | i + 1 => by
    have := cntU_le f i
    unfold cntU
    split <;> omega
theorem usedL_cnt (f : Nat → Option Nat) : ∀ i, (usedL f i).length = cntU f i
  | 0 => rfl
  | i + 1 => by
    unfold usedL cntU
    rw [List.length_append, usedL_cnt f i]
    split <;> simp
theorem cntU_up (f : Nat → Option Nat) (d : Nat) (v : Option Nat) : ∀ i, cntU (upN f d v) i + (if d < i ∧ (f d).isSome then 1 else 0) = cntU f i + (if d < i ∧ v.isSome then 1 else 0)
  | 0 => by simp [cntU]
  | i + 1 => by
    have h := cntU_up f d v i
    unfold cntU
    by_cases e : i = d
    · subst e
      rw [upN_eq]
      simp only [Nat.lt_irrefl, false_and, if_false, Nat.lt_succ_self, true_and] at h ⊢
      omega
    · rw [upN_ne _ _ e]
      have e2 : d < i + 1 ↔ d < i := ⟨fun h => by omega, fun h => by omega⟩
      simp only [e2]
      omega
theorem cntU_put (f : Nat → Option Nat) {d x : Nat} (hd : d < 8) (hf : f d = none) : cntU (upN f d (some x)) 8 = cntU f 8 + 1 := by
  have := cntU_up f d (some x) 8
  rw [hf] at this
  simpa [hd] using this
theorem cntU_cut (f : Nat → Option Nat) {d x : Nat} (hd : d < 8) (hf : f d = some x) : cntU (upN f d none) 8 + 1 = cntU f 8 := by
  have := cntU_up f d none 8
  rw [hf] at this
  simpa [hd] using this
abbrev usC (f : Nat → Option Nat) : Array Value := #[.bool (f 0).isSome, .bool (f 1).isSome, .bool (f 2).isSome, .bool (f 3).isSome, .bool (f 4).isSome, .bool (f 5).isSome, .bool (f 6).isSome, .bool (f 7).isSome]
theorem usC_at (f : Nat → Option Nat) {d : Nat} (h : d < 8) : (usC f)[d]? = some (.bool (f d).isSome) := by
  have : d = 0 ∨ d = 1 ∨ d = 2 ∨ d = 3 ∨ d = 4 ∨ d = 5 ∨ d = 6 ∨ d = 7 := by omega
  rcases this with rfl | rfl | rfl | rfl | rfl | rfl | rfl | rfl <;> rfl
theorem usC_set (f : Nat → Option Nat) {d : Nat} (h : d < 8) (x : Option Nat) : (usC f).setIfInBounds d (.bool x.isSome) = usC (upN f d x) := by
  have : d = 0 ∨ d = 1 ∨ d = 2 ∨ d = 3 ∨ d = 4 ∨ d = 5 ∨ d = 6 ∨ d = 7 := by omega
  rcases this with rfl | rfl | rfl | rfl | rfl | rfl | rfl | rfl <;> rfl
/-- the names: each of its own thing -/
structure LsS (S : FS) (b : Nat) : Prop where
  pr : S.pr 3 = some b
  th : ∀ d x, d < 8 → S.sl b d = some x → S.th x = some ⟨false, false, 1, 0, false, 1⟩
  inj : ∀ d e x, d < 8 → e < 8 → S.sl b d = some x → S.sl b e = some x → d = e
theorem LsS.put {S : FS} {b d x : Nat} (h : LsS S b) (hd : d < 8) (hf : S.sl b d = none) (hx : S.th x = none) : LsS (S.put b d x ⟨false, false, 1, 0, false, 1⟩) b := by
  have hs : ∀ e, (S.put b d x ⟨false, false, 1, 0, false, 1⟩).sl b e = if e = d then some x else S.sl b e := fun e => by
    show upN (S.sl) b (upN (S.sl b) d (some x)) b e = _
    rw [upN_eq]
    rfl
  have ht : ∀ y, (S.put b d x ⟨false, false, 1, 0, false, 1⟩).th y = if y = x then some ⟨false, false, 1, 0, false, 1⟩ else S.th y := fun y => rfl
  refine ⟨h.pr, fun e y he hy => ?_, fun e f y he hf2 h1 h2 => ?_⟩
  · rw [hs] at hy
    rw [ht]
    split at hy
    · cases hy; exact if_pos rfl
    · have := h.th e y he hy
      rw [if_neg (fun ee => by subst ee; rw [hx] at this; cases this)]
      exact this
  · rw [hs] at h1 h2
    split at h1 <;> split at h2
    · omega
    · cases h1; have := h.th f _ hf2 h2; rw [hx] at this; cases this
    · cases h2; have := h.th e _ he h1; rw [hx] at this; cases this
    · exact h.inj e f y he hf2 h1 h2
theorem LsS.cut {S : FS} {b d x : Nat} {t : Th} (h : LsS S b) (hd : d < 8) (hx : S.sl b d = some x) : LsS ((S.setsl b d none).setth x t) b := by
  have hs : ∀ e, ((S.setsl b d none).setth x t).sl b e = if e = d then none else S.sl b e := fun e => by
    show upN (S.sl) b (upN (S.sl b) d none) b e = _
    rw [upN_eq]
    rfl
  refine ⟨h.pr, fun e y he hy => ?_, fun e f y he hf2 h1 h2 => ?_⟩
  · rw [hs] at hy
    split at hy
    · cases hy
    · rename_i hne
      rw [show ((S.setsl b d none).setth x t).th y = S.th y from upN_ne _ _ (fun ee => hne (by subst ee; exact h.inj e d _ he hd hy hx))]
      exact h.th e y he hy
  · rw [hs] at h1 h2
    split at h1 <;> split at h2
    · cases h1
    · cases h1
    · cases h2
    · exact h.inj e f y he hf2 h1 h2
/-- the vfs: empty, or with the one file, so often open -/
def NsOk (ns : NSt) (n : Nat) : Prop := (ns = ns0 ∧ n = 0) ∨ ns = nsO [102] (n : Int) []
theorem NsOk.opens {ns : NSt} {n : Nat} (h : NsOk ns n) : openF ns [47, 102] 1 = (1, 0, nsO [102] ((n : Int) + 1) []) := by
  rcases h with ⟨rfl, rfl⟩ | rfl
  · exact o_new nameF2 1 (by omega) (by decide)
  · exact o_open nameF2 n [] 1 (by omega) (by decide)
theorem NsOk.closes {ns : NSt} {n : Nat} (h : NsOk ns n) (h1 : 1 ≤ n) : closeF ns 1 = (0, nsO [102] ((n : Int) - 1) []) := by
  rcases h with ⟨_, rfl⟩ | rfl
  · omega
  · exact o_close (n : Int) [] (by omega)
/-- the law's own table -/
def KpB (w0 : World) (O : Nat → Prop) (vb : Nat) (w : World) (ub : Nat) (cs : Array Value) : Prop := Blk w ub cs 48 ∧ w0.heap.size ≤ ub ∧ ¬ O ub ∧ ub ≠ vb
section
variable {w0 w w' : World} {O O' : Nat → Prop} {fdb vb tb fb sb pb mb ub b : Nat} {ns : NSt} {c N : Nat} {S : FS} {cs : Array Value}
theorem KpB.next (h : KpB w0 O vb w ub cs) (hU : Upd O w w') (hO : ∀ k, O' k → O k ∨ w.heap.size ≤ k) : KpB w0 O' vb w' ub cs := by
  obtain ⟨h1, h2, h3, h4⟩ := h
  refine ⟨Blk.upd hU h1 h3, h2, fun ho => ?_, h4⟩
  rcases hO ub ho with ho | ho
  · exact h3 ho
  · have := h1.lt
    omega
theorem ls_used {d : Nat} {v : Value} (h : KpB w0 O vb w ub cs) (hv : cs[d]? = some v) (hU : Upd O w w') : w'.cell? ⟨ub, d, none⟩ = some v := by
  rw [(Blk.upd hU h.1 h.2.2.1).rd]; exact hv
/-- what a round leaves -/
def LsR [Inhabited CapT] (w0 : World) (fdb vb tb fb sb pb mb ub b n : Nat) (w : World) : Prop := ∃ S O ns, FX w0 O fdb vb tb fb sb pb mb ns (3 * n) 1 S w ∧ LsS S b ∧ NsOk ns (cntU (S.sl b) 8) ∧ KpB w0 O vb w ub (usC (S.sl b))
theorem FX.keepL [Inhabited CapT] {d : Nat} {v : Value} (h : FX w0 O fdb vb tb fb sb pb mb ns c N S w) (hmc : 0 < w0.heap.size) (hk : KpB w0 O vb w ub cs) : FX w0 O fdb vb tb fb sb pb mb ns c N S (w.setCell ⟨ub, d, none⟩ v) ∧ KpB w0 O vb (w.setCell ⟨ub, d, none⟩ v) ub (cs.setIfInBounds d v) :=
  ⟨h.apart hmc ((Upd.refl (fun k => k = ub) w).setCell (p := ⟨ub, d, none⟩) (fun _ => rfl) v) (fun k e => by subst e; exact ⟨hk.2.1, hk.2.2.1, hk.2.2.2⟩), hk.1.set d v, hk.2⟩
/-- a place is let go -/
theorem ls_cut [Inhabited CapT] {n d x : Nat} (hmc : 0 < w0.heap.size) (hd : d < 8) (hx : S.sl b d = some x) (hS : LsS S b) (h : Upd O w w') {O9 : Nat → Prop} (hD : FX w0 O9 fdb vb tb fb sb pb mb (nsO [102] ((cntU (S.sl b) 8 : Int) - 1) []) (3 * n + 1) 1 ((S.setsl b d none).setth x ⟨false, false, 1, 0, false, 1 - 1⟩) w') (hO : ∀ k, O9 k → O k ∨ w.heap.size ≤ k) (hk : KpB w0 O vb w ub (usC (S.sl b))) :
    LsR w0 fdb vb tb fb sb pb mb ub b (n + 1) (w'.setCell ⟨ub, d, none⟩ (.bool false)) := by
  have hk9 := hk.next h hO
  obtain ⟨g1, g2⟩ := (hD.le (c' := 3 * (n + 1)) (by omega)).keepL (d := d) (v := .bool false) hmc hk9
  have hc := cntU_cut (S.sl b) hd hx
  have hs : ((S.setsl b d none).setth x ⟨false, false, 1, 0, false, 1 - 1⟩).sl b = upN (S.sl b) d none := upN_eq _ _ _
  refine ⟨_, O9, _, g1, hS.cut hd hx, .inr ?_, ?_⟩
  · rw [hs]
    congr 1
    omega
  · rw [hs]
    have := usC_set (S.sl b) hd none
    rw [show (Value.bool false) = .bool (none : Option Nat).isSome from rfl] at g2
    rw [this] at g2
    exact g2
theorem ls_same [Inhabited CapT] {n d : Nat} (hmc : 0 < w0.heap.size) (hd : d < 8) (hx : S.sl b d = none) (hS : LsS S b) (hB : Below w.heap.size w w') (hD : FX w0 O fdb vb tb fb sb pb mb ns (3 * n) 1 S w) (hn : NsOk ns (cntU (S.sl b) 8)) (hk : KpB w0 O vb w ub (usC (S.sl b))) :
    LsR w0 fdb vb tb fb sb pb mb ub b (n + 1) (w'.setCell ⟨ub, d, none⟩ (.bool false)) := by
  have hk9 := hk.next (Upd.of_below (F := O) hB) (fun k hk => .inl hk)
  obtain ⟨g1, g2⟩ := ((hD.below hB).le (c' := 3 * (n + 1)) (by omega)).keepL (d := d) (v := .bool false) hmc hk9
  refine ⟨S, O, ns, g1, hS, hn, ?_⟩
  have := usC_set (S.sl b) hd none
  rw [show (Value.bool false) = .bool (none : Option Nat).isSome from rfl] at g2 ⊢
  have e9 : upN (S.sl b) d none = S.sl b := by
    funext k
    by_cases e : k = d
    · subst e; rw [upN_eq, hx]
    · exact upN_ne _ _ e
  rw [this, e9] at g2
  exact g2
theorem ls_put [Inhabited CapT] {n d x : Nat} (hmc : 0 < w0.heap.size) (hd : d < 8) (hx : S.sl b d = none) (hf : S.th x = none) (hS : LsS S b) (h : Upd O w w') {O9 : Nat → Prop} (hD : FX w0 O9 fdb vb tb fb sb pb mb (nsO [102] ((cntU (S.sl b) 8 : Int) + 1) []) (3 * n + 3) 1 (S.put b d x ⟨false, false, 1, 0, false, 1⟩) w') (hO : ∀ k, O9 k → O k ∨ w.heap.size ≤ k) (hk : KpB w0 O vb w ub (usC (S.sl b))) :
    LsR w0 fdb vb tb fb sb pb mb ub b (n + 1) (w'.setCell ⟨ub, d, none⟩ (.bool true)) := by
  have hk9 := hk.next h hO
  obtain ⟨g1, g2⟩ := (hD.le (c' := 3 * (n + 1)) (by omega)).keepL (d := d) (v := .bool true) hmc hk9
  have hc := cntU_put (S.sl b) (x := x) hd hx
  have hs : (S.put b d x ⟨false, false, 1, 0, false, 1⟩).sl b = upN (S.sl b) d (some x) := upN_eq _ _ _
  refine ⟨_, O9, _, g1, hS.put hd hx hf, .inr ?_, ?_⟩
  · rw [hs, hc]
    congr 1
  · rw [hs]
    have := usC_set (S.sl b) hd (some x)
    rw [show (Value.bool true) = .bool (some x : Option Nat).isSome from rfl] at g2
    rw [this] at g2
    exact g2
theorem ls_full [Inhabited CapT] {n : Nat} (hS : LsS S b) (hB : Below w.heap.size w w') (hD : FX w0 O fdb vb tb fb sb pb mb ns (3 * n) 1 S w) (hn : NsOk ns (cntU (S.sl b) 8)) (hk : KpB w0 O vb w ub (usC (S.sl b))) : LsR w0 fdb vb tb fb sb pb mb ub b (n + 1) w' :=
  ⟨S, O, ns, (hD.below hB).le (by omega), hS, hn, hk.next (Upd.of_below (F := O) hB) (fun k hk => .inl hk)⟩
end
theorem ls_start [Inhabited CapT] {w0 w : World} {O : Nat → Prop} {fdb vb tb fb sb pb mb ub b : Nat} (hD : FX w0 O fdb vb tb fb sb pb mb ns0 0 (0 + 1) (fs00.start 3 b) w) (hub : w.heap.size = ub) :
    LsR w0 fdb vb tb fb sb pb mb ub b 0 (w.alloc (.cells #[.bool false, .bool false, .bool false, .bool false, .bool false, .bool false, .bool false, .bool false] 48)) := by
  subst hub
  have hB := (Below.refl w.heap.size w).alloc (Nat.le_refl _) (.cells #[.bool false, .bool false, .bool false, .bool false, .bool false, .bool false, .bool false, .bool false] 48)
  have hs : (fs00.start 3 b).sl b = fun _ => none := upN_eq _ _ _
  refine ⟨fs00.start 3 b, O, ns0, hD.below hB, ⟨start_pr fs00 3 b, fun d x _ h => (by rw [hs] at h; cases h), fun d e x _ _ h => (by rw [hs] at h; cases h)⟩, .inl ⟨rfl, by rw [hs]; rfl⟩, ?_, hD.bel.size, hD.far (Nat.le_refl _), ?_⟩
  · rw [hs]; exact Blk.new w _ _
  · have := hD.vlt
    omega
set_option maxRecDepth 100000 in
set_option maxHeartbeats 8000000 in
theorem least_v (av : Option Addr) (len cap : Nat) (w : World) (hm : len ≤ maxLen) (hA : Acts6 w av len) (m0 : Int) (hm0 : w.cell? ⟨0, 0, none⟩ = some (.int .i64 m0)) :
    Calls Tryz.prog 6 #[.slice av len cap] w fun e w' => e = .returned (.bool true) ∧ Below w.heap.size w w' := by
  letI : Inhabited CapT := capOf 10
  have hgr := great6_v (cap := cap) hA hm 60 (by omega)
  have haw := k_awake w ⟨m0, hm0⟩ rfl
  have hb := both_f w ⟨m0, hm0⟩ rfl
  have HE := Lib.hid (And.intro (show capI = capV 10 from rfl) (show MC w from ⟨m0, hm0⟩))
  clear hm hA hm0
  go_enter Tryz.func6, Tryz.ntmps6
  go_upto_if 16 with (go_at_call 21; refine hgr.mono ?_; rintro e w1 ⟨gr, rfl, hgs, rfl⟩; have HG := Lib.hid hgs; clear hgr hgs)
  cases gr
  case true =>
    go_wp2_with (go_at_call 10; refine haw.mono ?_; rintro e w2 ⟨rfl, hb2⟩; have H2 := Lib.hid hb2; clear haw hb2)
    go_ret
    exact ⟨rfl, H2.out⟩
  clear haw
  go_wp2_with (first
    | (go_at_call 11; go_loud (refine hb.mono ?_; rintro e w1 ⟨fdb, vb, tb, fb, sb, pb, mb, k1, k2, O1, rfl, hD1⟩; have a1 := k_start hD1 (by omega) 3 (by decide) (by omega) rfl; clear hb hD1))
    | (go_at_call 12; go_loud (refine a1.mono ?_; rintro e w2 ⟨b, -, rfl, -, O2, hD2, -⟩; obtain ⟨ub, hub⟩ : ∃ ub, w2.heap.size = ub := ⟨_, rfl⟩; have HS0 := Lib.hid (ls_start hD2 hub); clear a1 hD2)))
  go_loopw [8] (fun v8 wr => ∃ i : Nat, i ≤ len ∧ v8 = .int .i64 i ∧ Hid (LsR w fdb vb tb fb sb pb mb ub b i wr)) (fun v8 _ => len - (intOf v8).toNat)
  case atStart => exact ⟨0, Nat.zero_le _, rfl, Lib.hid HS0.out⟩
  case round =>
    obtain ⟨i, hi, rfl, HR⟩ := hrel
    obtain ⟨S, O, ns, hD, hS, hn, hB⟩ := HR.out
    clear HR
    have HD := Lib.hid hD
    have HS := Lib.hid hS
    have HN := Lib.hid hn
    have HB := Lib.hid hB
    by_cases hil : i < len
    · obtain ⟨g, o, k, p, d, n, s, v, bs, hact, -, -⟩ := (HG.out (by trivial)).2 i hil
      have hL := (HG.out (by trivial)).1
      have d5 : decide ((i : Int) < (len : Int)) = true := by simp; omega
      have i5 : (i : Int) < (len : Int) := by omega
      have i6 : (0 : Int) ≤ i := by omega
      have i7 : (len : Int) ≤ 60 := by omega
      have k0 := (hD.bel.cell (by exact hact.lt)).trans hact.k0
      have k2 := (hD.bel.cell (by exact hact.lt)).trans hact.k2
      obtain rfl := hact.a
      have HI := Lib.hid (And.intro hil hL)
      clear hact hD hS hn hB hL hi hil
      go_wp2_with (fail)
      go_loopw [9] (fun v9 wq => ∃ j : Nat, j ≤ 8 ∧ v9 = .int .i64 j ∧ Hid (∀ q, q < j → S.sl b q ≠ none) ∧ wq = wr) (fun v9 _ => 8 - (intOf v9).toNat)
      case atStart => exact ⟨0, Nat.zero_le _, rfl, Lib.hid (fun q hq => by omega), rfl⟩
      case round =>
        obtain ⟨j, hj, rfl, HJ, rfl⟩ := hrel
        by_cases hgo : j < 8 ∧ S.sl b j ≠ none
        · obtain ⟨hj8, hsj⟩ := hgo
          have e1 : decide ((j : Int) < 8) = true := by simp; omega
          have j1 : (j : Int) < 8 := by omega
          have j2 : (0 : Int) ≤ j := by omega
          have u0 : wr.cell? ⟨ub, j, none⟩ = some (.bool true) := by
            rw [HB.out.1.rd, usC_at _ hj8]
            cases hh : S.sl b j with
            | none => exact absurd hh hsj
            | some _ => rfl
          have HT := Lib.hid hsj
          clear hsj
          go_wp2_with (fail)
          go_roundw
          case rel =>
            refine ⟨j + 1, by omega, by go_num, Lib.hid (fun q hq => ?_), by trivial⟩
            by_cases e : q = j
            · subst e; exact HT.out
            · exact HJ.out q (by omega)
          case measure => simp [intOf]; omega
        · have hno : j < 8 → S.sl b j = none := fun h => by
            cases hh : S.sl b j with
            | none => rfl
            | some _ => exact absurd ⟨h, by rw [hh]; simp⟩ hgo
          have HO := Lib.hid hno
          clear hgo hno
          obtain ⟨e0, he0⟩ : ∃ e0, decide ((j : Int) < 8) = e0 := ⟨_, rfl⟩
          have hcond : e0 = true → wr.cell? ⟨ub, j, none⟩ = some (.bool false) ∧ (j : Int) < 8 ∧ (0 : Int) ≤ j := fun h => by
            have hj8 : j < 8 := by subst he0; simp at h; omega
            exact ⟨by rw [HB.out.1.rd, usC_at _ hj8, HO.out hj8]; rfl, by omega, by omega⟩
          have HJJ := Lib.hid he0
          by_cases hk5 : k = 5
          · subst hk5
            obtain ⟨dn, hdn, hd8⟩ : ∃ dn : Nat, lowF d 8 = dn ∧ dn < 8 := ⟨(lowF d 8).toNat, by have := low_bd d 8 (by omega); omega, by have := low_bd d 8 (by omega); omega⟩
            have HDN := Lib.hid hdn
            have q1 : (dn : Int) < 8 := by omega
            have q2 : (0 : Int) ≤ dn := by omega
            cases hx : S.sl b dn with
            | some x =>
              have hu : wr.cell? ⟨ub, dn, none⟩ = some (.bool true) := by rw [HB.out.1.rd, usC_at _ hd8, hx]; rfl
              have HF8 := Lib.hid (show (usC (S.sl b))[dn]? = some (.bool true) by rw [usC_at _ hd8, hx]; rfl)
              have hcl := k_closef (HD.out.below (Go.Proofs.YtaldahogjlokkaaGreatDoor.dn wr 1)) (by have := HI.out; omega) 3 (by decide) b HS.out.pr dn x hd8 hx _ (HS.out.th dn x hd8 hx) (by simp) rfl 0 (HN.out.closes (by have := cntU_cut (S.sl b) hd8 hx; omega))
              have HQ := Lib.hid (And.intro hu (hcl.mono (fun e w8 hq => (show e = .returned (.int .i64 0) ∧ (fun w9 => Upd O wr w9 ∧ ∃ O9, FX w O9 fdb vb tb fb sb pb mb (nsO [102] ((cntU (S.sl b) 8 : Int) - 1) []) (3 * i + 1) 1 ((S.setsl b dn none).setth x ⟨false, false, 1, 0, false, 1 - 1⟩) w9 ∧ ∀ k, O9 k → O k ∨ wr.heap.size ≤ k) w8 from ⟨hq.1, (Upd.of_below (F := O) (Go.Proofs.YtaldahogjlokkaaGreatDoor.dn wr 1)).trans hq.2.1 (fun _ _ h => h), (by obtain ⟨O9, g1, g2⟩ := hq.2.2; exact ⟨O9, g1, fun k hk => (g2 k hk).imp id (fun h => h)⟩)⟩))))
              have HX := Lib.hid (And.intro hd8 hx)
              clear hu hcl hx hd8 hdn he0
              cases e0
              · have e1 := HJJ.out
                go_upto_region 15 with (go_at_call 15; refine (low_any d 8 (by omega) (by omega) _).mono ?_; rw [HDN.out]; rintro e w2 ⟨rfl, rfl⟩)
                refine region_C 2 wr.drew (fun w9 => Upd O wr w9 ∧ ∃ O9, FX w O9 fdb vb tb fb sb pb mb (nsO [102] ((cntU (S.sl b) 8 : Int) - 1) []) (3 * i + 1) 1 ((S.setsl b dn none).setth x ⟨false, false, 1, 0, false, 1 - 1⟩) w9 ∧ ∀ k, O9 k → O k ∨ wr.heap.size ≤ k) rfl (by kernel_rfl) (by kernel_rfl) ?_
                apply wpJ_op rfl (by rfl)
                · intro f w1 hf hJ Q1 hQ
                  simp only [Act.put, List.setIfInBounds_toArray, List.set_cons_zero, List.set_cons_succ] at hQ
                  go_wp2_with (fail)
                  exact hQ _ _ rfl (hJ.other rfl hf (by decide))
                simp only [Act.put, List.setIfInBounds_toArray, List.set_cons_zero, List.set_cons_succ]
                apply wpJ_op rfl (by rfl)
                · intro f w1 hf hJ Q1 hQ
                  simp only [Act.put, List.setIfInBounds_toArray, List.set_cons_zero, List.set_cons_succ] at hQ
                  go_wp2_with (fail)
                  exact hQ _ _ rfl (hJ.other rfl hf (by decide))
                simp only [Act.put, List.setIfInBounds_toArray, List.set_cons_zero, List.set_cons_succ]
                apply wpJ_op rfl (by rfl)
                · intro f w1 hf hJ Q1 hQ
                  rw [hJ.atC hf.1]
                  simp only [Act.put, List.setIfInBounds_toArray, List.set_cons_zero, List.set_cons_succ] at hQ
                  go_wp2_with (have kw := HQ.out.2; go_at_call 22; refine kw.mono ?_; rintro e w8 ⟨rfl, hq⟩)
                  exact hQ _ _ rfl (hJ.goC rfl hf hq)
                simp only [Act.put, List.setIfInBounds_toArray, List.set_cons_zero, List.set_cons_succ]
                apply wpJ_op rfl (by rfl)
                · intro f w1 hf hJ Q1 hQ
                  simp only [Act.put, List.setIfInBounds_toArray, List.set_cons_zero, List.set_cons_succ] at hQ
                  go_wp2_with (fail)
                  exact hQ _ _ rfl (hJ.other rfl hf (by decide))
                simp only [Act.put, List.setIfInBounds_toArray, List.set_cons_zero, List.set_cons_succ]
                apply wpJ_op rfl (by rfl)
                · intro f w1 hf hJ Q1 hQ
                  simp only [Act.put, List.setIfInBounds_toArray, List.set_cons_zero, List.set_cons_succ] at hQ
                  go_wp2_with (fail)
                  exact hQ _ _ rfl (hJ.other rfl hf (by decide))
                simp only [Act.put, List.setIfInBounds_toArray, List.set_cons_zero, List.set_cons_succ]
                apply wpJ_op rfl (by rfl)
                · intro f w1 hf hJ Q1 hQ
                  simp only [Act.put, List.setIfInBounds_toArray, List.set_cons_zero, List.set_cons_succ] at hQ
                  go_wp2_with (fail)
                  exact hQ _ _ rfl (hJ.other rfl hf (by decide))
                simp only [Act.put, List.setIfInBounds_toArray, List.set_cons_zero, List.set_cons_succ]
                apply wpJ_op rfl (by rfl)
                · intro f w1 hf hJ Q1 hQ
                  have hF := hJ.any (F := fun u => u.cell? ⟨ub, dn, none⟩ = some (.bool true)) HQ.out.1 (fun u hu => ls_used HB.out HF8.out hu.1)
                  simp only [Act.put, List.setIfInBounds_toArray, List.set_cons_zero, List.set_cons_succ] at hQ
                  go_wp2_with (fail)
                  exact hQ _ _ rfl (hJ.other rfl hf (by decide))
                simp only [Act.put, List.setIfInBounds_toArray, List.set_cons_zero, List.set_cons_succ]
                apply wpJ_op rfl (by rfl)
                · intro f w1 hf hJ Q1 hQ
                  simp only [Act.put, List.setIfInBounds_toArray, List.set_cons_zero, List.set_cons_succ] at hQ
                  go_wp2_with (fail)
                  exact hQ _ _ rfl (hJ.other rfl hf (by decide))
                simp only [Act.put, List.setIfInBounds_toArray, List.set_cons_zero, List.set_cons_succ]
                refine wpJ_nil ?_
                intro w9 hJ9
                have hq9 := hJ9.fin rfl
                clear hJ9
                have u9 := ls_used HB.out HF8.out hq9.1
                have f2' := (Blk.upd hq9.1 HB.out.1 HB.out.2.2.1).nf dn
                have H9 := Lib.hid hq9
                clear hq9
                go_wp2_with (fail)
                go_roundw
                case rel => exact ⟨i + 1, by have := HI.out; omega, by go_num, Lib.hid (by obtain ⟨h1, O9, h2, h3⟩ := H9.out; exact ls_cut HE.out.2.lt HX.out.1 HX.out.2 HS.out h1 h2 h3 HB.out)⟩
                case measure => have := HI.out; simp [intOf]; omega
              · obtain ⟨c1, c2, c3⟩ := hcond rfl
                have e1 := HJJ.out
                go_upto_region 15 with (go_at_call 15; refine (low_any d 8 (by omega) (by omega) _).mono ?_; rw [HDN.out]; rintro e w2 ⟨rfl, rfl⟩)
                refine region_C 2 wr.drew (fun w9 => Upd O wr w9 ∧ ∃ O9, FX w O9 fdb vb tb fb sb pb mb (nsO [102] ((cntU (S.sl b) 8 : Int) - 1) []) (3 * i + 1) 1 ((S.setsl b dn none).setth x ⟨false, false, 1, 0, false, 1 - 1⟩) w9 ∧ ∀ k, O9 k → O k ∨ wr.heap.size ≤ k) rfl (by kernel_rfl) (by kernel_rfl) ?_
                apply wpJ_op rfl (by rfl)
                · intro f w1 hf hJ Q1 hQ
                  simp only [Act.put, List.setIfInBounds_toArray, List.set_cons_zero, List.set_cons_succ] at hQ
                  go_wp2_with (fail)
                  exact hQ _ _ rfl (hJ.other rfl hf (by decide))
                simp only [Act.put, List.setIfInBounds_toArray, List.set_cons_zero, List.set_cons_succ]
                apply wpJ_op rfl (by rfl)
                · intro f w1 hf hJ Q1 hQ
                  simp only [Act.put, List.setIfInBounds_toArray, List.set_cons_zero, List.set_cons_succ] at hQ
                  go_wp2_with (fail)
                  exact hQ _ _ rfl (hJ.other rfl hf (by decide))
                simp only [Act.put, List.setIfInBounds_toArray, List.set_cons_zero, List.set_cons_succ]
                apply wpJ_op rfl (by rfl)
                · intro f w1 hf hJ Q1 hQ
                  rw [hJ.atC hf.1]
                  simp only [Act.put, List.setIfInBounds_toArray, List.set_cons_zero, List.set_cons_succ] at hQ
                  go_wp2_with (have kw := HQ.out.2; go_at_call 22; refine kw.mono ?_; rintro e w8 ⟨rfl, hq⟩)
                  exact hQ _ _ rfl (hJ.goC rfl hf hq)
                simp only [Act.put, List.setIfInBounds_toArray, List.set_cons_zero, List.set_cons_succ]
                apply wpJ_op rfl (by rfl)
                · intro f w1 hf hJ Q1 hQ
                  simp only [Act.put, List.setIfInBounds_toArray, List.set_cons_zero, List.set_cons_succ] at hQ
                  go_wp2_with (fail)
                  exact hQ _ _ rfl (hJ.other rfl hf (by decide))
                simp only [Act.put, List.setIfInBounds_toArray, List.set_cons_zero, List.set_cons_succ]
                apply wpJ_op rfl (by rfl)
                · intro f w1 hf hJ Q1 hQ
                  simp only [Act.put, List.setIfInBounds_toArray, List.set_cons_zero, List.set_cons_succ] at hQ
                  go_wp2_with (fail)
                  exact hQ _ _ rfl (hJ.other rfl hf (by decide))
                simp only [Act.put, List.setIfInBounds_toArray, List.set_cons_zero, List.set_cons_succ]
                apply wpJ_op rfl (by rfl)
                · intro f w1 hf hJ Q1 hQ
                  simp only [Act.put, List.setIfInBounds_toArray, List.set_cons_zero, List.set_cons_succ] at hQ
                  go_wp2_with (fail)
                  exact hQ _ _ rfl (hJ.other rfl hf (by decide))
                simp only [Act.put, List.setIfInBounds_toArray, List.set_cons_zero, List.set_cons_succ]
                apply wpJ_op rfl (by rfl)
                · intro f w1 hf hJ Q1 hQ
                  have hF := hJ.any (F := fun u => u.cell? ⟨ub, dn, none⟩ = some (.bool true)) HQ.out.1 (fun u hu => ls_used HB.out HF8.out hu.1)
                  simp only [Act.put, List.setIfInBounds_toArray, List.set_cons_zero, List.set_cons_succ] at hQ
                  go_wp2_with (fail)
                  exact hQ _ _ rfl (hJ.other rfl hf (by decide))
                simp only [Act.put, List.setIfInBounds_toArray, List.set_cons_zero, List.set_cons_succ]
                apply wpJ_op rfl (by rfl)
                · intro f w1 hf hJ Q1 hQ
                  simp only [Act.put, List.setIfInBounds_toArray, List.set_cons_zero, List.set_cons_succ] at hQ
                  go_wp2_with (fail)
                  exact hQ _ _ rfl (hJ.other rfl hf (by decide))
                simp only [Act.put, List.setIfInBounds_toArray, List.set_cons_zero, List.set_cons_succ]
                refine wpJ_nil ?_
                intro w9 hJ9
                have hq9 := hJ9.fin rfl
                clear hJ9
                have u9 := ls_used HB.out HF8.out hq9.1
                have f2' := (Blk.upd hq9.1 HB.out.1 HB.out.2.2.1).nf dn
                have H9 := Lib.hid hq9
                clear hq9
                go_wp2_with (fail)
                go_roundw
                case rel => exact ⟨i + 1, by have := HI.out; omega, by go_num, Lib.hid (by obtain ⟨h1, O9, h2, h3⟩ := H9.out; exact ls_cut HE.out.2.lt HX.out.1 HX.out.2 HS.out h1 h2 h3 HB.out)⟩
                case measure => have := HI.out; simp [intOf]; omega
            | none =>
              have hu : wr.cell? ⟨ub, dn, none⟩ = some (.bool false) := by rw [HB.out.1.rd, usC_at _ hd8, hx]; rfl
              have hcl := k_closeno (HD.out.below (Go.Proofs.YtaldahogjlokkaaGreatDoor.dn wr 1)).fd 3 (by decide) b HS.out.pr dn hd8 hx
              have HQ := Lib.hid (And.intro hu (hcl.mono (fun e w8 hq => (show e = .returned (.int .i64 8) ∧ w8 = wr.drew from ⟨hq.1, hq.2.symm⟩))))
              have HX := Lib.hid (And.intro hd8 hx)
              clear hu hcl hx hd8 hdn he0
              cases e0
              · have e1 := HJJ.out
                go_upto_region 15 with (go_at_call 15; refine (low_any d 8 (by omega) (by omega) _).mono ?_; rw [HDN.out]; rintro e w2 ⟨rfl, rfl⟩)
                refine region_C 2 wr.drew (fun w9 => w9 = wr.drew) rfl (by kernel_rfl) (by kernel_rfl) ?_
                apply wpJ_op rfl (by rfl)
                · intro f w1 hf hJ Q1 hQ
                  simp only [Act.put, List.setIfInBounds_toArray, List.set_cons_zero, List.set_cons_succ] at hQ
                  go_wp2_with (fail)
                  exact hQ _ _ rfl (hJ.other rfl hf (by decide))
                simp only [Act.put, List.setIfInBounds_toArray, List.set_cons_zero, List.set_cons_succ]
                apply wpJ_op rfl (by rfl)
                · intro f w1 hf hJ Q1 hQ
                  simp only [Act.put, List.setIfInBounds_toArray, List.set_cons_zero, List.set_cons_succ] at hQ
                  go_wp2_with (fail)
                  exact hQ _ _ rfl (hJ.other rfl hf (by decide))
                simp only [Act.put, List.setIfInBounds_toArray, List.set_cons_zero, List.set_cons_succ]
                apply wpJ_op rfl (by rfl)
                · intro f w1 hf hJ Q1 hQ
                  rw [hJ.atC hf.1]
                  simp only [Act.put, List.setIfInBounds_toArray, List.set_cons_zero, List.set_cons_succ] at hQ
                  go_wp2_with (have kw := HQ.out.2; go_at_call 22; refine kw.mono ?_; rintro e w8 ⟨rfl, rfl⟩)
                  exact hQ _ _ rfl (hJ.goC rfl hf rfl)
                simp only [Act.put, List.setIfInBounds_toArray, List.set_cons_zero, List.set_cons_succ]
                apply wpJ_op rfl (by rfl)
                · intro f w1 hf hJ Q1 hQ
                  simp only [Act.put, List.setIfInBounds_toArray, List.set_cons_zero, List.set_cons_succ] at hQ
                  go_wp2_with (fail)
                  exact hQ _ _ rfl (hJ.other rfl hf (by decide))
                simp only [Act.put, List.setIfInBounds_toArray, List.set_cons_zero, List.set_cons_succ]
                apply wpJ_op rfl (by rfl)
                · intro f w1 hf hJ Q1 hQ
                  simp only [Act.put, List.setIfInBounds_toArray, List.set_cons_zero, List.set_cons_succ] at hQ
                  go_wp2_with (fail)
                  exact hQ _ _ rfl (hJ.other rfl hf (by decide))
                simp only [Act.put, List.setIfInBounds_toArray, List.set_cons_zero, List.set_cons_succ]
                apply wpJ_op rfl (by rfl)
                · intro f w1 hf hJ Q1 hQ
                  simp only [Act.put, List.setIfInBounds_toArray, List.set_cons_zero, List.set_cons_succ] at hQ
                  go_wp2_with (fail)
                  exact hQ _ _ rfl (hJ.other rfl hf (by decide))
                simp only [Act.put, List.setIfInBounds_toArray, List.set_cons_zero, List.set_cons_succ]
                apply wpJ_op rfl (by rfl)
                · intro f w1 hf hJ Q1 hQ
                  have hF := hJ.any (F := fun u => u.cell? ⟨ub, dn, none⟩ = some (.bool false)) HQ.out.1 (fun u hu => by rw [hu]; exact HQ.out.1)
                  simp only [Act.put, List.setIfInBounds_toArray, List.set_cons_zero, List.set_cons_succ] at hQ
                  go_wp2_with (fail)
                  exact hQ _ _ rfl (hJ.other rfl hf (by decide))
                simp only [Act.put, List.setIfInBounds_toArray, List.set_cons_zero, List.set_cons_succ]
                apply wpJ_op rfl (by rfl)
                · intro f w1 hf hJ Q1 hQ
                  simp only [Act.put, List.setIfInBounds_toArray, List.set_cons_zero, List.set_cons_succ] at hQ
                  go_wp2_with (fail)
                  exact hQ _ _ rfl (hJ.other rfl hf (by decide))
                simp only [Act.put, List.setIfInBounds_toArray, List.set_cons_zero, List.set_cons_succ]
                refine wpJ_nil ?_
                intro w9 hJ9
                have hq9 := hJ9.fin rfl
                clear hJ9
                subst hq9
                have u9 := HQ.out.1
                have f2' := HB.out.1.nf dn
                go_wp2_with (fail)
                go_roundw
                case rel => exact ⟨i + 1, by have := HI.out; omega, by go_num, Lib.hid (ls_same HE.out.2.lt HX.out.1 HX.out.2 HS.out (Go.Proofs.YtaldahogjlokkaaGreatDoor.dn wr 1) HD.out HN.out HB.out)⟩
                case measure => have := HI.out; simp [intOf]; omega
              · obtain ⟨c1, c2, c3⟩ := hcond rfl
                have e1 := HJJ.out
                go_upto_region 15 with (go_at_call 15; refine (low_any d 8 (by omega) (by omega) _).mono ?_; rw [HDN.out]; rintro e w2 ⟨rfl, rfl⟩)
                refine region_C 2 wr.drew (fun w9 => w9 = wr.drew) rfl (by kernel_rfl) (by kernel_rfl) ?_
                apply wpJ_op rfl (by rfl)
                · intro f w1 hf hJ Q1 hQ
                  simp only [Act.put, List.setIfInBounds_toArray, List.set_cons_zero, List.set_cons_succ] at hQ
                  go_wp2_with (fail)
                  exact hQ _ _ rfl (hJ.other rfl hf (by decide))
                simp only [Act.put, List.setIfInBounds_toArray, List.set_cons_zero, List.set_cons_succ]
                apply wpJ_op rfl (by rfl)
                · intro f w1 hf hJ Q1 hQ
                  simp only [Act.put, List.setIfInBounds_toArray, List.set_cons_zero, List.set_cons_succ] at hQ
                  go_wp2_with (fail)
                  exact hQ _ _ rfl (hJ.other rfl hf (by decide))
                simp only [Act.put, List.setIfInBounds_toArray, List.set_cons_zero, List.set_cons_succ]
                apply wpJ_op rfl (by rfl)
                · intro f w1 hf hJ Q1 hQ
                  rw [hJ.atC hf.1]
                  simp only [Act.put, List.setIfInBounds_toArray, List.set_cons_zero, List.set_cons_succ] at hQ
                  go_wp2_with (have kw := HQ.out.2; go_at_call 22; refine kw.mono ?_; rintro e w8 ⟨rfl, rfl⟩)
                  exact hQ _ _ rfl (hJ.goC rfl hf rfl)
                simp only [Act.put, List.setIfInBounds_toArray, List.set_cons_zero, List.set_cons_succ]
                apply wpJ_op rfl (by rfl)
                · intro f w1 hf hJ Q1 hQ
                  simp only [Act.put, List.setIfInBounds_toArray, List.set_cons_zero, List.set_cons_succ] at hQ
                  go_wp2_with (fail)
                  exact hQ _ _ rfl (hJ.other rfl hf (by decide))
                simp only [Act.put, List.setIfInBounds_toArray, List.set_cons_zero, List.set_cons_succ]
                apply wpJ_op rfl (by rfl)
                · intro f w1 hf hJ Q1 hQ
                  simp only [Act.put, List.setIfInBounds_toArray, List.set_cons_zero, List.set_cons_succ] at hQ
                  go_wp2_with (fail)
                  exact hQ _ _ rfl (hJ.other rfl hf (by decide))
                simp only [Act.put, List.setIfInBounds_toArray, List.set_cons_zero, List.set_cons_succ]
                apply wpJ_op rfl (by rfl)
                · intro f w1 hf hJ Q1 hQ
                  simp only [Act.put, List.setIfInBounds_toArray, List.set_cons_zero, List.set_cons_succ] at hQ
                  go_wp2_with (fail)
                  exact hQ _ _ rfl (hJ.other rfl hf (by decide))
                simp only [Act.put, List.setIfInBounds_toArray, List.set_cons_zero, List.set_cons_succ]
                apply wpJ_op rfl (by rfl)
                · intro f w1 hf hJ Q1 hQ
                  have hF := hJ.any (F := fun u => u.cell? ⟨ub, dn, none⟩ = some (.bool false)) HQ.out.1 (fun u hu => by rw [hu]; exact HQ.out.1)
                  simp only [Act.put, List.setIfInBounds_toArray, List.set_cons_zero, List.set_cons_succ] at hQ
                  go_wp2_with (fail)
                  exact hQ _ _ rfl (hJ.other rfl hf (by decide))
                simp only [Act.put, List.setIfInBounds_toArray, List.set_cons_zero, List.set_cons_succ]
                apply wpJ_op rfl (by rfl)
                · intro f w1 hf hJ Q1 hQ
                  simp only [Act.put, List.setIfInBounds_toArray, List.set_cons_zero, List.set_cons_succ] at hQ
                  go_wp2_with (fail)
                  exact hQ _ _ rfl (hJ.other rfl hf (by decide))
                simp only [Act.put, List.setIfInBounds_toArray, List.set_cons_zero, List.set_cons_succ]
                refine wpJ_nil ?_
                intro w9 hJ9
                have hq9 := hJ9.fin rfl
                clear hJ9
                subst hq9
                have u9 := HQ.out.1
                have f2' := HB.out.1.nf dn
                go_wp2_with (fail)
                go_roundw
                case rel => exact ⟨i + 1, by have := HI.out; omega, by go_num, Lib.hid (ls_same HE.out.2.lt HX.out.1 HX.out.2 HS.out (Go.Proofs.YtaldahogjlokkaaGreatDoor.dn wr 1) HD.out HN.out HB.out)⟩
                case measure => have := HI.out; simp [intOf]; omega
          · have f1 : (k == 5) = false := by simpa using hk5
            have f2 : decide (k = 5) = false := by simpa using hk5
            by_cases hj8 : j < 8
            · have e1 : decide ((j : Int) < 8) = true := by simp; omega
              obtain ⟨c1, c2, c3⟩ := hcond (he0 ▸ e1)
              have hop := k_open HD.out (by have := HI.out; omega) 3 (by decide) b HS.out.pr j hj8 (HO.out hj8) HJ.out [47, 102] (by simp) 1 1 HN.out.opens ⟨#[47, 102]⟩ rfl
              have HX := Lib.hid hj8
              clear hj8 he0 hcond HJJ hk5
              go_wp2_with (go_at_call 13; go_loud (refine hop.mono ?_; rintro e w2 ⟨x, hxn, rfl, hU2, O2, hD2, hO2⟩; rw [flE1] at hD2; have c1' := ls_used HB.out (show (usC (S.sl b))[j]? = some (.bool false) by rw [usC_at _ HX.out, HO.out HX.out]; rfl) hU2; have f2' := (Blk.upd hU2 HB.out.1 HB.out.2.2.1).nf j; have H2 := Lib.hid (ls_put (n := i) (d := j) HE.out.2.lt HX.out (HO.out HX.out) (by cases hh : S.th x with | none => rfl | some t => exact absurd (HD.out.fd.x x t hh).lt (by omega)) HS.out hU2 hD2 hO2 HB.out); clear hop hxn hU2 hD2 hO2 c1))
              go_roundw
              case rel => exact ⟨i + 1, by have := HI.out; omega, by go_num, H2⟩
              case measure => have := HI.out; simp [intOf]; omega
            · have e1 : decide ((j : Int) < 8) = false := by simp; omega
              obtain rfl : j = 8 := by omega
              have hop := k_openfull HD.out.fd 3 (by decide) b HS.out.pr HJ.out 1 ⟨#[47, 102]⟩
              clear hj8 he0 hcond HJJ hk5 hj
              go_wp2_with (go_at_call 13; go_loud (refine hop.mono ?_; rintro e w2 ⟨rfl, hB2⟩; have H2 := Lib.hid (ls_full (n := i) HS.out hB2 HD.out HN.out HB.out); clear hop hB2))
              go_roundw
              case rel => exact ⟨i + 1, by have := HI.out; omega, by go_num, H2⟩
              case measure => have := HI.out; simp [intOf]; omega
    · have d5 : decide ((i : Int) < (len : Int)) = false := by simp; omega
      have d5n : decide (i < len) = false := by simp; omega
      obtain rfl : i = len := by omega
      clear hil hi hD hS hn hB
      go_wp2_with (fail)
      go_loopw [13, 14] (fun v13 v14 wq => ∃ j : Nat, j ≤ 8 ∧ v14 = .int .i64 j ∧ v13 = .int .i64 (cntU (S.sl b) j) ∧ wq = wr) (fun _ v14 _ => 8 - (intOf v14).toNat)
      case atStart => exact ⟨0, Nat.zero_le _, rfl, rfl, rfl⟩
      case round =>
        obtain ⟨j, hj, rfl, rfl, rfl⟩ := hrel
        have hcj := cntU_le (S.sl b) j
        by_cases hj8 : j < 8
        · have e1 : decide ((j : Int) < 8) = true := by simp; omega
          have j1 : (j : Int) < 8 := by omega
          have j2 : (0 : Int) ≤ j := by omega
          have u0 : wr.cell? ⟨ub, j, none⟩ = some (.bool (S.sl b j).isSome) := by rw [HB.out.1.rd, usC_at _ hj8]
          have HX := Lib.hid (show cntU (S.sl b) (j + 1) = cntU (S.sl b) j + (if (S.sl b j).isSome then 1 else 0) from rfl)
          cases hh : (S.sl b j).isSome
          · rw [hh] at u0
            have HH := Lib.hid hh
            clear hh
            go_wp2_with (fail)
            go_roundw
            case rel => exact ⟨j + 1, by omega, by go_num, by rw [HX.out, HH.out]; rfl, by trivial⟩
            case measure => simp [intOf]; omega
          · rw [hh] at u0
            have HH := Lib.hid hh
            clear hh
            go_wp2_with (fail)
            go_roundw
            case rel => exact ⟨j + 1, by omega, by go_num, by rw [HX.out, HH.out]; simp, by trivial⟩
            case measure => simp [intOf]; omega
        · have e1 : decide ((j : Int) < 8) = false := by simp; omega
          obtain rfl : j = 8 := by omega
          have hus := k_used HD.out.fd 3 (by decide) b HS.out.pr
          have HL := Lib.hid (usedL_cnt (S.sl b) 8)
          clear hj hj8
          go_wp2_with (first
            | (go_at_call 23; go_loud (refine hus.mono ?_; rintro e w7 ⟨ua, uc, ug, rfl, -, -, hB7⟩; rw [HL.out]; have hB8 := HD.out.bel.trans (hB7.mono HD.out.bel.size); have haw := k_awake w7 (MC.below HE.out.2 hB8) HE.out.1; have H8 := Lib.hid hB8; clear hus hB7 hB8))
            | (go_at_call 10; go_loud (refine haw.mono ?_; rintro e w9 ⟨rfl, hb9⟩; have H9 := Lib.hid (H8.out.trans (hb9.mono H8.out.size)); clear haw hb9 H8)))
          go_ret
          exact ⟨rfl, H9.out⟩
end Go.Proofs.YtaldahogjlokkaaGreatDoor
