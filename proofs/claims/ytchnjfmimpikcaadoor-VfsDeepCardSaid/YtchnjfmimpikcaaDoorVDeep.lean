/-
  VfsDeep: directories in one another: what each call answers at them (plain), and the walk.
-/
import Derived.Test.YtchnjfmimpikcaaDoorV6
import Derived.Test.YtchnjfmimpikcaaDoorLow
namespace Go.Proofs.YtchnjfmimpikcaaDoor
set_option linter.unusedSimpArgs false
set_option linter.unusedVariables false
open Go.RowKit Own RegJ Two
open Go.Lib hiding intOf

/-! ### plain -/
def ndEq (a b : Option Nd) : Bool := match a, b with
  | none, none => true
  | some x, some y => x.dir == y.dir && (x.links == y.links && (x.opens == y.opens && decide (x.es = y.es)))
  | _, _ => false
theorem ndEq_eq {a b : Option Nd} (h : ndEq a b = true) : a = b := by
  cases a with
  | none => cases b with
    | none => rfl
    | some y => cases h
  | some x => cases b with
    | none => cases h
    | some y =>
      cases x; cases y
      simp only [ndEq, Bool.and_eq_true, beq_iff_eq, decide_eq_true_eq] at h
      obtain ⟨rfl, rfl, rfl, rfl⟩ := h
      rfl
/-- i directories, one in another -/
def dN (i : Nat) : NSt := fun j => if j = 0 then some ⟨true, 0, 0, if 0 < i then [([100], 1)] else []⟩ else if j ≤ i then some ⟨true, 1, 0, if j < i then [([100], ((j + 1 : Nat) : Int))] else []⟩ else none
/-- a file in the inmost one -/
def fN (o : Int) (i : Nat) : NSt := fun j => if j = i + 1 then some ⟨false, 1, o, []⟩ else if j = i then some ⟨true, if i = 0 then 0 else 1, 0, [([102], ((i + 1 : Nat) : Int))]⟩ else dN i j
def pth : Nat → Txt
  | 0 => []
  | i + 1 => pth i ++ [47, 100]
def okN (x : NSt) (y : NSt) : Bool := (List.range 16).all fun j => ndEq (x j) (y j)
theorem okN_eq {x y : NSt} (h : okN x y = true) (hx : ∀ j, 16 ≤ j → x j = none) (hy : ∀ j, 16 ≤ j → y j = none) : x = y := by
  funext j
  by_cases hj : j < 16
  · exact ndEq_eq (List.all_eq_true.1 h j (List.mem_range.2 hj))
  · rw [hx j (by omega), hy j (by omega)]
def okR (p : Int × NSt) (r : Int) (y : NSt) : Bool := p.1 == r && okN p.2 y
def okO (p : Int × Int × NSt) (a r : Int) (y : NSt) : Bool := p.1 == a && (p.2.1 == r && okN p.2.2 y)
theorem dN_far (i : Nat) (hi : i ≤ 4) : ∀ j, 16 ≤ j → dN i j = none := fun j hj => by
  unfold dN; rw [if_neg (by omega), if_neg (by omega)]
theorem fN_far (o : Int) (i : Nat) (hi : i ≤ 4) : ∀ j, 16 ≤ j → fN o i j = none := fun j hj => by
  unfold fN; rw [if_neg (by omega), if_neg (by omega), dN_far i hi j hj]
theorem dN_zero : dN 0 = ns0 := by
  funext j
  unfold dN ns0
  by_cases hj : j = 0
  · rw [if_pos hj, if_pos hj]; rfl
  · rw [if_neg hj, if_neg hj, if_neg (by omega)]
theorem p_mk : ∀ i, i < 4 → okR (atPar (dN i) (pth (i + 1)) (mkdirF (dN i))) 0 (dN (i + 1)) = true := by decide +kernel
theorem p_mk2 : ∀ i, i < 4 → okR (atPar (dN (i + 1)) (pth (i + 1)) (mkdirF (dN (i + 1)))) 10 (dN (i + 1)) = true := by decide +kernel
theorem p_rm : ∀ i, i < 4 → okR (atPar (dN (i + 1)) (pth (i + 1)) (fun d nm => remF (dN (i + 1)) d nm true 11)) 0 (dN i) = true := by decide +kernel
theorem p_un : ∀ i, i < 4 → okR (atPar (dN (i + 1)) (pth (i + 1)) (fun d nm => remF (dN (i + 1)) d nm false 12)) 12 (dN (i + 1)) = true := by decide +kernel
theorem p_rm2 : ∀ i, i < 3 → okR (atPar (dN (i + 2)) (pth (i + 1)) (fun d nm => remF (dN (i + 2)) d nm true 11)) 13 (dN (i + 2)) = true := by decide +kernel
abbrev sF : Txt := [47, 102]
abbrev sFX : Txt := [47, 102, 47, 120]
theorem p_wk : ∀ i, i < 5 → walkR (dN i) (pth i ++ sF) = (0, 9) := by decide +kernel
theorem p_op : ∀ i, i < 5 → okO (newF (dN i) (pth i ++ sF)) ((i + 1 : Nat) : Int) 0 (fN 1 i) = true := by decide +kernel
theorem p_cl : ∀ i, i < 5 → okR (closeF (fN 1 i) ((i + 1 : Nat) : Int)) 0 (fN 0 i) = true := by decide +kernel
theorem p_rf : ∀ i, i < 4 → okR (atPar (fN 0 (i + 1)) (pth (i + 1)) (fun d nm => remF (fN 0 (i + 1)) d nm true 11)) 13 (fN 0 (i + 1)) = true := by decide +kernel
theorem p_mx : ∀ i, i < 5 → okR (atPar (fN 0 i) (pth i ++ sFX) (mkdirF (fN 0 i))) 11 (fN 0 i) = true := by decide +kernel
theorem p_rx : ∀ i, i < 5 → okR (atPar (fN 0 i) (pth i ++ sF) (fun d nm => remF (fN 0 i) d nm true 11)) 11 (fN 0 i) = true := by decide +kernel
theorem p_ux : ∀ i, i < 5 → okR (atPar (fN 0 i) (pth i ++ sF) (fun d nm => remF (fN 0 i) d nm false 12)) 0 (dN i) = true := by decide +kernel
theorem pth_len : ∀ i, (pth i).length = 2 * i
  | 0 => rfl
  | i + 1 => by rw [pth, List.length_append, pth_len i]; simp; omega
theorem pth_take (i : Nat) : ∀ n, i ≤ n → pc (pth n) 0 (2 * i) = pth i
  | 0, h => by obtain rfl : i = 0 := by omega
               rfl
  | n + 1, h => by
    by_cases e : i = n + 1
    · subst e
      unfold pc
      rw [List.drop_zero, List.take_of_length_le (by rw [pth_len]; omega)]
    · have := pth_take i n (by omega)
      unfold pc at this ⊢
      rw [pth, List.drop_zero, List.take_append_of_le_length (by rw [pth_len]; omega)]
      rw [List.drop_zero] at this
      simpa using this
/-! ### a vfs of the call's own -/
def DV (w0 : World) (vb tb : Nat) (ns : NSt) (c : Nat) (w : World) : Prop := ∃ lo, VV w vb tb ns lo c ∧ Below w0.heap.size w0 w ∧ ∀ r k, lo r = some k → w0.heap.size ≤ k
/-- behind a call at it -/
def DP (w0 : World) (vb tb : Nat) (ns : NSt) (c : Nat) (v : Value) (e : Ending) (w : World) : Prop := e = .returned v ∧ DV w0 vb tb ns c w
section
variable {w0 w w' : World} {vb tb : Nat} {ns ns' ns2 : NSt} {lo : Lo} {c d : Nat}
theorem DV.le (h : DV w0 vb tb ns c w) (hcd : c ≤ d) : DV w0 vb tb ns d w := by
  obtain ⟨lo, h1, h2, h3⟩ := h
  exact ⟨lo, h1.le hcd, h2, h3⟩
theorem DV.mad {v : Value} {e : Ending} (hB : Below w0.heap.size w0 w) (hb : ∀ r k, lo r = some k → w0.heap.size ≤ k) (h : MadP w vb tb ns' lo c v e w') : DP w0 vb tb ns' c v e w' := by
  obtain ⟨h1, lo', h2, h3⟩ := h
  obtain ⟨b1, b2⟩ := h3.below hb hB.size
  exact ⟨h1, lo', h2, hB.trans b1, b2⟩
theorem DV.fit (h : DV w0 vb tb ns c w) (hok : okN ns ns2 = true) (hf : ∀ j, 16 ≤ j → ns2 j = none) : DV w0 vb tb ns2 c w := by
  obtain ⟨lo, h1, h2, h3⟩ := h
  have := okN_eq hok h1.1.2.1.far hf
  subst this
  exact ⟨lo, h1, h2, h3⟩
theorem DP.fit {v : Value} {e : Ending} (h : DP w0 vb tb ns c v e w) (hok : okN ns ns2 = true) (hf : ∀ j, 16 ≤ j → ns2 j = none) : DP w0 vb tb ns2 c v e w := ⟨h.1, h.2.fit hok hf⟩
theorem okR_out {p : Int × NSt} {r : Int} {y : NSt} (h : okR p r y = true) : p = (r, p.2) ∧ okN p.2 y = true := by
  unfold okR at h
  simp only [Bool.and_eq_true, beq_iff_eq] at h
  exact ⟨Prod.ext h.1 rfl, h.2⟩
theorem okO_out {p : Int × Int × NSt} {a r : Int} {y : NSt} (h : okO p a r y = true) : p = (a, r, p.2.2) ∧ okN p.2.2 y = true := by
  unfold okO at h
  simp only [Bool.and_eq_true, beq_iff_eq] at h
  exact ⟨Prod.ext h.1 (Prod.ext h.2.1 rfl), h.2.2⟩
theorem d_mk (h : DV w0 vb tb ns c w) (hc : c ≤ 9000) (l : Txt) (hl : l.length ≤ 100000) (r : Int) (hok : okR (atPar ns l (mkdirF ns)) r ns2 = true) (hf : ∀ j, 16 ≤ j → ns2 j = none) (s : ByteArray) (hs : s = B l) :
    Calls Tryd.prog 9 #[.pointer (some ⟨vb, 0, none⟩), .string s] w (DP w0 vb tb ns2 (c + 4) (.int .i64 r)) := by
  subst hs
  obtain ⟨lo, h1, h2, h3⟩ := h
  obtain ⟨k1, k2⟩ := okR_out hok
  exact (Mkdir_is h1 hc l hl r _ k1).mono fun e w' hq => (DV.mad h2 h3 hq).fit k2 hf
theorem d_un (h : DV w0 vb tb ns c w) (hc : c ≤ 9000) (l : Txt) (hl : l.length ≤ 100000) (r : Int) (hok : okR (atPar ns l (fun d nm => remF ns d nm false 12)) r ns2 = true) (hf : ∀ j, 16 ≤ j → ns2 j = none) (s : ByteArray) (hs : s = B l) :
    Calls Tryd.prog 14 #[.pointer (some ⟨vb, 0, none⟩), .string s] w (DP w0 vb tb ns2 (c + 1) (.int .i64 r)) := by
  subst hs
  obtain ⟨lo, h1, h2, h3⟩ := h
  obtain ⟨k1, k2⟩ := okR_out hok
  exact (Unlink_is h1 hc l hl r _ k1).mono fun e w' hq => (DV.mad h2 h3 hq).fit k2 hf
theorem d_rm (h : DV w0 vb tb ns c w) (hc : c ≤ 9000) (l : Txt) (hl : l.length ≤ 100000) (r : Int) (hok : okR (atPar ns l (fun d nm => remF ns d nm true 11)) r ns2 = true) (hf : ∀ j, 16 ≤ j → ns2 j = none) (s : ByteArray) (hs : s = B l) :
    Calls Tryd.prog 13 #[.pointer (some ⟨vb, 0, none⟩), .string s] w (DP w0 vb tb ns2 (c + 1) (.int .i64 r)) := by
  subst hs
  obtain ⟨lo, h1, h2, h3⟩ := h
  obtain ⟨k1, k2⟩ := okR_out hok
  exact (Rmdir_is h1 hc l hl r _ k1).mono fun e w' hq => (DV.mad h2 h3 hq).fit k2 hf
theorem d_new (h : DV w0 vb tb ns c w) (hc : c ≤ 9000) (l : Txt) (hl : l.length ≤ 100000) (hw : walkR ns l = (0, 9)) (a r : Int) (hok : okO (newF ns l) a r ns2 = true) (hf : ∀ j, 16 ≤ j → ns2 j = none) (s : ByteArray) (hs : s = B l) :
    Calls Tryd.prog 10 #[.pointer (some ⟨vb, 0, none⟩), .string s, .int .i64 1] w (DP w0 vb tb ns2 (c + 3) (.tuple #[.int .i64 a, .int .i64 r])) := by
  subst hs
  obtain ⟨lo, h1, h2, h3⟩ := h
  obtain ⟨k1, k2⟩ := okO_out hok
  exact (open_new h1 hc l hl hw a r _ k1).mono fun e w' hq => (DV.mad h2 h3 hq).fit k2 hf
theorem nodes_is (h : VB w vb tb ns lo c) : Calls Tryd.prog 11 #[.pointer (some ⟨vb, 0, none⟩)] w fun e w' => e = .returned (.pointer (some ⟨tb, 0, none⟩)) ∧ w = w' := by
  have c0 := h.cell
  clear h
  go_enter Tryd.func11, Tryd.ntmps11
  go_wp2
  go_ret
  exact ⟨rfl, rfl⟩
theorem d_nodes (h : DV w0 vb tb ns c w) : Calls Tryd.prog 11 #[.pointer (some ⟨vb, 0, none⟩)] w fun e w' => e = .returned (.pointer (some ⟨tb, 0, none⟩)) ∧ w = w' := by
  obtain ⟨lo, h1, h2, h3⟩ := h
  exact nodes_is h1.1
theorem d_len (h : DV w0 vb tb ns c w) (n : Int) (hn : (lenN ns 16 : Int) = n) : Calls Tryd.prog 15 #[.pointer (some ⟨tb, 0, none⟩)] w fun e w' => e = .returned (.int .i64 n) ∧ w = w' := by
  obtain ⟨lo, h1, h2, h3⟩ := h
  subst hn
  exact len_is h1.1.2.1
theorem d_cl (h : DV w0 vb tb ns c w) (hc : c ≤ 9000) (id : Int) (r : Int) (hok : okR (closeF ns id) r ns2 = true) (hf : ∀ j, 16 ≤ j → ns2 j = none) :
    Calls Tryd.prog 12 #[.pointer (some ⟨tb, 0, none⟩), .int .i64 id] w (DP w0 vb tb ns2 (c + 1) (.int .i64 r)) := by
  obtain ⟨lo, h1, h2, h3⟩ := h
  obtain ⟨k1, k2⟩ := okR_out hok
  refine (close_f h1.1.2.1 h1.2 (by omega) id r _ k1).mono ?_
  rintro e w' ⟨rfl, lo', hT, hF⟩
  have hiv := closeF_iv h1.2 id
  exact (DV.mad h2 h3 ⟨rfl, lo', ⟨(h1.1.step hT hF).le (by omega), hiv⟩, hF⟩).fit k2 hf
theorem d_aw (h : DV w0 vb tb ns c w) : Calls Tryd.prog 16 #[] w fun e w' => e = .returned (.bool true) ∧ Below w0.heap.size w0 w' := by
  obtain ⟨lo, h1, h2, h3⟩ := h
  refine (vawake w h1.1.2.2.2.1).mono ?_
  rintro e w' ⟨rfl, hB⟩
  exact ⟨rfl, h2.trans (hB.mono h2.size)⟩
end
def DnP (w0 : World) (e : Ending) (w' : World) : Prop := ∃ vb tb, e = .returned (.pointer (some ⟨vb, 0, none⟩)) ∧ DV w0 vb tb (dN 0) 0 w'
theorem d_vnew {w0 w : World} (hB : Below w0.heap.size w0 w) (fb : Nat) (hm : MC w0) : Calls Tryd.prog 7 #[.pointer (some ⟨fb, 0, none⟩)] w (DnP w0) := by
  refine (vnew_is fb w (hm.below hB)).mono ?_
  rintro e w' ⟨vb, tb, lo, rfl, hV, hB', hb⟩
  rw [← dN_zero] at hV
  exact ⟨vb, tb, rfl, lo, hV, hB.trans (hB'.mono hB.size), fun r k hk => Nat.le_trans hB.size (hb r k hk)⟩
end Go.Proofs.YtchnjfmimpikcaaDoor
