/-
  The vfs with its bytes: what is written, read; a vfs of the call's own (DV), and what each call makes of it.
-/
import Derived.Test.YtjpjafajploiaaaGreatDoorV6
namespace Go.Proofs.YtjpjafajploiaaaGreatDoor
set_option linter.unusedSimpArgs false
set_option linter.unusedVariables false
open Go.RowKit Own RegJ Two
open Go.Lib hiding intOf

def setB (nd : Nd) (bs : List Int) : Nd := { nd with bs := bs }
theorem files_put {ns : NSt} {i : Nat} {nd : Nd} (hi : ns i = some nd) (hd : nd.dir = false) (bs : List Int) : filesOf (nsPut ns i (some (setB nd bs))) = fsPut (filesOf ns) i (some bs) := by
  funext j
  unfold filesOf nsPut fsPut setB
  by_cases h : j = i
  · rw [if_pos h, if_pos h]; simp [hd]
  · rw [if_neg h, if_neg h]
theorem fsAt_files (ns : NSt) (id : Int) : fsAt (filesOf ns) id = (match ndAt ns id with | some nd => if nd.dir = true then none else some nd.bs | none => none) := by
  unfold fsAt filesOf ndAt
  by_cases h : 0 ≤ id
  · simp only [if_pos h]
    cases ns id.toNat <;> rfl
  · simp only [if_neg h]
/-- what a Write answers, and the nodes behind it -/
def wrF (ns : NSt) (F : Nat) (id off : Int) (b : List Int) : Int × NSt := match ndAt ns id with
  | none => (4, ns)
  | some nd => if nd.dir = true then (4, ns) else if off < 0 then (19, ns) else if b.length = 0 then (0, ns) else if 512 < b.length ∨ 512 - (b.length : Int) < off then (15, ns)
    else if F + (nd.bs.length + 63) / 64 < usedN (filesOf ns) 16 + (max nd.bs.length (off.toNat + b.length) + 63) / 64 then (15, ns)
    else (0, nsPut ns id.toNat (some (setB nd (writeB nd.bs off.toNat b))))
/-- the same nodes but for their bytes -/
def SameN (ns ns' : NSt) : Prop := ns' = ns ∨ ∃ i nd bs, ns i = some nd ∧ nd.dir = false ∧ ns' = nsPut ns i (some (setB nd bs))
theorem wrF_is (ns : NSt) (F : Nat) (id off : Int) (b : List Int) : writeR (filesOf ns) F id off b = ((wrF ns F id off b).1, filesOf (wrF ns F id off b).2) ∧ SameN ns (wrF ns F id off b).2 := by
  unfold writeR wrF
  rw [fsAt_files]
  cases hn : ndAt ns id with
  | none => exact ⟨rfl, Or.inl rfl⟩
  | some nd =>
    obtain ⟨i, rfl, hi⟩ := ndAt_some hn
    cases hd : nd.dir with
    | true =>
      simp only [hd, if_true]
      exact ⟨trivial, Or.inl rfl⟩
    | false =>
      simp only [hd, Int.toNat_natCast, Bool.false_eq_true, if_false]
      by_cases h1 : off < 0
      · rw [if_pos h1, if_pos h1]; exact ⟨rfl, Or.inl rfl⟩
      · rw [if_neg h1, if_neg h1]
        by_cases h2 : b.length = 0
        · rw [if_pos h2, if_pos h2]; exact ⟨rfl, Or.inl rfl⟩
        · rw [if_neg h2, if_neg h2]
          by_cases h3 : 512 < b.length ∨ 512 - (b.length : Int) < off
          · rw [if_pos h3, if_pos h3]; exact ⟨rfl, Or.inl rfl⟩
          · rw [if_neg h3, if_neg h3]
            by_cases h4 : F + (nd.bs.length + 63) / 64 < usedN (filesOf ns) 16 + (max nd.bs.length (off.toNat + b.length) + 63) / 64
            · rw [if_pos h4, if_pos h4]; exact ⟨rfl, Or.inl rfl⟩
            · rw [if_neg h4, if_neg h4]
              exact ⟨by rw [files_put hi hd], Or.inr ⟨i, nd, _, hi, hd, rfl⟩⟩
theorem SameN.iv {ns ns' : NSt} {c : Nat} (h : SameN ns ns') (hV : IV ns c) : IV ns' c := by
  rcases h with rfl | ⟨i, nd, bs, hi, hd, rfl⟩
  · exact hV
  · have hp : ∀ j x, nsPut ns i (some (setB nd bs)) j = some x → ∃ y, ns j = some y ∧ x.dir = y.dir ∧ x.links = y.links ∧ x.opens = y.opens ∧ x.es = y.es := fun j x hx => by
      rcases put_some hx with ⟨rfl, rfl⟩ | ⟨_, hx⟩
      · exact ⟨nd, hi, rfl, rfl, rfl, rfl⟩
      · exact ⟨x, hx, rfl, rfl, rfl, rfl⟩
    refine ⟨hV.inv.opens hi rfl rfl (hV.inv.opn i nd hi), rt_put hV.root i _ (fun _ => rfl), fun j x hx => ?_, fun j x hx => ?_, fun j x hx => ?_, ?_, fun j x hx hxd => ?_⟩
    · obtain ⟨y, hy, _, _, _, e⟩ := hp j x hx
      rw [e]; exact hV.len j y hy
    · obtain ⟨y, hy, _, _, _, e⟩ := hp j x hx
      rw [e]; exact hV.srt j y hy
    · obtain ⟨y, hy, _, _, e, _⟩ := hp j x hx
      rw [e]; exact hV.opn j y hy
    · intro j x hj0 hjf hx
      obtain ⟨y, hy, e1, e2, e3, e4⟩ := hp j x hx
      rw [e2, e3]; exact hV.clean j y hj0 hjf hy
    · obtain ⟨y, hy, e1, _, _, e⟩ := hp j x hx
      rw [e]; exact hV.fil j y hy (by rw [← e1]; exact hxd)
theorem SameN.cond {ns ns' : NSt} (h : SameN ns ns') : (∀ i, (ns' i).isSome = (ns i).isSome) ∧ ∀ i nd, ns' i = some nd → ∃ nd0, ns i = some nd0 ∧ nd.dir = nd0.dir ∧ nd.links = nd0.links ∧ nd.opens = nd0.opens ∧ nd.es = nd0.es := by
  rcases h with rfl | ⟨i, nd, bs, hi, hd, rfl⟩
  · exact ⟨fun _ => rfl, fun i nd h => ⟨nd, h, rfl, rfl, rfl, rfl⟩⟩
  · refine ⟨fun j => ?_, fun j x hx => ?_⟩
    · by_cases e : j = i
      · subst e; rw [put_eq, hi]; rfl
      · rw [put_ne _ _ _ e]
    · rcases put_some hx with ⟨rfl, rfl⟩ | ⟨_, hx⟩
      · exact ⟨nd, hi, rfl, rfl, rfl, rfl⟩
      · exact ⟨x, hx, rfl, rfl, rfl, rfl⟩
/-! ### a vfs of the call's own -/
def DV [Inhabited CapT] (w0 : World) (vb tb fb sb : Nat) (ns : NSt) (c : Nat) (w : World) : Prop := ∃ lo, VV w vb tb ns lo c ∧ Below w0.heap.size w0 w ∧ (∀ r k, lo r = some k → w0.heap.size ≤ k) ∧ lo (.st .frm) = some fb ∧ lo (.st .sto) = some sb
/-- behind a call at it -/
def DP [Inhabited CapT] (w0 : World) (vb tb fb sb : Nat) (ns : NSt) (c : Nat) (v : Value) (e : Ending) (w : World) : Prop := e = .returned v ∧ DV w0 vb tb fb sb ns c w
section
variable {w0 w w' : World} {vb tb fb sb : Nat} {ns ns' ns2 : NSt} {lo : Lo} {c d : Nat}
theorem DV.le [Inhabited CapT] (h : DV w0 vb tb fb sb ns c w) (hcd : c ≤ d) : DV w0 vb tb fb sb ns d w := by
  obtain ⟨lo, h1, h2, h3⟩ := h
  exact ⟨lo, h1.le hcd, h2, h3⟩
theorem DV.below [Inhabited CapT] (h : DV w0 vb tb fb sb ns c w) (hB : Below w.heap.size w w') : DV w0 vb tb fb sb ns c w' := by
  obtain ⟨lo, h1, h2, h3⟩ := h
  exact ⟨lo, h1.below hB, h2.trans (hB.mono h2.size), h3⟩
theorem DV.fr [Inhabited CapT] {lo lo' : Lo} (hV : VV w' vb tb ns' lo' c) (hF : TFr lo lo' w w') (hB : Below w0.heap.size w0 w) (hb : ∀ r k, lo r = some k → w0.heap.size ≤ k) (h1 : lo (.st .frm) = some fb) (h2 : lo (.st .sto) = some sb) : DV w0 vb tb fb sb ns' c w' := by
  obtain ⟨b1, b2⟩ := hF.below hb hB.size
  exact ⟨lo', hV, hB.trans b1, b2, hF.2.2.2.trans h1, hF.2.2.1.trans h2⟩
theorem DV.far [Inhabited CapT] (h : DV w0 vb tb fb sb ns c w) : ∀ j, 16 ≤ j → ns j = none := by
  obtain ⟨lo, h1, _⟩ := h
  exact h1.1.2.1.far
/-- the nodes said otherwise -/
theorem DV.eq [Inhabited CapT] (h : DV w0 vb tb fb sb ns c w) (h16 : (List.range 16).map ns = (List.range 16).map ns2) (hf : ∀ j, 16 ≤ j → ns2 j = none) : DV w0 vb tb fb sb ns2 c w := by
  have : ns = ns2 := by
    funext j
    by_cases hj : j < 16
    · have := congrArg (fun l => l[j]?) h16
      simp only [List.getElem?_map] at this
      rw [List.getElem?_range hj] at this
      simpa using this
    · rw [h.far j (by omega), hf j (by omega)]
  subst this
  exact h
theorem d_mk [Inhabited CapT] (h : DV w0 vb tb fb sb ns c w) (hc : c ≤ 9000) (l : Txt) (hl : l.length ≤ 100000) (r : Int) (ns' : NSt) (hr : atPar ns l (mkdirF ns) = (r, ns')) (s : ByteArray) (hs : s = B l) :
    Calls Tryz.prog 50 #[.pointer (some ⟨vb, 0, none⟩), .string s] w (DP w0 vb tb fb sb ns' (c + 4) (.int .i64 r)) := by
  subst hs
  obtain ⟨lo, h1, h2, h3, h4, h5⟩ := h
  refine (Mkdir_is h1 hc l hl r _ hr).mono ?_
  rintro e w' ⟨rfl, lo', g1, g2⟩
  exact ⟨rfl, DV.fr g1 g2 h2 h3 h4 h5⟩
theorem d_un [Inhabited CapT] (h : DV w0 vb tb fb sb ns c w) (hc : c ≤ 9000) (l : Txt) (hl : l.length ≤ 100000) (r : Int) (ns' : NSt) (hr : atPar ns l (fun d nm => remF ns d nm false 12) = (r, ns')) (s : ByteArray) (hs : s = B l) :
    Calls Tryz.prog 49 #[.pointer (some ⟨vb, 0, none⟩), .string s] w (DP w0 vb tb fb sb ns' (c + 1) (.int .i64 r)) := by
  subst hs
  obtain ⟨lo, h1, h2, h3, h4, h5⟩ := h
  refine (Unlink_is h1 hc l hl r _ hr).mono ?_
  rintro e w' ⟨rfl, lo', g1, g2⟩
  exact ⟨rfl, DV.fr g1 g2 h2 h3 h4 h5⟩
theorem d_new [Inhabited CapT] (h : DV w0 vb tb fb sb ns c w) (hc : c ≤ 9000) (l : Txt) (hl : l.length ≤ 100000) (hw : walkR ns l = (0, 9)) (a r : Int) (ns' : NSt) (hr : newF ns l = (a, r, ns')) (s : ByteArray) (hs : s = B l) :
    Calls Tryz.prog 79 #[.pointer (some ⟨vb, 0, none⟩), .string s, .int .i64 1] w (DP w0 vb tb fb sb ns' (c + 3) (.tuple #[.int .i64 a, .int .i64 r])) := by
  subst hs
  obtain ⟨lo, h1, h2, h3, h4, h5⟩ := h
  refine (open_new h1 hc l hl hw a r _ hr).mono ?_
  rintro e w' ⟨rfl, lo', g1, g2⟩
  exact ⟨rfl, DV.fr g1 g2 h2 h3 h4 h5⟩
theorem d_walk [Inhabited CapT] (h : DV w0 vb tb fb sb ns c w) (l : Txt) (hl : l.length ≤ 100000) (r1 r2 : Int) (hr : walkR ns l = (r1, r2)) (s : ByteArray) (hs : s = B l) :
    Calls Tryz.prog 70 #[.pointer (some ⟨vb, 0, none⟩), .string s] w (DP w0 vb tb fb sb ns c (.tuple #[.int .i64 r1, .int .i64 r2])) := by
  subst hs
  have h' := h
  obtain ⟨lo, h1, h2, h3, h4, h5⟩ := h
  refine (walk_is h1.1 l hl r1 r2 hr).mono ?_
  rintro e w' ⟨rfl, hB⟩
  exact ⟨rfl, h'.below hB⟩
theorem d_nodes [Inhabited CapT] (h : DV w0 vb tb fb sb ns c w) : Calls Tryz.prog 30 #[.pointer (some ⟨vb, 0, none⟩)] w fun e w' => e = .returned (.pointer (some ⟨tb, 0, none⟩)) ∧ w = w' := by
  obtain ⟨lo, h1, h2, h3⟩ := h
  have c0 := h1.1.cell
  clear h1 h2 h3
  go_enter Tryz.func30, Tryz.ntmps30
  go_wp2
  go_ret
  exact ⟨rfl, rfl⟩
theorem d_store [Inhabited CapT] (h : DV w0 vb tb fb sb ns c w) : Calls Tryz.prog 141 #[.pointer (some ⟨vb, 0, none⟩)] w fun e w' => e = .returned (.pointer (some ⟨sb, 0, none⟩)) ∧ w = w' := by
  obtain ⟨lo, h1, h2, h3, h4, h5⟩ := h
  obtain ⟨sb', k1, c0⟩ := h1.1.cell0
  obtain rfl : sb = sb' := by rw [h5] at k1; exact Option.some.inj k1
  clear h1 h2 h3 h4 h5 k1
  go_enter Tryz.func141, Tryz.ntmps141
  go_wp2
  go_ret
  exact ⟨rfl, rfl⟩
theorem d_len [Inhabited CapT] (h : DV w0 vb tb fb sb ns c w) (n : Int) (hn : (lenN ns 16 : Int) = n) : Calls Tryz.prog 31 #[.pointer (some ⟨tb, 0, none⟩)] w fun e w' => e = .returned (.int .i64 n) ∧ w = w' := by
  obtain ⟨lo, h1, h2, h3⟩ := h
  subst hn
  exact len_is h1.1.2.1
theorem d_cl [Inhabited CapT] (h : DV w0 vb tb fb sb ns c w) (hc : c ≤ 9000) (id : Int) (r : Int) (ns' : NSt) (hr : closeF ns id = (r, ns')) :
    Calls Tryz.prog 82 #[.pointer (some ⟨tb, 0, none⟩), .int .i64 id] w (DP w0 vb tb fb sb ns' (c + 1) (.int .i64 r)) := by
  obtain ⟨lo, h1, h2, h3, h4, h5⟩ := h
  have hiv := closeF_iv h1.2 id
  rw [hr] at hiv
  refine (close_f h1.1.2.1 h1.2 (by omega) id r _ hr).mono ?_
  rintro e w' ⟨rfl, lo', hT, hF⟩
  exact ⟨rfl, DV.fr ⟨(h1.1.step hT hF).le (by omega), hiv⟩ hF h2 h3 h4 h5⟩
theorem d_free [Inhabited CapT] (h : DV w0 vb tb fb sb ns c w) (n : Int) (hn : (capN : Int) - usedN (filesOf ns) 16 = n) : Calls Tryz.prog 59 #[.pointer (some ⟨fb, 0, none⟩)] w (DP w0 vb tb fb sb ns c (.int .i64 n)) := by
  have h' := h
  obtain ⟨lo, h1, h2, h3, h4, h5⟩ := h
  subst hn
  refine (s_free h1.1.2.1.sto fb h4).mono ?_
  rintro e w' ⟨rfl, hB⟩
  exact ⟨rfl, h'.below hB⟩
theorem d_size [Inhabited CapT] (h : DV w0 vb tb fb sb ns c w) (id : Int) (hw : (Lit.int .i64 id).wf = true) (r1 r2 : Int) (hr : sizeV (filesOf ns) id = (r1, r2)) : Calls Tryz.prog 142 #[.pointer (some ⟨sb, 0, none⟩), .int .i64 id] w fun e w' => e = .returned (.tuple #[.int .i64 r1, .int .i64 r2]) ∧ w = w' := by
  obtain ⟨lo, h1, h2, h3, h4, h5⟩ := h
  exact s_size h1.1.2.1.sto sb h5 id hw r1 r2 hr
/-- behind a Read: a row of the call's own -/
def DRead [Inhabited CapT] (w0 : World) (vb tb fb sb : Nat) (ns : NSt) (c : Nat) (ys : List Int) (er : Int) (w : World) (e : Ending) (w' : World) : Prop := ∃ v b, e = .returned (.tuple #[v, .int .i64 er]) ∧ RowV w' 5 v (ucells ys) b ∧ (∀ g, b = some g → w.heap.size ≤ g) ∧ DV w0 vb tb fb sb ns c w' ∧ Below w.heap.size w w'
theorem d_read [Inhabited CapT] (h : DV w0 vb tb fb sb ns c w) (id : Int) (hw : (Lit.int .i64 id).wf = true) (off n : Int) (hoff : off ≤ 9223372036854775807) (hn : n ≤ 9223372036854775807) (ys : List Int) (er : Int) (hr : readV (filesOf ns) id off n = (ys, er)) :
    Calls Tryz.prog 189 #[.pointer (some ⟨sb, 0, none⟩), .int .i64 id, .int .i64 off, .int .i64 n] w (DRead w0 vb tb fb sb ns c ys er w) := by
  have h' := h
  obtain ⟨lo, h1, h2, h3, h4, h5⟩ := h
  refine (s_read h1.1.2.1.sto sb h5 id hw off n hoff hn ys er hr).mono ?_
  rintro e w' ⟨v, b, rfl, k1, k2, hB⟩
  exact ⟨v, b, rfl, k1, k2, h'.below hB, hB⟩
/-- a Close behind a Read keeps the row that was read -/
theorem d_clr [Inhabited CapT] {w1 : World} (h : DV w0 vb tb fb sb ns c w) (hB : Below w.heap.size w w1) {v : Value} {ys : List Int} {b : Option Nat} (hR : RowV w1 5 v (ucells ys) b) (hb : ∀ g, b = some g → w.heap.size ≤ g) (hc : c ≤ 9000) (id : Int) (r : Int) (ns' : NSt) (hr : closeF ns id = (r, ns')) :
    Calls Tryz.prog 82 #[.pointer (some ⟨tb, 0, none⟩), .int .i64 id] w1 fun e w' => DP w0 vb tb fb sb ns' (c + 1) (.int .i64 r) e w' ∧ RowV w' 5 v (ucells ys) b := by
  obtain ⟨lo, h1, h2, h3, h4, h5⟩ := h
  have hiv := closeF_iv h1.2 id
  rw [hr] at hiv
  have h1' := h1.below hB
  refine (close_f h1'.1.2.1 h1.2 (by omega) id r _ hr).mono ?_
  rintro e w' ⟨rfl, lo', hT, hF⟩
  exact ⟨⟨rfl, DV.fr ⟨(h1'.1.step hT hF).le (by omega), hiv⟩ hF (h2.trans (hB.mono h2.size)) h3 h4 h5⟩, hR.upd hF.1 (fun g hg ⟨q, hq⟩ => by have := hb g hg; have := h1.1.2.1.lt q g hq; omega)⟩
/-- a row of bytes that came in -/
def ArgB (w0 : World) (v : Value) (b : List Int) : Prop := ∃ a c, v = .slice a b.length c ∧ b.length ≤ c ∧ (0 < b.length → ∃ g q, a = some ⟨g, q, none⟩ ∧ RdV w0 (some ⟨g, q, none⟩) (ucells b) ∧ g < w0.heap.size)
theorem rdv_far {b : List Int} {g q : Nat} (h : RdV w0 (some ⟨g, q, none⟩) (ucells b)) (hg : g < w0.heap.size) (hB : Below w0.heap.size w0 w) : RdV w (some ⟨g, q, none⟩) (ucells b) := by
  intro j u hj
  obtain ⟨A, e, h2⟩ := h j u hj
  cases e
  refine ⟨_, rfl, ?_⟩
  rw [← h2]
  exact hB.cell (by rw [Addr.add_mid]; exact hg)
theorem d_write [Inhabited CapT] (h : DV w0 vb tb fb sb ns c w) (id : Int) (hw : (Lit.int .i64 id).wf = true) (off : Int) (b : List Int) (hb6 : b.length ≤ 1000000) (v : Value) (hv : ArgB w0 v b) (r : Int) (ns' : NSt) (hr : wrF ns capN id off b = (r, ns')) :
    Calls Tryz.prog 143 #[.pointer (some ⟨sb, 0, none⟩), .int .i64 id, .int .i64 off, v] w (DP w0 vb tb fb sb ns' c (.int .i64 r)) := by
  obtain ⟨lo, h1, h2, h3, h4, h5⟩ := h
  obtain ⟨g1, g2⟩ := wrF_is ns capN id off b
  rw [hr] at g1 g2
  have hsrc : SrcB w (soOf lo) v b := by
    obtain ⟨a, cc, rfl, k1, k2⟩ := hv
    refine ⟨a, cc, rfl, k1, fun hp => ?_⟩
    obtain ⟨g, q, rfl, k3, k4⟩ := k2 hp
    refine ⟨g, q, rfl, rdv_far k3 k4 h2, fun r k hk => ?_, Nat.lt_of_lt_of_le k4 h2.size⟩
    have := h3 _ _ hk
    omega
  refine (s_write h1.1.2.1.sto sb h5 id hw off b hb6 v hsrc r _ g1).mono ?_
  rintro e w' ⟨rfl, so, hS, hF, hs1, hs2⟩
  have hT := h1.1.2.1.store hS hF hs1 g2.cond.1 g2.cond.2
  have hTF : TFr lo (loSt lo so) w w' := by
    refine ⟨hF.1.mono (fun k _ ⟨q, hq⟩ => ⟨.st q, hq⟩), fun r k hk => ?_, hs1, hs2⟩
    rcases loSt_old hk with ⟨q, rfl, e⟩ | ⟨e, _⟩
    · rcases hF.2 q k e with ⟨q', e⟩ | e
      · exact Or.inl ⟨.st q', e⟩
      · exact Or.inr e
    · exact Or.inl ⟨r, e⟩
  exact ⟨rfl, DV.fr ⟨h1.1.step hT hTF, g2.iv h1.2⟩ hTF h2 h3 h4 h5⟩
end
def DnP [Inhabited CapT] (w0 : World) (fb : Nat) (e : Ending) (w' : World) : Prop := ∃ vb tb sb, e = .returned (.pointer (some ⟨vb, 0, none⟩)) ∧ DV w0 vb tb fb sb ns0 0 w'
theorem d_vnew [Inhabited CapT] {w0 w : World} (hB : Below w0.heap.size w0 w) (n fb bb kb : Nat) (hF : FrB w fb bb kb none (fs0 n)) (g1 : w0.heap.size ≤ fb) (g2 : w0.heap.size ≤ bb) (g3 : w0.heap.size ≤ kb) (n1 : fb ≠ bb) (n2 : fb ≠ kb) (n3 : bb ≠ kb) (h1n : 1 ≤ n) (hc : capI = capV n) (hm : MC w0) : Calls Tryz.prog 33 #[.pointer (some ⟨fb, 0, none⟩)] w (DnP w0 fb) := by
  refine (vnew_is fb bb kb n w hF n1 n2 n3 h1n hc (hm.below hB) w0.heap.size g1 g2 g3 hB.size hm.lt).mono ?_
  rintro e w' ⟨vb, tb, lo, rfl, hV, hB', hb, hf⟩
  obtain ⟨sb, hs, _⟩ := hV.1.cell0
  exact ⟨vb, tb, sb, rfl, lo, hV, hB.trans (hB'.mono hB.size), hb, hf, hs⟩
end Go.Proofs.YtjpjafajploiaaaGreatDoor
