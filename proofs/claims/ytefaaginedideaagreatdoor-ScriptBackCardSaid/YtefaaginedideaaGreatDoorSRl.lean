/-
  Script: a line read, by the program.
-/
import Derived.Test.YtefaaginedideaaGreatDoorSLn
namespace Go.Proofs.YtefaaginedideaaGreatDoor
set_option linter.unusedSimpArgs false
set_option linter.unusedVariables false
open Go.RowKit Own RegJ
open Go.Lib hiding intOf

theorem RdT.tl {w : World} {g o : Nat} {x : Txt} {r : List Txt} (h : RdT w (some ⟨g, o, none⟩) (x :: r)) : RdT w (some ⟨g, o + 1, none⟩) r := fun k y hy => by
  obtain ⟨g', o', e, hc⟩ := h (k + 1) y hy
  simp only [Option.some.injEq, Addr.mk.injEq, and_true] at e
  obtain ⟨rfl, rfl⟩ := e
  exact ⟨_, _, rfl, by rw [← hc]; congr 2; omega⟩
theorem words_rd {w : World} (xs : List Txt) (T : TypeId) : RdT (w.alloc (.cells ((xs.map B).map Value.string).toArray T)) (some ⟨w.heap.size, 0, none⟩) xs := fun k x hx => by
  refine ⟨_, _, rfl, ?_⟩
  rw [(Blk.new w _ T).rd, List.getElem?_toArray, Nat.zero_add, List.getElem?_map, List.getElem?_map, hx]; rfl
theorem ssplit_is (l : Txt) (w : World) (hE : Env w) (hl : l.length ≤ 1000000) (xs : List Txt) (hx : spc 32 l = xs) (n : Nat) (hn : xs.length = n) : Calls Tryz.prog 59 #[.string (B l), .string ⟨#[32]⟩] w fun e w' => ∃ g, e = .returned (.slice (some ⟨g, 0, none⟩) n n) ∧ RdT w' (some ⟨g, 0, none⟩) xs ∧ Below w.heap.size w w' := by
  subst hx hn
  obtain ⟨m, hm⟩ := hE.mx
  have := Tryz.strings_Split (B l) (B [32]) m w (by rw [B_size]; omega) hm (by rw [B_size]; simp)
  rw [splitB_spc, count_spc] at this
  refine this.mono ?_
  rintro e w' ⟨rfl, rfl⟩
  exact ⟨_, rfl, words_rd _ _, (Below.refl _ _).alloc (Nat.le_refl _) _⟩
theorem word_eq (x y : Txt) : ((B x).toList == (B y).toList) = decide (x = y) := by rw [B_list, B_list, beq_dec]
theorem lineF_of {st : PSt} {l x : Txt} {r : List Txt} (hx : spc 32 l = x :: r) : lineF st l = if x = opW ∨ x = callW then (if st.act = 0 then none else (stepF (x :: r)).map (addOp st)) else match numsF r with
    | some n => doF st x n
    | none => none := by
  unfold lineF; rw [hx]; rfl
theorem LnP.open {w : World} {B rb : Nat} {r : Option PSt} {e : Ending} {w' : World} (h : LnP w B rb r e w') : ∃ b, e = .returned (.bool b) ∧ Hid (b = r.isSome ∧ LnQ w B rb r w') := ⟨_, h.1, Lib.hid ⟨rfl, h.2⟩⟩
theorem LnP.of_s {w : World} {B rb : Nat} {st' : PSt} {e : Ending} {w' : World} (h : LnS w B st' rb e w') : LnP w B rb (some st') e w' := ⟨h.1, fun s e => (by cases e; exact h.2.1), h.2.2⟩
theorem nums_good : ∀ {l : List Txt} {ns : List Int}, numsF l = some ns → ∀ x ∈ ns, 0 ≤ x ∧ x ≤ 999999
  | [], ns, h, x, hx => by simp [numsF] at h; subst h; cases hx
  | y :: r, ns, h, x, hx => by
    rw [numsF] at h
    cases hy : numF y with
    | none => rw [hy] at h; cases h
    | some n =>
      rw [hy] at h
      cases hr : numsF r with
      | none => rw [hr] at h; cases h
      | some m =>
        rw [hr] at h
        simp at h
        subst h
        rw [List.mem_cons] at hx
        rcases hx with rfl | hx
        · have := num_some hy; omega
        · exact nums_good hr x hx
theorem RdT.first {w : World} {g o : Nat} {x : Txt} {r : List Txt} (h : RdT w (some ⟨g, o, none⟩) (x :: r)) : w.cell? ⟨g, o, none⟩ = some (.string (B x)) := by
  obtain ⟨g', o', e, hc⟩ := h 0 x rfl
  simp only [Option.some.injEq, Addr.mk.injEq, and_true] at e
  obtain ⟨rfl, rfl⟩ := e
  exact hc
section
variable {w0 w : World} {B rb : Nat} {st : PSt}
theorem frames_do (h : PSI w0 B st rb) (hb : Below w0.heap.size w0 w) {v : Value} {ns : List Int} {nb : Option Nat} (hI : IRow w v ns nb) (hnb : ∀ g, nb = some g → w0.heap.size ≤ g) (hg : ∀ x ∈ ns, 0 ≤ x ∧ x ≤ 999999) (hl : ns.length ≤ 100000) {N : Nat} (hs : Sz st N) (hN : N + 1 ≤ 1000000) :
    Calls Tryz.prog 62 #[.pointer (some ⟨rb, 0, none⟩), v] w (LnP w B rb (doF st framesW ns)) := by
  have hw := h.below hb
  have bad : (ns.length ≠ 1) → doF st framesW ns = none → Calls Tryz.prog 62 #[.pointer (some ⟨rb, 0, none⟩), v] w (LnP w B rb (doF st framesW ns)) := fun h1 h2 => by
    obtain ⟨a, c, rfl⟩ := hI.slice
    refine (frames_no w _ a _ c h1).mono ?_
    rintro e w' ⟨rfl, rfl⟩
    exact LnP.no h2 (Below.refl _ _)
  match ns, hI, hg, hl, bad with
  | [x], hI, hg, hl, _ =>
    refine (frames_ps hw hI).mono ?_
    intro e w' hh
    exact LnP.of_s hh
  | [], _, _, _, bad => exact bad (by simp) rfl
  | _ :: _ :: _, _, _, _, bad => exact bad (by simp) rfl
theorem dog_do (h : PSI w0 B st rb) (hb : Below w0.heap.size w0 w) {v : Value} {ns : List Int} {nb : Option Nat} (hI : IRow w v ns nb) (hnb : ∀ g, nb = some g → w0.heap.size ≤ g) (hg : ∀ x ∈ ns, 0 ≤ x ∧ x ≤ 999999) (hl : ns.length ≤ 100000) {N : Nat} (hs : Sz st N) (hN : N + 1 ≤ 1000000) :
    Calls Tryz.prog 63 #[.pointer (some ⟨rb, 0, none⟩), v] w (LnP w B rb (doF st dogW ns)) := by
  have hw := h.below hb
  have bad : (ns.length ≠ 1) → doF st dogW ns = none → Calls Tryz.prog 63 #[.pointer (some ⟨rb, 0, none⟩), v] w (LnP w B rb (doF st dogW ns)) := fun h1 h2 => by
    obtain ⟨a, c, rfl⟩ := hI.slice
    refine (dog_no w _ a _ c h1).mono ?_
    rintro e w' ⟨rfl, rfl⟩
    exact LnP.no h2 (Below.refl _ _)
  match ns, hI, hg, hl, bad with
  | [x], hI, hg, hl, _ =>
    refine (dog_ps hw hI).mono ?_
    intro e w' hh
    exact LnP.of_s hh
  | [], _, _, _, bad => exact bad (by simp) rfl
  | _ :: _ :: _, _, _, _, bad => exact bad (by simp) rfl
theorem mutex_do (h : PSI w0 B st rb) (hb : Below w0.heap.size w0 w) {v : Value} {ns : List Int} {nb : Option Nat} (hI : IRow w v ns nb) (hnb : ∀ g, nb = some g → w0.heap.size ≤ g) (hg : ∀ x ∈ ns, 0 ≤ x ∧ x ≤ 999999) (hl : ns.length ≤ 100000) {N : Nat} (hs : Sz st N) (hN : N + 1 ≤ 1000000) :
    Calls Tryz.prog 64 #[.pointer (some ⟨rb, 0, none⟩), v] w (LnP w B rb (doF st mutexW ns)) := by
  have hw := h.below hb
  have bad : (ns.length ≠ 2) → doF st mutexW ns = none → Calls Tryz.prog 64 #[.pointer (some ⟨rb, 0, none⟩), v] w (LnP w B rb (doF st mutexW ns)) := fun h1 h2 => by
    obtain ⟨a, c, rfl⟩ := hI.slice
    refine (mutex_no w _ a _ c h1).mono ?_
    rintro e w' ⟨rfl, rfl⟩
    exact LnP.no h2 (Below.refl _ _)
  match ns, hI, hg, hl, bad with
  | [x, y], hI, hg, hl, _ =>
    refine (mutex_ps hw hI (by have := hs.2.2.1; omega)).mono ?_
    intro e w' hh
    exact LnP.of_s hh
  | [], _, _, _, bad => exact bad (by simp) rfl
  | [_], _, _, _, bad => exact bad (by simp) rfl
  | _ :: _ :: _ :: _, _, _, _, bad => exact bad (by simp) rfl
theorem gap_do (h : PSI w0 B st rb) (hb : Below w0.heap.size w0 w) {v : Value} {ns : List Int} {nb : Option Nat} (hI : IRow w v ns nb) (hnb : ∀ g, nb = some g → w0.heap.size ≤ g) (hg : ∀ x ∈ ns, 0 ≤ x ∧ x ≤ 999999) (hl : ns.length ≤ 100000) {N : Nat} (hs : Sz st N) (hN : N + 1 ≤ 1000000) :
    Calls Tryz.prog 65 #[.pointer (some ⟨rb, 0, none⟩), v] w (LnP w B rb (doF st gapW ns)) := by
  have hw := h.below hb
  have bad : (ns.length ≠ 1) → doF st gapW ns = none → Calls Tryz.prog 65 #[.pointer (some ⟨rb, 0, none⟩), v] w (LnP w B rb (doF st gapW ns)) := fun h1 h2 => by
    obtain ⟨a, c, rfl⟩ := hI.slice
    refine (gap_no w _ a _ c h1).mono ?_
    rintro e w' ⟨rfl, rfl⟩
    exact LnP.no h2 (Below.refl _ _)
  match ns, hI, hg, hl, bad with
  | [x], hI, hg, hl, _ =>
    refine (gap_ps hw hI (by have := hs.2.2.2.1; omega)).mono ?_
    intro e w' hh
    exact LnP.of_s hh
  | [], _, _, _, bad => exact bad (by simp) rfl
  | _ :: _ :: _, _, _, _, bad => exact bad (by simp) rfl
theorem task_do (h : PSI w0 B st rb) (hb : Below w0.heap.size w0 w) {v : Value} {ns : List Int} {nb : Option Nat} (hI : IRow w v ns nb) (hnb : ∀ g, nb = some g → w0.heap.size ≤ g) (hg : ∀ x ∈ ns, 0 ≤ x ∧ x ≤ 999999) (hl : ns.length ≤ 100000) {N : Nat} (hs : Sz st N) (hN : N + 1 ≤ 1000000) :
    Calls Tryz.prog 66 #[.pointer (some ⟨rb, 0, none⟩), v] w (LnP w B rb (doF st taskW ns)) := by
  have hw := h.below hb
  have bad : (ns.length < 6) → doF st taskW ns = none → Calls Tryz.prog 66 #[.pointer (some ⟨rb, 0, none⟩), v] w (LnP w B rb (doF st taskW ns)) := fun h1 h2 => by
    obtain ⟨a, c, rfl⟩ := hI.slice
    refine (task_no w _ a _ c h1).mono ?_
    rintro e w' ⟨rfl, rfl⟩
    exact LnP.no h2 (Below.refl _ _)
  match ns, hI, hg, hl, bad with
  | x0 :: x1 :: x2 :: x3 :: x4 :: x5 :: us, hI, hg, hl, _ =>
    refine (task_ps h hb (hg x5 (by simp)).1 (hg x5 (by simp)).2 (by simp at hl; omega) hI hnb (by have := hs.1; omega)).mono ?_
    intro e w' hh
    exact LnP.of_s hh
  | [], _, _, _, bad => exact bad (by simp) rfl
  | [_], _, _, _, bad => exact bad (by simp) rfl
  | [_, _], _, _, _, bad => exact bad (by simp) rfl
  | [_, _, _], _, _, _, bad => exact bad (by simp) rfl
  | [_, _, _, _], _, _, _, bad => exact bad (by simp) rfl
  | [_, _, _, _, _], _, _, _, bad => exact bad (by simp) rfl
theorem best_do (h : PSI w0 B st rb) (hb : Below w0.heap.size w0 w) {v : Value} {ns : List Int} {nb : Option Nat} (hI : IRow w v ns nb) (hnb : ∀ g, nb = some g → w0.heap.size ≤ g) (hg : ∀ x ∈ ns, 0 ≤ x ∧ x ≤ 999999) (hl : ns.length ≤ 100000) {N : Nat} (hs : Sz st N) (hN : N + 1 ≤ 1000000) :
    Calls Tryz.prog 67 #[.pointer (some ⟨rb, 0, none⟩), v] w (LnP w B rb (doF st bestW ns)) := by
  have hw := h.below hb
  have bad : (ns.length ≠ 1) → doF st bestW ns = none → Calls Tryz.prog 67 #[.pointer (some ⟨rb, 0, none⟩), v] w (LnP w B rb (doF st bestW ns)) := fun h1 h2 => by
    obtain ⟨a, c, rfl⟩ := hI.slice
    refine (best_no w _ a _ c h1).mono ?_
    rintro e w' ⟨rfl, rfl⟩
    exact LnP.no h2 (Below.refl _ _)
  match ns, hI, hg, hl, bad with
  | [x], hI, hg, hl, _ =>
    refine (best_ps hw hI (by have := hs.2.1; omega)).mono ?_
    intro e w' hh
    exact LnP.of_s hh
  | [], _, _, _, bad => exact bad (by simp) rfl
  | _ :: _ :: _, _, _, _, bad => exact bad (by simp) rfl
theorem at_do (h : PSI w0 B st rb) (hb : Below w0.heap.size w0 w) {v : Value} {ns : List Int} {nb : Option Nat} (hI : IRow w v ns nb) (hnb : ∀ g, nb = some g → w0.heap.size ≤ g) (hg : ∀ x ∈ ns, 0 ≤ x ∧ x ≤ 999999) (hl : ns.length ≤ 100000) {N : Nat} (hs : Sz st N) (hN : N + 1 ≤ 1000000) :
    Calls Tryz.prog 68 #[.pointer (some ⟨rb, 0, none⟩), v] w (LnP w B rb (doF st atW ns)) := by
  have hw := h.below hb
  have bad : (ns.length ≠ 3) → doF st atW ns = none → Calls Tryz.prog 68 #[.pointer (some ⟨rb, 0, none⟩), v] w (LnP w B rb (doF st atW ns)) := fun h1 h2 => by
    obtain ⟨a, c, rfl⟩ := hI.slice
    refine (at_no w _ a _ c h1).mono ?_
    rintro e w' ⟨rfl, rfl⟩
    exact LnP.no h2 (Below.refl _ _)
  match ns, hI, hg, hl, bad with
  | [x, y, z], hI, hg, hl, _ =>
    refine (at_ps hw (hg y (by simp)).1 (hg y (by simp)).2 hI (by have := hs.2.2.2.2.1; omega)).mono ?_
    intro e w' hh
    exact LnP.of_s hh
  | [], _, _, _, bad => exact bad (by simp) rfl
  | [_], _, _, _, bad => exact bad (by simp) rfl
  | [_, _], _, _, _, bad => exact bad (by simp) rfl
  | _ :: _ :: _ :: _ :: _, _, _, _, bad => exact bad (by simp) rfl
set_option maxRecDepth 100000 in
set_option maxHeartbeats 1000000 in
theorem line_opA (h : PSI w B st rb) (hE : Env w) (hB8 : 8 ≤ B) {l : Txt} (hl : l.length ≤ 100000) {N : Nat} (hs : Sz st N) (hN : N + 1 ≤ 1000000) (hx : spc 32 l = opW :: []) :
    Calls Tryz.prog 31 #[.pointer (some ⟨rb, 0, none⟩), .string (Go.Proofs.YtefaaginedideaaGreatDoor.B l)] w (LnP w B rb (lineF st l)) := by
  have hmf : ∀ (fn : Fn) (first cap : Array Value) (w : World), (Instr.makeFunc fn first cap).run Tryz.prog w = .ok (.func fn first cap) w := fun _ _ _ _ => rfl
  have hge := h.ge
  rw [lineF_of hx]
  have hsp := ssplit_is l w hE (by omega) (opW :: []) hx 1 rfl
  have hlm : ∀ y ∈ ([] : List Txt), y.length ≤ 100000 := fun y hy => by have := (spc_mem 32 l y (by rw [hx]; simp [hy])).2; omega
  have q0 : ((Go.Proofs.YtefaaginedideaaGreatDoor.B opW).toList == (⟨#[111, 112]⟩ : ByteArray).toList) = true := (word_eq opW opW).trans (decide_eq_true rfl)
  rw [if_pos (by exact Or.inl rfl)]
  have HW := Lib.hid (And.intro h (And.intro hE (And.intro hlm (And.intro hs (And.intro hN (And.intro hge hB8))))))
  skip
  clear h hE hlm hs hN hge hx hB8   
  have key : ∀ R : Option PSt, R = opLR st [] → Calls Tryz.prog 31 #[.pointer (some ⟨rb, 0, none⟩), .string (Go.Proofs.YtefaaginedideaaGreatDoor.B l)] w (LnP w B rb R) := by
   intro R hR0
   have HR := Lib.hid hR0
   clear hR0
   generalize Go.Proofs.YtefaaginedideaaGreatDoor.B opW = sx at *
   go_enter Tryz.func31, Tryz.ntmps31
   go_wp2_with (first
     | (go_at_call 59; refine hsp.mono ?_; rintro e w1 ⟨g, rfl, hT, hb1⟩; have k0 := RdT.first hT; have hT1 : RdT w1 (some ⟨g, 0, none⟩) [] := fun k y hy => (by cases hy); have H1 := Lib.hid (And.intro hb1 hT1); clear hb1 hT hT1; clear hsp)
     | (go_at_call 60; refine (op_ps (HW.out.1.below H1.out.1) (HW.out.2.1.bel H1.out.1) 0 0 H1.out.2 rfl (by omega) (fun y hy => by have := HW.out.2.2.1 y hy; omega) HW.out.2.2.2.1 HW.out.2.2.2.2.1).mono ?_; intro e w2 hh; obtain ⟨b9, rfl, HQ⟩ := LnP.open hh; clear hh))
   go_ret
   have hR := HR.out; subst hR
   exact LnP.of_q HQ.out.1 (LnQ.from (H1.out.1.mono HW.out.2.2.2.2.2.1) HQ.out.2)
  exact key _ rfl
set_option maxRecDepth 100000 in
set_option maxHeartbeats 1000000 in
theorem line_opB (h : PSI w B st rb) (hE : Env w) (hB8 : 8 ≤ B) {l : Txt} (hl : l.length ≤ 100000) {N : Nat} (hs : Sz st N) (hN : N + 1 ≤ 1000000) {r : List Txt} (hr0 : r ≠ []) (hx : spc 32 l = opW :: r) :
    Calls Tryz.prog 31 #[.pointer (some ⟨rb, 0, none⟩), .string (Go.Proofs.YtefaaginedideaaGreatDoor.B l)] w (LnP w B rb (lineF st l)) := by
  have hmf : ∀ (fn : Fn) (first cap : Array Value) (w : World), (Instr.makeFunc fn first cap).run Tryz.prog w = .ok (.func fn first cap) w := fun _ _ _ _ => rfl
  have hge := h.ge
  rw [lineF_of hx]
  obtain ⟨n, hn⟩ : ∃ n, n = r.length + 1 := ⟨_, rfl⟩
  have hn2 : 2 ≤ n := by cases r with | nil => exact absurd rfl hr0 | cons _ _ => simp at hn; omega
  have hnl := spc_len 32 l
  rw [hx, List.length_cons] at hnl
  have n0 : 0 < n := by omega
  have n1 : (1 : Int) ≤ (n : Int) := by omega
  have n2 : 1 ≤ n := by omega
  have n3 : ¬ n = 1 := by omega
  have n4 : ¬ n - 1 = 0 := by omega
  have n5 : n ≤ 100001 := by omega
  have n6 : ((n - 1 : Nat) == 0) = false := by simp; omega
  have hsp := ssplit_is l w hE (by omega) (opW :: r) hx n hn.symm
  have hlm : ∀ y ∈ (r : List Txt), y.length ≤ 100000 := fun y hy => by have := (spc_mem 32 l y (by rw [hx]; simp [hy])).2; omega
  have q0 : ((Go.Proofs.YtefaaginedideaaGreatDoor.B opW).toList == (⟨#[111, 112]⟩ : ByteArray).toList) = true := (word_eq opW opW).trans (decide_eq_true rfl)
  rw [if_pos (by exact Or.inl rfl)]
  have HW := Lib.hid (And.intro h (And.intro hE (And.intro hlm (And.intro hs (And.intro hN (And.intro hge hB8))))))
  have HN := Lib.hid (And.intro hn (trivial))
  clear h hE hlm hs hN hge hx hB8 hn hnl  hr0
  have key : ∀ R : Option PSt, R = opLR st r → Calls Tryz.prog 31 #[.pointer (some ⟨rb, 0, none⟩), .string (Go.Proofs.YtefaaginedideaaGreatDoor.B l)] w (LnP w B rb R) := by
   intro R hR0
   have HR := Lib.hid hR0
   clear hR0
   generalize Go.Proofs.YtefaaginedideaaGreatDoor.B opW = sx at *
   go_enter Tryz.func31, Tryz.ntmps31
   go_wp2_with (first
     | (go_at_call 59; refine hsp.mono ?_; rintro e w1 ⟨g, rfl, hT, hb1⟩; have k0 := RdT.first hT; have hT1 := hT.tl; have H1 := Lib.hid (And.intro hb1 hT1); clear hb1 hT hT1; clear hsp)
     | (go_at_call 60; refine (op_ps (HW.out.1.below H1.out.1) (HW.out.2.1.bel H1.out.1) (n - 1) (n - 1) H1.out.2 (by have := HN.out.1; omega) (by omega) (fun y hy => by have := HW.out.2.2.1 y hy; omega) HW.out.2.2.2.1 HW.out.2.2.2.2.1).mono ?_; intro e w2 hh; obtain ⟨b9, rfl, HQ⟩ := LnP.open hh; clear hh))
   go_ret
   have hR := HR.out; subst hR
   exact LnP.of_q HQ.out.1 (LnQ.from (H1.out.1.mono HW.out.2.2.2.2.2.1) HQ.out.2)
  exact key _ rfl
set_option maxRecDepth 100000 in
set_option maxHeartbeats 1000000 in
theorem line_callA (h : PSI w B st rb) (hE : Env w) (hB8 : 8 ≤ B) {l : Txt} (hl : l.length ≤ 100000) {N : Nat} (hs : Sz st N) (hN : N + 1 ≤ 1000000) (hx : spc 32 l = callW :: []) :
    Calls Tryz.prog 31 #[.pointer (some ⟨rb, 0, none⟩), .string (Go.Proofs.YtefaaginedideaaGreatDoor.B l)] w (LnP w B rb (lineF st l)) := by
  have hmf : ∀ (fn : Fn) (first cap : Array Value) (w : World), (Instr.makeFunc fn first cap).run Tryz.prog w = .ok (.func fn first cap) w := fun _ _ _ _ => rfl
  have hge := h.ge
  rw [lineF_of hx]
  have hsp := ssplit_is l w hE (by omega) (callW :: []) hx 1 rfl
  have hlm : ∀ y ∈ ([] : List Txt), y.length ≤ 100000 := fun y hy => by have := (spc_mem 32 l y (by rw [hx]; simp [hy])).2; omega
  have q0 : ((Go.Proofs.YtefaaginedideaaGreatDoor.B callW).toList == (⟨#[111, 112]⟩ : ByteArray).toList) = false := (word_eq callW opW).trans (decide_eq_false (by decide))
  have q1 : ((Go.Proofs.YtefaaginedideaaGreatDoor.B callW).toList == (⟨#[99, 97, 108, 108]⟩ : ByteArray).toList) = true := (word_eq callW callW).trans (decide_eq_true rfl)
  rw [if_pos (by exact Or.inr rfl)]
  have HW := Lib.hid (And.intro h (And.intro hE (And.intro hlm (And.intro hs (And.intro hN (And.intro hge hB8))))))
  skip
  clear h hE hlm hs hN hge hx hB8   
  have key : ∀ R : Option PSt, R = callLR st [] → Calls Tryz.prog 31 #[.pointer (some ⟨rb, 0, none⟩), .string (Go.Proofs.YtefaaginedideaaGreatDoor.B l)] w (LnP w B rb R) := by
   intro R hR0
   have HR := Lib.hid hR0
   clear hR0
   generalize Go.Proofs.YtefaaginedideaaGreatDoor.B callW = sx at *
   go_enter Tryz.func31, Tryz.ntmps31
   go_wp2_with (first
     | (go_at_call 59; refine hsp.mono ?_; rintro e w1 ⟨g, rfl, hT, hb1⟩; have k0 := RdT.first hT; have hT1 : RdT w1 (some ⟨g, 0, none⟩) [] := fun k y hy => (by cases hy); have H1 := Lib.hid (And.intro hb1 hT1); clear hb1 hT hT1; clear hsp)
     | (go_at_call 61; refine (call_ps (HW.out.1.below H1.out.1) (HW.out.2.1.bel H1.out.1) 0 0 H1.out.2 rfl (Nat.le_refl _) HW.out.2.2.1 HW.out.2.2.2.1 HW.out.2.2.2.2.1).mono ?_; intro e w2 hh; obtain ⟨b9, rfl, HQ⟩ := LnP.open hh; clear hh))
   go_ret
   have hR := HR.out; subst hR
   exact LnP.of_q HQ.out.1 (LnQ.from (H1.out.1.mono HW.out.2.2.2.2.2.1) HQ.out.2)
  exact key _ rfl
set_option maxRecDepth 100000 in
set_option maxHeartbeats 1000000 in
theorem line_callB (h : PSI w B st rb) (hE : Env w) (hB8 : 8 ≤ B) {l : Txt} (hl : l.length ≤ 100000) {N : Nat} (hs : Sz st N) (hN : N + 1 ≤ 1000000) {r : List Txt} (hr0 : r ≠ []) (hx : spc 32 l = callW :: r) :
    Calls Tryz.prog 31 #[.pointer (some ⟨rb, 0, none⟩), .string (Go.Proofs.YtefaaginedideaaGreatDoor.B l)] w (LnP w B rb (lineF st l)) := by
  have hmf : ∀ (fn : Fn) (first cap : Array Value) (w : World), (Instr.makeFunc fn first cap).run Tryz.prog w = .ok (.func fn first cap) w := fun _ _ _ _ => rfl
  have hge := h.ge
  rw [lineF_of hx]
  obtain ⟨n, hn⟩ : ∃ n, n = r.length + 1 := ⟨_, rfl⟩
  have hn2 : 2 ≤ n := by cases r with | nil => exact absurd rfl hr0 | cons _ _ => simp at hn; omega
  have hnl := spc_len 32 l
  rw [hx, List.length_cons] at hnl
  have n0 : 0 < n := by omega
  have n1 : (1 : Int) ≤ (n : Int) := by omega
  have n2 : 1 ≤ n := by omega
  have n3 : ¬ n = 1 := by omega
  have n4 : ¬ n - 1 = 0 := by omega
  have n5 : n ≤ 100001 := by omega
  have n6 : ((n - 1 : Nat) == 0) = false := by simp; omega
  have hsp := ssplit_is l w hE (by omega) (callW :: r) hx n hn.symm
  have hlm : ∀ y ∈ (r : List Txt), y.length ≤ 100000 := fun y hy => by have := (spc_mem 32 l y (by rw [hx]; simp [hy])).2; omega
  have q0 : ((Go.Proofs.YtefaaginedideaaGreatDoor.B callW).toList == (⟨#[111, 112]⟩ : ByteArray).toList) = false := (word_eq callW opW).trans (decide_eq_false (by decide))
  have q1 : ((Go.Proofs.YtefaaginedideaaGreatDoor.B callW).toList == (⟨#[99, 97, 108, 108]⟩ : ByteArray).toList) = true := (word_eq callW callW).trans (decide_eq_true rfl)
  rw [if_pos (by exact Or.inr rfl)]
  have HW := Lib.hid (And.intro h (And.intro hE (And.intro hlm (And.intro hs (And.intro hN (And.intro hge hB8))))))
  have HN := Lib.hid (And.intro hn (trivial))
  clear h hE hlm hs hN hge hx hB8 hn hnl  hr0
  have key : ∀ R : Option PSt, R = callLR st r → Calls Tryz.prog 31 #[.pointer (some ⟨rb, 0, none⟩), .string (Go.Proofs.YtefaaginedideaaGreatDoor.B l)] w (LnP w B rb R) := by
   intro R hR0
   have HR := Lib.hid hR0
   clear hR0
   generalize Go.Proofs.YtefaaginedideaaGreatDoor.B callW = sx at *
   go_enter Tryz.func31, Tryz.ntmps31
   go_wp2_with (first
     | (go_at_call 59; refine hsp.mono ?_; rintro e w1 ⟨g, rfl, hT, hb1⟩; have k0 := RdT.first hT; have hT1 := hT.tl; have H1 := Lib.hid (And.intro hb1 hT1); clear hb1 hT hT1; clear hsp)
     | (go_at_call 61; refine (call_ps (HW.out.1.below H1.out.1) (HW.out.2.1.bel H1.out.1) (n - 1) (n - 1) H1.out.2 (by have := HN.out.1; omega) (Nat.le_refl _) HW.out.2.2.1 HW.out.2.2.2.1 HW.out.2.2.2.2.1).mono ?_; intro e w2 hh; obtain ⟨b9, rfl, HQ⟩ := LnP.open hh; clear hh))
   go_ret
   have hR := HR.out; subst hR
   exact LnP.of_q HQ.out.1 (LnQ.from (H1.out.1.mono HW.out.2.2.2.2.2.1) HQ.out.2)
  exact key _ rfl
set_option maxRecDepth 100000 in
set_option maxHeartbeats 1000000 in
theorem line_framesA (h : PSI w B st rb) (hE : Env w) (hB8 : 8 ≤ B) {l : Txt} (hl : l.length ≤ 100000) {N : Nat} (hs : Sz st N) (hN : N + 1 ≤ 1000000) (hx : spc 32 l = framesW :: []) :
    Calls Tryz.prog 31 #[.pointer (some ⟨rb, 0, none⟩), .string (Go.Proofs.YtefaaginedideaaGreatDoor.B l)] w (LnP w B rb (lineF st l)) := by
  have hmf : ∀ (fn : Fn) (first cap : Array Value) (w : World), (Instr.makeFunc fn first cap).run Tryz.prog w = .ok (.func fn first cap) w := fun _ _ _ _ => rfl
  have hge := h.ge
  rw [lineF_of hx]
  have hsp := ssplit_is l w hE (by omega) (framesW :: []) hx 1 rfl
  have hlm : ∀ y ∈ ([] : List Txt), y.length ≤ 100000 := fun y hy => by have := (spc_mem 32 l y (by rw [hx]; simp [hy])).2; omega
  have q0 : ((Go.Proofs.YtefaaginedideaaGreatDoor.B framesW).toList == (⟨#[111, 112]⟩ : ByteArray).toList) = false := (word_eq framesW opW).trans (decide_eq_false (by decide))
  have q1 : ((Go.Proofs.YtefaaginedideaaGreatDoor.B framesW).toList == (⟨#[99, 97, 108, 108]⟩ : ByteArray).toList) = false := (word_eq framesW callW).trans (decide_eq_false (by decide))
  have q2 : ((Go.Proofs.YtefaaginedideaaGreatDoor.B framesW).toList == (⟨#[102, 114, 97, 109, 101, 115]⟩ : ByteArray).toList) = true := (word_eq framesW framesW).trans (decide_eq_true rfl)
  rw [if_neg (by decide)]
  have hns : numsF [] = some [] := rfl
  rw [hns]
  simp only
  have HW := Lib.hid (And.intro h (And.intro hE (And.intro hlm (And.intro hs (And.intro hN (And.intro hge hB8))))))
  have HN := Lib.hid (And.intro trivial hns)
  clear h hE hlm hs hN hge hx hB8  hns 
  have key : ∀ R : Option PSt, R = doF st framesW [] → Calls Tryz.prog 31 #[.pointer (some ⟨rb, 0, none⟩), .string (Go.Proofs.YtefaaginedideaaGreatDoor.B l)] w (LnP w B rb R) := by
   intro R hR0
   have HR := Lib.hid hR0
   clear hR0
   generalize Go.Proofs.YtefaaginedideaaGreatDoor.B framesW = sx at *
   go_enter Tryz.func31, Tryz.ntmps31
   go_wp2_with (first
     | (go_at_call 59; refine hsp.mono ?_; rintro e w1 ⟨g, rfl, hT, hb1⟩; have k0 := RdT.first hT; have hT1 : RdT w1 (some ⟨g, 0, none⟩) [] := fun k y hy => (by cases hy); have H1 := Lib.hid (And.intro hb1 hT1); clear hb1 hT hT1; clear hsp; have hnum := numbers_is 0 0 (HW.out.2.1.bel H1.out.1) H1.out.2 rfl (by omega) (fun y hy => by have := HW.out.2.2.1 y hy; omega); unfold NumsV at hnum; rw [HN.out.2] at hnum)
     | (go_at_call 69; refine hnum.mono ?_; rintro e w2 ⟨hb2, v2, b2, rfl, hI2, hbi⟩; have H2 := Lib.hid (And.intro hb2 (And.intro hI2 hbi)); clear hb2 hnum hI2 hbi)
     | (go_at_call 62; refine (frames_do (HW.out.1.below H1.out.1) H2.out.1 H2.out.2.1 H2.out.2.2 (nums_good HN.out.2) (by have := nums_three HN.out.2; simp) HW.out.2.2.2.1 HW.out.2.2.2.2.1).mono ?_; intro e w3 hh; obtain ⟨b9, rfl, HQ⟩ := LnP.open hh; clear hh))
   go_ret
   have hbw := H1.out.1.trans (H2.out.1.mono H1.out.1.size)
   have hR := HR.out; subst hR
   exact LnP.of_q HQ.out.1 (LnQ.from (hbw.mono HW.out.2.2.2.2.2.1) HQ.out.2)
  exact key _ rfl
set_option maxRecDepth 100000 in
set_option maxHeartbeats 1000000 in
theorem line_framesB (h : PSI w B st rb) (hE : Env w) (hB8 : 8 ≤ B) {l : Txt} (hl : l.length ≤ 100000) {N : Nat} (hs : Sz st N) (hN : N + 1 ≤ 1000000) {r : List Txt} (hr0 : r ≠ []) (hx : spc 32 l = framesW :: r) {ns : List Int} (hns : numsF r = some ns) :
    Calls Tryz.prog 31 #[.pointer (some ⟨rb, 0, none⟩), .string (Go.Proofs.YtefaaginedideaaGreatDoor.B l)] w (LnP w B rb (lineF st l)) := by
  have hmf : ∀ (fn : Fn) (first cap : Array Value) (w : World), (Instr.makeFunc fn first cap).run Tryz.prog w = .ok (.func fn first cap) w := fun _ _ _ _ => rfl
  have hge := h.ge
  rw [lineF_of hx]
  obtain ⟨n, hn⟩ : ∃ n, n = r.length + 1 := ⟨_, rfl⟩
  have hn2 : 2 ≤ n := by cases r with | nil => exact absurd rfl hr0 | cons _ _ => simp at hn; omega
  have hnl := spc_len 32 l
  rw [hx, List.length_cons] at hnl
  have n0 : 0 < n := by omega
  have n1 : (1 : Int) ≤ (n : Int) := by omega
  have n2 : 1 ≤ n := by omega
  have n3 : ¬ n = 1 := by omega
  have n4 : ¬ n - 1 = 0 := by omega
  have n5 : n ≤ 100001 := by omega
  have n6 : ((n - 1 : Nat) == 0) = false := by simp; omega
  have hsp := ssplit_is l w hE (by omega) (framesW :: r) hx n hn.symm
  have hlm : ∀ y ∈ (r : List Txt), y.length ≤ 100000 := fun y hy => by have := (spc_mem 32 l y (by rw [hx]; simp [hy])).2; omega
  have q0 : ((Go.Proofs.YtefaaginedideaaGreatDoor.B framesW).toList == (⟨#[111, 112]⟩ : ByteArray).toList) = false := (word_eq framesW opW).trans (decide_eq_false (by decide))
  have q1 : ((Go.Proofs.YtefaaginedideaaGreatDoor.B framesW).toList == (⟨#[99, 97, 108, 108]⟩ : ByteArray).toList) = false := (word_eq framesW callW).trans (decide_eq_false (by decide))
  have q2 : ((Go.Proofs.YtefaaginedideaaGreatDoor.B framesW).toList == (⟨#[102, 114, 97, 109, 101, 115]⟩ : ByteArray).toList) = true := (word_eq framesW framesW).trans (decide_eq_true rfl)
  rw [if_neg (by decide), hns]
  simp only
  have HW := Lib.hid (And.intro h (And.intro hE (And.intro hlm (And.intro hs (And.intro hN (And.intro hge hB8))))))
  have HN := Lib.hid (And.intro hn (hns))
  clear h hE hlm hs hN hge hx hB8 hn hnl hns hr0
  have key : ∀ R : Option PSt, R = doF st framesW ns → Calls Tryz.prog 31 #[.pointer (some ⟨rb, 0, none⟩), .string (Go.Proofs.YtefaaginedideaaGreatDoor.B l)] w (LnP w B rb R) := by
   intro R hR0
   have HR := Lib.hid hR0
   clear hR0
   generalize Go.Proofs.YtefaaginedideaaGreatDoor.B framesW = sx at *
   go_enter Tryz.func31, Tryz.ntmps31
   go_wp2_with (first
     | (go_at_call 59; refine hsp.mono ?_; rintro e w1 ⟨g, rfl, hT, hb1⟩; have k0 := RdT.first hT; have hT1 := hT.tl; have H1 := Lib.hid (And.intro hb1 hT1); clear hb1 hT hT1; clear hsp; have hnum := numbers_is (n - 1) (n - 1) (HW.out.2.1.bel H1.out.1) H1.out.2 (by have := HN.out.1; omega) (by omega) (fun y hy => by have := HW.out.2.2.1 y hy; omega); unfold NumsV at hnum; rw [HN.out.2] at hnum)
     | (go_at_call 69; refine hnum.mono ?_; rintro e w2 ⟨hb2, v2, b2, rfl, hI2, hbi⟩; have H2 := Lib.hid (And.intro hb2 (And.intro hI2 hbi)); clear hb2 hnum hI2 hbi)
     | (go_at_call 62; refine (frames_do (HW.out.1.below H1.out.1) H2.out.1 H2.out.2.1 H2.out.2.2 (nums_good HN.out.2) (by have := nums_three HN.out.2; have := HN.out.1; omega) HW.out.2.2.2.1 HW.out.2.2.2.2.1).mono ?_; intro e w3 hh; obtain ⟨b9, rfl, HQ⟩ := LnP.open hh; clear hh))
   go_ret
   have hbw := H1.out.1.trans (H2.out.1.mono H1.out.1.size)
   have hR := HR.out; subst hR
   exact LnP.of_q HQ.out.1 (LnQ.from (hbw.mono HW.out.2.2.2.2.2.1) HQ.out.2)
  exact key _ rfl
set_option maxRecDepth 100000 in
set_option maxHeartbeats 1000000 in
theorem line_framesbadB (h : PSI w B st rb) (hE : Env w) (hB8 : 8 ≤ B) {l : Txt} (hl : l.length ≤ 100000) {N : Nat} (hs : Sz st N) (hN : N + 1 ≤ 1000000) {r : List Txt} (hr0 : r ≠ []) (hx : spc 32 l = framesW :: r) (hns : numsF r = none) :
    Calls Tryz.prog 31 #[.pointer (some ⟨rb, 0, none⟩), .string (Go.Proofs.YtefaaginedideaaGreatDoor.B l)] w (LnP w B rb (lineF st l)) := by
  have hmf : ∀ (fn : Fn) (first cap : Array Value) (w : World), (Instr.makeFunc fn first cap).run Tryz.prog w = .ok (.func fn first cap) w := fun _ _ _ _ => rfl
  have hge := h.ge
  rw [lineF_of hx]
  obtain ⟨n, hn⟩ : ∃ n, n = r.length + 1 := ⟨_, rfl⟩
  have hn2 : 2 ≤ n := by cases r with | nil => exact absurd rfl hr0 | cons _ _ => simp at hn; omega
  have hnl := spc_len 32 l
  rw [hx, List.length_cons] at hnl
  have n0 : 0 < n := by omega
  have n1 : (1 : Int) ≤ (n : Int) := by omega
  have n2 : 1 ≤ n := by omega
  have n3 : ¬ n = 1 := by omega
  have n4 : ¬ n - 1 = 0 := by omega
  have n5 : n ≤ 100001 := by omega
  have n6 : ((n - 1 : Nat) == 0) = false := by simp; omega
  have hsp := ssplit_is l w hE (by omega) (framesW :: r) hx n hn.symm
  have hlm : ∀ y ∈ (r : List Txt), y.length ≤ 100000 := fun y hy => by have := (spc_mem 32 l y (by rw [hx]; simp [hy])).2; omega
  have q0 : ((Go.Proofs.YtefaaginedideaaGreatDoor.B framesW).toList == (⟨#[111, 112]⟩ : ByteArray).toList) = false := (word_eq framesW opW).trans (decide_eq_false (by decide))
  have q1 : ((Go.Proofs.YtefaaginedideaaGreatDoor.B framesW).toList == (⟨#[99, 97, 108, 108]⟩ : ByteArray).toList) = false := (word_eq framesW callW).trans (decide_eq_false (by decide))
  have q2 : ((Go.Proofs.YtefaaginedideaaGreatDoor.B framesW).toList == (⟨#[102, 114, 97, 109, 101, 115]⟩ : ByteArray).toList) = true := (word_eq framesW framesW).trans (decide_eq_true rfl)
  rw [if_neg (by decide), hns]
  simp only
  have HW := Lib.hid (And.intro h (And.intro hE (And.intro hlm (And.intro hs (And.intro hN (And.intro hge hB8))))))
  have HN := Lib.hid (And.intro hn (hns))
  clear h hE hlm hs hN hge hx hB8 hn hnl hns hr0
  have key : ∀ R : Option PSt, R = (none : Option PSt) → Calls Tryz.prog 31 #[.pointer (some ⟨rb, 0, none⟩), .string (Go.Proofs.YtefaaginedideaaGreatDoor.B l)] w (LnP w B rb R) := by
   intro R hR0
   have HR := Lib.hid hR0
   clear hR0
   generalize Go.Proofs.YtefaaginedideaaGreatDoor.B framesW = sx at *
   go_enter Tryz.func31, Tryz.ntmps31
   go_wp2_with (first
     | (go_at_call 59; refine hsp.mono ?_; rintro e w1 ⟨g, rfl, hT, hb1⟩; have k0 := RdT.first hT; have hT1 := hT.tl; have H1 := Lib.hid (And.intro hb1 hT1); clear hb1 hT hT1; clear hsp; have hnum := numbers_is (n - 1) (n - 1) (HW.out.2.1.bel H1.out.1) H1.out.2 (by have := HN.out.1; omega) (by omega) (fun y hy => by have := HW.out.2.2.1 y hy; omega); unfold NumsV at hnum; rw [HN.out.2] at hnum)
     | (go_at_call 69; refine hnum.mono ?_; rintro e w2 ⟨hb2, rfl⟩; have H2 := Lib.hid hb2; clear hb2 hnum))
   go_ret
   have hbw := H1.out.1.trans (H2.out.mono H1.out.1.size)
   have hR := HR.out; subst hR
   exact LnP.no rfl (hbw.mono HW.out.2.2.2.2.2.1)
  exact key _ rfl
set_option maxRecDepth 100000 in
set_option maxHeartbeats 1000000 in
theorem line_dogA (h : PSI w B st rb) (hE : Env w) (hB8 : 8 ≤ B) {l : Txt} (hl : l.length ≤ 100000) {N : Nat} (hs : Sz st N) (hN : N + 1 ≤ 1000000) (hx : spc 32 l = dogW :: []) :
    Calls Tryz.prog 31 #[.pointer (some ⟨rb, 0, none⟩), .string (Go.Proofs.YtefaaginedideaaGreatDoor.B l)] w (LnP w B rb (lineF st l)) := by
  have hmf : ∀ (fn : Fn) (first cap : Array Value) (w : World), (Instr.makeFunc fn first cap).run Tryz.prog w = .ok (.func fn first cap) w := fun _ _ _ _ => rfl
  have hge := h.ge
  rw [lineF_of hx]
  have hsp := ssplit_is l w hE (by omega) (dogW :: []) hx 1 rfl
  have hlm : ∀ y ∈ ([] : List Txt), y.length ≤ 100000 := fun y hy => by have := (spc_mem 32 l y (by rw [hx]; simp [hy])).2; omega
  have q0 : ((Go.Proofs.YtefaaginedideaaGreatDoor.B dogW).toList == (⟨#[111, 112]⟩ : ByteArray).toList) = false := (word_eq dogW opW).trans (decide_eq_false (by decide))
  have q1 : ((Go.Proofs.YtefaaginedideaaGreatDoor.B dogW).toList == (⟨#[99, 97, 108, 108]⟩ : ByteArray).toList) = false := (word_eq dogW callW).trans (decide_eq_false (by decide))
  have q2 : ((Go.Proofs.YtefaaginedideaaGreatDoor.B dogW).toList == (⟨#[102, 114, 97, 109, 101, 115]⟩ : ByteArray).toList) = false := (word_eq dogW framesW).trans (decide_eq_false (by decide))
  have q3 : ((Go.Proofs.YtefaaginedideaaGreatDoor.B dogW).toList == (⟨#[100, 111, 103]⟩ : ByteArray).toList) = true := (word_eq dogW dogW).trans (decide_eq_true rfl)
  rw [if_neg (by decide)]
  have hns : numsF [] = some [] := rfl
  rw [hns]
  simp only
  have HW := Lib.hid (And.intro h (And.intro hE (And.intro hlm (And.intro hs (And.intro hN (And.intro hge hB8))))))
  have HN := Lib.hid (And.intro trivial hns)
  clear h hE hlm hs hN hge hx hB8  hns 
  have key : ∀ R : Option PSt, R = doF st dogW [] → Calls Tryz.prog 31 #[.pointer (some ⟨rb, 0, none⟩), .string (Go.Proofs.YtefaaginedideaaGreatDoor.B l)] w (LnP w B rb R) := by
   intro R hR0
   have HR := Lib.hid hR0
   clear hR0
   generalize Go.Proofs.YtefaaginedideaaGreatDoor.B dogW = sx at *
   go_enter Tryz.func31, Tryz.ntmps31
   go_wp2_with (first
     | (go_at_call 59; refine hsp.mono ?_; rintro e w1 ⟨g, rfl, hT, hb1⟩; have k0 := RdT.first hT; have hT1 : RdT w1 (some ⟨g, 0, none⟩) [] := fun k y hy => (by cases hy); have H1 := Lib.hid (And.intro hb1 hT1); clear hb1 hT hT1; clear hsp; have hnum := numbers_is 0 0 (HW.out.2.1.bel H1.out.1) H1.out.2 rfl (by omega) (fun y hy => by have := HW.out.2.2.1 y hy; omega); unfold NumsV at hnum; rw [HN.out.2] at hnum)
     | (go_at_call 69; refine hnum.mono ?_; rintro e w2 ⟨hb2, v2, b2, rfl, hI2, hbi⟩; have H2 := Lib.hid (And.intro hb2 (And.intro hI2 hbi)); clear hb2 hnum hI2 hbi)
     | (go_at_call 63; refine (dog_do (HW.out.1.below H1.out.1) H2.out.1 H2.out.2.1 H2.out.2.2 (nums_good HN.out.2) (by have := nums_three HN.out.2; simp) HW.out.2.2.2.1 HW.out.2.2.2.2.1).mono ?_; intro e w3 hh; obtain ⟨b9, rfl, HQ⟩ := LnP.open hh; clear hh))
   go_ret
   have hbw := H1.out.1.trans (H2.out.1.mono H1.out.1.size)
   have hR := HR.out; subst hR
   exact LnP.of_q HQ.out.1 (LnQ.from (hbw.mono HW.out.2.2.2.2.2.1) HQ.out.2)
  exact key _ rfl
set_option maxRecDepth 100000 in
set_option maxHeartbeats 1000000 in
theorem line_dogB (h : PSI w B st rb) (hE : Env w) (hB8 : 8 ≤ B) {l : Txt} (hl : l.length ≤ 100000) {N : Nat} (hs : Sz st N) (hN : N + 1 ≤ 1000000) {r : List Txt} (hr0 : r ≠ []) (hx : spc 32 l = dogW :: r) {ns : List Int} (hns : numsF r = some ns) :
    Calls Tryz.prog 31 #[.pointer (some ⟨rb, 0, none⟩), .string (Go.Proofs.YtefaaginedideaaGreatDoor.B l)] w (LnP w B rb (lineF st l)) := by
  have hmf : ∀ (fn : Fn) (first cap : Array Value) (w : World), (Instr.makeFunc fn first cap).run Tryz.prog w = .ok (.func fn first cap) w := fun _ _ _ _ => rfl
  have hge := h.ge
  rw [lineF_of hx]
  obtain ⟨n, hn⟩ : ∃ n, n = r.length + 1 := ⟨_, rfl⟩
  have hn2 : 2 ≤ n := by cases r with | nil => exact absurd rfl hr0 | cons _ _ => simp at hn; omega
  have hnl := spc_len 32 l
  rw [hx, List.length_cons] at hnl
  have n0 : 0 < n := by omega
  have n1 : (1 : Int) ≤ (n : Int) := by omega
  have n2 : 1 ≤ n := by omega
  have n3 : ¬ n = 1 := by omega
  have n4 : ¬ n - 1 = 0 := by omega
  have n5 : n ≤ 100001 := by omega
  have n6 : ((n - 1 : Nat) == 0) = false := by simp; omega
  have hsp := ssplit_is l w hE (by omega) (dogW :: r) hx n hn.symm
  have hlm : ∀ y ∈ (r : List Txt), y.length ≤ 100000 := fun y hy => by have := (spc_mem 32 l y (by rw [hx]; simp [hy])).2; omega
  have q0 : ((Go.Proofs.YtefaaginedideaaGreatDoor.B dogW).toList == (⟨#[111, 112]⟩ : ByteArray).toList) = false := (word_eq dogW opW).trans (decide_eq_false (by decide))
  have q1 : ((Go.Proofs.YtefaaginedideaaGreatDoor.B dogW).toList == (⟨#[99, 97, 108, 108]⟩ : ByteArray).toList) = false := (word_eq dogW callW).trans (decide_eq_false (by decide))
  have q2 : ((Go.Proofs.YtefaaginedideaaGreatDoor.B dogW).toList == (⟨#[102, 114, 97, 109, 101, 115]⟩ : ByteArray).toList) = false := (word_eq dogW framesW).trans (decide_eq_false (by decide))
  have q3 : ((Go.Proofs.YtefaaginedideaaGreatDoor.B dogW).toList == (⟨#[100, 111, 103]⟩ : ByteArray).toList) = true := (word_eq dogW dogW).trans (decide_eq_true rfl)
  rw [if_neg (by decide), hns]
  simp only
  have HW := Lib.hid (And.intro h (And.intro hE (And.intro hlm (And.intro hs (And.intro hN (And.intro hge hB8))))))
  have HN := Lib.hid (And.intro hn (hns))
  clear h hE hlm hs hN hge hx hB8 hn hnl hns hr0
  have key : ∀ R : Option PSt, R = doF st dogW ns → Calls Tryz.prog 31 #[.pointer (some ⟨rb, 0, none⟩), .string (Go.Proofs.YtefaaginedideaaGreatDoor.B l)] w (LnP w B rb R) := by
   intro R hR0
   have HR := Lib.hid hR0
   clear hR0
   generalize Go.Proofs.YtefaaginedideaaGreatDoor.B dogW = sx at *
   go_enter Tryz.func31, Tryz.ntmps31
   go_wp2_with (first
     | (go_at_call 59; refine hsp.mono ?_; rintro e w1 ⟨g, rfl, hT, hb1⟩; have k0 := RdT.first hT; have hT1 := hT.tl; have H1 := Lib.hid (And.intro hb1 hT1); clear hb1 hT hT1; clear hsp; have hnum := numbers_is (n - 1) (n - 1) (HW.out.2.1.bel H1.out.1) H1.out.2 (by have := HN.out.1; omega) (by omega) (fun y hy => by have := HW.out.2.2.1 y hy; omega); unfold NumsV at hnum; rw [HN.out.2] at hnum)
     | (go_at_call 69; refine hnum.mono ?_; rintro e w2 ⟨hb2, v2, b2, rfl, hI2, hbi⟩; have H2 := Lib.hid (And.intro hb2 (And.intro hI2 hbi)); clear hb2 hnum hI2 hbi)
     | (go_at_call 63; refine (dog_do (HW.out.1.below H1.out.1) H2.out.1 H2.out.2.1 H2.out.2.2 (nums_good HN.out.2) (by have := nums_three HN.out.2; have := HN.out.1; omega) HW.out.2.2.2.1 HW.out.2.2.2.2.1).mono ?_; intro e w3 hh; obtain ⟨b9, rfl, HQ⟩ := LnP.open hh; clear hh))
   go_ret
   have hbw := H1.out.1.trans (H2.out.1.mono H1.out.1.size)
   have hR := HR.out; subst hR
   exact LnP.of_q HQ.out.1 (LnQ.from (hbw.mono HW.out.2.2.2.2.2.1) HQ.out.2)
  exact key _ rfl
set_option maxRecDepth 100000 in
set_option maxHeartbeats 1000000 in
theorem line_dogbadB (h : PSI w B st rb) (hE : Env w) (hB8 : 8 ≤ B) {l : Txt} (hl : l.length ≤ 100000) {N : Nat} (hs : Sz st N) (hN : N + 1 ≤ 1000000) {r : List Txt} (hr0 : r ≠ []) (hx : spc 32 l = dogW :: r) (hns : numsF r = none) :
    Calls Tryz.prog 31 #[.pointer (some ⟨rb, 0, none⟩), .string (Go.Proofs.YtefaaginedideaaGreatDoor.B l)] w (LnP w B rb (lineF st l)) := by
  have hmf : ∀ (fn : Fn) (first cap : Array Value) (w : World), (Instr.makeFunc fn first cap).run Tryz.prog w = .ok (.func fn first cap) w := fun _ _ _ _ => rfl
  have hge := h.ge
  rw [lineF_of hx]
  obtain ⟨n, hn⟩ : ∃ n, n = r.length + 1 := ⟨_, rfl⟩
  have hn2 : 2 ≤ n := by cases r with | nil => exact absurd rfl hr0 | cons _ _ => simp at hn; omega
  have hnl := spc_len 32 l
  rw [hx, List.length_cons] at hnl
  have n0 : 0 < n := by omega
  have n1 : (1 : Int) ≤ (n : Int) := by omega
  have n2 : 1 ≤ n := by omega
  have n3 : ¬ n = 1 := by omega
  have n4 : ¬ n - 1 = 0 := by omega
  have n5 : n ≤ 100001 := by omega
  have n6 : ((n - 1 : Nat) == 0) = false := by simp; omega
  have hsp := ssplit_is l w hE (by omega) (dogW :: r) hx n hn.symm
  have hlm : ∀ y ∈ (r : List Txt), y.length ≤ 100000 := fun y hy => by have := (spc_mem 32 l y (by rw [hx]; simp [hy])).2; omega
  have q0 : ((Go.Proofs.YtefaaginedideaaGreatDoor.B dogW).toList == (⟨#[111, 112]⟩ : ByteArray).toList) = false := (word_eq dogW opW).trans (decide_eq_false (by decide))
  have q1 : ((Go.Proofs.YtefaaginedideaaGreatDoor.B dogW).toList == (⟨#[99, 97, 108, 108]⟩ : ByteArray).toList) = false := (word_eq dogW callW).trans (decide_eq_false (by decide))
  have q2 : ((Go.Proofs.YtefaaginedideaaGreatDoor.B dogW).toList == (⟨#[102, 114, 97, 109, 101, 115]⟩ : ByteArray).toList) = false := (word_eq dogW framesW).trans (decide_eq_false (by decide))
  have q3 : ((Go.Proofs.YtefaaginedideaaGreatDoor.B dogW).toList == (⟨#[100, 111, 103]⟩ : ByteArray).toList) = true := (word_eq dogW dogW).trans (decide_eq_true rfl)
  rw [if_neg (by decide), hns]
  simp only
  have HW := Lib.hid (And.intro h (And.intro hE (And.intro hlm (And.intro hs (And.intro hN (And.intro hge hB8))))))
  have HN := Lib.hid (And.intro hn (hns))
  clear h hE hlm hs hN hge hx hB8 hn hnl hns hr0
  have key : ∀ R : Option PSt, R = (none : Option PSt) → Calls Tryz.prog 31 #[.pointer (some ⟨rb, 0, none⟩), .string (Go.Proofs.YtefaaginedideaaGreatDoor.B l)] w (LnP w B rb R) := by
   intro R hR0
   have HR := Lib.hid hR0
   clear hR0
   generalize Go.Proofs.YtefaaginedideaaGreatDoor.B dogW = sx at *
   go_enter Tryz.func31, Tryz.ntmps31
   go_wp2_with (first
     | (go_at_call 59; refine hsp.mono ?_; rintro e w1 ⟨g, rfl, hT, hb1⟩; have k0 := RdT.first hT; have hT1 := hT.tl; have H1 := Lib.hid (And.intro hb1 hT1); clear hb1 hT hT1; clear hsp; have hnum := numbers_is (n - 1) (n - 1) (HW.out.2.1.bel H1.out.1) H1.out.2 (by have := HN.out.1; omega) (by omega) (fun y hy => by have := HW.out.2.2.1 y hy; omega); unfold NumsV at hnum; rw [HN.out.2] at hnum)
     | (go_at_call 69; refine hnum.mono ?_; rintro e w2 ⟨hb2, rfl⟩; have H2 := Lib.hid hb2; clear hb2 hnum))
   go_ret
   have hbw := H1.out.1.trans (H2.out.mono H1.out.1.size)
   have hR := HR.out; subst hR
   exact LnP.no rfl (hbw.mono HW.out.2.2.2.2.2.1)
  exact key _ rfl
set_option maxRecDepth 100000 in
set_option maxHeartbeats 1000000 in
theorem line_mutexA (h : PSI w B st rb) (hE : Env w) (hB8 : 8 ≤ B) {l : Txt} (hl : l.length ≤ 100000) {N : Nat} (hs : Sz st N) (hN : N + 1 ≤ 1000000) (hx : spc 32 l = mutexW :: []) :
    Calls Tryz.prog 31 #[.pointer (some ⟨rb, 0, none⟩), .string (Go.Proofs.YtefaaginedideaaGreatDoor.B l)] w (LnP w B rb (lineF st l)) := by
  have hmf : ∀ (fn : Fn) (first cap : Array Value) (w : World), (Instr.makeFunc fn first cap).run Tryz.prog w = .ok (.func fn first cap) w := fun _ _ _ _ => rfl
  have hge := h.ge
  rw [lineF_of hx]
  have hsp := ssplit_is l w hE (by omega) (mutexW :: []) hx 1 rfl
  have hlm : ∀ y ∈ ([] : List Txt), y.length ≤ 100000 := fun y hy => by have := (spc_mem 32 l y (by rw [hx]; simp [hy])).2; omega
  have q0 : ((Go.Proofs.YtefaaginedideaaGreatDoor.B mutexW).toList == (⟨#[111, 112]⟩ : ByteArray).toList) = false := (word_eq mutexW opW).trans (decide_eq_false (by decide))
  have q1 : ((Go.Proofs.YtefaaginedideaaGreatDoor.B mutexW).toList == (⟨#[99, 97, 108, 108]⟩ : ByteArray).toList) = false := (word_eq mutexW callW).trans (decide_eq_false (by decide))
  have q2 : ((Go.Proofs.YtefaaginedideaaGreatDoor.B mutexW).toList == (⟨#[102, 114, 97, 109, 101, 115]⟩ : ByteArray).toList) = false := (word_eq mutexW framesW).trans (decide_eq_false (by decide))
  have q3 : ((Go.Proofs.YtefaaginedideaaGreatDoor.B mutexW).toList == (⟨#[100, 111, 103]⟩ : ByteArray).toList) = false := (word_eq mutexW dogW).trans (decide_eq_false (by decide))
  have q4 : ((Go.Proofs.YtefaaginedideaaGreatDoor.B mutexW).toList == (⟨#[109, 117, 116, 101, 120]⟩ : ByteArray).toList) = true := (word_eq mutexW mutexW).trans (decide_eq_true rfl)
  rw [if_neg (by decide)]
  have hns : numsF [] = some [] := rfl
  rw [hns]
  simp only
  have HW := Lib.hid (And.intro h (And.intro hE (And.intro hlm (And.intro hs (And.intro hN (And.intro hge hB8))))))
  have HN := Lib.hid (And.intro trivial hns)
  clear h hE hlm hs hN hge hx hB8  hns 
  have key : ∀ R : Option PSt, R = doF st mutexW [] → Calls Tryz.prog 31 #[.pointer (some ⟨rb, 0, none⟩), .string (Go.Proofs.YtefaaginedideaaGreatDoor.B l)] w (LnP w B rb R) := by
   intro R hR0
   have HR := Lib.hid hR0
   clear hR0
   generalize Go.Proofs.YtefaaginedideaaGreatDoor.B mutexW = sx at *
   go_enter Tryz.func31, Tryz.ntmps31
   go_wp2_with (first
     | (go_at_call 59; refine hsp.mono ?_; rintro e w1 ⟨g, rfl, hT, hb1⟩; have k0 := RdT.first hT; have hT1 : RdT w1 (some ⟨g, 0, none⟩) [] := fun k y hy => (by cases hy); have H1 := Lib.hid (And.intro hb1 hT1); clear hb1 hT hT1; clear hsp; have hnum := numbers_is 0 0 (HW.out.2.1.bel H1.out.1) H1.out.2 rfl (by omega) (fun y hy => by have := HW.out.2.2.1 y hy; omega); unfold NumsV at hnum; rw [HN.out.2] at hnum)
     | (go_at_call 69; refine hnum.mono ?_; rintro e w2 ⟨hb2, v2, b2, rfl, hI2, hbi⟩; have H2 := Lib.hid (And.intro hb2 (And.intro hI2 hbi)); clear hb2 hnum hI2 hbi)
     | (go_at_call 64; refine (mutex_do (HW.out.1.below H1.out.1) H2.out.1 H2.out.2.1 H2.out.2.2 (nums_good HN.out.2) (by have := nums_three HN.out.2; simp) HW.out.2.2.2.1 HW.out.2.2.2.2.1).mono ?_; intro e w3 hh; obtain ⟨b9, rfl, HQ⟩ := LnP.open hh; clear hh))
   go_ret
   have hbw := H1.out.1.trans (H2.out.1.mono H1.out.1.size)
   have hR := HR.out; subst hR
   exact LnP.of_q HQ.out.1 (LnQ.from (hbw.mono HW.out.2.2.2.2.2.1) HQ.out.2)
  exact key _ rfl
set_option maxRecDepth 100000 in
set_option maxHeartbeats 1000000 in
theorem line_mutexB (h : PSI w B st rb) (hE : Env w) (hB8 : 8 ≤ B) {l : Txt} (hl : l.length ≤ 100000) {N : Nat} (hs : Sz st N) (hN : N + 1 ≤ 1000000) {r : List Txt} (hr0 : r ≠ []) (hx : spc 32 l = mutexW :: r) {ns : List Int} (hns : numsF r = some ns) :
    Calls Tryz.prog 31 #[.pointer (some ⟨rb, 0, none⟩), .string (Go.Proofs.YtefaaginedideaaGreatDoor.B l)] w (LnP w B rb (lineF st l)) := by
  have hmf : ∀ (fn : Fn) (first cap : Array Value) (w : World), (Instr.makeFunc fn first cap).run Tryz.prog w = .ok (.func fn first cap) w := fun _ _ _ _ => rfl
  have hge := h.ge
  rw [lineF_of hx]
  obtain ⟨n, hn⟩ : ∃ n, n = r.length + 1 := ⟨_, rfl⟩
  have hn2 : 2 ≤ n := by cases r with | nil => exact absurd rfl hr0 | cons _ _ => simp at hn; omega
  have hnl := spc_len 32 l
  rw [hx, List.length_cons] at hnl
  have n0 : 0 < n := by omega
  have n1 : (1 : Int) ≤ (n : Int) := by omega
  have n2 : 1 ≤ n := by omega
  have n3 : ¬ n = 1 := by omega
  have n4 : ¬ n - 1 = 0 := by omega
  have n5 : n ≤ 100001 := by omega
  have n6 : ((n - 1 : Nat) == 0) = false := by simp; omega
  have hsp := ssplit_is l w hE (by omega) (mutexW :: r) hx n hn.symm
  have hlm : ∀ y ∈ (r : List Txt), y.length ≤ 100000 := fun y hy => by have := (spc_mem 32 l y (by rw [hx]; simp [hy])).2; omega
  have q0 : ((Go.Proofs.YtefaaginedideaaGreatDoor.B mutexW).toList == (⟨#[111, 112]⟩ : ByteArray).toList) = false := (word_eq mutexW opW).trans (decide_eq_false (by decide))
  have q1 : ((Go.Proofs.YtefaaginedideaaGreatDoor.B mutexW).toList == (⟨#[99, 97, 108, 108]⟩ : ByteArray).toList) = false := (word_eq mutexW callW).trans (decide_eq_false (by decide))
  have q2 : ((Go.Proofs.YtefaaginedideaaGreatDoor.B mutexW).toList == (⟨#[102, 114, 97, 109, 101, 115]⟩ : ByteArray).toList) = false := (word_eq mutexW framesW).trans (decide_eq_false (by decide))
  have q3 : ((Go.Proofs.YtefaaginedideaaGreatDoor.B mutexW).toList == (⟨#[100, 111, 103]⟩ : ByteArray).toList) = false := (word_eq mutexW dogW).trans (decide_eq_false (by decide))
  have q4 : ((Go.Proofs.YtefaaginedideaaGreatDoor.B mutexW).toList == (⟨#[109, 117, 116, 101, 120]⟩ : ByteArray).toList) = true := (word_eq mutexW mutexW).trans (decide_eq_true rfl)
  rw [if_neg (by decide), hns]
  simp only
  have HW := Lib.hid (And.intro h (And.intro hE (And.intro hlm (And.intro hs (And.intro hN (And.intro hge hB8))))))
  have HN := Lib.hid (And.intro hn (hns))
  clear h hE hlm hs hN hge hx hB8 hn hnl hns hr0
  have key : ∀ R : Option PSt, R = doF st mutexW ns → Calls Tryz.prog 31 #[.pointer (some ⟨rb, 0, none⟩), .string (Go.Proofs.YtefaaginedideaaGreatDoor.B l)] w (LnP w B rb R) := by
   intro R hR0
   have HR := Lib.hid hR0
   clear hR0
   generalize Go.Proofs.YtefaaginedideaaGreatDoor.B mutexW = sx at *
   go_enter Tryz.func31, Tryz.ntmps31
   go_wp2_with (first
     | (go_at_call 59; refine hsp.mono ?_; rintro e w1 ⟨g, rfl, hT, hb1⟩; have k0 := RdT.first hT; have hT1 := hT.tl; have H1 := Lib.hid (And.intro hb1 hT1); clear hb1 hT hT1; clear hsp; have hnum := numbers_is (n - 1) (n - 1) (HW.out.2.1.bel H1.out.1) H1.out.2 (by have := HN.out.1; omega) (by omega) (fun y hy => by have := HW.out.2.2.1 y hy; omega); unfold NumsV at hnum; rw [HN.out.2] at hnum)
     | (go_at_call 69; refine hnum.mono ?_; rintro e w2 ⟨hb2, v2, b2, rfl, hI2, hbi⟩; have H2 := Lib.hid (And.intro hb2 (And.intro hI2 hbi)); clear hb2 hnum hI2 hbi)
     | (go_at_call 64; refine (mutex_do (HW.out.1.below H1.out.1) H2.out.1 H2.out.2.1 H2.out.2.2 (nums_good HN.out.2) (by have := nums_three HN.out.2; have := HN.out.1; omega) HW.out.2.2.2.1 HW.out.2.2.2.2.1).mono ?_; intro e w3 hh; obtain ⟨b9, rfl, HQ⟩ := LnP.open hh; clear hh))
   go_ret
   have hbw := H1.out.1.trans (H2.out.1.mono H1.out.1.size)
   have hR := HR.out; subst hR
   exact LnP.of_q HQ.out.1 (LnQ.from (hbw.mono HW.out.2.2.2.2.2.1) HQ.out.2)
  exact key _ rfl
set_option maxRecDepth 100000 in
set_option maxHeartbeats 1000000 in
theorem line_mutexbadB (h : PSI w B st rb) (hE : Env w) (hB8 : 8 ≤ B) {l : Txt} (hl : l.length ≤ 100000) {N : Nat} (hs : Sz st N) (hN : N + 1 ≤ 1000000) {r : List Txt} (hr0 : r ≠ []) (hx : spc 32 l = mutexW :: r) (hns : numsF r = none) :
    Calls Tryz.prog 31 #[.pointer (some ⟨rb, 0, none⟩), .string (Go.Proofs.YtefaaginedideaaGreatDoor.B l)] w (LnP w B rb (lineF st l)) := by
  have hmf : ∀ (fn : Fn) (first cap : Array Value) (w : World), (Instr.makeFunc fn first cap).run Tryz.prog w = .ok (.func fn first cap) w := fun _ _ _ _ => rfl
  have hge := h.ge
  rw [lineF_of hx]
  obtain ⟨n, hn⟩ : ∃ n, n = r.length + 1 := ⟨_, rfl⟩
  have hn2 : 2 ≤ n := by cases r with | nil => exact absurd rfl hr0 | cons _ _ => simp at hn; omega
  have hnl := spc_len 32 l
  rw [hx, List.length_cons] at hnl
  have n0 : 0 < n := by omega
  have n1 : (1 : Int) ≤ (n : Int) := by omega
  have n2 : 1 ≤ n := by omega
  have n3 : ¬ n = 1 := by omega
  have n4 : ¬ n - 1 = 0 := by omega
  have n5 : n ≤ 100001 := by omega
  have n6 : ((n - 1 : Nat) == 0) = false := by simp; omega
  have hsp := ssplit_is l w hE (by omega) (mutexW :: r) hx n hn.symm
  have hlm : ∀ y ∈ (r : List Txt), y.length ≤ 100000 := fun y hy => by have := (spc_mem 32 l y (by rw [hx]; simp [hy])).2; omega
  have q0 : ((Go.Proofs.YtefaaginedideaaGreatDoor.B mutexW).toList == (⟨#[111, 112]⟩ : ByteArray).toList) = false := (word_eq mutexW opW).trans (decide_eq_false (by decide))
  have q1 : ((Go.Proofs.YtefaaginedideaaGreatDoor.B mutexW).toList == (⟨#[99, 97, 108, 108]⟩ : ByteArray).toList) = false := (word_eq mutexW callW).trans (decide_eq_false (by decide))
  have q2 : ((Go.Proofs.YtefaaginedideaaGreatDoor.B mutexW).toList == (⟨#[102, 114, 97, 109, 101, 115]⟩ : ByteArray).toList) = false := (word_eq mutexW framesW).trans (decide_eq_false (by decide))
  have q3 : ((Go.Proofs.YtefaaginedideaaGreatDoor.B mutexW).toList == (⟨#[100, 111, 103]⟩ : ByteArray).toList) = false := (word_eq mutexW dogW).trans (decide_eq_false (by decide))
  have q4 : ((Go.Proofs.YtefaaginedideaaGreatDoor.B mutexW).toList == (⟨#[109, 117, 116, 101, 120]⟩ : ByteArray).toList) = true := (word_eq mutexW mutexW).trans (decide_eq_true rfl)
  rw [if_neg (by decide), hns]
  simp only
  have HW := Lib.hid (And.intro h (And.intro hE (And.intro hlm (And.intro hs (And.intro hN (And.intro hge hB8))))))
  have HN := Lib.hid (And.intro hn (hns))
  clear h hE hlm hs hN hge hx hB8 hn hnl hns hr0
  have key : ∀ R : Option PSt, R = (none : Option PSt) → Calls Tryz.prog 31 #[.pointer (some ⟨rb, 0, none⟩), .string (Go.Proofs.YtefaaginedideaaGreatDoor.B l)] w (LnP w B rb R) := by
   intro R hR0
   have HR := Lib.hid hR0
   clear hR0
   generalize Go.Proofs.YtefaaginedideaaGreatDoor.B mutexW = sx at *
   go_enter Tryz.func31, Tryz.ntmps31
   go_wp2_with (first
     | (go_at_call 59; refine hsp.mono ?_; rintro e w1 ⟨g, rfl, hT, hb1⟩; have k0 := RdT.first hT; have hT1 := hT.tl; have H1 := Lib.hid (And.intro hb1 hT1); clear hb1 hT hT1; clear hsp; have hnum := numbers_is (n - 1) (n - 1) (HW.out.2.1.bel H1.out.1) H1.out.2 (by have := HN.out.1; omega) (by omega) (fun y hy => by have := HW.out.2.2.1 y hy; omega); unfold NumsV at hnum; rw [HN.out.2] at hnum)
     | (go_at_call 69; refine hnum.mono ?_; rintro e w2 ⟨hb2, rfl⟩; have H2 := Lib.hid hb2; clear hb2 hnum))
   go_ret
   have hbw := H1.out.1.trans (H2.out.mono H1.out.1.size)
   have hR := HR.out; subst hR
   exact LnP.no rfl (hbw.mono HW.out.2.2.2.2.2.1)
  exact key _ rfl
set_option maxRecDepth 100000 in
set_option maxHeartbeats 1000000 in
theorem line_gapA (h : PSI w B st rb) (hE : Env w) (hB8 : 8 ≤ B) {l : Txt} (hl : l.length ≤ 100000) {N : Nat} (hs : Sz st N) (hN : N + 1 ≤ 1000000) (hx : spc 32 l = gapW :: []) :
    Calls Tryz.prog 31 #[.pointer (some ⟨rb, 0, none⟩), .string (Go.Proofs.YtefaaginedideaaGreatDoor.B l)] w (LnP w B rb (lineF st l)) := by
  have hmf : ∀ (fn : Fn) (first cap : Array Value) (w : World), (Instr.makeFunc fn first cap).run Tryz.prog w = .ok (.func fn first cap) w := fun _ _ _ _ => rfl
  have hge := h.ge
  rw [lineF_of hx]
  have hsp := ssplit_is l w hE (by omega) (gapW :: []) hx 1 rfl
  have hlm : ∀ y ∈ ([] : List Txt), y.length ≤ 100000 := fun y hy => by have := (spc_mem 32 l y (by rw [hx]; simp [hy])).2; omega
  have q0 : ((Go.Proofs.YtefaaginedideaaGreatDoor.B gapW).toList == (⟨#[111, 112]⟩ : ByteArray).toList) = false := (word_eq gapW opW).trans (decide_eq_false (by decide))
  have q1 : ((Go.Proofs.YtefaaginedideaaGreatDoor.B gapW).toList == (⟨#[99, 97, 108, 108]⟩ : ByteArray).toList) = false := (word_eq gapW callW).trans (decide_eq_false (by decide))
  have q2 : ((Go.Proofs.YtefaaginedideaaGreatDoor.B gapW).toList == (⟨#[102, 114, 97, 109, 101, 115]⟩ : ByteArray).toList) = false := (word_eq gapW framesW).trans (decide_eq_false (by decide))
  have q3 : ((Go.Proofs.YtefaaginedideaaGreatDoor.B gapW).toList == (⟨#[100, 111, 103]⟩ : ByteArray).toList) = false := (word_eq gapW dogW).trans (decide_eq_false (by decide))
  have q4 : ((Go.Proofs.YtefaaginedideaaGreatDoor.B gapW).toList == (⟨#[109, 117, 116, 101, 120]⟩ : ByteArray).toList) = false := (word_eq gapW mutexW).trans (decide_eq_false (by decide))
  have q5 : ((Go.Proofs.YtefaaginedideaaGreatDoor.B gapW).toList == (⟨#[103, 97, 112]⟩ : ByteArray).toList) = true := (word_eq gapW gapW).trans (decide_eq_true rfl)
  rw [if_neg (by decide)]
  have hns : numsF [] = some [] := rfl
  rw [hns]
  simp only
  have HW := Lib.hid (And.intro h (And.intro hE (And.intro hlm (And.intro hs (And.intro hN (And.intro hge hB8))))))
  have HN := Lib.hid (And.intro trivial hns)
  clear h hE hlm hs hN hge hx hB8  hns 
  have key : ∀ R : Option PSt, R = doF st gapW [] → Calls Tryz.prog 31 #[.pointer (some ⟨rb, 0, none⟩), .string (Go.Proofs.YtefaaginedideaaGreatDoor.B l)] w (LnP w B rb R) := by
   intro R hR0
   have HR := Lib.hid hR0
   clear hR0
   generalize Go.Proofs.YtefaaginedideaaGreatDoor.B gapW = sx at *
   go_enter Tryz.func31, Tryz.ntmps31
   go_wp2_with (first
     | (go_at_call 59; refine hsp.mono ?_; rintro e w1 ⟨g, rfl, hT, hb1⟩; have k0 := RdT.first hT; have hT1 : RdT w1 (some ⟨g, 0, none⟩) [] := fun k y hy => (by cases hy); have H1 := Lib.hid (And.intro hb1 hT1); clear hb1 hT hT1; clear hsp; have hnum := numbers_is 0 0 (HW.out.2.1.bel H1.out.1) H1.out.2 rfl (by omega) (fun y hy => by have := HW.out.2.2.1 y hy; omega); unfold NumsV at hnum; rw [HN.out.2] at hnum)
     | (go_at_call 69; refine hnum.mono ?_; rintro e w2 ⟨hb2, v2, b2, rfl, hI2, hbi⟩; have H2 := Lib.hid (And.intro hb2 (And.intro hI2 hbi)); clear hb2 hnum hI2 hbi)
     | (go_at_call 65; refine (gap_do (HW.out.1.below H1.out.1) H2.out.1 H2.out.2.1 H2.out.2.2 (nums_good HN.out.2) (by have := nums_three HN.out.2; simp) HW.out.2.2.2.1 HW.out.2.2.2.2.1).mono ?_; intro e w3 hh; obtain ⟨b9, rfl, HQ⟩ := LnP.open hh; clear hh))
   go_ret
   have hbw := H1.out.1.trans (H2.out.1.mono H1.out.1.size)
   have hR := HR.out; subst hR
   exact LnP.of_q HQ.out.1 (LnQ.from (hbw.mono HW.out.2.2.2.2.2.1) HQ.out.2)
  exact key _ rfl
set_option maxRecDepth 100000 in
set_option maxHeartbeats 1000000 in
theorem line_gapB (h : PSI w B st rb) (hE : Env w) (hB8 : 8 ≤ B) {l : Txt} (hl : l.length ≤ 100000) {N : Nat} (hs : Sz st N) (hN : N + 1 ≤ 1000000) {r : List Txt} (hr0 : r ≠ []) (hx : spc 32 l = gapW :: r) {ns : List Int} (hns : numsF r = some ns) :
    Calls Tryz.prog 31 #[.pointer (some ⟨rb, 0, none⟩), .string (Go.Proofs.YtefaaginedideaaGreatDoor.B l)] w (LnP w B rb (lineF st l)) := by
  have hmf : ∀ (fn : Fn) (first cap : Array Value) (w : World), (Instr.makeFunc fn first cap).run Tryz.prog w = .ok (.func fn first cap) w := fun _ _ _ _ => rfl
  have hge := h.ge
  rw [lineF_of hx]
  obtain ⟨n, hn⟩ : ∃ n, n = r.length + 1 := ⟨_, rfl⟩
  have hn2 : 2 ≤ n := by cases r with | nil => exact absurd rfl hr0 | cons _ _ => simp at hn; omega
  have hnl := spc_len 32 l
  rw [hx, List.length_cons] at hnl
  have n0 : 0 < n := by omega
  have n1 : (1 : Int) ≤ (n : Int) := by omega
  have n2 : 1 ≤ n := by omega
  have n3 : ¬ n = 1 := by omega
  have n4 : ¬ n - 1 = 0 := by omega
  have n5 : n ≤ 100001 := by omega
  have n6 : ((n - 1 : Nat) == 0) = false := by simp; omega
  have hsp := ssplit_is l w hE (by omega) (gapW :: r) hx n hn.symm
  have hlm : ∀ y ∈ (r : List Txt), y.length ≤ 100000 := fun y hy => by have := (spc_mem 32 l y (by rw [hx]; simp [hy])).2; omega
  have q0 : ((Go.Proofs.YtefaaginedideaaGreatDoor.B gapW).toList == (⟨#[111, 112]⟩ : ByteArray).toList) = false := (word_eq gapW opW).trans (decide_eq_false (by decide))
  have q1 : ((Go.Proofs.YtefaaginedideaaGreatDoor.B gapW).toList == (⟨#[99, 97, 108, 108]⟩ : ByteArray).toList) = false := (word_eq gapW callW).trans (decide_eq_false (by decide))
  have q2 : ((Go.Proofs.YtefaaginedideaaGreatDoor.B gapW).toList == (⟨#[102, 114, 97, 109, 101, 115]⟩ : ByteArray).toList) = false := (word_eq gapW framesW).trans (decide_eq_false (by decide))
  have q3 : ((Go.Proofs.YtefaaginedideaaGreatDoor.B gapW).toList == (⟨#[100, 111, 103]⟩ : ByteArray).toList) = false := (word_eq gapW dogW).trans (decide_eq_false (by decide))
  have q4 : ((Go.Proofs.YtefaaginedideaaGreatDoor.B gapW).toList == (⟨#[109, 117, 116, 101, 120]⟩ : ByteArray).toList) = false := (word_eq gapW mutexW).trans (decide_eq_false (by decide))
  have q5 : ((Go.Proofs.YtefaaginedideaaGreatDoor.B gapW).toList == (⟨#[103, 97, 112]⟩ : ByteArray).toList) = true := (word_eq gapW gapW).trans (decide_eq_true rfl)
  rw [if_neg (by decide), hns]
  simp only
  have HW := Lib.hid (And.intro h (And.intro hE (And.intro hlm (And.intro hs (And.intro hN (And.intro hge hB8))))))
  have HN := Lib.hid (And.intro hn (hns))
  clear h hE hlm hs hN hge hx hB8 hn hnl hns hr0
  have key : ∀ R : Option PSt, R = doF st gapW ns → Calls Tryz.prog 31 #[.pointer (some ⟨rb, 0, none⟩), .string (Go.Proofs.YtefaaginedideaaGreatDoor.B l)] w (LnP w B rb R) := by
   intro R hR0
   have HR := Lib.hid hR0
   clear hR0
   generalize Go.Proofs.YtefaaginedideaaGreatDoor.B gapW = sx at *
   go_enter Tryz.func31, Tryz.ntmps31
   go_wp2_with (first
     | (go_at_call 59; refine hsp.mono ?_; rintro e w1 ⟨g, rfl, hT, hb1⟩; have k0 := RdT.first hT; have hT1 := hT.tl; have H1 := Lib.hid (And.intro hb1 hT1); clear hb1 hT hT1; clear hsp; have hnum := numbers_is (n - 1) (n - 1) (HW.out.2.1.bel H1.out.1) H1.out.2 (by have := HN.out.1; omega) (by omega) (fun y hy => by have := HW.out.2.2.1 y hy; omega); unfold NumsV at hnum; rw [HN.out.2] at hnum)
     | (go_at_call 69; refine hnum.mono ?_; rintro e w2 ⟨hb2, v2, b2, rfl, hI2, hbi⟩; have H2 := Lib.hid (And.intro hb2 (And.intro hI2 hbi)); clear hb2 hnum hI2 hbi)
     | (go_at_call 65; refine (gap_do (HW.out.1.below H1.out.1) H2.out.1 H2.out.2.1 H2.out.2.2 (nums_good HN.out.2) (by have := nums_three HN.out.2; have := HN.out.1; omega) HW.out.2.2.2.1 HW.out.2.2.2.2.1).mono ?_; intro e w3 hh; obtain ⟨b9, rfl, HQ⟩ := LnP.open hh; clear hh))
   go_ret
   have hbw := H1.out.1.trans (H2.out.1.mono H1.out.1.size)
   have hR := HR.out; subst hR
   exact LnP.of_q HQ.out.1 (LnQ.from (hbw.mono HW.out.2.2.2.2.2.1) HQ.out.2)
  exact key _ rfl
set_option maxRecDepth 100000 in
set_option maxHeartbeats 1000000 in
theorem line_gapbadB (h : PSI w B st rb) (hE : Env w) (hB8 : 8 ≤ B) {l : Txt} (hl : l.length ≤ 100000) {N : Nat} (hs : Sz st N) (hN : N + 1 ≤ 1000000) {r : List Txt} (hr0 : r ≠ []) (hx : spc 32 l = gapW :: r) (hns : numsF r = none) :
    Calls Tryz.prog 31 #[.pointer (some ⟨rb, 0, none⟩), .string (Go.Proofs.YtefaaginedideaaGreatDoor.B l)] w (LnP w B rb (lineF st l)) := by
  have hmf : ∀ (fn : Fn) (first cap : Array Value) (w : World), (Instr.makeFunc fn first cap).run Tryz.prog w = .ok (.func fn first cap) w := fun _ _ _ _ => rfl
  have hge := h.ge
  rw [lineF_of hx]
  obtain ⟨n, hn⟩ : ∃ n, n = r.length + 1 := ⟨_, rfl⟩
  have hn2 : 2 ≤ n := by cases r with | nil => exact absurd rfl hr0 | cons _ _ => simp at hn; omega
  have hnl := spc_len 32 l
  rw [hx, List.length_cons] at hnl
  have n0 : 0 < n := by omega
  have n1 : (1 : Int) ≤ (n : Int) := by omega
  have n2 : 1 ≤ n := by omega
  have n3 : ¬ n = 1 := by omega
  have n4 : ¬ n - 1 = 0 := by omega
  have n5 : n ≤ 100001 := by omega
  have n6 : ((n - 1 : Nat) == 0) = false := by simp; omega
  have hsp := ssplit_is l w hE (by omega) (gapW :: r) hx n hn.symm
  have hlm : ∀ y ∈ (r : List Txt), y.length ≤ 100000 := fun y hy => by have := (spc_mem 32 l y (by rw [hx]; simp [hy])).2; omega
  have q0 : ((Go.Proofs.YtefaaginedideaaGreatDoor.B gapW).toList == (⟨#[111, 112]⟩ : ByteArray).toList) = false := (word_eq gapW opW).trans (decide_eq_false (by decide))
  have q1 : ((Go.Proofs.YtefaaginedideaaGreatDoor.B gapW).toList == (⟨#[99, 97, 108, 108]⟩ : ByteArray).toList) = false := (word_eq gapW callW).trans (decide_eq_false (by decide))
  have q2 : ((Go.Proofs.YtefaaginedideaaGreatDoor.B gapW).toList == (⟨#[102, 114, 97, 109, 101, 115]⟩ : ByteArray).toList) = false := (word_eq gapW framesW).trans (decide_eq_false (by decide))
  have q3 : ((Go.Proofs.YtefaaginedideaaGreatDoor.B gapW).toList == (⟨#[100, 111, 103]⟩ : ByteArray).toList) = false := (word_eq gapW dogW).trans (decide_eq_false (by decide))
  have q4 : ((Go.Proofs.YtefaaginedideaaGreatDoor.B gapW).toList == (⟨#[109, 117, 116, 101, 120]⟩ : ByteArray).toList) = false := (word_eq gapW mutexW).trans (decide_eq_false (by decide))
  have q5 : ((Go.Proofs.YtefaaginedideaaGreatDoor.B gapW).toList == (⟨#[103, 97, 112]⟩ : ByteArray).toList) = true := (word_eq gapW gapW).trans (decide_eq_true rfl)
  rw [if_neg (by decide), hns]
  simp only
  have HW := Lib.hid (And.intro h (And.intro hE (And.intro hlm (And.intro hs (And.intro hN (And.intro hge hB8))))))
  have HN := Lib.hid (And.intro hn (hns))
  clear h hE hlm hs hN hge hx hB8 hn hnl hns hr0
  have key : ∀ R : Option PSt, R = (none : Option PSt) → Calls Tryz.prog 31 #[.pointer (some ⟨rb, 0, none⟩), .string (Go.Proofs.YtefaaginedideaaGreatDoor.B l)] w (LnP w B rb R) := by
   intro R hR0
   have HR := Lib.hid hR0
   clear hR0
   generalize Go.Proofs.YtefaaginedideaaGreatDoor.B gapW = sx at *
   go_enter Tryz.func31, Tryz.ntmps31
   go_wp2_with (first
     | (go_at_call 59; refine hsp.mono ?_; rintro e w1 ⟨g, rfl, hT, hb1⟩; have k0 := RdT.first hT; have hT1 := hT.tl; have H1 := Lib.hid (And.intro hb1 hT1); clear hb1 hT hT1; clear hsp; have hnum := numbers_is (n - 1) (n - 1) (HW.out.2.1.bel H1.out.1) H1.out.2 (by have := HN.out.1; omega) (by omega) (fun y hy => by have := HW.out.2.2.1 y hy; omega); unfold NumsV at hnum; rw [HN.out.2] at hnum)
     | (go_at_call 69; refine hnum.mono ?_; rintro e w2 ⟨hb2, rfl⟩; have H2 := Lib.hid hb2; clear hb2 hnum))
   go_ret
   have hbw := H1.out.1.trans (H2.out.mono H1.out.1.size)
   have hR := HR.out; subst hR
   exact LnP.no rfl (hbw.mono HW.out.2.2.2.2.2.1)
  exact key _ rfl
set_option maxRecDepth 100000 in
set_option maxHeartbeats 1000000 in
theorem line_taskA (h : PSI w B st rb) (hE : Env w) (hB8 : 8 ≤ B) {l : Txt} (hl : l.length ≤ 100000) {N : Nat} (hs : Sz st N) (hN : N + 1 ≤ 1000000) (hx : spc 32 l = taskW :: []) :
    Calls Tryz.prog 31 #[.pointer (some ⟨rb, 0, none⟩), .string (Go.Proofs.YtefaaginedideaaGreatDoor.B l)] w (LnP w B rb (lineF st l)) := by
  have hmf : ∀ (fn : Fn) (first cap : Array Value) (w : World), (Instr.makeFunc fn first cap).run Tryz.prog w = .ok (.func fn first cap) w := fun _ _ _ _ => rfl
  have hge := h.ge
  rw [lineF_of hx]
  have hsp := ssplit_is l w hE (by omega) (taskW :: []) hx 1 rfl
  have hlm : ∀ y ∈ ([] : List Txt), y.length ≤ 100000 := fun y hy => by have := (spc_mem 32 l y (by rw [hx]; simp [hy])).2; omega
  have q0 : ((Go.Proofs.YtefaaginedideaaGreatDoor.B taskW).toList == (⟨#[111, 112]⟩ : ByteArray).toList) = false := (word_eq taskW opW).trans (decide_eq_false (by decide))
  have q1 : ((Go.Proofs.YtefaaginedideaaGreatDoor.B taskW).toList == (⟨#[99, 97, 108, 108]⟩ : ByteArray).toList) = false := (word_eq taskW callW).trans (decide_eq_false (by decide))
  have q2 : ((Go.Proofs.YtefaaginedideaaGreatDoor.B taskW).toList == (⟨#[102, 114, 97, 109, 101, 115]⟩ : ByteArray).toList) = false := (word_eq taskW framesW).trans (decide_eq_false (by decide))
  have q3 : ((Go.Proofs.YtefaaginedideaaGreatDoor.B taskW).toList == (⟨#[100, 111, 103]⟩ : ByteArray).toList) = false := (word_eq taskW dogW).trans (decide_eq_false (by decide))
  have q4 : ((Go.Proofs.YtefaaginedideaaGreatDoor.B taskW).toList == (⟨#[109, 117, 116, 101, 120]⟩ : ByteArray).toList) = false := (word_eq taskW mutexW).trans (decide_eq_false (by decide))
  have q5 : ((Go.Proofs.YtefaaginedideaaGreatDoor.B taskW).toList == (⟨#[103, 97, 112]⟩ : ByteArray).toList) = false := (word_eq taskW gapW).trans (decide_eq_false (by decide))
  have q6 : ((Go.Proofs.YtefaaginedideaaGreatDoor.B taskW).toList == (⟨#[116, 97, 115, 107]⟩ : ByteArray).toList) = true := (word_eq taskW taskW).trans (decide_eq_true rfl)
  rw [if_neg (by decide)]
  have hns : numsF [] = some [] := rfl
  rw [hns]
  simp only
  have HW := Lib.hid (And.intro h (And.intro hE (And.intro hlm (And.intro hs (And.intro hN (And.intro hge hB8))))))
  have HN := Lib.hid (And.intro trivial hns)
  clear h hE hlm hs hN hge hx hB8  hns 
  have key : ∀ R : Option PSt, R = doF st taskW [] → Calls Tryz.prog 31 #[.pointer (some ⟨rb, 0, none⟩), .string (Go.Proofs.YtefaaginedideaaGreatDoor.B l)] w (LnP w B rb R) := by
   intro R hR0
   have HR := Lib.hid hR0
   clear hR0
   generalize Go.Proofs.YtefaaginedideaaGreatDoor.B taskW = sx at *
   go_enter Tryz.func31, Tryz.ntmps31
   go_wp2_with (first
     | (go_at_call 59; refine hsp.mono ?_; rintro e w1 ⟨g, rfl, hT, hb1⟩; have k0 := RdT.first hT; have hT1 : RdT w1 (some ⟨g, 0, none⟩) [] := fun k y hy => (by cases hy); have H1 := Lib.hid (And.intro hb1 hT1); clear hb1 hT hT1; clear hsp; have hnum := numbers_is 0 0 (HW.out.2.1.bel H1.out.1) H1.out.2 rfl (by omega) (fun y hy => by have := HW.out.2.2.1 y hy; omega); unfold NumsV at hnum; rw [HN.out.2] at hnum)
     | (go_at_call 69; refine hnum.mono ?_; rintro e w2 ⟨hb2, v2, b2, rfl, hI2, hbi⟩; have H2 := Lib.hid (And.intro hb2 (And.intro hI2 hbi)); clear hb2 hnum hI2 hbi)
     | (go_at_call 66; refine (task_do (HW.out.1.below H1.out.1) H2.out.1 H2.out.2.1 H2.out.2.2 (nums_good HN.out.2) (by have := nums_three HN.out.2; simp) HW.out.2.2.2.1 HW.out.2.2.2.2.1).mono ?_; intro e w3 hh; obtain ⟨b9, rfl, HQ⟩ := LnP.open hh; clear hh))
   go_ret
   have hbw := H1.out.1.trans (H2.out.1.mono H1.out.1.size)
   have hR := HR.out; subst hR
   exact LnP.of_q HQ.out.1 (LnQ.from (hbw.mono HW.out.2.2.2.2.2.1) HQ.out.2)
  exact key _ rfl
set_option maxRecDepth 100000 in
set_option maxHeartbeats 1000000 in
theorem line_taskB (h : PSI w B st rb) (hE : Env w) (hB8 : 8 ≤ B) {l : Txt} (hl : l.length ≤ 100000) {N : Nat} (hs : Sz st N) (hN : N + 1 ≤ 1000000) {r : List Txt} (hr0 : r ≠ []) (hx : spc 32 l = taskW :: r) {ns : List Int} (hns : numsF r = some ns) :
    Calls Tryz.prog 31 #[.pointer (some ⟨rb, 0, none⟩), .string (Go.Proofs.YtefaaginedideaaGreatDoor.B l)] w (LnP w B rb (lineF st l)) := by
  have hmf : ∀ (fn : Fn) (first cap : Array Value) (w : World), (Instr.makeFunc fn first cap).run Tryz.prog w = .ok (.func fn first cap) w := fun _ _ _ _ => rfl
  have hge := h.ge
  rw [lineF_of hx]
  obtain ⟨n, hn⟩ : ∃ n, n = r.length + 1 := ⟨_, rfl⟩
  have hn2 : 2 ≤ n := by cases r with | nil => exact absurd rfl hr0 | cons _ _ => simp at hn; omega
  have hnl := spc_len 32 l
  rw [hx, List.length_cons] at hnl
  have n0 : 0 < n := by omega
  have n1 : (1 : Int) ≤ (n : Int) := by omega
  have n2 : 1 ≤ n := by omega
  have n3 : ¬ n = 1 := by omega
  have n4 : ¬ n - 1 = 0 := by omega
  have n5 : n ≤ 100001 := by omega
  have n6 : ((n - 1 : Nat) == 0) = false := by simp; omega
  have hsp := ssplit_is l w hE (by omega) (taskW :: r) hx n hn.symm
  have hlm : ∀ y ∈ (r : List Txt), y.length ≤ 100000 := fun y hy => by have := (spc_mem 32 l y (by rw [hx]; simp [hy])).2; omega
  have q0 : ((Go.Proofs.YtefaaginedideaaGreatDoor.B taskW).toList == (⟨#[111, 112]⟩ : ByteArray).toList) = false := (word_eq taskW opW).trans (decide_eq_false (by decide))
  have q1 : ((Go.Proofs.YtefaaginedideaaGreatDoor.B taskW).toList == (⟨#[99, 97, 108, 108]⟩ : ByteArray).toList) = false := (word_eq taskW callW).trans (decide_eq_false (by decide))
  have q2 : ((Go.Proofs.YtefaaginedideaaGreatDoor.B taskW).toList == (⟨#[102, 114, 97, 109, 101, 115]⟩ : ByteArray).toList) = false := (word_eq taskW framesW).trans (decide_eq_false (by decide))
  have q3 : ((Go.Proofs.YtefaaginedideaaGreatDoor.B taskW).toList == (⟨#[100, 111, 103]⟩ : ByteArray).toList) = false := (word_eq taskW dogW).trans (decide_eq_false (by decide))
  have q4 : ((Go.Proofs.YtefaaginedideaaGreatDoor.B taskW).toList == (⟨#[109, 117, 116, 101, 120]⟩ : ByteArray).toList) = false := (word_eq taskW mutexW).trans (decide_eq_false (by decide))
  have q5 : ((Go.Proofs.YtefaaginedideaaGreatDoor.B taskW).toList == (⟨#[103, 97, 112]⟩ : ByteArray).toList) = false := (word_eq taskW gapW).trans (decide_eq_false (by decide))
  have q6 : ((Go.Proofs.YtefaaginedideaaGreatDoor.B taskW).toList == (⟨#[116, 97, 115, 107]⟩ : ByteArray).toList) = true := (word_eq taskW taskW).trans (decide_eq_true rfl)
  rw [if_neg (by decide), hns]
  simp only
  have HW := Lib.hid (And.intro h (And.intro hE (And.intro hlm (And.intro hs (And.intro hN (And.intro hge hB8))))))
  have HN := Lib.hid (And.intro hn (hns))
  clear h hE hlm hs hN hge hx hB8 hn hnl hns hr0
  have key : ∀ R : Option PSt, R = doF st taskW ns → Calls Tryz.prog 31 #[.pointer (some ⟨rb, 0, none⟩), .string (Go.Proofs.YtefaaginedideaaGreatDoor.B l)] w (LnP w B rb R) := by
   intro R hR0
   have HR := Lib.hid hR0
   clear hR0
   generalize Go.Proofs.YtefaaginedideaaGreatDoor.B taskW = sx at *
   go_enter Tryz.func31, Tryz.ntmps31
   go_wp2_with (first
     | (go_at_call 59; refine hsp.mono ?_; rintro e w1 ⟨g, rfl, hT, hb1⟩; have k0 := RdT.first hT; have hT1 := hT.tl; have H1 := Lib.hid (And.intro hb1 hT1); clear hb1 hT hT1; clear hsp; have hnum := numbers_is (n - 1) (n - 1) (HW.out.2.1.bel H1.out.1) H1.out.2 (by have := HN.out.1; omega) (by omega) (fun y hy => by have := HW.out.2.2.1 y hy; omega); unfold NumsV at hnum; rw [HN.out.2] at hnum)
     | (go_at_call 69; refine hnum.mono ?_; rintro e w2 ⟨hb2, v2, b2, rfl, hI2, hbi⟩; have H2 := Lib.hid (And.intro hb2 (And.intro hI2 hbi)); clear hb2 hnum hI2 hbi)
     | (go_at_call 66; refine (task_do (HW.out.1.below H1.out.1) H2.out.1 H2.out.2.1 H2.out.2.2 (nums_good HN.out.2) (by have := nums_three HN.out.2; have := HN.out.1; omega) HW.out.2.2.2.1 HW.out.2.2.2.2.1).mono ?_; intro e w3 hh; obtain ⟨b9, rfl, HQ⟩ := LnP.open hh; clear hh))
   go_ret
   have hbw := H1.out.1.trans (H2.out.1.mono H1.out.1.size)
   have hR := HR.out; subst hR
   exact LnP.of_q HQ.out.1 (LnQ.from (hbw.mono HW.out.2.2.2.2.2.1) HQ.out.2)
  exact key _ rfl
set_option maxRecDepth 100000 in
set_option maxHeartbeats 1000000 in
theorem line_taskbadB (h : PSI w B st rb) (hE : Env w) (hB8 : 8 ≤ B) {l : Txt} (hl : l.length ≤ 100000) {N : Nat} (hs : Sz st N) (hN : N + 1 ≤ 1000000) {r : List Txt} (hr0 : r ≠ []) (hx : spc 32 l = taskW :: r) (hns : numsF r = none) :
    Calls Tryz.prog 31 #[.pointer (some ⟨rb, 0, none⟩), .string (Go.Proofs.YtefaaginedideaaGreatDoor.B l)] w (LnP w B rb (lineF st l)) := by
  have hmf : ∀ (fn : Fn) (first cap : Array Value) (w : World), (Instr.makeFunc fn first cap).run Tryz.prog w = .ok (.func fn first cap) w := fun _ _ _ _ => rfl
  have hge := h.ge
  rw [lineF_of hx]
  obtain ⟨n, hn⟩ : ∃ n, n = r.length + 1 := ⟨_, rfl⟩
  have hn2 : 2 ≤ n := by cases r with | nil => exact absurd rfl hr0 | cons _ _ => simp at hn; omega
  have hnl := spc_len 32 l
  rw [hx, List.length_cons] at hnl
  have n0 : 0 < n := by omega
  have n1 : (1 : Int) ≤ (n : Int) := by omega
  have n2 : 1 ≤ n := by omega
  have n3 : ¬ n = 1 := by omega
  have n4 : ¬ n - 1 = 0 := by omega
  have n5 : n ≤ 100001 := by omega
  have n6 : ((n - 1 : Nat) == 0) = false := by simp; omega
  have hsp := ssplit_is l w hE (by omega) (taskW :: r) hx n hn.symm
  have hlm : ∀ y ∈ (r : List Txt), y.length ≤ 100000 := fun y hy => by have := (spc_mem 32 l y (by rw [hx]; simp [hy])).2; omega
  have q0 : ((Go.Proofs.YtefaaginedideaaGreatDoor.B taskW).toList == (⟨#[111, 112]⟩ : ByteArray).toList) = false := (word_eq taskW opW).trans (decide_eq_false (by decide))
  have q1 : ((Go.Proofs.YtefaaginedideaaGreatDoor.B taskW).toList == (⟨#[99, 97, 108, 108]⟩ : ByteArray).toList) = false := (word_eq taskW callW).trans (decide_eq_false (by decide))
  have q2 : ((Go.Proofs.YtefaaginedideaaGreatDoor.B taskW).toList == (⟨#[102, 114, 97, 109, 101, 115]⟩ : ByteArray).toList) = false := (word_eq taskW framesW).trans (decide_eq_false (by decide))
  have q3 : ((Go.Proofs.YtefaaginedideaaGreatDoor.B taskW).toList == (⟨#[100, 111, 103]⟩ : ByteArray).toList) = false := (word_eq taskW dogW).trans (decide_eq_false (by decide))
  have q4 : ((Go.Proofs.YtefaaginedideaaGreatDoor.B taskW).toList == (⟨#[109, 117, 116, 101, 120]⟩ : ByteArray).toList) = false := (word_eq taskW mutexW).trans (decide_eq_false (by decide))
  have q5 : ((Go.Proofs.YtefaaginedideaaGreatDoor.B taskW).toList == (⟨#[103, 97, 112]⟩ : ByteArray).toList) = false := (word_eq taskW gapW).trans (decide_eq_false (by decide))
  have q6 : ((Go.Proofs.YtefaaginedideaaGreatDoor.B taskW).toList == (⟨#[116, 97, 115, 107]⟩ : ByteArray).toList) = true := (word_eq taskW taskW).trans (decide_eq_true rfl)
  rw [if_neg (by decide), hns]
  simp only
  have HW := Lib.hid (And.intro h (And.intro hE (And.intro hlm (And.intro hs (And.intro hN (And.intro hge hB8))))))
  have HN := Lib.hid (And.intro hn (hns))
  clear h hE hlm hs hN hge hx hB8 hn hnl hns hr0
  have key : ∀ R : Option PSt, R = (none : Option PSt) → Calls Tryz.prog 31 #[.pointer (some ⟨rb, 0, none⟩), .string (Go.Proofs.YtefaaginedideaaGreatDoor.B l)] w (LnP w B rb R) := by
   intro R hR0
   have HR := Lib.hid hR0
   clear hR0
   generalize Go.Proofs.YtefaaginedideaaGreatDoor.B taskW = sx at *
   go_enter Tryz.func31, Tryz.ntmps31
   go_wp2_with (first
     | (go_at_call 59; refine hsp.mono ?_; rintro e w1 ⟨g, rfl, hT, hb1⟩; have k0 := RdT.first hT; have hT1 := hT.tl; have H1 := Lib.hid (And.intro hb1 hT1); clear hb1 hT hT1; clear hsp; have hnum := numbers_is (n - 1) (n - 1) (HW.out.2.1.bel H1.out.1) H1.out.2 (by have := HN.out.1; omega) (by omega) (fun y hy => by have := HW.out.2.2.1 y hy; omega); unfold NumsV at hnum; rw [HN.out.2] at hnum)
     | (go_at_call 69; refine hnum.mono ?_; rintro e w2 ⟨hb2, rfl⟩; have H2 := Lib.hid hb2; clear hb2 hnum))
   go_ret
   have hbw := H1.out.1.trans (H2.out.mono H1.out.1.size)
   have hR := HR.out; subst hR
   exact LnP.no rfl (hbw.mono HW.out.2.2.2.2.2.1)
  exact key _ rfl
set_option maxRecDepth 100000 in
set_option maxHeartbeats 1000000 in
theorem line_bestA (h : PSI w B st rb) (hE : Env w) (hB8 : 8 ≤ B) {l : Txt} (hl : l.length ≤ 100000) {N : Nat} (hs : Sz st N) (hN : N + 1 ≤ 1000000) (hx : spc 32 l = bestW :: []) :
    Calls Tryz.prog 31 #[.pointer (some ⟨rb, 0, none⟩), .string (Go.Proofs.YtefaaginedideaaGreatDoor.B l)] w (LnP w B rb (lineF st l)) := by
  have hmf : ∀ (fn : Fn) (first cap : Array Value) (w : World), (Instr.makeFunc fn first cap).run Tryz.prog w = .ok (.func fn first cap) w := fun _ _ _ _ => rfl
  have hge := h.ge
  rw [lineF_of hx]
  have hsp := ssplit_is l w hE (by omega) (bestW :: []) hx 1 rfl
  have hlm : ∀ y ∈ ([] : List Txt), y.length ≤ 100000 := fun y hy => by have := (spc_mem 32 l y (by rw [hx]; simp [hy])).2; omega
  have q0 : ((Go.Proofs.YtefaaginedideaaGreatDoor.B bestW).toList == (⟨#[111, 112]⟩ : ByteArray).toList) = false := (word_eq bestW opW).trans (decide_eq_false (by decide))
  have q1 : ((Go.Proofs.YtefaaginedideaaGreatDoor.B bestW).toList == (⟨#[99, 97, 108, 108]⟩ : ByteArray).toList) = false := (word_eq bestW callW).trans (decide_eq_false (by decide))
  have q2 : ((Go.Proofs.YtefaaginedideaaGreatDoor.B bestW).toList == (⟨#[102, 114, 97, 109, 101, 115]⟩ : ByteArray).toList) = false := (word_eq bestW framesW).trans (decide_eq_false (by decide))
  have q3 : ((Go.Proofs.YtefaaginedideaaGreatDoor.B bestW).toList == (⟨#[100, 111, 103]⟩ : ByteArray).toList) = false := (word_eq bestW dogW).trans (decide_eq_false (by decide))
  have q4 : ((Go.Proofs.YtefaaginedideaaGreatDoor.B bestW).toList == (⟨#[109, 117, 116, 101, 120]⟩ : ByteArray).toList) = false := (word_eq bestW mutexW).trans (decide_eq_false (by decide))
  have q5 : ((Go.Proofs.YtefaaginedideaaGreatDoor.B bestW).toList == (⟨#[103, 97, 112]⟩ : ByteArray).toList) = false := (word_eq bestW gapW).trans (decide_eq_false (by decide))
  have q6 : ((Go.Proofs.YtefaaginedideaaGreatDoor.B bestW).toList == (⟨#[116, 97, 115, 107]⟩ : ByteArray).toList) = false := (word_eq bestW taskW).trans (decide_eq_false (by decide))
  have q7 : ((Go.Proofs.YtefaaginedideaaGreatDoor.B bestW).toList == (⟨#[98, 101, 115, 116]⟩ : ByteArray).toList) = true := (word_eq bestW bestW).trans (decide_eq_true rfl)
  rw [if_neg (by decide)]
  have hns : numsF [] = some [] := rfl
  rw [hns]
  simp only
  have HW := Lib.hid (And.intro h (And.intro hE (And.intro hlm (And.intro hs (And.intro hN (And.intro hge hB8))))))
  have HN := Lib.hid (And.intro trivial hns)
  clear h hE hlm hs hN hge hx hB8  hns 
  have key : ∀ R : Option PSt, R = doF st bestW [] → Calls Tryz.prog 31 #[.pointer (some ⟨rb, 0, none⟩), .string (Go.Proofs.YtefaaginedideaaGreatDoor.B l)] w (LnP w B rb R) := by
   intro R hR0
   have HR := Lib.hid hR0
   clear hR0
   generalize Go.Proofs.YtefaaginedideaaGreatDoor.B bestW = sx at *
   go_enter Tryz.func31, Tryz.ntmps31
   go_wp2_with (first
     | (go_at_call 59; refine hsp.mono ?_; rintro e w1 ⟨g, rfl, hT, hb1⟩; have k0 := RdT.first hT; have hT1 : RdT w1 (some ⟨g, 0, none⟩) [] := fun k y hy => (by cases hy); have H1 := Lib.hid (And.intro hb1 hT1); clear hb1 hT hT1; clear hsp; have hnum := numbers_is 0 0 (HW.out.2.1.bel H1.out.1) H1.out.2 rfl (by omega) (fun y hy => by have := HW.out.2.2.1 y hy; omega); unfold NumsV at hnum; rw [HN.out.2] at hnum)
     | (go_at_call 69; refine hnum.mono ?_; rintro e w2 ⟨hb2, v2, b2, rfl, hI2, hbi⟩; have H2 := Lib.hid (And.intro hb2 (And.intro hI2 hbi)); clear hb2 hnum hI2 hbi)
     | (go_at_call 67; refine (best_do (HW.out.1.below H1.out.1) H2.out.1 H2.out.2.1 H2.out.2.2 (nums_good HN.out.2) (by have := nums_three HN.out.2; simp) HW.out.2.2.2.1 HW.out.2.2.2.2.1).mono ?_; intro e w3 hh; obtain ⟨b9, rfl, HQ⟩ := LnP.open hh; clear hh))
   go_ret
   have hbw := H1.out.1.trans (H2.out.1.mono H1.out.1.size)
   have hR := HR.out; subst hR
   exact LnP.of_q HQ.out.1 (LnQ.from (hbw.mono HW.out.2.2.2.2.2.1) HQ.out.2)
  exact key _ rfl
set_option maxRecDepth 100000 in
set_option maxHeartbeats 1000000 in
theorem line_bestB (h : PSI w B st rb) (hE : Env w) (hB8 : 8 ≤ B) {l : Txt} (hl : l.length ≤ 100000) {N : Nat} (hs : Sz st N) (hN : N + 1 ≤ 1000000) {r : List Txt} (hr0 : r ≠ []) (hx : spc 32 l = bestW :: r) {ns : List Int} (hns : numsF r = some ns) :
    Calls Tryz.prog 31 #[.pointer (some ⟨rb, 0, none⟩), .string (Go.Proofs.YtefaaginedideaaGreatDoor.B l)] w (LnP w B rb (lineF st l)) := by
  have hmf : ∀ (fn : Fn) (first cap : Array Value) (w : World), (Instr.makeFunc fn first cap).run Tryz.prog w = .ok (.func fn first cap) w := fun _ _ _ _ => rfl
  have hge := h.ge
  rw [lineF_of hx]
  obtain ⟨n, hn⟩ : ∃ n, n = r.length + 1 := ⟨_, rfl⟩
  have hn2 : 2 ≤ n := by cases r with | nil => exact absurd rfl hr0 | cons _ _ => simp at hn; omega
  have hnl := spc_len 32 l
  rw [hx, List.length_cons] at hnl
  have n0 : 0 < n := by omega
  have n1 : (1 : Int) ≤ (n : Int) := by omega
  have n2 : 1 ≤ n := by omega
  have n3 : ¬ n = 1 := by omega
  have n4 : ¬ n - 1 = 0 := by omega
  have n5 : n ≤ 100001 := by omega
  have n6 : ((n - 1 : Nat) == 0) = false := by simp; omega
  have hsp := ssplit_is l w hE (by omega) (bestW :: r) hx n hn.symm
  have hlm : ∀ y ∈ (r : List Txt), y.length ≤ 100000 := fun y hy => by have := (spc_mem 32 l y (by rw [hx]; simp [hy])).2; omega
  have q0 : ((Go.Proofs.YtefaaginedideaaGreatDoor.B bestW).toList == (⟨#[111, 112]⟩ : ByteArray).toList) = false := (word_eq bestW opW).trans (decide_eq_false (by decide))
  have q1 : ((Go.Proofs.YtefaaginedideaaGreatDoor.B bestW).toList == (⟨#[99, 97, 108, 108]⟩ : ByteArray).toList) = false := (word_eq bestW callW).trans (decide_eq_false (by decide))
  have q2 : ((Go.Proofs.YtefaaginedideaaGreatDoor.B bestW).toList == (⟨#[102, 114, 97, 109, 101, 115]⟩ : ByteArray).toList) = false := (word_eq bestW framesW).trans (decide_eq_false (by decide))
  have q3 : ((Go.Proofs.YtefaaginedideaaGreatDoor.B bestW).toList == (⟨#[100, 111, 103]⟩ : ByteArray).toList) = false := (word_eq bestW dogW).trans (decide_eq_false (by decide))
  have q4 : ((Go.Proofs.YtefaaginedideaaGreatDoor.B bestW).toList == (⟨#[109, 117, 116, 101, 120]⟩ : ByteArray).toList) = false := (word_eq bestW mutexW).trans (decide_eq_false (by decide))
  have q5 : ((Go.Proofs.YtefaaginedideaaGreatDoor.B bestW).toList == (⟨#[103, 97, 112]⟩ : ByteArray).toList) = false := (word_eq bestW gapW).trans (decide_eq_false (by decide))
  have q6 : ((Go.Proofs.YtefaaginedideaaGreatDoor.B bestW).toList == (⟨#[116, 97, 115, 107]⟩ : ByteArray).toList) = false := (word_eq bestW taskW).trans (decide_eq_false (by decide))
  have q7 : ((Go.Proofs.YtefaaginedideaaGreatDoor.B bestW).toList == (⟨#[98, 101, 115, 116]⟩ : ByteArray).toList) = true := (word_eq bestW bestW).trans (decide_eq_true rfl)
  rw [if_neg (by decide), hns]
  simp only
  have HW := Lib.hid (And.intro h (And.intro hE (And.intro hlm (And.intro hs (And.intro hN (And.intro hge hB8))))))
  have HN := Lib.hid (And.intro hn (hns))
  clear h hE hlm hs hN hge hx hB8 hn hnl hns hr0
  have key : ∀ R : Option PSt, R = doF st bestW ns → Calls Tryz.prog 31 #[.pointer (some ⟨rb, 0, none⟩), .string (Go.Proofs.YtefaaginedideaaGreatDoor.B l)] w (LnP w B rb R) := by
   intro R hR0
   have HR := Lib.hid hR0
   clear hR0
   generalize Go.Proofs.YtefaaginedideaaGreatDoor.B bestW = sx at *
   go_enter Tryz.func31, Tryz.ntmps31
   go_wp2_with (first
     | (go_at_call 59; refine hsp.mono ?_; rintro e w1 ⟨g, rfl, hT, hb1⟩; have k0 := RdT.first hT; have hT1 := hT.tl; have H1 := Lib.hid (And.intro hb1 hT1); clear hb1 hT hT1; clear hsp; have hnum := numbers_is (n - 1) (n - 1) (HW.out.2.1.bel H1.out.1) H1.out.2 (by have := HN.out.1; omega) (by omega) (fun y hy => by have := HW.out.2.2.1 y hy; omega); unfold NumsV at hnum; rw [HN.out.2] at hnum)
     | (go_at_call 69; refine hnum.mono ?_; rintro e w2 ⟨hb2, v2, b2, rfl, hI2, hbi⟩; have H2 := Lib.hid (And.intro hb2 (And.intro hI2 hbi)); clear hb2 hnum hI2 hbi)
     | (go_at_call 67; refine (best_do (HW.out.1.below H1.out.1) H2.out.1 H2.out.2.1 H2.out.2.2 (nums_good HN.out.2) (by have := nums_three HN.out.2; have := HN.out.1; omega) HW.out.2.2.2.1 HW.out.2.2.2.2.1).mono ?_; intro e w3 hh; obtain ⟨b9, rfl, HQ⟩ := LnP.open hh; clear hh))
   go_ret
   have hbw := H1.out.1.trans (H2.out.1.mono H1.out.1.size)
   have hR := HR.out; subst hR
   exact LnP.of_q HQ.out.1 (LnQ.from (hbw.mono HW.out.2.2.2.2.2.1) HQ.out.2)
  exact key _ rfl
set_option maxRecDepth 100000 in
set_option maxHeartbeats 1000000 in
theorem line_bestbadB (h : PSI w B st rb) (hE : Env w) (hB8 : 8 ≤ B) {l : Txt} (hl : l.length ≤ 100000) {N : Nat} (hs : Sz st N) (hN : N + 1 ≤ 1000000) {r : List Txt} (hr0 : r ≠ []) (hx : spc 32 l = bestW :: r) (hns : numsF r = none) :
    Calls Tryz.prog 31 #[.pointer (some ⟨rb, 0, none⟩), .string (Go.Proofs.YtefaaginedideaaGreatDoor.B l)] w (LnP w B rb (lineF st l)) := by
  have hmf : ∀ (fn : Fn) (first cap : Array Value) (w : World), (Instr.makeFunc fn first cap).run Tryz.prog w = .ok (.func fn first cap) w := fun _ _ _ _ => rfl
  have hge := h.ge
  rw [lineF_of hx]
  obtain ⟨n, hn⟩ : ∃ n, n = r.length + 1 := ⟨_, rfl⟩
  have hn2 : 2 ≤ n := by cases r with | nil => exact absurd rfl hr0 | cons _ _ => simp at hn; omega
  have hnl := spc_len 32 l
  rw [hx, List.length_cons] at hnl
  have n0 : 0 < n := by omega
  have n1 : (1 : Int) ≤ (n : Int) := by omega
  have n2 : 1 ≤ n := by omega
  have n3 : ¬ n = 1 := by omega
  have n4 : ¬ n - 1 = 0 := by omega
  have n5 : n ≤ 100001 := by omega
  have n6 : ((n - 1 : Nat) == 0) = false := by simp; omega
  have hsp := ssplit_is l w hE (by omega) (bestW :: r) hx n hn.symm
  have hlm : ∀ y ∈ (r : List Txt), y.length ≤ 100000 := fun y hy => by have := (spc_mem 32 l y (by rw [hx]; simp [hy])).2; omega
  have q0 : ((Go.Proofs.YtefaaginedideaaGreatDoor.B bestW).toList == (⟨#[111, 112]⟩ : ByteArray).toList) = false := (word_eq bestW opW).trans (decide_eq_false (by decide))
  have q1 : ((Go.Proofs.YtefaaginedideaaGreatDoor.B bestW).toList == (⟨#[99, 97, 108, 108]⟩ : ByteArray).toList) = false := (word_eq bestW callW).trans (decide_eq_false (by decide))
  have q2 : ((Go.Proofs.YtefaaginedideaaGreatDoor.B bestW).toList == (⟨#[102, 114, 97, 109, 101, 115]⟩ : ByteArray).toList) = false := (word_eq bestW framesW).trans (decide_eq_false (by decide))
  have q3 : ((Go.Proofs.YtefaaginedideaaGreatDoor.B bestW).toList == (⟨#[100, 111, 103]⟩ : ByteArray).toList) = false := (word_eq bestW dogW).trans (decide_eq_false (by decide))
  have q4 : ((Go.Proofs.YtefaaginedideaaGreatDoor.B bestW).toList == (⟨#[109, 117, 116, 101, 120]⟩ : ByteArray).toList) = false := (word_eq bestW mutexW).trans (decide_eq_false (by decide))
  have q5 : ((Go.Proofs.YtefaaginedideaaGreatDoor.B bestW).toList == (⟨#[103, 97, 112]⟩ : ByteArray).toList) = false := (word_eq bestW gapW).trans (decide_eq_false (by decide))
  have q6 : ((Go.Proofs.YtefaaginedideaaGreatDoor.B bestW).toList == (⟨#[116, 97, 115, 107]⟩ : ByteArray).toList) = false := (word_eq bestW taskW).trans (decide_eq_false (by decide))
  have q7 : ((Go.Proofs.YtefaaginedideaaGreatDoor.B bestW).toList == (⟨#[98, 101, 115, 116]⟩ : ByteArray).toList) = true := (word_eq bestW bestW).trans (decide_eq_true rfl)
  rw [if_neg (by decide), hns]
  simp only
  have HW := Lib.hid (And.intro h (And.intro hE (And.intro hlm (And.intro hs (And.intro hN (And.intro hge hB8))))))
  have HN := Lib.hid (And.intro hn (hns))
  clear h hE hlm hs hN hge hx hB8 hn hnl hns hr0
  have key : ∀ R : Option PSt, R = (none : Option PSt) → Calls Tryz.prog 31 #[.pointer (some ⟨rb, 0, none⟩), .string (Go.Proofs.YtefaaginedideaaGreatDoor.B l)] w (LnP w B rb R) := by
   intro R hR0
   have HR := Lib.hid hR0
   clear hR0
   generalize Go.Proofs.YtefaaginedideaaGreatDoor.B bestW = sx at *
   go_enter Tryz.func31, Tryz.ntmps31
   go_wp2_with (first
     | (go_at_call 59; refine hsp.mono ?_; rintro e w1 ⟨g, rfl, hT, hb1⟩; have k0 := RdT.first hT; have hT1 := hT.tl; have H1 := Lib.hid (And.intro hb1 hT1); clear hb1 hT hT1; clear hsp; have hnum := numbers_is (n - 1) (n - 1) (HW.out.2.1.bel H1.out.1) H1.out.2 (by have := HN.out.1; omega) (by omega) (fun y hy => by have := HW.out.2.2.1 y hy; omega); unfold NumsV at hnum; rw [HN.out.2] at hnum)
     | (go_at_call 69; refine hnum.mono ?_; rintro e w2 ⟨hb2, rfl⟩; have H2 := Lib.hid hb2; clear hb2 hnum))
   go_ret
   have hbw := H1.out.1.trans (H2.out.mono H1.out.1.size)
   have hR := HR.out; subst hR
   exact LnP.no rfl (hbw.mono HW.out.2.2.2.2.2.1)
  exact key _ rfl
set_option maxRecDepth 100000 in
set_option maxHeartbeats 1000000 in
theorem line_atA (h : PSI w B st rb) (hE : Env w) (hB8 : 8 ≤ B) {l : Txt} (hl : l.length ≤ 100000) {N : Nat} (hs : Sz st N) (hN : N + 1 ≤ 1000000) (hx : spc 32 l = atW :: []) :
    Calls Tryz.prog 31 #[.pointer (some ⟨rb, 0, none⟩), .string (Go.Proofs.YtefaaginedideaaGreatDoor.B l)] w (LnP w B rb (lineF st l)) := by
  have hmf : ∀ (fn : Fn) (first cap : Array Value) (w : World), (Instr.makeFunc fn first cap).run Tryz.prog w = .ok (.func fn first cap) w := fun _ _ _ _ => rfl
  have hge := h.ge
  rw [lineF_of hx]
  have hsp := ssplit_is l w hE (by omega) (atW :: []) hx 1 rfl
  have hlm : ∀ y ∈ ([] : List Txt), y.length ≤ 100000 := fun y hy => by have := (spc_mem 32 l y (by rw [hx]; simp [hy])).2; omega
  have q0 : ((Go.Proofs.YtefaaginedideaaGreatDoor.B atW).toList == (⟨#[111, 112]⟩ : ByteArray).toList) = false := (word_eq atW opW).trans (decide_eq_false (by decide))
  have q1 : ((Go.Proofs.YtefaaginedideaaGreatDoor.B atW).toList == (⟨#[99, 97, 108, 108]⟩ : ByteArray).toList) = false := (word_eq atW callW).trans (decide_eq_false (by decide))
  have q2 : ((Go.Proofs.YtefaaginedideaaGreatDoor.B atW).toList == (⟨#[102, 114, 97, 109, 101, 115]⟩ : ByteArray).toList) = false := (word_eq atW framesW).trans (decide_eq_false (by decide))
  have q3 : ((Go.Proofs.YtefaaginedideaaGreatDoor.B atW).toList == (⟨#[100, 111, 103]⟩ : ByteArray).toList) = false := (word_eq atW dogW).trans (decide_eq_false (by decide))
  have q4 : ((Go.Proofs.YtefaaginedideaaGreatDoor.B atW).toList == (⟨#[109, 117, 116, 101, 120]⟩ : ByteArray).toList) = false := (word_eq atW mutexW).trans (decide_eq_false (by decide))
  have q5 : ((Go.Proofs.YtefaaginedideaaGreatDoor.B atW).toList == (⟨#[103, 97, 112]⟩ : ByteArray).toList) = false := (word_eq atW gapW).trans (decide_eq_false (by decide))
  have q6 : ((Go.Proofs.YtefaaginedideaaGreatDoor.B atW).toList == (⟨#[116, 97, 115, 107]⟩ : ByteArray).toList) = false := (word_eq atW taskW).trans (decide_eq_false (by decide))
  have q7 : ((Go.Proofs.YtefaaginedideaaGreatDoor.B atW).toList == (⟨#[98, 101, 115, 116]⟩ : ByteArray).toList) = false := (word_eq atW bestW).trans (decide_eq_false (by decide))
  have q8 : ((Go.Proofs.YtefaaginedideaaGreatDoor.B atW).toList == (⟨#[97, 116]⟩ : ByteArray).toList) = true := (word_eq atW atW).trans (decide_eq_true rfl)
  rw [if_neg (by decide)]
  have hns : numsF [] = some [] := rfl
  rw [hns]
  simp only
  have HW := Lib.hid (And.intro h (And.intro hE (And.intro hlm (And.intro hs (And.intro hN (And.intro hge hB8))))))
  have HN := Lib.hid (And.intro trivial hns)
  clear h hE hlm hs hN hge hx hB8  hns 
  have key : ∀ R : Option PSt, R = doF st atW [] → Calls Tryz.prog 31 #[.pointer (some ⟨rb, 0, none⟩), .string (Go.Proofs.YtefaaginedideaaGreatDoor.B l)] w (LnP w B rb R) := by
   intro R hR0
   have HR := Lib.hid hR0
   clear hR0
   generalize Go.Proofs.YtefaaginedideaaGreatDoor.B atW = sx at *
   go_enter Tryz.func31, Tryz.ntmps31
   go_wp2_with (first
     | (go_at_call 59; refine hsp.mono ?_; rintro e w1 ⟨g, rfl, hT, hb1⟩; have k0 := RdT.first hT; have hT1 : RdT w1 (some ⟨g, 0, none⟩) [] := fun k y hy => (by cases hy); have H1 := Lib.hid (And.intro hb1 hT1); clear hb1 hT hT1; clear hsp; have hnum := numbers_is 0 0 (HW.out.2.1.bel H1.out.1) H1.out.2 rfl (by omega) (fun y hy => by have := HW.out.2.2.1 y hy; omega); unfold NumsV at hnum; rw [HN.out.2] at hnum)
     | (go_at_call 69; refine hnum.mono ?_; rintro e w2 ⟨hb2, v2, b2, rfl, hI2, hbi⟩; have H2 := Lib.hid (And.intro hb2 (And.intro hI2 hbi)); clear hb2 hnum hI2 hbi)
     | (go_at_call 68; refine (at_do (HW.out.1.below H1.out.1) H2.out.1 H2.out.2.1 H2.out.2.2 (nums_good HN.out.2) (by have := nums_three HN.out.2; simp) HW.out.2.2.2.1 HW.out.2.2.2.2.1).mono ?_; intro e w3 hh; obtain ⟨b9, rfl, HQ⟩ := LnP.open hh; clear hh))
   go_ret
   have hbw := H1.out.1.trans (H2.out.1.mono H1.out.1.size)
   have hR := HR.out; subst hR
   exact LnP.of_q HQ.out.1 (LnQ.from (hbw.mono HW.out.2.2.2.2.2.1) HQ.out.2)
  exact key _ rfl
set_option maxRecDepth 100000 in
set_option maxHeartbeats 1000000 in
theorem line_atB (h : PSI w B st rb) (hE : Env w) (hB8 : 8 ≤ B) {l : Txt} (hl : l.length ≤ 100000) {N : Nat} (hs : Sz st N) (hN : N + 1 ≤ 1000000) {r : List Txt} (hr0 : r ≠ []) (hx : spc 32 l = atW :: r) {ns : List Int} (hns : numsF r = some ns) :
    Calls Tryz.prog 31 #[.pointer (some ⟨rb, 0, none⟩), .string (Go.Proofs.YtefaaginedideaaGreatDoor.B l)] w (LnP w B rb (lineF st l)) := by
  have hmf : ∀ (fn : Fn) (first cap : Array Value) (w : World), (Instr.makeFunc fn first cap).run Tryz.prog w = .ok (.func fn first cap) w := fun _ _ _ _ => rfl
  have hge := h.ge
  rw [lineF_of hx]
  obtain ⟨n, hn⟩ : ∃ n, n = r.length + 1 := ⟨_, rfl⟩
  have hn2 : 2 ≤ n := by cases r with | nil => exact absurd rfl hr0 | cons _ _ => simp at hn; omega
  have hnl := spc_len 32 l
  rw [hx, List.length_cons] at hnl
  have n0 : 0 < n := by omega
  have n1 : (1 : Int) ≤ (n : Int) := by omega
  have n2 : 1 ≤ n := by omega
  have n3 : ¬ n = 1 := by omega
  have n4 : ¬ n - 1 = 0 := by omega
  have n5 : n ≤ 100001 := by omega
  have n6 : ((n - 1 : Nat) == 0) = false := by simp; omega
  have hsp := ssplit_is l w hE (by omega) (atW :: r) hx n hn.symm
  have hlm : ∀ y ∈ (r : List Txt), y.length ≤ 100000 := fun y hy => by have := (spc_mem 32 l y (by rw [hx]; simp [hy])).2; omega
  have q0 : ((Go.Proofs.YtefaaginedideaaGreatDoor.B atW).toList == (⟨#[111, 112]⟩ : ByteArray).toList) = false := (word_eq atW opW).trans (decide_eq_false (by decide))
  have q1 : ((Go.Proofs.YtefaaginedideaaGreatDoor.B atW).toList == (⟨#[99, 97, 108, 108]⟩ : ByteArray).toList) = false := (word_eq atW callW).trans (decide_eq_false (by decide))
  have q2 : ((Go.Proofs.YtefaaginedideaaGreatDoor.B atW).toList == (⟨#[102, 114, 97, 109, 101, 115]⟩ : ByteArray).toList) = false := (word_eq atW framesW).trans (decide_eq_false (by decide))
  have q3 : ((Go.Proofs.YtefaaginedideaaGreatDoor.B atW).toList == (⟨#[100, 111, 103]⟩ : ByteArray).toList) = false := (word_eq atW dogW).trans (decide_eq_false (by decide))
  have q4 : ((Go.Proofs.YtefaaginedideaaGreatDoor.B atW).toList == (⟨#[109, 117, 116, 101, 120]⟩ : ByteArray).toList) = false := (word_eq atW mutexW).trans (decide_eq_false (by decide))
  have q5 : ((Go.Proofs.YtefaaginedideaaGreatDoor.B atW).toList == (⟨#[103, 97, 112]⟩ : ByteArray).toList) = false := (word_eq atW gapW).trans (decide_eq_false (by decide))
  have q6 : ((Go.Proofs.YtefaaginedideaaGreatDoor.B atW).toList == (⟨#[116, 97, 115, 107]⟩ : ByteArray).toList) = false := (word_eq atW taskW).trans (decide_eq_false (by decide))
  have q7 : ((Go.Proofs.YtefaaginedideaaGreatDoor.B atW).toList == (⟨#[98, 101, 115, 116]⟩ : ByteArray).toList) = false := (word_eq atW bestW).trans (decide_eq_false (by decide))
  have q8 : ((Go.Proofs.YtefaaginedideaaGreatDoor.B atW).toList == (⟨#[97, 116]⟩ : ByteArray).toList) = true := (word_eq atW atW).trans (decide_eq_true rfl)
  rw [if_neg (by decide), hns]
  simp only
  have HW := Lib.hid (And.intro h (And.intro hE (And.intro hlm (And.intro hs (And.intro hN (And.intro hge hB8))))))
  have HN := Lib.hid (And.intro hn (hns))
  clear h hE hlm hs hN hge hx hB8 hn hnl hns hr0
  have key : ∀ R : Option PSt, R = doF st atW ns → Calls Tryz.prog 31 #[.pointer (some ⟨rb, 0, none⟩), .string (Go.Proofs.YtefaaginedideaaGreatDoor.B l)] w (LnP w B rb R) := by
   intro R hR0
   have HR := Lib.hid hR0
   clear hR0
   generalize Go.Proofs.YtefaaginedideaaGreatDoor.B atW = sx at *
   go_enter Tryz.func31, Tryz.ntmps31
   go_wp2_with (first
     | (go_at_call 59; refine hsp.mono ?_; rintro e w1 ⟨g, rfl, hT, hb1⟩; have k0 := RdT.first hT; have hT1 := hT.tl; have H1 := Lib.hid (And.intro hb1 hT1); clear hb1 hT hT1; clear hsp; have hnum := numbers_is (n - 1) (n - 1) (HW.out.2.1.bel H1.out.1) H1.out.2 (by have := HN.out.1; omega) (by omega) (fun y hy => by have := HW.out.2.2.1 y hy; omega); unfold NumsV at hnum; rw [HN.out.2] at hnum)
     | (go_at_call 69; refine hnum.mono ?_; rintro e w2 ⟨hb2, v2, b2, rfl, hI2, hbi⟩; have H2 := Lib.hid (And.intro hb2 (And.intro hI2 hbi)); clear hb2 hnum hI2 hbi)
     | (go_at_call 68; refine (at_do (HW.out.1.below H1.out.1) H2.out.1 H2.out.2.1 H2.out.2.2 (nums_good HN.out.2) (by have := nums_three HN.out.2; have := HN.out.1; omega) HW.out.2.2.2.1 HW.out.2.2.2.2.1).mono ?_; intro e w3 hh; obtain ⟨b9, rfl, HQ⟩ := LnP.open hh; clear hh))
   go_ret
   have hbw := H1.out.1.trans (H2.out.1.mono H1.out.1.size)
   have hR := HR.out; subst hR
   exact LnP.of_q HQ.out.1 (LnQ.from (hbw.mono HW.out.2.2.2.2.2.1) HQ.out.2)
  exact key _ rfl
set_option maxRecDepth 100000 in
set_option maxHeartbeats 1000000 in
theorem line_atbadB (h : PSI w B st rb) (hE : Env w) (hB8 : 8 ≤ B) {l : Txt} (hl : l.length ≤ 100000) {N : Nat} (hs : Sz st N) (hN : N + 1 ≤ 1000000) {r : List Txt} (hr0 : r ≠ []) (hx : spc 32 l = atW :: r) (hns : numsF r = none) :
    Calls Tryz.prog 31 #[.pointer (some ⟨rb, 0, none⟩), .string (Go.Proofs.YtefaaginedideaaGreatDoor.B l)] w (LnP w B rb (lineF st l)) := by
  have hmf : ∀ (fn : Fn) (first cap : Array Value) (w : World), (Instr.makeFunc fn first cap).run Tryz.prog w = .ok (.func fn first cap) w := fun _ _ _ _ => rfl
  have hge := h.ge
  rw [lineF_of hx]
  obtain ⟨n, hn⟩ : ∃ n, n = r.length + 1 := ⟨_, rfl⟩
  have hn2 : 2 ≤ n := by cases r with | nil => exact absurd rfl hr0 | cons _ _ => simp at hn; omega
  have hnl := spc_len 32 l
  rw [hx, List.length_cons] at hnl
  have n0 : 0 < n := by omega
  have n1 : (1 : Int) ≤ (n : Int) := by omega
  have n2 : 1 ≤ n := by omega
  have n3 : ¬ n = 1 := by omega
  have n4 : ¬ n - 1 = 0 := by omega
  have n5 : n ≤ 100001 := by omega
  have n6 : ((n - 1 : Nat) == 0) = false := by simp; omega
  have hsp := ssplit_is l w hE (by omega) (atW :: r) hx n hn.symm
  have hlm : ∀ y ∈ (r : List Txt), y.length ≤ 100000 := fun y hy => by have := (spc_mem 32 l y (by rw [hx]; simp [hy])).2; omega
  have q0 : ((Go.Proofs.YtefaaginedideaaGreatDoor.B atW).toList == (⟨#[111, 112]⟩ : ByteArray).toList) = false := (word_eq atW opW).trans (decide_eq_false (by decide))
  have q1 : ((Go.Proofs.YtefaaginedideaaGreatDoor.B atW).toList == (⟨#[99, 97, 108, 108]⟩ : ByteArray).toList) = false := (word_eq atW callW).trans (decide_eq_false (by decide))
  have q2 : ((Go.Proofs.YtefaaginedideaaGreatDoor.B atW).toList == (⟨#[102, 114, 97, 109, 101, 115]⟩ : ByteArray).toList) = false := (word_eq atW framesW).trans (decide_eq_false (by decide))
  have q3 : ((Go.Proofs.YtefaaginedideaaGreatDoor.B atW).toList == (⟨#[100, 111, 103]⟩ : ByteArray).toList) = false := (word_eq atW dogW).trans (decide_eq_false (by decide))
  have q4 : ((Go.Proofs.YtefaaginedideaaGreatDoor.B atW).toList == (⟨#[109, 117, 116, 101, 120]⟩ : ByteArray).toList) = false := (word_eq atW mutexW).trans (decide_eq_false (by decide))
  have q5 : ((Go.Proofs.YtefaaginedideaaGreatDoor.B atW).toList == (⟨#[103, 97, 112]⟩ : ByteArray).toList) = false := (word_eq atW gapW).trans (decide_eq_false (by decide))
  have q6 : ((Go.Proofs.YtefaaginedideaaGreatDoor.B atW).toList == (⟨#[116, 97, 115, 107]⟩ : ByteArray).toList) = false := (word_eq atW taskW).trans (decide_eq_false (by decide))
  have q7 : ((Go.Proofs.YtefaaginedideaaGreatDoor.B atW).toList == (⟨#[98, 101, 115, 116]⟩ : ByteArray).toList) = false := (word_eq atW bestW).trans (decide_eq_false (by decide))
  have q8 : ((Go.Proofs.YtefaaginedideaaGreatDoor.B atW).toList == (⟨#[97, 116]⟩ : ByteArray).toList) = true := (word_eq atW atW).trans (decide_eq_true rfl)
  rw [if_neg (by decide), hns]
  simp only
  have HW := Lib.hid (And.intro h (And.intro hE (And.intro hlm (And.intro hs (And.intro hN (And.intro hge hB8))))))
  have HN := Lib.hid (And.intro hn (hns))
  clear h hE hlm hs hN hge hx hB8 hn hnl hns hr0
  have key : ∀ R : Option PSt, R = (none : Option PSt) → Calls Tryz.prog 31 #[.pointer (some ⟨rb, 0, none⟩), .string (Go.Proofs.YtefaaginedideaaGreatDoor.B l)] w (LnP w B rb R) := by
   intro R hR0
   have HR := Lib.hid hR0
   clear hR0
   generalize Go.Proofs.YtefaaginedideaaGreatDoor.B atW = sx at *
   go_enter Tryz.func31, Tryz.ntmps31
   go_wp2_with (first
     | (go_at_call 59; refine hsp.mono ?_; rintro e w1 ⟨g, rfl, hT, hb1⟩; have k0 := RdT.first hT; have hT1 := hT.tl; have H1 := Lib.hid (And.intro hb1 hT1); clear hb1 hT hT1; clear hsp; have hnum := numbers_is (n - 1) (n - 1) (HW.out.2.1.bel H1.out.1) H1.out.2 (by have := HN.out.1; omega) (by omega) (fun y hy => by have := HW.out.2.2.1 y hy; omega); unfold NumsV at hnum; rw [HN.out.2] at hnum)
     | (go_at_call 69; refine hnum.mono ?_; rintro e w2 ⟨hb2, rfl⟩; have H2 := Lib.hid hb2; clear hb2 hnum))
   go_ret
   have hbw := H1.out.1.trans (H2.out.mono H1.out.1.size)
   have hR := HR.out; subst hR
   exact LnP.no rfl (hbw.mono HW.out.2.2.2.2.2.1)
  exact key _ rfl
set_option maxRecDepth 100000 in
set_option maxHeartbeats 1000000 in
theorem line_defaultA (h : PSI w B st rb) (hE : Env w) (hB8 : 8 ≤ B) {l : Txt} (hl : l.length ≤ 100000) {N : Nat} (hs : Sz st N) (hN : N + 1 ≤ 1000000) {x : Txt} (hx : spc 32 l = x :: []) (h0 : x ≠ opW) (h1 : x ≠ callW) (h2 : x ≠ framesW) (h3 : x ≠ dogW) (h4 : x ≠ mutexW) (h5 : x ≠ gapW) (h6 : x ≠ taskW) (h7 : x ≠ bestW) (h8 : x ≠ atW) :
    Calls Tryz.prog 31 #[.pointer (some ⟨rb, 0, none⟩), .string (Go.Proofs.YtefaaginedideaaGreatDoor.B l)] w (LnP w B rb (lineF st l)) := by
  have hmf : ∀ (fn : Fn) (first cap : Array Value) (w : World), (Instr.makeFunc fn first cap).run Tryz.prog w = .ok (.func fn first cap) w := fun _ _ _ _ => rfl
  have hge := h.ge
  rw [lineF_of hx]
  have hsp := ssplit_is l w hE (by omega) (x :: []) hx 1 rfl
  have hlm : ∀ y ∈ ([] : List Txt), y.length ≤ 100000 := fun y hy => by have := (spc_mem 32 l y (by rw [hx]; simp [hy])).2; omega
  have q0 : (x == ([111, 112] : Txt)) = false := (beq_dec x opW).trans (decide_eq_false h0)
  have q1 : (x == ([99, 97, 108, 108] : Txt)) = false := (beq_dec x callW).trans (decide_eq_false h1)
  have q2 : (x == ([102, 114, 97, 109, 101, 115] : Txt)) = false := (beq_dec x framesW).trans (decide_eq_false h2)
  have q3 : (x == ([100, 111, 103] : Txt)) = false := (beq_dec x dogW).trans (decide_eq_false h3)
  have q4 : (x == ([109, 117, 116, 101, 120] : Txt)) = false := (beq_dec x mutexW).trans (decide_eq_false h4)
  have q5 : (x == ([103, 97, 112] : Txt)) = false := (beq_dec x gapW).trans (decide_eq_false h5)
  have q6 : (x == ([116, 97, 115, 107] : Txt)) = false := (beq_dec x taskW).trans (decide_eq_false h6)
  have q7 : (x == ([98, 101, 115, 116] : Txt)) = false := (beq_dec x bestW).trans (decide_eq_false h7)
  have q8 : (x == ([97, 116] : Txt)) = false := (beq_dec x atW).trans (decide_eq_false h8)
  have hP := Lib.hid (fun w' (hb : Below B w w') => LnP.no (w := w) (w' := w') (rb := rb) (B := B) (r := if x = opW ∨ x = callW then (if st.act = 0 then none else (stepF (x :: [])).map (addOp st)) else match numsF [] with
    | some n => doF st x n
    | none => none) (by
      rw [if_neg (by rintro (e | e); exact h0 e; exact h1 e)]
      cases numsF [] with
      | none => rfl
      | some m => simp only [doF]; rw [if_neg h2, if_neg h3, if_neg h4, if_neg h5, if_neg h6, if_neg h7, if_neg h8]) hb)
  clear h0 h1 h2 h3 h4 h5 h6 h7 h8
  have HW := Lib.hid (And.intro h (And.intro hE (And.intro hlm (And.intro hs (And.intro hN (And.intro hge hB8))))))
  skip
  clear h hE hlm hs hN hge hx hB8   
  have key : ∀ R : Option PSt, R = (if x = opW ∨ x = callW then (if st.act = 0 then none else (stepF (x :: [])).map (addOp st)) else match numsF [] with
    | some n => doF st x n
    | none => none) → Calls Tryz.prog 31 #[.pointer (some ⟨rb, 0, none⟩), .string (Go.Proofs.YtefaaginedideaaGreatDoor.B l)] w (LnP w B rb R) := by
   intro R hR0
   have HR := Lib.hid hR0
   clear hR0
   go_enter Tryz.func31, Tryz.ntmps31
   go_wp2_with ((go_at_call 59; refine hsp.mono ?_; rintro e w1 ⟨g, rfl, hT, hb1⟩; have k0 := RdT.first hT; have hT1 : RdT w1 (some ⟨g, 0, none⟩) [] := fun k y hy => (by cases hy); have H1 := Lib.hid (And.intro hb1 hT1); clear hb1 hT hT1; clear hsp))
   go_ret
   have hR := HR.out; subst hR
   exact hP.out _ (H1.out.1.mono HW.out.2.2.2.2.2.1)
  exact key _ rfl
set_option maxRecDepth 100000 in
set_option maxHeartbeats 1000000 in
theorem line_defaultB (h : PSI w B st rb) (hE : Env w) (hB8 : 8 ≤ B) {l : Txt} (hl : l.length ≤ 100000) {N : Nat} (hs : Sz st N) (hN : N + 1 ≤ 1000000) {r : List Txt} (hr0 : r ≠ []) {x : Txt} (hx : spc 32 l = x :: r) (h0 : x ≠ opW) (h1 : x ≠ callW) (h2 : x ≠ framesW) (h3 : x ≠ dogW) (h4 : x ≠ mutexW) (h5 : x ≠ gapW) (h6 : x ≠ taskW) (h7 : x ≠ bestW) (h8 : x ≠ atW) :
    Calls Tryz.prog 31 #[.pointer (some ⟨rb, 0, none⟩), .string (Go.Proofs.YtefaaginedideaaGreatDoor.B l)] w (LnP w B rb (lineF st l)) := by
  have hmf : ∀ (fn : Fn) (first cap : Array Value) (w : World), (Instr.makeFunc fn first cap).run Tryz.prog w = .ok (.func fn first cap) w := fun _ _ _ _ => rfl
  have hge := h.ge
  rw [lineF_of hx]
  obtain ⟨n, hn⟩ : ∃ n, n = r.length + 1 := ⟨_, rfl⟩
  have hn2 : 2 ≤ n := by cases r with | nil => exact absurd rfl hr0 | cons _ _ => simp at hn; omega
  have hnl := spc_len 32 l
  rw [hx, List.length_cons] at hnl
  have n0 : 0 < n := by omega
  have n1 : (1 : Int) ≤ (n : Int) := by omega
  have n2 : 1 ≤ n := by omega
  have n3 : ¬ n = 1 := by omega
  have n4 : ¬ n - 1 = 0 := by omega
  have n5 : n ≤ 100001 := by omega
  have n6 : ((n - 1 : Nat) == 0) = false := by simp; omega
  have hsp := ssplit_is l w hE (by omega) (x :: r) hx n hn.symm
  have hlm : ∀ y ∈ (r : List Txt), y.length ≤ 100000 := fun y hy => by have := (spc_mem 32 l y (by rw [hx]; simp [hy])).2; omega
  have q0 : (x == ([111, 112] : Txt)) = false := (beq_dec x opW).trans (decide_eq_false h0)
  have q1 : (x == ([99, 97, 108, 108] : Txt)) = false := (beq_dec x callW).trans (decide_eq_false h1)
  have q2 : (x == ([102, 114, 97, 109, 101, 115] : Txt)) = false := (beq_dec x framesW).trans (decide_eq_false h2)
  have q3 : (x == ([100, 111, 103] : Txt)) = false := (beq_dec x dogW).trans (decide_eq_false h3)
  have q4 : (x == ([109, 117, 116, 101, 120] : Txt)) = false := (beq_dec x mutexW).trans (decide_eq_false h4)
  have q5 : (x == ([103, 97, 112] : Txt)) = false := (beq_dec x gapW).trans (decide_eq_false h5)
  have q6 : (x == ([116, 97, 115, 107] : Txt)) = false := (beq_dec x taskW).trans (decide_eq_false h6)
  have q7 : (x == ([98, 101, 115, 116] : Txt)) = false := (beq_dec x bestW).trans (decide_eq_false h7)
  have q8 : (x == ([97, 116] : Txt)) = false := (beq_dec x atW).trans (decide_eq_false h8)
  have hP := Lib.hid (fun w' (hb : Below B w w') => LnP.no (w := w) (w' := w') (rb := rb) (B := B) (r := if x = opW ∨ x = callW then (if st.act = 0 then none else (stepF (x :: r)).map (addOp st)) else match numsF r with
    | some n => doF st x n
    | none => none) (by
      rw [if_neg (by rintro (e | e); exact h0 e; exact h1 e)]
      cases numsF r with
      | none => rfl
      | some m => simp only [doF]; rw [if_neg h2, if_neg h3, if_neg h4, if_neg h5, if_neg h6, if_neg h7, if_neg h8]) hb)
  clear h0 h1 h2 h3 h4 h5 h6 h7 h8
  have HW := Lib.hid (And.intro h (And.intro hE (And.intro hlm (And.intro hs (And.intro hN (And.intro hge hB8))))))
  have HN := Lib.hid (And.intro hn (trivial))
  clear h hE hlm hs hN hge hx hB8 hn hnl  hr0
  have key : ∀ R : Option PSt, R = (if x = opW ∨ x = callW then (if st.act = 0 then none else (stepF (x :: r)).map (addOp st)) else match numsF r with
    | some n => doF st x n
    | none => none) → Calls Tryz.prog 31 #[.pointer (some ⟨rb, 0, none⟩), .string (Go.Proofs.YtefaaginedideaaGreatDoor.B l)] w (LnP w B rb R) := by
   intro R hR0
   have HR := Lib.hid hR0
   clear hR0
   go_enter Tryz.func31, Tryz.ntmps31
   go_wp2_with ((go_at_call 59; refine hsp.mono ?_; rintro e w1 ⟨g, rfl, hT, hb1⟩; have k0 := RdT.first hT; have hT1 := hT.tl; have H1 := Lib.hid (And.intro hb1 hT1); clear hb1 hT hT1; clear hsp))
   go_ret
   have hR := HR.out; subst hR
   exact hP.out _ (H1.out.1.mono HW.out.2.2.2.2.2.1)
  exact key _ rfl
theorem line_ps (h : PSI w B st rb) (hE : Env w) (hB8 : 8 ≤ B) (l : Txt) (hl : l.length ≤ 100000) {N : Nat} (hs : Sz st N) (hN : N + 1 ≤ 1000000) :
    Calls Tryz.prog 31 #[.pointer (some ⟨rb, 0, none⟩), .string (Go.Proofs.YtefaaginedideaaGreatDoor.B l)] w (LnP w B rb (lineF st l)) := by
  cases hx : spc 32 l with
  | nil => exact absurd hx (spc_ne 32 l)
  | cons x r =>
    by_cases h0 : x = opW
    · subst h0
      by_cases hr : r = []
      · subst hr; exact line_opA h hE hB8 hl hs hN hx
      · exact line_opB h hE hB8 hl hs hN hr hx
    by_cases h1 : x = callW
    · subst h1
      by_cases hr : r = []
      · subst hr; exact line_callA h hE hB8 hl hs hN hx
      · exact line_callB h hE hB8 hl hs hN hr hx
    by_cases h2 : x = framesW
    · subst h2
      by_cases hr : r = []
      · subst hr; exact line_framesA h hE hB8 hl hs hN hx
      · cases hns : numsF r with
        | none => exact line_framesbadB h hE hB8 hl hs hN hr hx hns
        | some ns => exact line_framesB h hE hB8 hl hs hN hr hx hns
    by_cases h3 : x = dogW
    · subst h3
      by_cases hr : r = []
      · subst hr; exact line_dogA h hE hB8 hl hs hN hx
      · cases hns : numsF r with
        | none => exact line_dogbadB h hE hB8 hl hs hN hr hx hns
        | some ns => exact line_dogB h hE hB8 hl hs hN hr hx hns
    by_cases h4 : x = mutexW
    · subst h4
      by_cases hr : r = []
      · subst hr; exact line_mutexA h hE hB8 hl hs hN hx
      · cases hns : numsF r with
        | none => exact line_mutexbadB h hE hB8 hl hs hN hr hx hns
        | some ns => exact line_mutexB h hE hB8 hl hs hN hr hx hns
    by_cases h5 : x = gapW
    · subst h5
      by_cases hr : r = []
      · subst hr; exact line_gapA h hE hB8 hl hs hN hx
      · cases hns : numsF r with
        | none => exact line_gapbadB h hE hB8 hl hs hN hr hx hns
        | some ns => exact line_gapB h hE hB8 hl hs hN hr hx hns
    by_cases h6 : x = taskW
    · subst h6
      by_cases hr : r = []
      · subst hr; exact line_taskA h hE hB8 hl hs hN hx
      · cases hns : numsF r with
        | none => exact line_taskbadB h hE hB8 hl hs hN hr hx hns
        | some ns => exact line_taskB h hE hB8 hl hs hN hr hx hns
    by_cases h7 : x = bestW
    · subst h7
      by_cases hr : r = []
      · subst hr; exact line_bestA h hE hB8 hl hs hN hx
      · cases hns : numsF r with
        | none => exact line_bestbadB h hE hB8 hl hs hN hr hx hns
        | some ns => exact line_bestB h hE hB8 hl hs hN hr hx hns
    by_cases h8 : x = atW
    · subst h8
      by_cases hr : r = []
      · subst hr; exact line_atA h hE hB8 hl hs hN hx
      · cases hns : numsF r with
        | none => exact line_atbadB h hE hB8 hl hs hN hr hx hns
        | some ns => exact line_atB h hE hB8 hl hs hN hr hx hns
    by_cases hr : r = []
    · subst hr; exact line_defaultA h hE hB8 hl hs hN hx h0 h1 h2 h3 h4 h5 h6 h7 h8
    · exact line_defaultB h hE hB8 hl hs hN hr hx h0 h1 h2 h3 h4 h5 h6 h7 h8
end
end Go.Proofs.YtefaaginedideaaGreatDoor
