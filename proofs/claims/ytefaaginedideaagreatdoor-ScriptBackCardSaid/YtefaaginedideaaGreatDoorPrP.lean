/-
  Scripts printed, plain: what the program and the document write, whatever comes in; where all may be written, the text of the configuration.
-/
import Derived.Test.YtefaaginedideaaGreatDoorSB
import Derived.Test.YtefaaginedideaaGreatDoorRA
import Derived.Test.YtefaaginedideaaGreatDoorSOp
namespace Go.Proofs.YtefaaginedideaaGreatDoor
set_option linter.unusedSimpArgs false
set_option linter.unusedVariables false
open Go.RowKit Own RegJ
open Go.Lib hiding intOf

/-! ### rows taken element by element -/
theorem fm_next {α : Type} {f : α → Txt} {L : List α} {i : Nat} {x : α} (h : L[i]? = some x) : (L.take (i + 1)).flatMap f = (L.take i).flatMap f ++ f x := by
  rw [List.take_add_one, h]
  simp
theorem any_next {α : Type} {g : α → Bool} {L : List α} {i : Nat} {x : α} (h : L[i]? = some x) : (L.take (i + 1)).any g = ((L.take i).any g || g x) := by
  rw [List.take_add_one, h]
  simp
theorem fm_len {α : Type} {f : α → Txt} {M : Nat} : ∀ (L : List α), (∀ x ∈ L, (f x).length ≤ M) → (L.flatMap f).length ≤ M * L.length
  | [], _ => by simp
  | x :: r, h => by
    rw [List.flatMap_cons, List.length_append, List.length_cons, Nat.mul_succ]
    have h1 := h x (by simp)
    have h2 := fm_len r (fun y hy => h y (by simp [hy]))
    omega
theorem fm_take {α : Type} {f : α → Txt} {M K i : Nat} {L : List α} (h : ∀ x ∈ L, (f x).length ≤ M) (hk : L.length ≤ K) : ((L.take i).flatMap f).length ≤ M * K := by
  refine Nat.le_trans (fm_len _ fun x hx => h x (List.mem_of_mem_take hx)) (Nat.mul_le_mul_left _ ?_)
  rw [List.length_take]; omega
theorem fm_all {α : Type} {f : α → Txt} {L : List α} {n : Nat} (h : L.length = n) : L.flatMap f = (L.take n).flatMap f := by rw [← h, List.take_length]
theorem any_all {α : Type} {g : α → Bool} {L : List α} {n : Nat} (h : L.length = n) : L.any g = (L.take n).any g := by rw [← h, List.take_length]

/-! ### the program -/
def opsP (os : List OpV) : Txt := os.flatMap fun o => opR o ++ [10]
def opsB (os : List OpV) : Bool := os.any fun o => !mayO o
def nextB (x : Int) : Bool := decide (x < -1) || decide (999999 ≤ x)
def nextV (x : Int) : Int := if nextB x = true then 0 else x + 1
def taskNsP (t : TaskV) : List Int := [t.cl, t.lv, t.pe, t.de, t.bu, nextV t.li] ++ t.uses
def mtxP (m : Int × Int) : Txt := lineT mutexW [m.1, m.2] ++ [10]
def gapP (g : Int) : Txt := lineT gapW [g] ++ [10]
def taskP (t : TaskV) : Txt := lineT taskW (taskNsP t) ++ [10] ++ opsP t.prog
def effP (b : EffV) : Txt := lineT bestW [b.lv] ++ [10] ++ opsP b.prog
def evP (e : EvV) : Txt := lineT atW [e.tick, nextV e.line, e.task] ++ [10]
def mtxB (m : Int × Int) : Bool := badB [m.1, m.2]
def gapB (g : Int) : Bool := badB [g]
def taskB (t : TaskV) : Bool := nextB t.li || badB (taskNsP t) || opsB t.prog
def effB (b : EffV) : Bool := badB [b.lv] || opsB b.prog
def evB (e : EvV) : Bool := nextB e.line || badB [e.tick, nextV e.line, e.task]
def headP (c : CfgV) : Txt := lineT framesW [c.frames] ++ [10] ++ lineT dogW [c.dog] ++ [10]
def headB (c : CfgV) : Bool := badB [c.frames] || badB [c.dog]
def cfgP (c : CfgV) (es : List EvV) : Txt := headP c ++ c.mtx.flatMap mtxP ++ c.gaps.flatMap gapP ++ c.tasks.flatMap taskP ++ c.best.flatMap effP ++ es.flatMap evP
def cfgB (c : CfgV) (es : List EvV) : Bool := headB c || c.mtx.any mtxB || c.gaps.any gapB || c.tasks.any taskB || c.best.any effB || es.any evB
theorem badB_not (ns : List Int) : badB ns = !ns.all goodB := by
  unfold badB
  induction ns with
  | nil => rfl
  | cons x r ih => rw [List.any_cons, List.all_cons, ih, Bool.not_and]
theorem opsB_not (os : List OpV) : opsB os = !okOps os := by
  unfold opsB okOps
  induction os with
  | nil => rfl
  | cons x r ih => rw [List.any_cons, List.all_cons, ih, Bool.not_and]
theorem next_good (x : Int) : (nextB x = true ∧ goodB (x + 1) = false) ∨ (nextB x = false ∧ nextV x = x + 1 ∧ goodB (x + 1) = true) := by
  unfold nextV nextB goodB
  by_cases h1 : x < -1
  · left; rw [decide_eq_true h1, decide_eq_false (show ¬ (0 : Int) ≤ x + 1 by omega)]; exact ⟨rfl, rfl⟩
  · by_cases h2 : 999999 ≤ x
    · left; rw [decide_eq_true h2, decide_eq_false (show ¬ x + 1 ≤ 999999 by omega)]; exact ⟨by simp, by simp⟩
    · right
      rw [decide_eq_false h1, decide_eq_false h2, decide_eq_true (show (0 : Int) ≤ x + 1 by omega), decide_eq_true (show x + 1 ≤ 999999 by omega)]
      exact ⟨rfl, rfl, rfl⟩
theorem nextV_rng (x : Int) : 0 ≤ nextV x ∧ nextV x ≤ 999999 := by
  rcases next_good x with ⟨h, _⟩ | ⟨h, h2, h3⟩
  · unfold nextV; rw [if_pos h]; omega
  · rw [h2]
    unfold goodB at h3
    simp at h3
    exact h3
theorem taskB_not (t : TaskV) : taskB t = !okTask t := by
  unfold taskB okTask
  rw [Bool.not_and, badB_not, opsB_not]
  rcases next_good t.li with ⟨h1, h2⟩ | ⟨h1, h2, h3⟩
  · rw [h1]
    have : (taskNs t).all goodB = false := by unfold taskNs; simp [h2]
    rw [this]; rfl
  · rw [h1]
    have : taskNsP t = taskNs t := by unfold taskNsP taskNs; rw [h2]
    rw [this]; rfl
theorem evB_not (e : EvV) : evB e = !okEv e := by
  unfold evB okEv
  rw [badB_not]
  rcases next_good e.line with ⟨h1, h2⟩ | ⟨h1, h2, h3⟩
  · rw [h1, h2]; simp
  · rw [h1, h2]; simp [Bool.and_assoc]
theorem effB_not (b : EffV) : effB b = !okEff b := by unfold effB okEff; rw [badB_not, opsB_not, Bool.not_and]; simp
theorem mtxB_not (m : Int × Int) : mtxB m = !(goodB m.1 && goodB m.2) := by unfold mtxB; rw [badB_not]; simp
theorem gapB_not (g : Int) : gapB g = !goodB g := by unfold gapB; rw [badB_not]; simp
theorem any_not {α : Type} {g h : α → Bool} (e : ∀ x, g x = !h x) : ∀ L : List α, L.any g = !L.all h
  | [] => rfl
  | x :: r => by rw [List.any_cons, List.all_cons, any_not e r, e x, Bool.not_and]
theorem cfgB_not (c : CfgV) (es : List EvV) : cfgB c es = !okCfg c es := by
  unfold cfgB okCfg headB
  rw [any_not mtxB_not, any_not gapB_not, any_not taskB_not, any_not effB_not, any_not evB_not, badB_not, badB_not]
  simp only [Bool.not_and, List.all_cons, List.all_nil, Bool.and_true]
theorem opsP_ok {os : List OpV} (h : okOps os = true) : opsP os = opsT os := by
  unfold opsP opsT
  unfold okOps at h
  rw [List.all_eq_true] at h
  induction os with
  | nil => rfl
  | cons x r ih =>
    rw [List.flatMap_cons, List.flatMap_cons, ih (fun y hy => h y (by simp [hy]))]
    unfold opR
    rw [if_pos (h x (by simp))]
theorem fm_congr {α : Type} {f g : α → Txt} : ∀ (L : List α), (∀ x ∈ L, f x = g x) → L.flatMap f = L.flatMap g
  | [], _ => rfl
  | x :: r, h => by rw [List.flatMap_cons, List.flatMap_cons, h x (by simp), fm_congr r (fun y hy => h y (by simp [hy]))]
theorem taskP_ok {t : TaskV} (h : okTask t = true) : taskP t = taskT t := by
  unfold okTask at h
  rw [Bool.and_eq_true] at h
  unfold taskP taskT
  rw [opsP_ok h.2]
  have h1 := h.1
  rw [List.all_eq_true] at h1
  have h2 := h1 (t.li + 1) (by unfold taskNs; simp)
  rcases next_good t.li with ⟨_, h3⟩ | ⟨_, h3, _⟩
  · rw [h2] at h3; cases h3
  · unfold taskNsP taskNs; rw [h3]
theorem effP_ok {b : EffV} (h : okEff b = true) : effP b = effT b := by
  unfold okEff at h
  rw [Bool.and_eq_true] at h
  unfold effP effT
  rw [opsP_ok h.2]
theorem evP_ok {e : EvV} (h : okEv e = true) : evP e = evT e := by
  unfold okEv at h
  rw [Bool.and_eq_true, Bool.and_eq_true] at h
  unfold evP evT
  rcases next_good e.line with ⟨_, h3⟩ | ⟨_, h3, _⟩
  · rw [h.1.2] at h3; cases h3
  · rw [h3]
theorem okCfg_parts {c : CfgV} {es : List EvV} (h : okCfg c es = true) : goodB c.frames = true ∧ goodB c.dog = true ∧ (∀ m ∈ c.mtx, goodB m.1 = true ∧ goodB m.2 = true) ∧ (∀ g ∈ c.gaps, goodB g = true) ∧ (∀ t ∈ c.tasks, okTask t = true) ∧ (∀ b ∈ c.best, okEff b = true) ∧ ∀ e ∈ es, okEv e = true := by
  unfold okCfg at h
  simp only [Bool.and_eq_true, List.all_eq_true] at h
  obtain ⟨⟨⟨⟨⟨⟨h1, h2⟩, h3⟩, h4⟩, h5⟩, h6⟩, h7⟩ := h
  exact ⟨h1, h2, h3, h4, h5, h6, h7⟩
theorem cfgP_ok {c : CfgV} {es : List EvV} (h : okCfg c es = true) : cfgP c es = cfgT c es := by
  obtain ⟨_, _, _, _, h5, h6, h7⟩ := okCfg_parts h
  unfold cfgP cfgT headP
  rw [fm_congr c.tasks (fun t ht => taskP_ok (h5 t ht)), fm_congr c.best (fun b hb => effP_ok (h6 b hb)), fm_congr es (fun e he => evP_ok (h7 e he))]
  rfl

/-! ### the document -/
def opsD (os : List OpV) : Txt := if opsB os = true then [] else opsT os
def mtxD (m : Int × Int) : Txt := rlineT mutexW [m.1, m.2] ++ [10]
def gapD (g : Int) : Txt := rlineT gapW [g] ++ [10]
def taskD (t : TaskV) : Txt := rlineT taskW (taskNs t) ++ [10] ++ opsD t.prog
def effD (b : EffV) : Txt := rlineT bestW [b.lv] ++ [10] ++ opsD b.prog
def evD (e : EvV) : Txt := rlineT atW [e.tick, e.line + 1, e.task] ++ [10]
def headD (c : CfgV) : Txt := rlineT framesW [c.frames] ++ [10] ++ rlineT dogW [c.dog] ++ [10]
def taskBd (t : TaskV) : Bool := badB (taskNs t) || opsB t.prog
def evBd (e : EvV) : Bool := badB [e.tick, e.line + 1, e.task]
def cfgD (c : CfgV) (es : List EvV) : Txt := headD c ++ c.mtx.flatMap mtxD ++ c.gaps.flatMap gapD ++ c.tasks.flatMap taskD ++ c.best.flatMap effD ++ es.flatMap evD
def cfgBd (c : CfgV) (es : List EvV) : Bool := headB c || c.mtx.any mtxB || c.gaps.any gapB || c.tasks.any taskBd || c.best.any effB || es.any evBd
theorem taskBd_not (t : TaskV) : taskBd t = !okTask t := by unfold taskBd okTask; rw [Bool.not_and, badB_not, opsB_not]
theorem evBd_not (e : EvV) : evBd e = !okEv e := by unfold evBd okEv; rw [badB_not]; simp [Bool.and_assoc]
theorem cfgBd_not (c : CfgV) (es : List EvV) : cfgBd c es = !okCfg c es := by
  unfold cfgBd okCfg headB
  rw [any_not mtxB_not, any_not gapB_not, any_not taskBd_not, any_not effB_not, any_not evBd_not, badB_not, badB_not]
  simp only [Bool.not_and, List.all_cons, List.all_nil, Bool.and_true]
theorem rline_ok {word : Txt} {ns : List Int} (h : badB ns = false) : rlineT word ns = lineT word ns := by unfold rlineT; rw [h]; rfl
theorem opsD_ok {os : List OpV} (h : okOps os = true) : opsD os = opsT os := by unfold opsD; rw [opsB_not, h]; rfl
theorem taskD_ok {t : TaskV} (h : okTask t = true) : taskD t = taskT t := by
  unfold okTask at h
  rw [Bool.and_eq_true] at h
  unfold taskD taskT
  rw [opsD_ok h.2, rline_ok (by rw [badB_not, h.1]; rfl)]
theorem effD_ok {b : EffV} (h : okEff b = true) : effD b = effT b := by
  unfold okEff at h
  rw [Bool.and_eq_true] at h
  unfold effD effT
  rw [opsD_ok h.2, rline_ok (by rw [badB_not]; simp [h.1])]
theorem evD_ok {e : EvV} (h : okEv e = true) : evD e = evT e := by
  have h2 := evBd_not e
  rw [h] at h2
  unfold evBd at h2
  unfold evD evT
  rw [rline_ok h2]
theorem cfgD_ok {c : CfgV} {es : List EvV} (h : okCfg c es = true) : cfgD c es = cfgT c es := by
  obtain ⟨h1, h2, h3, h4, h5, h6, h7⟩ := okCfg_parts h
  unfold cfgD cfgT headD
  rw [fm_congr c.tasks (fun t ht => taskD_ok (h5 t ht)), fm_congr c.best (fun b hb => effD_ok (h6 b hb)), fm_congr es (fun e he => evD_ok (h7 e he)), rline_ok (show badB [c.frames] = false by rw [badB_not]; simp [h1]), rline_ok (show badB [c.dog] = false by rw [badB_not]; simp [h2])]
  rw [fm_congr c.mtx (f := mtxD) (g := fun m => lineT mutexW [m.1, m.2] ++ [10]) (fun m hm => by unfold mtxD; rw [rline_ok (by rw [badB_not]; simp [h3 m hm])]), fm_congr c.gaps (f := gapD) (g := fun g => lineT gapW [g] ++ [10]) (fun g hg => by unfold gapD; rw [rline_ok (by rw [badB_not]; simp [h4 g hg])])]
/-- numbers that an int holds -/
def InR (x : Int) : Prop := -9223372036854775808 ≤ x ∧ x ≤ 9223372036854775807
structure CfgR (c : CfgV) : Prop where
  f : InR c.frames
  d : InR c.dog
  m : ∀ m ∈ c.mtx, InR m.1 ∧ InR m.2
  g : ∀ g ∈ c.gaps, InR g
  t : ∀ t ∈ c.tasks, InR t.cl ∧ InR t.lv ∧ InR t.pe ∧ InR t.de ∧ InR t.bu ∧ InR t.li ∧ ∀ u ∈ t.uses, InR u
  b : ∀ b ∈ c.best, InR b.lv
def EvsR (es : List EvV) : Prop := ∀ e ∈ es, InR e.tick ∧ InR e.line ∧ InR e.task
/-- how many there are of each -/
structure CfgN (c : CfgV) (K : Nat) : Prop where
  m : c.mtx.length ≤ K
  g : c.gaps.length ≤ K
  t : c.tasks.length ≤ K
  b : c.best.length ≤ K
  u : ∀ t ∈ c.tasks, t.uses.length ≤ K ∧ t.prog.length ≤ K
  p : ∀ b ∈ c.best, b.prog.length ≤ K
theorem opR_len (o : OpV) : (opR o).length ≤ 2000 := by
  unfold opR
  by_cases hm : mayO o = true
  · rw [if_pos hm]
    by_cases hk : o.k = 10
    · obtain ⟨h1, h2, h3⟩ := call_len o hm
      rw [opT_call hk]
      simp only [List.length_append, List.length_cons, List.length_nil]
      omega
    · have hle := mayO_le hm
      unfold opT
      rw [if_neg hk]
      have hrg : Rng [o.k, o.a, o.b, o.c] := rng_small (by intro x hx; simp at hx; rcases hx with rfl | rfl | rfl | rfl <;> omega)
      have := numsT_len hrg
      unfold lineT opW
      simp only [List.length_append, List.length_cons, List.length_nil] at *
      omega
  · rw [if_neg hm]; simp
end Go.Proofs.YtefaaginedideaaGreatDoor
