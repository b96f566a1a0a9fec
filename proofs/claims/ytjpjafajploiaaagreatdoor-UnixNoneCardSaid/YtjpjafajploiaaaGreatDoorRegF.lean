/-
  A region that draws its order and holds operations whose values are not known ahead (a call that makes memory, a new block's address): walked once in the order of the text, under an invariant J on the operations that have come up, the frame and the world. Conditions: what each operation's value may be is told ahead, without the values of others; J ties the values to the world. With an operation all that it waits for have come up (Closed).
-/
import Derived.Test.YtjpjafajploiaaaGreatDoorRegJ
namespace Go.Proofs.YtjpjafajploiaaaGreatDoor.RegF
set_option linter.unusedSimpArgs false
set_option linter.unusedVariables false
open Go.Proofs.YtjpjafajploiaaaGreatDoor.RegJ hiding Up

section
variable {P : Program} {ops : Array Oper} {md : Region.Mode} {J : (Nat → Bool) → Act → World → Prop}

/-- with an operation all that it waits for have come up -/
def Closed (md : Region.Mode) (ops : Array Oper) (f : Nat → Bool) : Prop := ∀ k o, ops[k]? = some o → f k = true → ∀ e ∈ o.after, Region.binds md e = true → f e.on = true
/-- what is asked of the flags when operation o, number i, comes up -/
def Up (md : Region.Mode) (ops : Array Oper) (i : Nat) (o : Oper) (f : Nat → Bool) : Prop := RegJ.Up md i o f ∧ Closed md ops f
theorem Closed.fset {f : Nat → Bool} {i : Nat} {o : Oper} (ho : ops[i]? = some o) (h : Up md ops i o f) : Closed md ops (fset f i) := by
  intro k o' hk hf e he hb
  unfold RegJ.fset at *
  by_cases hki : k = i
  · subst hki
    obtain rfl : o' = o := Option.some.inj (hk.symm.trans ho)
    simp [h.1.2 e he hb]
  · have hf' : f k = true := by simpa [hki] using hf
    simp [h.2 k o' hk hf' e he hb]

def upE (P : Program) (R : Value → World → Prop) : Result Next → Prop
  | .ok (.value u) w' => R u w'
  | .ok .skip w' => R undef w'
  | .ok (.enter f args) w' => Calls P f args w' (fun e w'' => ∃ u, e = .returned u ∧ R u w'')
  | .ok (.row r args) w' => Rows P r args w' R
  | _ => False

theorem upE_mono {R R' : Value → World → Prop} {r : Result Next} (h : ∀ u w, R u w → R' u w) (hh : upE P R r) : upE P R' r := by
  cases r with
  | ok x w' =>
    cases x <;> simp only [upE] at hh ⊢
    case value u => exact h _ _ hh
    case skip => exact h _ _ hh
    case enter f args => exact hh.mono fun e w'' ⟨u, he, hr⟩ => ⟨u, he, h _ _ hr⟩
    case row r args => exact hh.mono fun u w'' hr => h _ _ hr
  | halt x w' => simp only [upE] at hh

/-- two frames that an operation cannot tell apart -/
def Agree (ops : Array Oper) (o : Oper) (a a' : Act) : Prop := a'.tmps.size = a.tmps.size ∧ ∀ d ∈ o.looksAt ops, a'.tmps[d]? = a.tmps[d]?
theorem Agree.refl (o : Oper) (a : Act) : Agree ops o a a := ⟨rfl, fun _ _ => rfl⟩
theorem Agree.exec {o : Oper} {a a' : Act} (hs : ∀ cs b, o.op ≠ .select cs b) (h : Agree ops o a a') : execOp a'.eval o = execOp a.eval o :=
  execOp_congr o hs fun x hx => by
    cases x with
    | tmp d =>
      have hd : d ∈ o.looksAt ops := List.mem_append_left _ (List.mem_filterMap.2 ⟨.tmp d, by simpa using hx, rfl⟩)
      simp only [Act.eval, Array.getD_eq_getD_getElem?, h.2 d hd]
    | _ => rfl
theorem Agree.wanted {o : Oper} {a a' : Act} (h : Agree ops o a a') : Region.wanted o (yielded ops a'.tmps) = Region.wanted o (yielded ops a.tmps) := by
  unfold Region.wanted
  cases hg : o.guard with
  | none => rfl
  | some gw =>
    obtain ⟨g, want⟩ := gw
    have hy : yielded ops a'.tmps g = yielded ops a.tmps g := by
      unfold yielded
      cases ht : (ops[g]?).bind (·.dst) with
      | none => rfl
      | some t =>
        have h2 := h.2 t (by simp [Oper.looksAt, hg, ht])
        show (match a'.tmps[t]? with | some (.bool b) => some b | _ => none) = match a.tmps[t]? with | some (.bool b) => some b | _ => none
        rw [h2]
    simp only [hy]
theorem put_size (a : Act) (d : Option Tmp) (v : Value) : (a.put d v).tmps.size = a.tmps.size := by
  cases d <;> simp [Act.put]
theorem Agree.put {o : Oper} {a a' : Act} {d : Option Tmp} {v : Value} (hd : ∀ t, d = some t → t ∉ o.looksAt ops) (h : Agree ops o a a') : Agree ops o (a.put d v) a' := by
  refine ⟨by rw [put_size]; exact h.1, fun t ht => ?_⟩
  rw [h.2 t ht]
  cases d with
  | none => rfl
  | some d =>
    have hne : d ≠ t := fun e => hd d rfl (e ▸ ht)
    simp [Act.put, Array.getElem?_setIfInBounds_ne hne]
theorem Agree.of_put {o : Oper} {a a' : Act} {d : Option Tmp} {v : Value} (hd : ∀ t, d = some t → t ∉ o.looksAt ops) (h : Agree ops o (a.put d v) a') : Agree ops o a a' := by
  refine ⟨by rw [← put_size a d v]; exact h.1, fun t ht => ?_⟩
  rw [h.2 t ht]
  cases d with
  | none => rfl
  | some d =>
    have hne : d ≠ t := fun e => hd d rfl (e ▸ ht)
    simp [Act.put, Array.getElem?_setIfInBounds_ne hne]

/-- operation o, number i, comes up in state a; its value is one of V -/
def YieldsE (P : Program) (md : Region.Mode) (ops : Array Oper) (J : (Nat → Bool) → Act → World → Prop) (i : Nat) (o : Oper) (V : Value → Prop) (a : Act) : Prop :=
  (Region.wanted o (yielded ops a.tmps) = true ∧ ∀ a' f w, Agree ops o a a' → Up md ops i o f → J f a' w → upE P (fun u w' => V u ∧ J (fset f i) (a'.put o.dst u) w') ((execOp a.eval o).run P w)) ∨
  (Region.wanted o (yielded ops a.tmps) = false ∧ V undef ∧ ∀ a' f w, Agree ops o a a' → Up md ops i o f → J f a' w → J (fset f i) (a'.put o.dst undef) w)

theorem YieldsE.of_agree {i : Nat} {o : Oper} {V : Value → Prop} {a b : Act} (hs : ∀ cs c, o.op ≠ .select cs c) (hy : YieldsE P md ops J i o V a) (h : Agree ops o a b) : YieldsE P md ops J i o V b := by
  have tr : ∀ a', Agree ops o b a' → Agree ops o a a' := fun a' h' => ⟨h'.1.trans h.1, fun d hd => (h'.2 d hd).trans (h.2 d hd)⟩
  rcases hy with ⟨h1, h2⟩ | ⟨h1, h2, h3⟩
  · refine .inl ⟨h.wanted.trans h1, fun a' f w ha hf hj => ?_⟩
    rw [h.exec hs]
    exact h2 a' f w (tr a' ha) hf hj
  · exact .inr ⟨h.wanted.trans h1, h2, fun a' f w ha hf hj => h3 a' f w (tr a' ha) hf hj⟩

def jOp (P : Program) (md : Region.Mode) (ops : Array Oper) (J : (Nat → Bool) → Act → World → Prop) (Vs : Nat → Value → Prop) (i : Nat) (K : Act → Prop) (a : Act) : Prop :=
  match ops[i]? with
  | none => K a
  | some o => YieldsE P md ops J i o (Vs i) a ∧ ∀ u, Vs i u → K (a.put o.dst u)

def wpAnyE (P : Program) (md : Region.Mode) (ops : Array Oper) (J : (Nat → Bool) → Act → World → Prop) (Vs : Nat → Value → Prop) (Q : Array Bool → Act → Prop) : Nat → Array Bool → Act → Prop
  | 0, s, a => Region.ready md ops s = [] ∧ Q s a
  | fuel + 1, s, a => (Region.ready md ops s = [] → Q s a) ∧ ∀ i ∈ Region.ready md ops s, jOp P md ops J Vs i (wpAnyE P md ops J Vs Q fuel (s.setIfInBounds i true)) a

theorem wp_of_upE {o : Oper} {a : Act} {R : Value → World → Prop} {K' : Act → World → Prop} {Q' : Exit → Act → World → Prop} {w : World}
    (h : ∀ u w', R u w' → K' (a.put o.dst u) w') (hh : upE P R ((execOp a.eval o).run P w)) : o.wp P a w K' Q' := by
  unfold Oper.wp
  generalize (execOp a.eval o).run P w = r at *
  cases r with
  | ok x w' =>
    cases x <;> simp only [upE] at hh <;> simp only [Oper.upon]
    case value u => exact h _ _ hh
    case skip => exact h _ _ hh
    case enter f args => exact hh.mono fun e w'' ⟨u, he, hr⟩ => by subst he; exact h _ _ hr
    case row r args => exact hh.mono fun u w'' hr => h _ _ hr
  | halt x w' => simp only [upE] at hh

theorem wpAny_of_E {Vs : Nat → Value → Prop} {Q : Array Bool → Act → Prop} {Q' : Exit → Act → World → Prop} (hQ : ∀ s a w, J (flags s) a w → Q s a → Q' .normal a w) : ∀ (fuel : Nat) (s : Array Bool) (a : Act) (w : World), Closed md ops (flags s) → J (flags s) a w →
    wpAnyE P md ops J Vs Q fuel s a → wpAny P md ops Q' fuel s a w
  | 0, _, _, _, _, hw, h => ⟨h.1, hQ _ _ _ hw h.2⟩
  | fuel + 1, s, a, w, hcl, hw, h => by
    refine ⟨fun h0 => hQ _ _ _ hw (h.1 h0), fun i hi => ?_⟩
    have h2 := h.2 i hi
    obtain ⟨h1, o, ho, hall⟩ := mem_ready.1 hi
    obtain ⟨his, hup0⟩ := up_of_ready ho hi
    have hup : Up md ops i o (flags s) := ⟨hup0, hcl⟩
    have hcl' : Closed md ops (flags (s.setIfInBounds i true)) := by rw [flags_set his]; exact Closed.fset ho hup
    unfold jOp at h2
    unfold wpOp
    simp only [ho] at h2 ⊢
    obtain ⟨hy, hK⟩ := h2
    rcases hy with ⟨hwd, hs⟩ | ⟨hwd, hv, hs⟩
    · simp only [hwd, if_true]
      refine .inl (wp_of_upE (R := fun u w' => Vs i u ∧ J (fset (flags s) i) (a.put o.dst u) w') (fun u w' ⟨hu, hj⟩ => ?_) (hs a _ w (Agree.refl _ _) hup hw))
      exact wpAny_of_E hQ fuel _ _ _ hcl' (by rw [flags_set his]; exact hj) (hK u hu)
    · simp only [hwd, Bool.false_eq_true, if_false]
      exact wpAny_of_E hQ fuel _ _ _ hcl' (by rw [flags_set his]; exact hs a _ w (Agree.refl _ _) hup hw) (hK undef hv)

theorem wpAnyE_first {Vs : Nat → Value → Prop} {Q : Array Bool → Act → Prop} {i : Nat} {oi : Oper} (hi : ops[i]? = some oi) (hsel : ∀ (j : Nat) (o : Oper) cs b, ops[j]? = some o → o.op ≠ .select cs b) (hne : ∃ u, Vs i u) :
    ∀ (fuel : Nat) (s : Array Bool) (a : Act),
      (∀ j oj, ops[j]? = some oj → j ≠ i → s.getD j true = false → (∀ e ∈ oj.after, Region.binds md e = true → e.on ≠ i) → oi.apart ops oj = true) →
      i ∈ Region.ready md ops s → YieldsE P md ops J i oi (Vs i) a →
      (∀ u, Vs i u → wpAnyE P md ops J Vs Q fuel (s.setIfInBounds i true) (a.put oi.dst u)) → wpAnyE P md ops J Vs Q (fuel + 1) s a := by
  have here : ∀ {K : Act → Prop} {a : Act}, YieldsE P md ops J i oi (Vs i) a → (∀ u, Vs i u → K (a.put oi.dst u)) → jOp P md ops J Vs i K a := fun {K a} hy h => by
    unfold jOp; simp only [hi]; exact ⟨hy, h⟩
  obtain ⟨u0, hu0⟩ := hne
  intro fuel
  induction fuel with
  | zero =>
    intro s a _ hr hy H
    refine ⟨fun h => (by rw [h] at hr; cases hr), fun j hj => ?_⟩
    by_cases hji : j = i
    · subst hji; exact here hy H
    · have := ready_mono hj hji
      rw [(H u0 hu0).1] at this
      cases this
  | succ fuel ih =>
    intro s a hfree hr hy H
    refine ⟨fun h => (by rw [h] at hr; cases hr), fun j hj => ?_⟩
    by_cases hji : j = i
    · subst hji; exact here hy H
    · have h1 := fun u hu => (H u hu).2 j (ready_mono hj hji)
      obtain ⟨hjun, oj, hoj, hall⟩ := mem_ready.1 hj
      have hnot : ∀ e ∈ oj.after, Region.binds md e = true → e.on ≠ i := fun e he hb heq => by
        have h1 := hall e he hb
        have h0 := (up_of_ready hi hr).2.1
        unfold flags at h0
        rw [heq, h0] at h1
        cases h1
      have hap := hfree j oj hoj hji hjun hnot
      have hsi := fun cs b => hsel i oi cs b hi
      have hsj := fun cs b => hsel j oj cs b hoj
      obtain ⟨p1, p2, p3⟩ := Oper.apart_spec hap
      have hfree' : ∀ k ok, ops[k]? = some ok → k ≠ i → (s.setIfInBounds j true).getD k true = false →
          (∀ e ∈ ok.after, Region.binds md e = true → e.on ≠ i) → oi.apart ops ok = true := fun k ok hk hki hun hno => by
        refine hfree k ok hk hki ?_ hno
        by_cases hjk : j = k
        · subst hjk; exact hjun
        · rw [getD_set_ne true hjk] at hun; exact hun
      unfold jOp at h1 ⊢
      simp only [hoj] at h1 ⊢
      refine ⟨(h1 u0 hu0).1.of_agree hsj (Agree.put p1 (Agree.refl _ _)), fun x hx => ?_⟩
      refine ih (s.setIfInBounds j true) _ hfree' (ready_mono hr (Ne.symm hji)) (hy.of_agree hsi (Agree.of_put p3 (Agree.refl _ _))) (fun u hu => ?_)
      have h2 := (h1 u hu).2 x hx
      rw [Array.setIfInBounds_comm _ _ hji, ← Act.put_comm a u x p2]
      exact h2

/-- the lexical walk: Vs k: what the value of operation k may be, told ahead -/
def wpE (P : Program) (md : Region.Mode) (ops : Array Oper) (J : (Nat → Bool) → Act → World → Prop) (Q : Array Bool → Act → Prop) : Nat → List (Value → Prop) → List Oper → Array Bool → Act → Prop
  | _, _, [], s, a => Q s a
  | _, [], _ :: _, _, _ => False
  | k, V :: Vl, o :: rest, s, a => (∃ u, V u) ∧ YieldsE P md ops J k o V a ∧ ∀ u, V u → wpE P md ops J Q (k + 1) Vl rest (s.setIfInBounds k true) (a.put o.dst u)

theorem wpAnyE_lex {Vs : Nat → Value → Prop} {Q : Array Bool → Act → Prop} (hs : Region.noSelect ops = true) : ∀ (l : List Oper) (Vl : List (Value → Prop)) (k : Nat) (s : Array Bool) (a : Act), (∀ j, l[j]? = ops[k + j]?) → (∀ j V, Vl[j]? = some V → Vs (k + j) = V) →
    Region.lexFrom md ops l.length k s = true → wpE P md ops J Q k Vl l s a → wpAnyE P md ops J Vs Q l.length s a
  | [], _, _, _, _, _, _, hB, h => by
    cases ‹List (Value → Prop)› <;> exact ⟨by simpa [Region.lexFrom] using hB, h⟩
  | o :: l, [], _, _, _, _, _, _, h => h.elim
  | o :: l, V :: Vl, k, s, a, hl, hV, hB, h => by
    have h0 : ops[k]? = some o := by simpa using (hl 0).symm
    have hV0 : Vs k = V := by simpa using hV 0 V rfl
    simp only [List.length_cons, Region.lexFrom, Bool.and_eq_true] at hB
    obtain ⟨⟨hr, hf⟩, hB'⟩ := hB
    have hl' : ∀ j, l[j]? = ops[k + 1 + j]? := fun j => by have := hl (j + 1); simpa [Nat.add_assoc, Nat.add_comm 1 j] using this
    have hV' : ∀ j V, Vl[j]? = some V → Vs (k + 1 + j) = V := fun j V' hj => by
      have := hV (j + 1) V' (by simpa using hj)
      rw [show k + 1 + j = k + (j + 1) by omega]; exact this
    obtain ⟨hne, hy, hK⟩ := h
    exact wpAnyE_first h0 (Region.noSelect_spec hs) (by rw [hV0]; exact hne) l.length s a (Region.free_spec h0 hf) (by simpa using hr) (by rw [hV0]; exact hy)
      (fun u hu => wpAnyE_lex hs l Vl (k + 1) _ _ hl' hV' hB' (hK u (by rw [hV0] at hu; exact hu)))

theorem upE_of_list {o : Oper} {a : Act} {w : World} {R : Value → World → Prop} {Q1 : Exit → Act → World → Prop} (hw : Region.wanted o (yielded ops a.tmps) = true)
    (hQ : ∀ e b w', Q1 e b w' → e = .normal ∧ ∃ u, b = a.put o.dst u ∧ R u w') (hR : ∀ u u' w', a.put o.dst u = a.put o.dst u' → R u w' → R u' w')
    (h : wpList P ops Q1 [o] a w) : upE P R ((execOp a.eval o).run P w) := by
  have fin : ∀ u w', Q1 .normal (a.put o.dst u) w' → R u w' := fun u w' h => by
    obtain ⟨_, u', he, hr⟩ := hQ _ _ _ h
    exact hR u' u w' he.symm hr
  unfold wpList at h
  rw [if_pos hw] at h
  rcases h with h | ⟨_, b, w', hb⟩
  · unfold Oper.wp at h
    generalize (execOp a.eval o).run P w = r at *
    cases r with
    | ok x w' =>
      cases x <;> simp only [Oper.upon, wpList] at h <;> simp only [upE]
      case value u => exact fin _ _ h
      case skip => exact fin _ _ h
      case defer d =>
        obtain ⟨_, u, he, _⟩ := hQ _ _ _ h
        have h2 := congrArg (fun b : Act => b.defers.length) he
        cases hd : o.dst <;> simp [Act.put, hd] at h2
      case enter f args =>
        refine h.mono fun e w'' he => ?_
        cases e with
        | returned u => exact ⟨u, rfl, fin _ _ he⟩
        | panicked c => have := (hQ _ _ _ he).1; cases this
        | outgrown => obtain ⟨b, w3, hb⟩ := he; have := (hQ _ _ _ hb).1; cases this
      case row r args => exact h.mono fun u w'' he => fin _ _ he
    | halt x w' =>
      cases x <;> simp only [Oper.upon] at h
      case panic u => have := (hQ _ _ _ h).1; cases this
  · have := (hQ _ _ _ hb).1; cases this

/-- one value (in a frame of n slots) -/
def Is (n : Nat) (dst : Option Tmp) (v : Value) : Value → Prop := fun u => PutEq n dst u v

theorem wpE_op {Q : Array Bool → Act → Prop} {k : Nat} {Vl : List (Value → Prop)} {o : Oper} {rest : List Oper} {s : Array Bool} {a : Act} {v : Value} {n : Nat} {d : Option Tmp} (hn : a.tmps.size = n) (hd : o.dst = d)
    (hw : Region.wanted o (yielded ops a.tmps) = true)
    (h : ∀ f a' w, Agree ops o a a' → Up md ops k o f → J f a' w → ∀ Q1 : Exit → Act → World → Prop, (∀ b w', b = a.put d v → J (fset f k) (a'.put d v) w' → Q1 .normal b w') → wpList P ops Q1 [o] a w)
    (hr : wpE P md ops J Q (k + 1) Vl rest (s.setIfInBounds k true) (a.put d v)) : wpE P md ops J Q k (Is n d v :: Vl) (o :: rest) s a := by
  subst hd
  have hp : ∀ u, a.put o.dst u = a.put o.dst v → PutEq n o.dst u v := fun u he => putEq_of hn he
  refine ⟨⟨v, fun _ _ => rfl⟩, .inl ⟨hw, fun a' f w ha hf hj => ?_⟩, fun u hu => by rw [hu a hn]; exact hr⟩
  refine upE_mono (R := fun u w' => a.put o.dst u = a.put o.dst v ∧ J (fset f k) (a'.put o.dst v) w') (fun u w' ⟨he, hj'⟩ => ⟨hp u he, by rw [(hp u he) a' (ha.1.trans hn)]; exact hj'⟩)
    (upE_of_list (Q1 := fun e b w' => e = .normal ∧ b = a.put o.dst v ∧ J (fset f k) (a'.put o.dst v) w') hw (fun e b w' ⟨h1, h2, h3⟩ => ⟨h1, v, h2, rfl, h3⟩) (fun u u' w' he ⟨h1, h2⟩ => ⟨he ▸ h1, h2⟩) (h f a' w ha hf hj _ fun b w' hb hj' => ⟨rfl, hb, hj'⟩))

theorem wpE_skip {Q : Array Bool → Act → Prop} {k : Nat} {Vl : List (Value → Prop)} {o : Oper} {rest : List Oper} {s : Array Bool} {a : Act} {n : Nat} {d : Option Tmp} (hn : a.tmps.size = n) (hd : o.dst = d)
    (hw : Region.wanted o (yielded ops a.tmps) = false) (h : ∀ f a' w, Agree ops o a a' → Up md ops k o f → J f a' w → J (fset f k) (a'.put d undef) w)
    (hr : wpE P md ops J Q (k + 1) Vl rest (s.setIfInBounds k true) (a.put d undef)) : wpE P md ops J Q k (Is n d undef :: Vl) (o :: rest) s a := by
  subst hd
  exact ⟨⟨undef, fun _ _ => rfl⟩, .inr ⟨hw, fun _ _ => rfl, fun a' f w ha hf hj => h f a' w ha hf hj⟩, fun u hu => by rw [hu a hn]; exact hr⟩

/-- an operation whose value is not known ahead: it goes into slot d, and is one of V; J may tell more of what the slot holds -/
theorem wpE_any {Q : Array Bool → Act → Prop} {k d : Nat} {Vl : List (Value → Prop)} {o : Oper} {rest : List Oper} {s : Array Bool} {a : Act} (hd : o.dst = some d) (hdn : d < a.tmps.size) {V : Value → Prop} (hne : ∃ u, V u)
    (hw : Region.wanted o (yielded ops a.tmps) = true)
    (h : ∀ f a' w, Agree ops o a a' → Up md ops k o f → J f a' w → ∀ Q1 : Exit → Act → World → Prop, (∀ u b w', b = a.put (some d) u → V u → J (fset f k) (a'.put (some d) u) w' → Q1 .normal b w') → wpList P ops Q1 [o] a w)
    (hr : ∀ u, V u → wpE P md ops J Q (k + 1) Vl rest (s.setIfInBounds k true) (a.put (some d) u)) : wpE P md ops J Q k (V :: Vl) (o :: rest) s a := by
  refine ⟨hne, .inl ⟨hw, fun a' f w ha hf hj => ?_⟩, by rw [hd]; exact hr⟩
  refine upE_of_list (Q1 := fun e b w' => e = .normal ∧ ∃ u, b = a.put (some d) u ∧ V u ∧ J (fset f k) (a'.put (some d) u) w') hw ?_ ?_ (h f a' w ha hf hj _ fun u b w' hb hV hj' => ⟨rfl, u, hb, hV, hj'⟩)
  · rintro e b w' ⟨h1, u, h2, h3, h4⟩
    rw [hd]
    exact ⟨h1, u, h2, h3, h4⟩
  · intro u u' w' he ⟨h1, h2⟩
    have e : u = u' := by
      rw [hd] at he
      simp only [Act.put, Act.mk.injEq, and_true] at he
      have h3 : (a.tmps.setIfInBounds d u)[d]? = (a.tmps.setIfInBounds d u')[d]? := by rw [he]
      simpa [hdn] using h3
    subst e
    exact ⟨h1, h2⟩

theorem wpE_nil {Q : Array Bool → Act → Prop} {k : Nat} {Vl : List (Value → Prop)} {s : Array Bool} {a : Act} (h : Q s a) : wpE P md ops J Q k Vl [] s a := by
  cases Vl <;> exact h

theorem region_E {id : Nat} {Q : Exit → Act → World → Prop} {a : Act} {w : World} {l : List Oper} (J : (Nat → Bool) → Act → World → Prop) (Vl : List (Value → Prop)) (hm : P.follows .mixedOrders = true) (hB : Region.lexB .any l.toArray = true)
    (h0 : J (fun _ => false) a w.drew)
    (h : wpE P .any l.toArray J (fun s a' => ∀ w', J (flags s) a' w' → Q .normal a' w') 0 Vl l (Array.replicate l.length false) a) : (Code.region id l.toArray true).wp P Q a w := by
  simp only [Region.lexB, Bool.and_eq_true] at hB
  refine wp_region_any hm (wpAny_of_E (J := J) (Vs := fun k => Vl.getD k (fun _ => False)) (Q := fun s a' => ∀ w', J (flags s) a' w' → Q .normal a' w') (fun _ _ w' hw' h => h w' hw') _ _ _ _ ?_ ?_ ?_)
  · intro k o _ hf
    have e : flags (Array.replicate l.toArray.size false) k = false := by
      unfold flags; simp only [Array.getD_eq_getD_getElem?, Array.getElem?_replicate]; split <;> rfl
    rw [e] at hf; cases hf
  · have e : flags (Array.replicate l.toArray.size false) = fun _ => false := by
      funext k; unfold flags; simp only [Array.getD_eq_getD_getElem?, Array.getElem?_replicate]; split <;> rfl
    rw [e]; exact h0
  · have := wpAnyE_lex (J := J) (md := .any) (P := P) (Vs := fun k => Vl.getD k (fun _ => False)) hB.1 l Vl 0 (Array.replicate l.length false) a (by simp) (fun j V hj => by simp [hj]) (by simpa using hB.2) h
    simpa using this
end

theorem Closed.step {ops : Array Oper} {md : Region.Mode} {f : Nat → Bool} (h : Closed md ops f) (j i : Nat) {o : Oper} (ho : ops[j]? = some o) (he : (o.after.any fun e => Region.binds md e && e.on == i) = true) (hf : f j = true) : f i = true := by
  obtain ⟨e, hm, hb⟩ := Array.any_eq_true'.1 he
  simp only [Bool.and_eq_true, beq_iff_eq] at hb
  have := h j o ho hf e hm hb.1
  rw [hb.2] at this
  exact this
/-- what a slot holds -/
def slot (a : Act) (d : Nat) : Value := a.tmps.getD d undef
theorem slot_put {a : Act} {d : Nat} (h : d < a.tmps.size) (u : Value) : slot (a.put (some d) u) d = u := by
  simp [slot, Act.put, h]
theorem slot_put_ne {a : Act} {d e : Nat} (h : d ≠ e) (u : Value) : slot (a.put (some d) u) e = slot a e := by
  simp [slot, Act.put, Array.getElem?_setIfInBounds_ne h]
/-- the world of a region in which one call (c; its value goes into slot d) is stored (s) at p: ahead of the call A, behind it PW of what the slot holds, behind the store the cell turned -/
def RowJ (c s d : Nat) (A : (Nat → Bool) → World → Prop) (PW : Value → World → Prop) (p : Addr) (f : Nat → Bool) (a : Act) (w : World) : Prop :=
  (f c = false → f s = false → A f w) ∧ (f c = true → f s = false → PW (slot a d) w) ∧ (f s = true → ∃ w0, PW (slot a d) w0 ∧ w = w0.setCell p (slot a d))
theorem RowJ.put {c s d : Nat} {A : (Nat → Bool) → World → Prop} {PW : Value → World → Prop} {p : Addr} {f f' : Nat → Bool} {a a' : Act} {w : World} (h : RowJ c s d A PW p f a w)
    (e1 : f' c = f c) (e2 : f' s = f s) (e3 : A f w → A f' w) (e4 : slot a' d = slot a d) : RowJ c s d A PW p f' a' w := by
  unfold RowJ at *
  rw [e1, e2, e4]
  exact ⟨fun h1 h2 => e3 (h.1 h1 h2), h.2.1, h.2.2⟩
theorem RowJ.blk {c s d : Nat} {A : (Nat → Bool) → World → Prop} {PW : Value → World → Prop} {p : Addr} {f : Nat → Bool} {a : Act} {w : World} (h : RowJ c s d A PW p f a w) {b : Nat} {cs : Array Value} {T : TypeId}
    (hA : ∀ w, A f w → Blk w b cs T) (hP : ∀ v w, PW v w → Blk w b cs T) (hne : b ≠ p.block) : Blk w b cs T := by
  cases hc : f c with
  | false =>
    cases hs : f s with
    | false => exact hA _ (h.1 hc hs)
    | true => obtain ⟨w0, h1, h2⟩ := h.2.2 hs; rw [h2]; exact (hP _ _ h1).set_ne hne _
  | true =>
    cases hs : f s with
    | false => exact hP _ _ (h.2.1 hc hs)
    | true => obtain ⟨w0, h1, h2⟩ := h.2.2 hs; rw [h2]; exact (hP _ _ h1).set_ne hne _
theorem slot_put_none (a : Act) (e : Nat) (u : Value) : slot (a.put none u) e = slot a e := rfl
end Go.Proofs.YtjpjafajploiaaaGreatDoor.RegF
