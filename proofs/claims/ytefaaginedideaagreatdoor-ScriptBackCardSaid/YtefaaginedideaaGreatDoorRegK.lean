/-
  A region that draws its order and appends to a row of the call's own: the append's value and world are settled ahead; the region goes through four worlds. Program-independent.
-/
import Derived.Test.YtefaaginedideaaGreatDoorRw
import Derived.Test.YtefaaginedideaaGreatDoorJone
import Derived.Test.YtefaaginedideaaGreatDoorRegF
namespace Go.Proofs.YtefaaginedideaaGreatDoor
set_option linter.unusedSimpArgs false
set_option linter.unusedVariables false
open Go.RowKit Own RegJ

/-- one append, its outcome told ahead -/
theorem app_run {P : Program} {w : World} {S T : TypeId} (ty : TypeId) (z : Value) (sz bytes : Nat)
    (hinf : (P.info? T).map (fun i => (i.zero, i.size, i.bytes)) = some (some z, sz, bytes)) (hzc : z.cells.size = sz) (hsz : 0 < sz) (hb2 : bytes ≤ 200) (hS : P.underlying S = some (.slice T))
    {v : Value} {n : Nat} {cs : List Value} {b : Option Nat} (hI : Rw w T sz v n cs b)
    (ad : Addr) (m c : Nat) (ys : List Value) (hm : ys.length = m * sz) (hnews : ∀ (j : Nat) (u : Value), ys[j]? = some u → w.cell? (ad.add j) = some u) (hone : ∀ u ∈ ys, u.oneCell' = true) (hlen : n + m ≤ 1000000) :
    ∃ v' w', (Builtin.append_ #[S, S] ty #[v, .slice (some ad) m c]).run P w = .ok v' w' ∧ AppR w T sz (n + m) (cs ++ ys) b v' w' := by
  obtain ⟨i0, hi, hz0, hz1, hzb⟩ := info_parts hinf
  have hp := hI.1
  have hown := hI.own
  have hbb : (n + m) * bytes ≤ 1000000 * 200 := Nat.mul_le_mul hlen hb2
  rcases hI.2 with ⟨rfl, rfl, rfl⟩ | ⟨g, cap, rst, rfl, rfl, hBg, hc, hnc, hmx⟩
  · have hcs : cs = [] := List.eq_nil_of_length_eq_zero (by omega)
    subst hcs
    obtain ⟨v', w', hrun, h1, h2, _⟩ := run_append_own (P := P) w w.heap.size S ty T i0 z sz bytes hS hi hz0 hz1 hzb hzc hsz (.slice none 0 0) 0 [] (World.ownsRow_nil w _ T sz) ad m c ys hm hnews hone (by unfold maxLen; omega) (by omega) (Nat.le_refl _)
    obtain ⟨B', hI', hb'⟩ := Rw.of_own h1
    have h2' : Upd (fun k => (none : Option Nat) = some k) w w' := Upd.grown h2 (fun k hk => by simp [Value.ownBlock] at hk)
    exact ⟨v', w', hrun, B', hI', h2', fun g hg => .inr (hb' g hg)⟩
  · by_cases hf : n + m ≤ cap
    · obtain ⟨w', hrun, h1, h2⟩ := run_append_fits (P := P) w 0 S ty T i0 sz hS hi hz1 g n cap cs hown ad m c ys hm hnews hone hf
      obtain ⟨B', hI', hb'⟩ := Rw.of_own h1
      have hB' : B' = some g := by
        rcases hI'.2 with ⟨hv, _⟩ | ⟨g', _, _, hv, rfl, _⟩
        · cases hv
        · simp only [Value.slice.injEq, Option.some.injEq, Addr.mk.injEq] at hv
          rw [hv.1.1]
      exact ⟨_, w', hrun, B', hI', Upd.grown h2 (fun k hk => by cases hk; rfl), fun g' hg' => .inl (by rw [← hg', hB'])⟩
    · obtain ⟨v', w', hrun, h1, h2⟩ := run_append_arg_grows (P := P) w S ty T i0 z sz bytes hS hi hz0 hz1 hzb hzc hsz ⟨g, 0, none⟩ n cap cs hp (by
        intro j u hj
        have hjl : j < cs.length := (List.getElem?_eq_some_iff.1 hj).1
        have : (⟨g, 0, none⟩ : Addr).add j = ⟨g, j, none⟩ := by
          unfold Addr.add; by_cases h0 : j = 0
          · subst h0; rfl
          · rw [if_neg h0]; simp
        rw [this, hBg.rd]
        simp only [List.getElem?_toArray]
        rw [List.getElem?_append_left hjl]; exact hj) ad m c ys hm hnews (by omega) (by unfold maxLen; omega) (by omega)
      obtain ⟨B', hI', hb'⟩ := Rw.of_own h1
      exact ⟨v', w', hrun, B', hI', Upd.grown h2 (fun k hk => by cases hk), fun g' hg' => .inr (hb' g' hg')⟩
/-- the append walked, its outcome known -/
theorem wp_appX {P : Program} {ops : Array Oper} {rest : List Oper} {o : Oper} {a : Act} {Q : Exit → Act → World → Prop} {w : World} (hgd : o.guard = none) (s x : Operand) (S : TypeId)
    (ho : o.op = .call { callee := .builtin .append, args := #[s, x], argTypes := #[S, S] }) {v u v' : Value} {w' : World} (hs : a.eval s = v) (hx : a.eval x = u)
    (hrun : (Builtin.append_ #[S, S] o.type #[v, u]).run P w = .ok v' w') (h : wpList P ops Q rest (a.put o.dst v') w') : wpList P ops Q (o :: rest) a w := by
  refine wpList_plain hgd fun K hK' => ?_
  unfold Oper.wp
  simp [execOp, ho, resolve, invoke, builtin, hs, hx, hrun, Result.andThen]
  exact hK' _ _ h

/-! ### what has come up stays closed under what it waits for -/
def edgeB (md : Region.Mode) (ops : Array Oper) (j i : Nat) : Bool := match ops[j]? with
  | some o => o.after.any fun e => Region.binds md e && e.on == i
  | none => false
def routeB (md : Region.Mode) (ops : Array Oper) : Nat → List Nat → Bool
  | _, [] => true
  | j, i :: r => edgeB md ops j i && routeB md ops i r
theorem path_up {md : Region.Mode} {ops : Array Oper} {f : Nat → Bool} (h : RegF.Closed md ops f) : ∀ (l : List Nat) (j : Nat), routeB md ops j l = true → f j = true → ∀ i ∈ l, f i = true
  | [], _, _, _, i, hi => by cases hi
  | k :: r, j, hp, hf, i, hi => by
    simp only [routeB, Bool.and_eq_true] at hp
    have hk : f k = true := by
      have he := hp.1
      unfold edgeB at he
      split at he
      · rename_i o ho; exact h.step j k ho he hf
      · cases he
    rw [List.mem_cons] at hi
    rcases hi with rfl | hi
    · exact hk
    · exact path_up h r k hp.2 hk i hi
theorem path_no {md : Region.Mode} {ops : Array Oper} {f : Nat → Bool} (h : RegF.Closed md ops f) {j k : Nat} (l : List Nat) (hp : routeB md ops j l = true) (hk : l.contains k = true) (hf : f k = false) : f j = false := by
  cases hj : f j with
  | false => rfl
  | true => rw [path_up h l j hp hj k (by simpa using hk)] at hf; cases hf
/-- the four worlds: ahead, with the new element, behind the append, behind the store -/
def Stg (W WA WC WS : World) (a c s : Bool) (w : World) : Prop := w = if s then WS else if c then WC else if a then WA else W
def KJ (A C S : Nat) (md : Region.Mode) (ops : Array Oper) (W WA WC WS : World) (f : Nat → Bool) (w : World) : Prop := RegF.Closed md ops f ∧ Stg W WA WC WS (f A) (f C) (f S) w
section
variable {A C S k : Nat} {md : Region.Mode} {ops : Array Oper} {W WA WC WS w : World} {f : Nat → Bool} {o : Oper}
theorem KJ.start (md : Region.Mode) (ops : Array Oper) (A C S : Nat) (hw : w = W) : KJ A C S md ops W WA WC WS (fun _ => false) w := ⟨fun k o ho h => (by cases h), hw⟩
theorem KJ.other (h : KJ A C S md ops W WA WC WS f w) (ho : ops[k]? = some o) (hf : Up md k o f) (h1 : k ≠ A) (h2 : k ≠ C) (h3 : k ≠ S) : KJ A C S md ops W WA WC WS (fset f k) w := by
  refine ⟨RegF.Closed.fset ho ⟨hf, h.1⟩, ?_⟩
  rw [fset_ne h1, fset_ne h2, fset_ne h3]; exact h.2
theorem KJ.atA (h : KJ A C S md ops W WA WC WS f w) (hA : f A = false) (hC : f C = false) (hS : f S = false) : w = W := by have := h.2; rw [hA, hC, hS] at this; exact this
theorem KJ.atC (h : KJ A C S md ops W WA WC WS f w) (hA : f A = true) (hC : f C = false) (hS : f S = false) : w = WA := by have := h.2; rw [hA, hC, hS] at this; exact this
theorem KJ.atS (h : KJ A C S md ops W WA WC WS f w) (hC : f C = true) (hS : f S = false) : w = WC := by have := h.2; rw [hC, hS] at this; exact this
theorem KJ.fin (h : KJ A C S md ops W WA WC WS f w) (hS : f S = true) : w = WS := by have := h.2; rw [hS] at this; exact this
theorem KJ.goA (h : KJ A C S md ops W WA WC WS f w) (ho : ops[A]? = some o) (hf : Up md A o f) (hC : f C = false) (hS : f S = false) (h1 : A ≠ C) (h2 : A ≠ S) : KJ A C S md ops W WA WC WS (fset f A) WA := by
  refine ⟨RegF.Closed.fset ho ⟨hf, h.1⟩, ?_⟩
  rw [fset_eq, fset_ne h1, fset_ne h2, hC, hS]; rfl
theorem KJ.goC (h : KJ A C S md ops W WA WC WS f w) (ho : ops[C]? = some o) (hf : Up md C o f) (hS : f S = false) (h2 : C ≠ S) : KJ A C S md ops W WA WC WS (fset f C) WC := by
  refine ⟨RegF.Closed.fset ho ⟨hf, h.1⟩, ?_⟩
  rw [fset_eq, fset_ne h2, hS]; rfl
theorem KJ.goS (h : KJ A C S md ops W WA WC WS f w) (ho : ops[S]? = some o) (hf : Up md S o f) : KJ A C S md ops W WA WC WS (fset f S) WS := by
  refine ⟨RegF.Closed.fset ho ⟨hf, h.1⟩, ?_⟩
  rw [fset_eq]; rfl
/-- ahead of the store it is one of three -/
theorem KJ.pre {F : World → Prop} (h : KJ A C S md ops W WA WC WS f w) (hS : f S = false) (h1 : F W) (h2 : F WA) (h3 : F WC) : F w := by
  have := h.2
  rw [hS] at this
  unfold Stg at this
  rw [this]
  cases f C <;> cases f A <;> assumption
/-- at any time it is one of four -/
theorem KJ.any {F : World → Prop} (h : KJ A C S md ops W WA WC WS f w) (h1 : F W) (h2 : F WA) (h3 : F WC) (h4 : F WS) : F w := by
  have := h.2
  unfold Stg at this
  rw [this]
  cases f S <;> cases f C <;> cases f A <;> assumption
end
theorem region_K {P : Program} {id : Nat} {Q : Exit → Act → World → Prop} {a : Act} {w : World} {l : List Oper} (A C S : Nat) (W WA WC WS : World) (hW : w.drew = W) (hm : P.follows .mixedOrders = true) (hB : Region.lexB .any l.toArray = true)
    (h : wpJ P .any l.toArray (KJ A C S .any l.toArray W WA WC WS) a.tmps.size (fun s a' => ∀ w', KJ A C S .any l.toArray W WA WC WS (flags s) w' → Q .normal a' w') 0 l (Array.replicate l.length false) a) : (Code.region id l.toArray true).wp P Q a w :=
  region_J (KJ A C S .any l.toArray W WA WC WS) hm hB (KJ.start _ _ _ _ _ hW) h
end Go.Proofs.YtefaaginedideaaGreatDoor
