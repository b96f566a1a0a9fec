/-
  The document's frames as they lie, within a set of blocks that its side may turn; New, Free.
-/
import Derived.Test.YtjpjafajploiaaaGreatDoorFrN
import Derived.Test.YtjpjafajploiaaaGreatDoorRegC
namespace Go.Proofs.YtjpjafajploiaaaGreatDoor
set_option linter.unusedSimpArgs false
set_option linter.unusedVariables false
open Go.RowKit Own RegC
open RegJ hiding Up

/-- the blocks of a side, behind a step of it -/
def nx (w w' : World) (O : Nat → Prop) : Nat → Prop := fun k => (O k ∨ w.heap.size ≤ k) ∧ k < w'.heap.size
def inO (O : Nat → Prop) (b : Option Nat) : Prop := ∀ g, b = some g → O g
theorem inO.mono {O O' : Nat → Prop} {b : Option Nat} (h : inO O b) (ho : ∀ k, O k → O' k) : inO O' b := fun g hg => ho g (h g hg)
theorem nx_old {w w' : World} {O : Nat → Prop} {k : Nat} (h : O k) (hl : k < w'.heap.size) : nx w w' O k := ⟨Or.inl h, hl⟩
theorem nx_trans {w w1 w2 : World} {O : Nat → Prop} (h1 : w.heap.size ≤ w1.heap.size) : ∀ k, nx w1 w2 (nx w w1 O) k → nx w w2 O k := fun k ⟨h, hl⟩ => ⟨h.elim (fun h => h.1) (fun h => Or.inr (by omega)), hl⟩
theorem RegJ.Blk.neT {w : World} {b b' : Nat} {cs cs' : Array Value} {T T' : TypeId} (h : Blk w b cs T) (h' : Blk w b' cs' T') (hT : T ≠ T') : b ≠ b' := by
  rintro rfl
  unfold Blk at h h'
  rw [h] at h'
  simp only [Option.some.injEq, Obj.cells.injEq] at h'
  exact hT h'.2.1
/-- the document's frames -/
structure FD (w : World) (O : Nat → Prop) (fb tb bb n : Nat) (tk : List Bool) (back : List Int) (fr : Nat) : Prop where
  blk : ∃ vb bk, Blk w fb #[.slice (some ⟨tb, 0, none⟩) n n, .slice (some ⟨bb, 0, none⟩) n n, vb, .int .i64 fr] 123 ∧ RowV w 3 vb (icells back) bk ∧ inO O bk
  tak : Blk w tb (tk.map Value.bool).toArray 4
  row : ∃ cs : Array Value, Blk w bb cs 22 ∧ cs.size = n
  len : tk.length = n
  n64 : n ≤ 64
  frn : fr ≤ n
  bkn : back.length ≤ n
  bkr : ∀ x ∈ back, 0 ≤ x ∧ x < n
  of : O fb ∧ O tb ∧ O bb
/-- what a step at the frames turns -/
def FF (fb tb bb : Nat) (k : Nat) : Prop := k = fb ∨ k = tb ∨ k = bb
section
variable {w w' : World} {O O' F : Nat → Prop} {fb tb bb n fr : Nat} {tk : List Bool} {back : List Int}
theorem FD.upd (h : FD w O fb tb bb n tk back fr) (hu : Upd F w w') (hF : ∀ k, O k → ¬ F k) : FD w' O fb tb bb n tk back fr := by
  obtain ⟨vb, bk, h1, h2, h3⟩ := h.blk
  obtain ⟨cs, h4, h5⟩ := h.row
  exact ⟨⟨vb, bk, Blk.upd hu h1 (hF _ h.of.1), h2.upd hu (fun g hg => hF _ (h3 g hg)), h3⟩, Blk.upd hu h.tak (hF _ h.of.2.1), ⟨cs, Blk.upd hu h4 (hF _ h.of.2.2), h5⟩, h.len, h.n64, h.frn, h.bkn, h.bkr, h.of⟩
theorem FD.below (h : FD w O fb tb bb n tk back fr) (hB : Below w.heap.size w w') : FD w' O fb tb bb n tk back fr := by
  obtain ⟨vb, bk, h1, h2, h3⟩ := h.blk
  obtain ⟨cs, h4, h5⟩ := h.row
  exact ⟨⟨vb, bk, Blk.below hB h1 h1.lt, h2.below hB, h3⟩, Blk.below hB h.tak h.tak.lt, ⟨cs, Blk.below hB h4 h4.lt, h5⟩, h.len, h.n64, h.frn, h.bkn, h.bkr, h.of⟩
theorem FD.mono (h : FD w O fb tb bb n tk back fr) (ho : ∀ k, O k → O' k) : FD w O' fb tb bb n tk back fr := by
  obtain ⟨vb, bk, h1, h2, h3⟩ := h.blk
  exact ⟨⟨vb, bk, h1, h2, h3.mono ho⟩, h.tak, h.row, h.len, h.n64, h.frn, h.bkn, h.bkr, ho _ h.of.1, ho _ h.of.2.1, ho _ h.of.2.2⟩
/-- but for blocks that are not there -/
theorem FD.tight (h : FD w O fb tb bb n tk back fr) : FD w (fun k => O k ∧ k < w.heap.size) fb tb bb n tk back fr := by
  obtain ⟨vb, bk, h1, h2, h3⟩ := h.blk
  obtain ⟨cs, h4, h5⟩ := h.row
  exact ⟨⟨vb, bk, h1, h2, fun g hg => ⟨h3 g hg, h2.lt g hg⟩⟩, h.tak, h.row, h.len, h.n64, h.frn, h.bkn, h.bkr, ⟨h.of.1, h1.lt⟩, ⟨h.of.2.1, h.tak.lt⟩, h.of.2.2, h4.lt⟩
theorem FD.ne (h : FD w O fb tb bb n tk back fr) : fb ≠ tb ∧ fb ≠ bb ∧ tb ≠ bb := by
  obtain ⟨vb, bk, h1, h2, h3⟩ := h.blk
  obtain ⟨cs, h4, h5⟩ := h.row
  exact ⟨h1.neT h.tak (by decide), h1.neT h4 (by decide), h.tak.neT h4 (by decide)⟩
end
def RNewP (w : World) (n : Nat) (e : Ending) (w' : World) : Prop := ∃ fb tb bb, e = .returned (.tuple #[.pointer (some ⟨fb, 0, none⟩), .int .i64 0]) ∧ FD w' (fun k => w.heap.size ≤ k ∧ k < w'.heap.size) fb tb bb n (List.replicate n false) [] 0 ∧ Below w.heap.size w w'
theorem made_bool (n : Nat) : madeCells (Value.bool false).cells (n * 1) = ((List.replicate n false).map Value.bool).toArray := by
  rw [made_same _ (.bool false) (by simp [Value.cells]) (fun i hi => by simp [Value.cells])]
  simp
theorem made_rows (n : Nat) : madeCells (Value.slice none 0 0).cells (n * 1) = (List.replicate n (Value.slice none 0 0)).toArray := by
  rw [made_same _ (.slice none 0 0) (by simp [Value.cells]) (fun i hi => by simp [Value.cells])]
  simp
theorem rnew_mk (n : Nat) (h64 : n ≤ 64) {w w' : World} (fb tb bb : Nat) (hB : Below w.heap.size w w') (b1 : Blk w' fb #[.slice (some ⟨tb, 0, none⟩) n n, .slice (some ⟨bb, 0, none⟩) n n, .slice none 0 0, .int .i64 0] 123)
    (b2 : Blk w' tb ((List.replicate n false).map Value.bool).toArray 4) (b3 : Blk w' bb (List.replicate n (Value.slice none 0 0)).toArray 22) (g1 : w.heap.size ≤ fb) (g2 : w.heap.size ≤ tb) (g3 : w.heap.size ≤ bb) : RNewP w n (.returned (.tuple #[.pointer (some ⟨fb, 0, none⟩), .int .i64 0])) w' :=
  ⟨fb, tb, bb, rfl, ⟨⟨_, none, b1, Or.inl ⟨rfl, rfl, rfl⟩, fun g hg => by cases hg⟩, b2, ⟨_, b3, by simp⟩, by simp, h64, Nat.zero_le _, Nat.zero_le _, (fun x hx => by cases hx), ⟨g1, b1.lt⟩, ⟨g2, b2.lt⟩, g3, b3.lt⟩, hB⟩
set_option maxRecDepth 100000 in
theorem rnew_is (n : Nat) (h1 : 1 ≤ n) (h64 : n ≤ 64) (w : World) : Calls Tryz.prog 60 #[.int .i64 n] w (RNewP w n) := by
  have m1 := make_of' 120 4 (.bool false) 1 1 n Tryz.underlying120 (by kernel_rfl) (by omega) (by omega)
  have m2 := make_of' 121 22 (.slice none 0 0) 1 24 n Tryz.underlying121 (by kernel_rfl) (by omega) (by omega)
  rw [made_bool] at m1
  rw [made_rows] at m2
  have d1 : decide ((n : Int) < 1) = false := by simp; omega
  have d2 : decide ((n : Int) > 64) = false := by simp; omega
  have d2n : decide (n > 64) = false := by simp; omega
  have d1n : decide (n < 1) = false := by simp; omega
  have H := Lib.hid h64
  obtain ⟨A, hA⟩ : ∃ A, ((List.replicate n false).map Value.bool).toArray = A := ⟨_, rfl⟩
  obtain ⟨B, hB⟩ : ∃ B, (List.replicate n (Value.slice none 0 0)).toArray = B := ⟨_, rfl⟩
  rw [hA] at m1
  rw [hB] at m2
  have HA := Lib.hid (And.intro hA hB)
  clear h1 h64 hA hB
  go_enter Tryz.func60, Tryz.ntmps60
  go_wp2
  go_region
  all_goals go_wp2
  all_goals go_returns
  · refine rnew_mk n H.out (w.heap.size + 1 + 1) w.heap.size (w.heap.size + 1) ((((Below.refl _ _).alloc (Nat.le_refl _) _).alloc (by simp) _).alloc (by simp; omega) _).drew (Blk.new' (by simp)).drew ?_ ?_ (by omega) (by omega) (by omega)
    · exact ((((Blk.new _ _ _).alloc _).alloc _).drew).of (by rw [HA.out.1])
    · exact (((Blk.new' (by simp)).alloc _).drew).of (by rw [HA.out.2])
  all_goals
    refine rnew_mk n H.out (w.heap.size + 1 + 1) (w.heap.size + 1) w.heap.size ((((Below.refl _ _).alloc (Nat.le_refl _) _).alloc (by simp) _).alloc (by simp; omega) _).drew (Blk.new' (by simp)).drew ?_ ?_ (by omega) (by omega) (by omega)
    · exact (((Blk.new' (by simp)).alloc _).drew).of (by rw [HA.out.1])
    · exact ((((Blk.new _ _ _).alloc _).alloc _).drew).of (by rw [HA.out.2])
section
variable {w w' : World} {O O' F : Nat → Prop} {fb tb bb n fr : Nat} {tk : List Bool} {back : List Int}
set_option maxRecDepth 100000 in
theorem rfree_is (h : FD w O fb tb bb n tk back fr) (k : Int) (hk : (back.length : Int) + n - fr = k) : Calls Tryz.prog 20 #[.pointer (some ⟨fb, 0, none⟩)] w fun e w' => e = .returned (.int .i64 k) ∧ Below w.heap.size w w' := by
  obtain ⟨vb, bk, h1, h2, h3⟩ := h.blk
  obtain ⟨a, c, rfl, hc, -⟩ := h2.slice
  have c1 := h1.rd
  rw [List.length_map] at c1 hc
  have b1 := h.n64
  have b2 := h.frn
  have b3 := h.bkn
  obtain ⟨L, hL⟩ : ∃ L, back.length = L := ⟨_, rfl⟩
  rw [hL] at c1 b3 hk hc
  have HK := Lib.hid hk
  clear h h1 h2 h3 hL hk
  go_enter Tryz.func20, Tryz.ntmps20
  go_wp2
  go_quiet (fail)
  go_wp2
  go_ret
  exact ⟨congrArg (fun x => Ending.returned (.int .i64 x)) HK.out, Below.drewN _ _⟩
end
end Go.Proofs.YtjpjafajploiaaaGreatDoor
