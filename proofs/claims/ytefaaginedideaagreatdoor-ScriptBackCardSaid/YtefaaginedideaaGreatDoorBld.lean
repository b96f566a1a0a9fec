/-
  A strings.Builder at the head of a block of the call's own (alone, or the first field of a struct): what its methods do. Conditions: the new length is at most 2^47.
-/
import Derived.Test.YtefaaginedideaaGreatDoorProg
import Derived.Test.YtefaaginedideaaGreatDoorOwn
import Derived.Test.YtefaaginedideaaGreatDoorTx
import Derived.WalkKit
import Derived.WalkSpells
import Derived.Handy
import Derived.Shelf.Strings.BuilderK
import Derived.RegionTactic
import Derived.BigRegion
namespace Go.Proofs.YtefaaginedideaaGreatDoor
set_option linter.unusedSimpArgs false
set_option linter.unusedVariables false
open Go.RowKit Own RegJ
open Go.Lib hiding intOf

/-- a builder at the head of block b (of type T, with tl behind it); it holds l -/
def BldP (T : TypeId) (tl : List Value) (B b : Nat) (p : Value) (l : List Value) (w : World) : Prop :=
  B ≤ b ∧ ∃ v, w.heap[b]? = some (.cells (p :: v :: tl).toArray T (0, 0)) ∧ w.ownsRowF B 5 1 v l.length l ∧ v.ownBlock ≠ some b
def BldV (T : TypeId) (tl : List Value) (B b : Nat) (l : List Value) (w : World) : Prop := BldP T tl B b (.pointer none) l w ∨ BldP T tl B b (.pointer (some ⟨b, 0, none⟩)) l w
abbrev Bld (T : TypeId) (tl : List Value) (B b : Nat) (l : Txt) (w : World) : Prop := BldV T tl B b (byteCells l) w
/-- what a method leaves -/
def BldR (T : TypeId) (tl : List Value) (B b : Nat) (l : List Value) (w w' : World) : Prop := BldV T tl B b l w' ∧ Below B w w' ∧ OthersKept 5 (some b) w w'
theorem BldP.cell0 {T : TypeId} {tl : List Value} {B b : Nat} {p : Value} {l : List Value} {w : World} (h : BldP T tl B b p l w) : w.cell? ⟨b, 0, none⟩ = some p := by
  obtain ⟨_, v, hb, _⟩ := h
  simp [World.cell?, hb]
theorem BldP.nf {T : TypeId} {tl : List Value} {B b : Nat} {p : Value} {l : List Value} {w : World} (h : BldP T tl B b p l w) (o : Nat) : w.frozen? ⟨b, o, none⟩ = false := by
  obtain ⟨_, v, hb, _⟩ := h
  simp [World.frozen?, hb]
theorem BldP.shape {T : TypeId} {tl : List Value} {B b : Nat} {p : Value} {l : List Value} {w : World} (h : BldP T tl B b p l w) : w.shape? b = some (T, tl.length + 2) := by
  obtain ⟨_, v, hb, _⟩ := h
  simp [World.shape?, hb]
theorem BldP.lt {T : TypeId} {tl : List Value} {B b : Nat} {p : Value} {l : List Value} {w : World} (h : BldP T tl B b p l w) : b < w.heap.size := by
  obtain ⟨_, v, hb, _⟩ := h
  exact (Array.getElem?_eq_some_iff.1 hb).1
/-- a block of type T is no row of bytes -/
theorem own_ne {w : World} {B : Nat} {v : Value} {n : Nat} {xs : List Value} {b : Nat} {cs : Array Value} {T : TypeId} {fr : Nat × Nat} (hown : w.ownsRowF B 5 1 v n xs) (hb : w.heap[b]? = some (.cells cs T fr)) (hT : T ≠ 5) : v.ownBlock ≠ some b := by
  intro h
  obtain ⟨c, fz, hc⟩ := ownsRowF_kind hown b h
  rw [hb] at hc
  cases hc
  exact hT rfl
/-- any cell of the block turned but the buffer's: the builder, and the tail turned -/
theorem BldP.set0 {T : TypeId} {tl : List Value} {B b : Nat} {p : Value} {l : List Value} {w : World} (h : BldP T tl B b p l w) (q : Value) : BldP T tl B b q l (w.setCell ⟨b, 0, none⟩ q) := by
  obtain ⟨hB, v, hb, hown, hne⟩ := h
  refine ⟨hB, v, ?_, ?_, hne⟩
  · simp [World.setCell, Array.getElem?_modify, hb]
  · exact hown.kept (row := some b) ⟨rfl, rfl, rfl, by simp [World.setCell], fun k _ hk => Below.heap_setCell _ _ _ _ (fun e => hk (by simp [e]))⟩ (Or.inr hne)
theorem BldP.put {T : TypeId} {tl : List Value} {B b : Nat} {p v v' : Value} {l' : List Value} {w : World} (hB : B ≤ b) (hb : w.heap[b]? = some (.cells (p :: v :: tl).toArray T (0, 0))) (hown : w.ownsRowF B 5 1 v' l'.length l') (hT : T ≠ 5) :
    BldP T tl B b p l' (w.setCell ⟨b, 1, none⟩ v') := by
  have hne := own_ne hown hb hT
  refine ⟨hB, v', ?_, ?_, hne⟩
  · simp [World.setCell, Array.getElem?_modify, hb]
  · exact hown.kept (row := some b) ⟨rfl, rfl, rfl, by simp [World.setCell], fun k _ hk => Below.heap_setCell _ _ _ _ (fun e => hk (by simp [e]))⟩ (Or.inr hne)
theorem BldP.tail {T : TypeId} {tl : List Value} {B b : Nat} {p : Value} {l : List Value} {w : World} (h : BldP T tl B b p l w) (i : Nat) (u : Value) : BldP T (tl.set i u) B b p l (w.setCell ⟨b, i + 2, none⟩ u) := by
  obtain ⟨hB, v, hb, hown, hne⟩ := h
  refine ⟨hB, v, ?_, ?_, hne⟩
  · simp [World.setCell, Array.getElem?_modify, hb]
  · exact hown.kept (row := some b) ⟨rfl, rfl, rfl, by simp [World.setCell], fun k _ hk => Below.heap_setCell _ _ _ _ (fun e => hk (by simp [e]))⟩ (Or.inr hne)
theorem BldV.tail {T : TypeId} {tl : List Value} {B b : Nat} {l : List Value} {w : World} (h : BldV T tl B b l w) (i : Nat) (u : Value) : BldV T (tl.set i u) B b l (w.setCell ⟨b, i + 2, none⟩ u) := h.imp (fun h => h.tail i u) (fun h => h.tail i u)
theorem BldV.at {T : TypeId} {tl : List Value} {B b : Nat} {l : List Value} {w : World} (h : BldV T tl B b l w) : ∃ p, (p = .pointer none ∨ p = .pointer (some ⟨b, 0, none⟩)) ∧ BldP T tl B b p l w := by
  rcases h with h | h
  · exact ⟨_, .inl rfl, h⟩
  · exact ⟨_, .inr rfl, h⟩
theorem BldV.of {T : TypeId} {tl : List Value} {B b : Nat} {l : List Value} {w : World} {p : Value} (hp : p = .pointer none ∨ p = .pointer (some ⟨b, 0, none⟩)) (h : BldP T tl B b p l w) : BldV T tl B b l w := by
  rcases hp with rfl | rfl
  · exact .inl h
  · exact .inr h
theorem BldV.lt {T : TypeId} {tl : List Value} {B b : Nat} {l : List Value} {w : World} (h : BldV T tl B b l w) : b < w.heap.size := by
  obtain ⟨p, _, h⟩ := h.at
  exact h.lt
theorem BldV.tl {T : TypeId} {tl : List Value} {B b : Nat} {l : List Value} {w : World} (h : BldV T tl B b l w) (i : Nat) : w.cell? ⟨b, i + 2, none⟩ = tl[i]? := by
  obtain ⟨p, _, _, v, hb, _⟩ := h.at
  simp [World.cell?, hb]
theorem BldV.nf {T : TypeId} {tl : List Value} {B b : Nat} {l : List Value} {w : World} (h : BldV T tl B b l w) (o : Nat) : w.frozen? ⟨b, o, none⟩ = false := by
  obtain ⟨p, _, h⟩ := h.at
  exact h.nf o
theorem BldP.kept {T : TypeId} {tl : List Value} {B b : Nat} {p : Value} {l : List Value} {w w' : World} (h : BldP T tl B b p l w) (hk : ∀ k, B ≤ k → k < w.heap.size → w'.heap[k]? = w.heap[k]?) : BldP T tl B b p l w' := by
  obtain ⟨hB, v, hb, hown, hne⟩ := h
  refine ⟨hB, v, by rw [hk b hB (Array.getElem?_eq_some_iff.1 hb).1]; exact hb, ?_, hne⟩
  refine ⟨hown.1, ?_⟩
  rcases hown.2 with h | ⟨g, cap, cur, fz, hv, hg, hh, r⟩
  · exact .inl h
  · exact .inr ⟨g, cap, cur, fz, hv, hg, by rw [hk g hg (Array.getElem?_eq_some_iff.1 hh).1]; exact hh, r⟩
theorem BldV.kept {T : TypeId} {tl : List Value} {B b : Nat} {l : List Value} {w w' : World} (h : BldV T tl B b l w) (hk : ∀ k, B ≤ k → k < w.heap.size → w'.heap[k]? = w.heap[k]?) : BldV T tl B b l w' := h.imp (fun h => h.kept hk) (fun h => h.kept hk)
theorem BldV.below {T : TypeId} {tl : List Value} {B b : Nat} {l : List Value} {w w' : World} (h : BldV T tl B b l w) (hb : Below w.heap.size w w') : BldV T tl B b l w' := h.kept (fun k _ hk => hb.block k hk)
theorem BldV.drew {T : TypeId} {tl : List Value} {B b : Nat} {l : List Value} {w : World} (h : BldV T tl B b l w) : BldV T tl B b l w.drew := h.kept (fun _ _ _ => rfl)
theorem BldV.drewN {T : TypeId} {tl : List Value} {B b : Nat} {l : List Value} {w : World} (h : BldV T tl B b l w) (n : Nat) : BldV T tl B b l (w.drewN n) := h.kept (fun _ _ _ => rfl)
theorem BldV.alloc {T : TypeId} {tl : List Value} {B b : Nat} {l : List Value} {w : World} (h : BldV T tl B b l w) (o : Obj) : BldV T tl B b l (w.alloc o) := h.below ((Below.refl _ _).alloc (Nat.le_refl _) o)
theorem BldV.new (T : TypeId) (tl : List Value) (w : World) : BldV T tl w.heap.size w.heap.size [] (w.alloc (.cells (.pointer none :: .slice none 0 0 :: tl).toArray T)) :=
  .inl ⟨Nat.le_refl _, .slice none 0 0, heap_alloc_new w _, World.ownsRowF_nil _ _ _ _, by simp [Value.ownBlock]⟩
/-- a block that is no row of bytes, and is not the builder's -/
theorem Blk.others {b : Nat} {w w' : World} (hk : OthersKept 5 (some b) w w') {k : Nat} {cs : Array Value} {T : TypeId} (h : Blk w k cs T) (hne : k ≠ b) (hT : T ≠ 5) : Blk w' k cs T :=
  hk k _ h (by simpa using hne) (fun c fz e => by cases e; exact hT rfl)
theorem BldR.refl {T : TypeId} {tl : List Value} {B b : Nat} {l : List Value} {w : World} (h : BldV T tl B b l w) : BldR T tl B b l w w := ⟨h, Below.refl _ _, OthersKept.refl _ _ _⟩
theorem BldR.trans {T : TypeId} {tl tl' : List Value} {B b : Nat} {l l' : List Value} {w w1 w2 : World} (h : BldR T tl B b l w w1) (k : BldR T tl' B b l' w1 w2) : BldR T tl' B b l' w w2 := ⟨k.1, h.2.1.trans k.2.1, h.2.2.trans k.2.2⟩
/-- the types at whose head a builder lies -/
structure AtHead (T : TypeId) (n : Nat) : Prop where
  lies : liesAt Tryz.prog Tryz.prog.depth T ((n + 2) / Tryz.prog.cellsOf T) 0 62 1 = true
  ne : T ≠ 5
theorem atB : AtHead 62 0 := ⟨by kernel_rfl, by decide⟩
theorem atP : AtHead 64 1 := ⟨by kernel_rfl, by decide⟩
theorem infoB : (Tryz.prog.info? 62).map (·.size) = some 2 := by kernel_rfl
theorem infoU8 : (Tryz.prog.info? 5).map (fun i => (i.zero, i.size, i.bytes)) = some (some (.int .u8 0), 1, 1) := by kernel_rfl
theorem run_esc (x : Value) (w : World) : (callFunc 86 #[x]).run Tryz.prog w = .ok (.value x) w := by kernel_rfl
set_option maxRecDepth 100000 in
theorem copy_is {T : TypeId} {tl : List Value} {B b : Nat} {l : List Value} {w : World} (hT : AtHead T tl.length) (h : BldV T tl B b l w) :
    Calls Tryz.prog 74 #[.pointer (some ⟨b, 0, none⟩)] w fun e w' => e = .returned (.tuple #[]) ∧ BldP T tl B b (.pointer (some ⟨b, 0, none⟩)) l w' ∧ (w' = w ∨ w' = w.setCell ⟨b, 0, none⟩ (.pointer (some ⟨b, 0, none⟩))) := by
  obtain ⟨j, hj, hjs⟩ := Option.map_eq_some_iff.1 infoB
  rcases h with h | h
  · have hsh := h.shape
    have c0 := h.cell0
    have f0 := h.nf 0
    have hl := hT.lies
    have H := Lib.hid h
    clear h
    go_enter Tryz.func74, Tryz.ntmps74
    go_wp2
    rw [Lib.run_to_unsafe w ⟨b, 0, none⟩ Tryz.underlying59 Tryz.underlying126 hj (by rw [hjs]; decide) hsh (Nat.zero_lt_succ _)]
    simp only [Result.andThen]
    rw [Oper.upon_value]
    go_wp2
    rw [run_esc, Oper.upon_value]
    go_wp2
    rw [Lib.run_from_unsafe w ⟨b, 0, none⟩ Tryz.underlying126 Tryz.underlying59 hj hsh hl]
    simp only [Result.andThen]
    rw [Oper.upon_value]
    go_wp2
    go_end0
    exact ⟨rfl, H.out.set0 _, .inr rfl⟩
  · have c0 := h.cell0
    have H := Lib.hid h
    clear h
    go_enter Tryz.func74, Tryz.ntmps74
    go_wp2
    rw [Lib.run_neq_ptr_same w _ Tryz.underlying59 hj]
    go_wp2
    go_end0
    exact ⟨rfl, H.out, .inl rfl⟩

set_option maxRecDepth 100000 in
set_option maxHeartbeats 1000000 in
theorem wbyte_is {T : TypeId} {tl : List Value} {B b : Nat} {l : List Value} {w : World} (c : Int) (hT : AtHead T tl.length) (h : BldV T tl B b l w) (hlen : l.length + 1 ≤ 140737488355328) (hBw : B ≤ w.heap.size) :
    Calls Tryz.prog 44 #[.pointer (some ⟨b, 0, none⟩), .int .u8 c] w fun e w' => e = .returned .nilIface ∧ BldR T tl B b (l ++ [.int .u8 c]) w w' := by
  obtain ⟨i0, hi, hz0, hz1, hz2⟩ := info_parts infoU8
  have hcc := copy_is hT h
  have HT := Lib.hid hT.ne
  clear hT h
  go_enter Tryz.func44, Tryz.ntmps44
  go_wp2_with (go_at_call 74; refine hcc.mono ?_)
  rintro e w1 ⟨rfl, h1, hw1⟩
  have hb1 : Below B w w1 := by
    rcases hw1 with rfl | rfl
    · exact Below.refl B _
    · exact (Below.refl B w).setCell (p := ⟨b, 0, none⟩) h1.1 _
  have hk1 : OthersKept 5 (some b) w w1 := by
    rcases hw1 with rfl | rfl
    · exact OthersKept.refl _ _ _
    · exact (OthersKept.refl _ _ w).setCell ⟨b, 0, none⟩ rfl _
  clear hw1 hcc
  obtain ⟨hB, v, hbk, hown, hne⟩ := h1
  have c0 : w1.cell? ⟨b, 0, none⟩ = some (.pointer (some ⟨b, 0, none⟩)) := by rw [Lib.cell_of_heap hbk]; rfl
  have c1 : w1.cell? ⟨b, 1, none⟩ = some v := by rw [Lib.cell_of_heap hbk]; rfl
  go_wp2_with (at_builtin; refine wpList_append_ownF _ rfl _ _ 60 rfl B 5 i0 (.int .u8 0) 1 1 Tryz.underlying60 hi hz0 hz1 hz2 rfl (by decide) _ _ _ rfl (hown.alloc _) ⟨w1.heap.size, 0, none⟩ 1 1 [.int .u8 c] rfl rfl ?c1 ?c2 ?c3 ?c4 ?c5 ?_)
  case c1 =>
    intro j u hj
    match j, hj with
    | 0, hj => simp at hj; subst hj; simp [Addr.add]
  case c2 => intro u hu; simp at hu; subst hu; rfl
  case c3 => unfold maxLen; omega
  case c4 => omega
  case c5 => have := hb1.size; simp; omega
  intro v' w2 hown' hgrow _
  have hlt : b < w1.heap.size := (Array.getElem?_eq_some_iff.1 hbk).1
  have hb2 : w2.heap[b]? = some (.cells (.pointer (some ⟨b, 0, none⟩) :: v :: tl).toArray T (0, 0)) := by
    rw [hgrow.block b (by simp; omega) (fun e => hne e.symm), Lib.alloc_old w1 _ b hlt]; exact hbk
  have d0 : w2.cell? ⟨b, 0, none⟩ = some (.pointer (some ⟨b, 0, none⟩)) := by rw [Lib.cell_of_heap hb2]; rfl
  have d1 : w2.cell? ⟨b, 1, none⟩ = some v := by rw [Lib.cell_of_heap hb2]; rfl
  have f1 : w2.frozen? ⟨b, 1, none⟩ = false := Lib.frozen_of_heap hb2 1
  obtain ⟨ao, n', cap, rfl⟩ : ∃ ao n' cap, v' = .slice ao n' cap := by
    rcases hown'.2 with ⟨hv, _⟩ | ⟨g, cap, cur, fz, hv, _⟩
    · exact ⟨_, _, _, hv⟩
    · exact ⟨_, _, _, hv⟩
  go_wp2
  go_ret
  refine ⟨rfl, .inr ?_, ?_, ((hk1.alloc _).grown hgrow (Lib.ownsRowF_kind (hown.alloc _))).setCell ⟨b, 1, none⟩ rfl _⟩
  · exact BldP.put hB hb2 (l' := l ++ [.int .u8 c]) (by simpa using hown') HT.out
  · exact ((hb1.alloc (by have := hb1.size; omega) _).grown hgrow (by have := hb1.size; simp; omega) (fun k hk => (hown.lt k hk).1)).setCell (p := ⟨b, 1, none⟩) hB _

set_option maxRecDepth 100000 in
set_option maxHeartbeats 1000000 in
theorem wstr_is {T : TypeId} {tl : List Value} {B b : Nat} {l : List Value} {w : World} (s : ByteArray) (hT : AtHead T tl.length) (h : BldV T tl B b l w) (hlen : l.length + s.size ≤ 140737488355328) (hBw : B ≤ w.heap.size) :
    Calls Tryz.prog 41 #[.pointer (some ⟨b, 0, none⟩), .string s] w fun e w' => e = .returned (.tuple #[.int .i64 s.size, .nilIface]) ∧ BldR T tl B b (l ++ strCells s) w w' := by
  obtain ⟨i0, hi, hz0, hz1, hz2⟩ := info_parts infoU8
  have hcc := copy_is hT h
  have HT := Lib.hid hT.ne
  clear hT h
  go_enter Tryz.func41, Tryz.ntmps41
  go_wp2_with (go_at_call 74; refine hcc.mono ?_)
  rintro e w1 ⟨rfl, h1, hw1⟩
  have hb1 : Below B w w1 := by
    rcases hw1 with rfl | rfl
    · exact Below.refl B _
    · exact (Below.refl B w).setCell (p := ⟨b, 0, none⟩) h1.1 _
  have hk1 : OthersKept 5 (some b) w w1 := by
    rcases hw1 with rfl | rfl
    · exact OthersKept.refl _ _ _
    · exact (OthersKept.refl _ _ w).setCell ⟨b, 0, none⟩ rfl _
  clear hw1 hcc
  obtain ⟨hB, v, hbk, hown, hne⟩ := h1
  have c0 : w1.cell? ⟨b, 0, none⟩ = some (.pointer (some ⟨b, 0, none⟩)) := by rw [Lib.cell_of_heap hbk]; rfl
  have c1 : w1.cell? ⟨b, 1, none⟩ = some v := by rw [Lib.cell_of_heap hbk]; rfl
  go_wp2_with (at_builtin; refine Lib.wpList_append_own_stringF _ rfl _ _ 60 9 rfl B 5 i0 Tryz.underlying60 Tryz.underlying9 hi hz0 hz1 hz2 _ _ _ rfl hown s rfl ?c3 ?c4 ?c5 ?_)
  case c3 => unfold maxLen; omega
  case c4 => omega
  case c5 => have := hb1.size; omega
  intro v' w2 hown' hgrow _
  have hlt : b < w1.heap.size := (Array.getElem?_eq_some_iff.1 hbk).1
  have hb2 : w2.heap[b]? = some (.cells (.pointer (some ⟨b, 0, none⟩) :: v :: tl).toArray T (0, 0)) := by
    rw [hgrow.block b hlt (fun e => hne e.symm)]; exact hbk
  have d0 : w2.cell? ⟨b, 0, none⟩ = some (.pointer (some ⟨b, 0, none⟩)) := by rw [Lib.cell_of_heap hb2]; rfl
  have d1 : w2.cell? ⟨b, 1, none⟩ = some v := by rw [Lib.cell_of_heap hb2]; rfl
  have f1 : w2.frozen? ⟨b, 1, none⟩ = false := Lib.frozen_of_heap hb2 1
  obtain ⟨ao, n', cap, rfl⟩ : ∃ ao n' cap, v' = .slice ao n' cap := by
    rcases hown'.2 with ⟨hv, _⟩ | ⟨g, cap, cur, fz, hv, _⟩
    · exact ⟨_, _, _, hv⟩
    · exact ⟨_, _, _, hv⟩
  go_wp2
  go_ret2
  refine ⟨rfl, .inr ?_, ?_, (hk1.grown hgrow (Lib.ownsRowF_kind hown)).setCell ⟨b, 1, none⟩ rfl _⟩
  · exact BldP.put hB hb2 (l' := l ++ strCells s) (by simpa [Lib.strCells_length] using hown') HT.out
  · exact (hb1.grown hgrow (by have := hb1.size; omega) (fun k hk => (hown.lt k hk).1)).setCell (p := ⟨b, 1, none⟩) hB _

set_option maxRecDepth 100000 in
set_option maxHeartbeats 1000000 in
theorem write_is {T : TypeId} {tl : List Value} {B b : Nat} {l : List Value} {w : World} (ad : Addr) (m c : Nat) (news : List Value) (hl : news.length = m) (hnews : ∀ j u, news[j]? = some u → w.cell? (ad.add j) = some u) (had : ad.block ≠ b) (h1c : ∀ u ∈ news, u.oneCell' = true) (hT : AtHead T tl.length) (h : BldV T tl B b l w) (hlen : l.length + m ≤ 140737488355328) (hBw : B ≤ w.heap.size) :
    Calls Tryz.prog 46 #[.pointer (some ⟨b, 0, none⟩), .slice (some ad) m c] w fun e w' => e = .returned (.tuple #[.int .i64 m, .nilIface]) ∧ BldR T tl B b (l ++ news) w w' := by
  obtain ⟨i0, hi, hz0, hz1, hz2⟩ := info_parts infoU8
  have hcc := copy_is hT h
  have HT := Lib.hid hT.ne
  clear hT h
  go_enter Tryz.func46, Tryz.ntmps46
  go_wp2_with (go_at_call 74; refine hcc.mono ?_)
  rintro e w1 ⟨rfl, h1, hw1⟩
  have hb1 : Below B w w1 := by
    rcases hw1 with rfl | rfl
    · exact Below.refl B _
    · exact (Below.refl B w).setCell (p := ⟨b, 0, none⟩) h1.1 _
  have hk1 : OthersKept 5 (some b) w w1 := by
    rcases hw1 with rfl | rfl
    · exact OthersKept.refl _ _ _
    · exact (OthersKept.refl _ _ w).setCell ⟨b, 0, none⟩ rfl _
  have hnews1 : ∀ j u, news[j]? = some u → w1.cell? (ad.add j) = some u := fun j u hj => by
    have h0 := hnews j u hj
    rcases hw1 with rfl | rfl
    · exact h0
    · have hx : (⟨b, 0, none⟩ : Addr) ≠ ad.add j := by unfold Addr.add; split <;> (intro e; have := congrArg Addr.block e; exact had this.symm)
      have := World.cell?_setCell_other w _ _ (.pointer (some ⟨b, 0, none⟩)) hx
      rw [this]; exact h0
  clear hw1 hcc
  obtain ⟨hB, v, hbk, hown, hne⟩ := h1
  have c0 : w1.cell? ⟨b, 0, none⟩ = some (.pointer (some ⟨b, 0, none⟩)) := by rw [Lib.cell_of_heap hbk]; rfl
  have c1 : w1.cell? ⟨b, 1, none⟩ = some v := by rw [Lib.cell_of_heap hbk]; rfl
  go_wp2_with (at_builtin; refine wpList_append_ownF _ rfl _ _ 60 rfl B 5 i0 (.int .u8 0) 1 1 Tryz.underlying60 hi hz0 hz1 hz2 rfl (by decide) _ _ _ rfl hown ad m c news rfl (by omega) hnews1 h1c ?c3 ?c4 ?c5 ?_)
  case c3 => unfold maxLen; omega
  case c4 => omega
  case c5 => have := hb1.size; omega
  intro v' w2 hown' hgrow _
  have hlt : b < w1.heap.size := (Array.getElem?_eq_some_iff.1 hbk).1
  have hb2 : w2.heap[b]? = some (.cells (.pointer (some ⟨b, 0, none⟩) :: v :: tl).toArray T (0, 0)) := by
    rw [hgrow.block b hlt (fun e => hne e.symm)]; exact hbk
  have d0 : w2.cell? ⟨b, 0, none⟩ = some (.pointer (some ⟨b, 0, none⟩)) := by rw [Lib.cell_of_heap hb2]; rfl
  have d1 : w2.cell? ⟨b, 1, none⟩ = some v := by rw [Lib.cell_of_heap hb2]; rfl
  have f1 : w2.frozen? ⟨b, 1, none⟩ = false := Lib.frozen_of_heap hb2 1
  obtain ⟨ao, n', cap, rfl⟩ : ∃ ao n' cap, v' = .slice ao n' cap := by
    rcases hown'.2 with ⟨hv, _⟩ | ⟨g, cap, cur, fz, hv, _⟩
    · exact ⟨_, _, _, hv⟩
    · exact ⟨_, _, _, hv⟩
  go_wp2
  go_ret2
  refine ⟨rfl, .inr ?_, ?_, (hk1.grown hgrow (Lib.ownsRowF_kind hown)).setCell ⟨b, 1, none⟩ rfl _⟩
  · exact BldP.put hB hb2 (l' := l ++ news) (by simpa [hl] using hown') HT.out
  · exact (hb1.grown hgrow (by have := hb1.size; omega) (fun k hk => (hown.lt k hk).1)).setCell (p := ⟨b, 1, none⟩) hB _

set_option maxRecDepth 100000 in
theorem blen_is {T : TypeId} {tl : List Value} {B b : Nat} {l : List Value} {w : World} (h : BldV T tl B b l w) :
    Calls Tryz.prog 38 #[.pointer (some ⟨b, 0, none⟩)] w fun e w' => e = .returned (.int .i64 l.length) ∧ w = w' := by
  obtain ⟨p, _, hB, v, hbk, hown, hne⟩ := h.at
  obtain ⟨ao, cap, rfl⟩ : ∃ ao cap, v = .slice ao l.length cap := by
    rcases hown.2 with ⟨hv, h0⟩ | ⟨g, cap, cur, fz, hv, _⟩
    · exact ⟨none, 0, by rw [hv, h0]⟩
    · exact ⟨_, _, hv⟩
  have c1 : w.cell? ⟨b, 1, none⟩ = some (.slice ao l.length cap) := by rw [Lib.cell_of_heap hbk]; rfl
  clear h hown hne
  go_enter Tryz.func38, Tryz.ntmps38
  go_wp2
  go_ret
  exact ⟨rfl, rfl⟩
set_option maxRecDepth 100000 in
set_option maxHeartbeats 1000000 in
/-- String, of a builder that holds at least one byte -/
theorem bstr_is {T : TypeId} {tl : List Value} {B b : Nat} {l : Txt} {w : World} (hT : T ≠ 5) (h : Bld T tl B b l w) (h0 : l ≠ []) :
    Calls Tryz.prog 24 #[.pointer (some ⟨b, 0, none⟩)] w fun e w' => e = .returned (.string (Go.Proofs.YtefaaginedideaaGreatDoor.B l)) ∧ Below B w w' ∧ OthersKept 5 (some b) w w' := by
  obtain ⟨p, hp, hB, v, hbk, hown, hne⟩ := h.at
  have hl0 : l.length ≠ 0 := by simpa using h0
  rw [Lib.byteCells_length] at hown
  obtain ⟨g, cap, cur, fz, rfl, hbg, hg, hfz, hnc, hcm, hcs, htake⟩ : ∃ g cap cur fz, v = .slice (some ⟨g, 0, none⟩) l.length cap ∧ B ≤ g ∧ w.heap[g]? = some (.cells cur 5 fz) ∧ fz.2 ≤ l.length * 1 ∧ l.length ≤ cap ∧ cap ≤ maxLen ∧ cur.size = cap * 1 ∧ cur.toList.take (l.length * 1) = Lib.byteCells l := by
    rcases hown.2 with ⟨_, hz⟩ | ⟨g, cap, cur, fz, hv, r⟩
    · exact absurd hz hl0
    · exact ⟨g, cap, cur, fz, hv, r⟩
  have c1 : w.drew.cell? ⟨b, 1, none⟩ = some (.slice (some ⟨g, 0, none⟩) l.length cap) := by
    have : w.drew.heap[b]? = some (.cells (p :: .slice (some ⟨g, 0, none⟩) l.length cap :: tl).toArray T (0, 0)) := hbk
    rw [Lib.cell_of_heap this]; rfl
  have hSD : (Builtin.unsafeSliceData_ #[60] 105 #[.slice (some ⟨g, 0, none⟩) l.length cap]).run Tryz.prog w.drew = .ok (.pointer (some ⟨g, 0, none⟩)) w.drew :=
    Lib.run_unsafeSliceData_row _ _ _ _ _ _ (by omega)
  have hUS : (Builtin.unsafeString_ #[105, 3] 9 #[.pointer (some ⟨g, 0, none⟩), .int .i64 l.length]).run Tryz.prog w.drew = .ok (.string ⟨l.toArray⟩) (w.drew.freeze ⟨g, 0, none⟩ l.length) := by
    refine Lib.run_unsafeString_row w.drew 105 3 9 5 Tryz.underlying105 (by kernel_rfl) g cur.size (by have hg' : w.drew.heap[g]? = some (.cells cur 5 fz) := hg; simp [World.shape?, hg']) l h0 (by omega) (by unfold maxLen at hcm; omega) ?_
    intro j x hx
    have := hown.cells (g := g) rfl j (.int .u8 x.toNat) (by simp [Lib.byteCells, hx])
    exact this
  have HB := Lib.hid hbg
  have HG := Lib.hid hg
  clear h hown hne hB htake hcs hcm hnc hfz hg hbg
  go_enter Tryz.func24, Tryz.ntmps24
  go_wp2
  go_region
  all_goals (go_wp2; go_ret; exact ⟨rfl, Lib.below_freeze (Below.drew (Below.refl B w)) (p := ⟨g, 0, none⟩) HB.out _, ((Lib.OthersKept.refl _ _ w).drew).freeze ⟨g, 0, none⟩ _ ⟨cur, fz, HG.out⟩⟩)
end Go.Proofs.YtefaaginedideaaGreatDoor
