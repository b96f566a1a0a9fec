/-
  CostRises: a call that moves more takes no fewer ticks, and at most six for each sixty-four bytes, up, and two.
-/
import Derived.Test.YtifhcnkadieboaaTells
import Derived.Test.YtifhcnkadieboaaLow
import Derived.Test.YtifhcnkadieboaaRegE
import Derived.Laws.BytesString
import Derived.Laws.Cells
namespace Go.Proofs.Ytifhcnkadieboaa
set_option linter.unusedSimpArgs false
set_option linter.unusedVariables false
open Go.RowKit RegJ RegE

/-! ### the numbers -/
def pM (m : Nat) : Nat := if m ≤ 64 then 1 else (m + 63) / 64
def tM (m p : Nat) : Nat := if pM m ≤ p then 0 else 2 + (min (m - 64 * p) 64 + 15) / 16
def gM (m : Nat) : Nat → Nat
  | 0 => 0
  | k + 1 => gM m k + tM m k
def okM (m : Nat) : Bool := decide (2 ≤ gM m (pM m)) && decide (gM m (pM m) ≤ 6 * ((m + 63) / 64) + 2) && decide (gM m (pM m) ≤ gM (m + 1) (pM (m + 1))) && decide (pM m ≤ pM (m + 1)) && decide (pM m ≤ 9)
theorem okM_all : (List.range 513).all okM = true := by decide +kernel
theorem okM_at (m : Nat) (h : m < 513) : okM m = true := List.all_eq_true.1 okM_all m (List.mem_range.2 h)
theorem gM_ge (m : Nat) (h : m < 513) : 2 ≤ gM m (pM m) := by
  have := okM_at m h; simp [okM] at this; omega
theorem gM_le (m : Nat) (h : m < 513) : gM m (pM m) ≤ 6 * ((m + 63) / 64) + 2 := by
  have := okM_at m h; simp [okM] at this; omega
theorem gM_mono (a d : Nat) (h : a + d < 513) : gM a (pM a) ≤ gM (a + d) (pM (a + d)) ∧ pM a ≤ pM (a + d) := by
  induction d with
  | zero => exact ⟨Nat.le_refl _, Nat.le_refl _⟩
  | succ d ih =>
    have h1 := ih (by omega)
    have h2 := okM_at (a + d) (by omega)
    simp [okM] at h2
    rw [show a + (d + 1) = a + d + 1 by omega]
    omega

/-- a call that moves m bytes -/
structure Moves (m : Nat) (sys a b : Int) (s t : ByteArray) : Prop where
  may : mayB sys a b s t = true
  sys34 : sys = 3 ∨ sys = 4
  mv : movesZ sys b s = m
theorem Moves.parts {m : Nat} {sys a b : Int} {s t : ByteArray} (h : Moves m sys a b s t) : partsF sys a b s t = (pM m : Nat) := by
  unfold partsF pM
  rw [if_pos h.may, h.mv]
  split <;> split <;> omega
theorem Moves.ticks {m : Nat} {sys a b : Int} {s t : ByteArray} (h : Moves m sys a b s t) (p : Nat) : ticksF sys a b s t p = (tM m p : Nat) := by
  unfold ticksF tM
  rw [h.parts]
  by_cases hp : pM m ≤ p
  · rw [if_pos (by omega), if_pos hp]; rfl
  · rw [if_neg (by omega), if_neg hp, if_pos h.sys34]
    have hb : bytesF sys a b s t p = min ((m : Int) - 64 * p) 64 := by
      unfold bytesF
      rw [h.parts, if_neg (by omega), h.mv]
    rw [hb]
    have hlt : 64 * p < m ∨ (m = 0 ∧ p = 0) ∨ (p = 0) := by
      unfold pM at hp
      split at hp <;> omega
    omega
theorem Moves.bound {m : Nat} {sys a b : Int} {s t : ByteArray} (h : Moves m sys a b s t) (k : Nat) : boundF sys a b s t k = (gM m k : Nat) := by
  induction k with
  | zero => rfl
  | succ k ih => rw [bound_succ, ih, h.ticks]; rfl
theorem Moves.all {m : Nat} {sys a b : Int} {s t : ByteArray} (h : Moves m sys a b s t) : boundF sys a b s t (partsF sys a b s t).toNat = (gM m (pM m) : Nat) := by
  rw [h.parts]; exact h.bound _
theorem moves_read (m : Nat) (h : m < 513) : Moves m 3 0 m ⟨#[]⟩ ⟨#[]⟩ := by
  refine ⟨?_, Or.inl rfl, rfl⟩
  rw [mayB_3]
  simp [withinB, emp]
  omega
theorem moves_write (m : Nat) (h : m < 513) (s : ByteArray) (hs : s.size = m) : Moves m 4 0 0 s ⟨#[]⟩ := by
  refine ⟨?_, Or.inr rfl, ?_⟩
  · rw [mayB_4]
    simp [withinB, emp]
    omega
  · show (s.size : Int) = m
    rw [hs]

/-! ### the string of zero bytes -/
def zs (n : Nat) : List Int := List.replicate n 0
def zstr (n : Nat) : ByteArray := (zs n).foldl (fun r n => r.push (UInt8.ofNat n.toNat)) ByteArray.empty
theorem push_size : ∀ (l : List Int) (s : ByteArray), (l.foldl (fun r n => r.push (UInt8.ofNat n.toNat)) s).size = s.size + l.length
  | [], s => rfl
  | x :: l, s => by rw [List.foldl_cons, push_size l]; simp [ByteArray.size_push]; omega
theorem zstr_size (n : Nat) : (zstr n).size = n := by
  unfold zstr; rw [push_size]; simp [zs]
theorem made_zero (n : Nat) : madeCells #[Value.int .u8 0] n = ((zs n).map (Value.int .u8)).toArray := by
  apply Array.ext
  · simp [madeCells, zs]
  · intro i h1 h2
    simp [madeCells, zs, Nat.mod_one]
theorem conv_zero {w : World} {b n c : Nat} {E : TypeId} (h : Blk w b ((zs n).map (Value.int .u8)).toArray E) : (convert 30 9 (.slice (some ⟨b, 0, none⟩) n c)).run Try.prog w = .ok (.string (zstr n)) w := by
  rw [run_convert_bytes_string w _ _ _ _ _ _ Try.underlying30 Try.underlying5 Try.underlying9]
  refine run_bytesToString w _ _ _ (zs n) ?_
  have h2 := run_loadCells_list (P := Try.prog) w ⟨b, 0, none⟩ ((zs n).map (Value.int .u8)) (fun j v hj => by
    rw [Addr.add_lit, Nat.zero_add, h.rd]; simpa using hj)
  simpa [zs] using h2
theorem Try.info8 : (Try.prog.info? 5).map (fun i => (i.zero, i.size, i.bytes)) = some (some (.int .u8 0), 1, 1) := by kernel_rfl
theorem made_run (w : World) (n : Nat) (h : n < 513) : (Instr.makeSlice 30 (.int .i64 (n : Int)) (.int .i64 (n : Int))).run Try.prog w = .ok (.slice (some ⟨w.heap.size, 0, none⟩) n n) (w.alloc (.cells ((zs n).map (Value.int .u8)).toArray 5)) := by
  obtain ⟨i0, hi, hz0, hz1, hz2⟩ := info_parts Try.info8
  have := run_make (P := Try.prog) w 30 5 i0 (.int .u8 0) Try.underlying30 hi hz0 .i64 .i64 n n (by omega) (Int.le_refl _) (by rw [hz2]; omega) (by omega)
  rw [this]
  simp only [Int.toNat_natCast, hz1, Nat.mul_one]
  rw [show (Value.int IntKind.u8 0).cells = #[Value.int .u8 0] from rfl, made_zero]
end Go.Proofs.Ytifhcnkadieboaa
