/-
  Descriptors: Read, of files.
-/
import Derived.Test.YtjpjafajploiaaaGreatDoorKq
import Derived.RegionTactic
import Derived.BigRegion
namespace Go.Proofs.YtjpjafajploiaaaGreatDoor
set_option linter.unusedSimpArgs false
set_option linter.unusedVariables false
open Go.RowKit Own RegJ Two
open Go.Lib hiding intOf

section
variable {w0 w w1 w2 w' : World} {O O1 : Nat → Prop} {fdb vb tb fb sb pb mb : Nat} {ns ns' : NSt} {c N N' : Nat} {S S' : FS}
/-- what a Read leaves: a row of its own, that is not theirs -/
def KRead [Inhabited CapT] (w0 : World) (O : Nat → Prop) (fdb vb tb fb sb pb mb : Nat) (ns : NSt) (c N : Nat) (S : FS) (w : World) (ys : List Int) (er : Int) (e : Ending) (w' : World) : Prop := ∃ a cp gb O', e = .returned (.tuple #[.slice a ys.length cp, .int .i64 er]) ∧ RowV w' 5 (.slice a ys.length cp) (ucells ys) gb ∧ (∀ g, gb = some g → w.heap.size ≤ g ∧ ¬ O' g) ∧ Upd O w w' ∧ FX w0 O' fdb vb tb fb sb pb mb ns c N S w' ∧ ∀ k, O' k → O k ∨ w.heap.size ≤ k
set_option maxRecDepth 100000 in
set_option maxHeartbeats 4000000 in
theorem kf_read [Inhabited CapT] (h : FX w0 O fdb vb tb fb sb pb mb ns c N S w) (x : Nat) (t : Th) (ht : S.th x = some t) (hid : (Lit.int .i64 t.id).wf = true) (n : Int) (hn : n ≤ 9223372036854775807) (ys : List Int) (hpl : 0 ≤ t.pl ∧ t.pl + (ys.length : Int) ≤ 9223372036854775807) (er : Int) (hr : readV (filesOf ns) t.id t.pl n = (ys, er)) (hyl : ys.length ≤ 1000000) :
    Calls Tryz.prog 139 #[.pointer (some ⟨fdb, 0, none⟩), .pointer (some ⟨x, 0, none⟩), .int .i64 n] w (KRead w0 O fdb vb tb fb sb pb mb ns c N (S.setth x { t with pl := t.pl + (ys.length : Int) }) w ys er) := by
  have hB := h.fd.x x t ht
  have c0 := h.fd.f.rd 0
  have k := hB.rd
  have hst := fun w1 (hB : Below w.heap.size w w1) => v_store (h.below hB)
  have hrd := fun w1 (hB : Below w.heap.size w w1) => v_read (h.below hB) t.id hid t.pl n (by omega) (by omega) ys er hr
  have key : ∀ w1 a cp gb, RowV w1 5 (.slice a ys.length cp) (ucells ys) gb → (∀ g, gb = some g → w.heap.size ≤ g) → Below w.heap.size w w1 → KRead w0 O fdb vb tb fb sb pb mb ns c N (S.setth x { t with pl := t.pl + (ys.length : Int) }) w ys er (.returned (.tuple #[.slice a ys.length cp, .int .i64 er])) (w1.setCell ⟨x, 3, none⟩ (.int .i64 (t.pl + (ys.length : Int)))) := by
    intro w1 a cp gb h1 h2 h3
    have hD := h.below h3
    have hu : Upd (Ow fdb mb S) w1 (w1.setCell ⟨x, 3, none⟩ (.int .i64 (t.pl + (ys.length : Int)))) := (Upd.refl _ _).setCell (p := ⟨x, 3, none⟩) (fun _ => .inr (.inr (.inr (by rw [ht]; rfl)))) _
    obtain ⟨k1, k2⟩ := hD.own hu (hD.fd.setth ht { t with pl := t.pl + (ys.length : Int) } 3 (.int .i64 (t.pl + (ys.length : Int))) rfl) (fun k hk => .inl (Ow.th ht hk))
    have hg : ∀ g, gb = some g → ¬ O g := fun g hg hO => by have := (h.rng g hO).2; have := h2 g hg; omega
    refine ⟨a, cp, gb, _, rfl, h1.upd k1 (fun g hgb => hg g hgb), fun g hgb => ⟨h2 g hgb, fun hO => ?_⟩, (Upd.of_below (F := O) h3).trans k1 (fun _ _ h => h), k2, fun k hk => ?_⟩
    · rcases hO with hO | hO
      · exact hg g hgb hO
      · have := h1.lt g hgb; omega
    · rcases hk with hk | hk
      · exact .inl hk
      · exact .inr (Nat.le_trans h3.size hk.1)
  have cells : ∀ w1, Below w.heap.size w w1 → w1.cell? ⟨x, 3, none⟩ = some (.int .i64 t.pl) ∧ w1.frozen? ⟨x, 3, none⟩ = false := fun w1 h1 => ⟨(Blk.below h1 hB hB.lt).rd 3, (Blk.below h1 hB hB.lt).nf 3⟩
  have HK := Lib.hid (And.intro key cells)
  have j1 := hpl.1
  have j2 := hpl.2
  clear h hr hB ht key cells
  go_enter Tryz.func139, Tryz.ntmps139
  go_upto_region 1 with (fail)
  go_region_with (first
    | (go_at_call 141; refine (hst _ (dn _ _)).mono ?_; rintro e w1 ⟨rfl, rfl⟩)
    | (go_at_call 189; refine (hrd _ (dn _ _)).mono ?_; rintro e w1 ⟨a, cp, gb, rfl, h1, h2, h3⟩; have h4 := (dn w _).trans h3; have H1 := Lib.hid (And.intro h1 (And.intro h2 h4)); clear h1 h2 h3 h4))
  all_goals
    obtain ⟨k3, f3⟩ := HK.out.2 _ H1.out.2.2
    go_wp2_with (fail)
    go_ret2
    exact HK.out.1 _ _ _ _ H1.out.1 H1.out.2.1 H1.out.2.2
set_option maxRecDepth 100000 in
set_option maxHeartbeats 2000000 in
theorem k_read [Inhabited CapT] (h : FX w0 O fdb vb tb fb sb pb mb ns c N S w) (pid : Int) (hw : (Lit.int .i64 pid).wf = true) (b : Nat) (hb : S.pr pid = some b) (d x : Nat) (hd : d < 8) (hx : S.sl b d = some x) (t : Th) (ht : S.th x = some t) (hpp : t.pp = false) (hwr : t.wr = false) (hid : (Lit.int .i64 t.id).wf = true) (n : Int) (hn : n ≤ 9223372036854775807) (ys : List Int) (hpl : 0 ≤ t.pl ∧ t.pl + (ys.length : Int) ≤ 9223372036854775807) (er : Int) (hr : readV (filesOf ns) t.id t.pl n = (ys, er)) (hyl : ys.length ≤ 1000000) :
    Calls Tryz.prog 83 #[.pointer (some ⟨fdb, 0, none⟩), .int .i64 pid, .int .i64 d, .int .i64 n] w (KRead w0 O fdb vb tb fb sb pb mb ns c N (S.setth x { t with pl := t.pl + (ys.length : Int) }) w ys er) := by
  have hg := k_get h.fd pid hw b hb d x hd hx
  have hB := h.fd.x x t ht
  have c0 : w.cell? ⟨x, 0, none⟩ = some (.bool false) := by rw [← hpp]; exact hB.rd 0
  have c1 : w.cell? ⟨x, 1, none⟩ = some (.bool false) := by rw [← hwr]; exact hB.rd 1
  have hfr := kf_read h x t ht hid n hn ys hpl er hr hyl
  clear h hB ht hb hx hpp hwr hid hr hpl
  go_enter Tryz.func83, Tryz.ntmps83
  go_wp2_with (first
    | (go_at_call 80; refine hg.mono ?_; rintro e w1 ⟨rfl, rfl⟩)
    | (go_at_call 139; refine hfr.mono ?_; rintro e w2 ⟨a, cp, gb, O2, rfl, hq⟩; have HF := Lib.hid hq; clear hq hfr))
  go_ret2
  exact ⟨a, cp, gb, O2, rfl, HF.out⟩
end
end Go.Proofs.YtjpjafajploiaaaGreatDoor
