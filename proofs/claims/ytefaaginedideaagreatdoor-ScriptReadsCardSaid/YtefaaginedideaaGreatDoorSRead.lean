/-
  Script: all lines read, by the document.
-/
import Derived.Test.YtefaaginedideaaGreatDoorSRdB
import Derived.Test.YtefaaginedideaaGreatDoorSRdC
import Derived.Test.YtefaaginedideaaGreatDoorSRdD
import Derived.Test.YtefaaginedideaaGreatDoorSRdE
import Derived.Deep.CutRange
namespace Go.Proofs.YtefaaginedideaaGreatDoor
set_option linter.unusedSimpArgs false
set_option linter.unusedVariables false
open Go.RowKit Own RegJ
open Go.Lib hiding intOf

theorem words_of (ns : List Int) (x : Txt) : (x = framesW ∧ ∃ x0, ns = [x0]) ∨ (x = dogW ∧ ∃ x0, ns = [x0]) ∨ (x = mutexW ∧ ∃ x0 x1, ns = [x0, x1]) ∨ (x = gapW ∧ ∃ x0, ns = [x0]) ∨ (x = taskW ∧ ∃ x0 x1 x2 x3 x4 x5 us, ns = x0 :: x1 :: x2 :: x3 :: x4 :: x5 :: us) ∨ (x = bestW ∧ ∃ x0, ns = [x0]) ∨ (x = atW ∧ ∃ x0 x1 x2, ns = [x0, x1, x2]) ∨ (¬ (x = framesW ∧ ∃ x0, ns = [x0]) ∧ ¬ (x = dogW ∧ ∃ x0, ns = [x0]) ∧ ¬ (x = mutexW ∧ ∃ x0 x1, ns = [x0, x1]) ∧ ¬ (x = gapW ∧ ∃ x0, ns = [x0]) ∧ ¬ (x = taskW ∧ ∃ x0 x1 x2 x3 x4 x5 us, ns = x0 :: x1 :: x2 :: x3 :: x4 :: x5 :: us) ∧ ¬ (x = bestW ∧ ∃ x0, ns = [x0]) ∧ ¬ (x = atW ∧ ∃ x0 x1 x2, ns = [x0, x1, x2])) := by
  by_cases h0 : x = framesW ∧ ∃ x0, ns = [x0]
  · exact .inl h0
  by_cases h1 : x = dogW ∧ ∃ x0, ns = [x0]
  · exact .inr (.inl h1)
  by_cases h2 : x = mutexW ∧ ∃ x0 x1, ns = [x0, x1]
  · exact .inr (.inr (.inl h2))
  by_cases h3 : x = gapW ∧ ∃ x0, ns = [x0]
  · exact .inr (.inr (.inr (.inl h3)))
  by_cases h4 : x = taskW ∧ ∃ x0 x1 x2 x3 x4 x5 us, ns = x0 :: x1 :: x2 :: x3 :: x4 :: x5 :: us
  · exact .inr (.inr (.inr (.inr (.inl h4))))
  by_cases h5 : x = bestW ∧ ∃ x0, ns = [x0]
  · exact .inr (.inr (.inr (.inr (.inr (.inl h5)))))
  by_cases h6 : x = atW ∧ ∃ x0 x1 x2, ns = [x0, x1, x2]
  · exact .inr (.inr (.inr (.inr (.inr (.inr (.inl h6))))))
  exact .inr (.inr (.inr (.inr (.inr (.inr (.inr ⟨h0, h1, h2, h3, h4, h5, h6⟩))))))
theorem with_Q {P : Program} {b : Code} {a : Act} {w : World} {Q : Exit → Act → World → Prop} (h : ∀ Q', Q' = Q → b.wp P Q' a w) : b.wp P Q a w := h Q rfl
set_option maxRecDepth 100000 in
set_option maxHeartbeats 40000000 in
theorem read_is {w : World} {a : Option Addr} {ls : List Txt} (n c : Nat) (hr : RdT w a ls) (hn : ls.length = n) (hm : n ≤ 90000) (hl : ∀ y ∈ ls, y.length ≤ 90000) :
    Calls Tryz.prog 32 #[.slice a n c] w (ReadV ls w) := by
  have HQ := Lib.hid (And.intro hr (And.intro hn hl))
  have hW1 : Below w.heap.size w ((w.alloc (.cells zCfg 41)).alloc (.cells zCfg 41)) := ((Below.refl _ _).alloc (Nat.le_refl _) _).alloc (by simp) _
  have hbl := (Blk.new w zCfg 41).alloc (.cells zCfg 41)
  have hds : DS ((w.alloc (.cells zCfg 41)).alloc (.cells zCfg 41)) (w.heap.size + 1) pst0 (w.heap.size + 1) (.slice none 0 0) := by
    refine ⟨_, _, _, _, _, _, _, _, _, _, none, Nat.le_refl _, by simp, ?_, Core.nil _ _, Rw.nil _ _ _, fun g hg => (by cases hg), fun e => (by cases e), fun e => (by cases e), by simp [pst0]⟩
    have := Blk.new (w.alloc (.cells zCfg 41)) zCfg 41
    rw [show (w.alloc (.cells zCfg 41)).heap.size = w.heap.size + 1 by simp] at this
    exact this
  have HS := Lib.hid (show RdL ls w 0 pst0 (.slice none 0 0) _ from ⟨rfl, hds, hbl, hW1, ⟨by simp [pst0, cfg0], by simp [pst0, cfg0], by simp [pst0, cfg0], by simp [pst0, cfg0], by simp [pst0, cfg0], fun t ht => (by cases ht), fun t ht => (by cases ht)⟩⟩)
  clear hbl hW1 hds hr hn hl
  go_enter Tryz.func32, Tryz.ntmps32
  go_wp2_with (fail)
  go_loopw [6, 7, 8] (fun v6 v7 v8 wr => ∃ (st : PSt) (i : Nat), v7 = .int .i64 st.act ∧ v8 = .int .i64 i ∧ i ≤ n ∧ Hid (RdL ls w i st v6 wr)) (fun _ _ v8 _ => n - (intOf v8).toNat)
  case atStart => exact ⟨pst0, 0, rfl, rfl, Nat.zero_le _, HS⟩
  case round =>
    obtain ⟨st, i, rfl, rfl, hi, HR⟩ := hrel
    clear HS
    have hi0 : (i : Int) ≤ (n : Int) := by omega
    by_cases hin : i < n
    · have i1 : (i : Int) < (n : Int) := by omega
      have hil : i < ls.length := by have := HQ.out.2.1; omega
      obtain ⟨l, hls⟩ : ∃ l, ls[i]? = some l := ⟨ls[i], List.getElem?_eq_getElem hil⟩
      have hll := HQ.out.2.2 l (List.mem_of_getElem? hls)
      obtain ⟨g0, o0, e0, k0⟩ := (HQ.out.1.below HR.out.2.2.2.1) i l hls
      subst e0
      obtain ⟨x, r, hx⟩ : ∃ x r, spc 32 l = x :: r := by cases hs : spc 32 l with | nil => exact absurd hs (spc_ne 32 l) | cons x r => exact ⟨x, r, rfl⟩
      refine with_Q fun Q hQ => ?_
      have hret : RdRet ls w Q := fun a' w' h => by rw [hQ]; exact h
      have hnext : RdNext ls w (some ⟨g0, o0, none⟩) n c i Q := by
        intro x3 x4 x9 x10 x11 x12 x13 x14 x15 x16 x17 x18 x19 x20 x21 x22 x23 x24 x25 x26 x27 x28 x29 x30 x31 x32 x33 x34 x35 x36 x37 x38 x39 x40 x41 x42 x43 x44 x45 x46 x47 x48 x49 x50 x51 x52 x53 x54 x55 x56 x57 x58 x59 x60 x61 x62 x63 x64 x65 x66 x67 x68 x69 x70 x71 x72 x73 x74 x75 x76 x77 x78 x79 x80 x81 x82 x83 x84 x85 x86 x87 x88 x89 x90 x91 x92 x93 x94 x95 x96 x97 x98 x99 x100 x101 x102 x103 x104 x105 x106 x107 x108 x109 x110 x111 x112 x113 x114 x115 x116 x117 x118 x119 x120 x121 x122 x123 x124 x125 x126 x127 x128 x129 x130 x131 x132 x133 x134 x135 x136 x137 x138 x139 x140 x141 x142 x143 x144 x145 x146 x147 x148 x149 x150 x151 x152 x153 x154 x155 x156 x157 x158 x159 x160 x161 x162 x163 x164 x165 x166 x167 x168 x169 x170 x171 x172 x173 x174 x175 x176 x177 x178 x179 x180 x181 x182 x183 x184 x185 x186 x187 x188 x189 x190 x191 x192 x193 x194 x195 x196 x197 x198 x199 x200 x201 x202 x203 x204 x205 x206 x207 x208 x209 x210 x211 x212 x213 x214 x215 x216 x217 x218 x219 x220 x221 x222 x223 x224 x225 x226 x227 x228 x229 x230 x231 x232 x233 x234 x235 x236 x237 x238 x239 x240 x241 x242 x243 x244 x245 x246 x247 x248 x249 x250 x251 x252 v6 v7 v8 st' w' h7 h8 H
        subst h7 h8
        rw [hQ]
        clear hQ hret
        go_roundw
        case rel => exact ⟨x3, x4, v6, _, _, x9, x10, x11, x12, x13, x14, x15, x16, x17, x18, x19, x20, x21, x22, x23, x24, x25, x26, x27, x28, x29, x30, x31, x32, x33, x34, x35, x36, x37, x38, x39, x40, x41, x42, x43, x44, x45, x46, x47, x48, x49, x50, x51, x52, x53, x54, x55, x56, x57, x58, x59, x60, x61, x62, x63, x64, x65, x66, x67, x68, x69, x70, x71, x72, x73, x74, x75, x76, x77, x78, x79, x80, x81, x82, x83, x84, x85, x86, x87, x88, x89, x90, x91, x92, x93, x94, x95, x96, x97, x98, x99, x100, x101, x102, x103, x104, x105, x106, x107, x108, x109, x110, x111, x112, x113, x114, x115, x116, x117, x118, x119, x120, x121, x122, x123, x124, x125, x126, x127, x128, x129, x130, x131, x132, x133, x134, x135, x136, x137, x138, x139, x140, x141, x142, x143, x144, x145, x146, x147, x148, x149, x150, x151, x152, x153, x154, x155, x156, x157, x158, x159, x160, x161, x162, x163, x164, x165, x166, x167, x168, x169, x170, x171, x172, x173, x174, x175, x176, x177, x178, x179, x180, x181, x182, x183, x184, x185, x186, x187, x188, x189, x190, x191, x192, x193, x194, x195, x196, x197, x198, x199, x200, x201, x202, x203, x204, x205, x206, x207, x208, x209, x210, x211, x212, x213, x214, x215, x216, x217, x218, x219, x220, x221, x222, x223, x224, x225, x226, x227, x228, x229, x230, x231, x232, x233, x234, x235, x236, x237, x238, x239, x240, x241, x242, x243, x244, x245, x246, x247, x248, x249, x250, x251, x252, ⟨st', i + 1, rfl, rfl, by omega, H⟩, rfl⟩
        case measure => simp [intOf]; omega
      clear hQ
      by_cases hxx : x = opW ∨ x = callW
      · cases hsf : stepF (x :: r) with
        | none => exact rdc_none (a := none) hm hin HR hls hll k0 hx hxx hsf Q hret hnext _ _ _ _ _ _ _ _ _ _ _ _ _ _ _ _ _ _ _ _ _ _ _ _ _ _ _ _ _ _ _ _ _ _ _ _ _ _ _ _ _ _ _ _ _ _ _ _ _ _ _ _ _ _ _ _ _ _ _ _ _ _ _ _ _ _ _ _ _ _ _ _ _ _ _ _ _ _ _ _ _ _ _ _ _ _ _ _ _ _ _ _ _ _ _ _ _ _ _ _ _ _ _ _ _ _ _ _ _ _ _ _ _ _ _ _ _ _ _ _ _ _ _ _ _ _ _ _ _ _ _ _ _ _ _ _ _ _ _ _ _ _ _ _ _ _ _ _ _ _ _ _ _ _ _ _ _ _ _ _ _ _ _ _ _ _ _ _ _ _ _ _ _ _ _ _ _ _ _ _ _ _ _ _ _ _ _ _ _ _ _ _ _ _ _ _ _ _ _ _ _ _ _ _ _ _ _ _ _ _ _ _ _ _ _ _ _ _ _ _ _ _ _ _ _ _ _ _ _ _ _ _ _ _ _ _ _ _ _ _ _ _ _ _ _ _
        | some o =>
          by_cases h0 : st.act = 0
          · exact rdc_zero (a := none) hm hin HR hls hll k0 hx hxx hsf h0 Q hret hnext _ _ _ _ _ _ _ _ _ _ _ _ _ _ _ _ _ _ _ _ _ _ _ _ _ _ _ _ _ _ _ _ _ _ _ _ _ _ _ _ _ _ _ _ _ _ _ _ _ _ _ _ _ _ _ _ _ _ _ _ _ _ _ _ _ _ _ _ _ _ _ _ _ _ _ _ _ _ _ _ _ _ _ _ _ _ _ _ _ _ _ _ _ _ _ _ _ _ _ _ _ _ _ _ _ _ _ _ _ _ _ _ _ _ _ _ _ _ _ _ _ _ _ _ _ _ _ _ _ _ _ _ _ _ _ _ _ _ _ _ _ _ _ _ _ _ _ _ _ _ _ _ _ _ _ _ _ _ _ _ _ _ _ _ _ _ _ _ _ _ _ _ _ _ _ _ _ _ _ _ _ _ _ _ _ _ _ _ _ _ _ _ _ _ _ _ _ _ _ _ _ _ _ _ _ _ _ _ _ _ _ _ _ _ _ _ _ _ _ _ _ _ _ _ _ _ _ _ _ _ _ _ _ _ _ _ _ _ _ _ _ _ _ _ _ _
          · by_cases h1 : st.act = 1
            · exact rdc_one (a := none) hm hin HR hls hll k0 hx hxx hsf h1 Q hret hnext _ _ _ _ _ _ _ _ _ _ _ _ _ _ _ _ _ _ _ _ _ _ _ _ _ _ _ _ _ _ _ _ _ _ _ _ _ _ _ _ _ _ _ _ _ _ _ _ _ _ _ _ _ _ _ _ _ _ _ _ _ _ _ _ _ _ _ _ _ _ _ _ _ _ _ _ _ _ _ _ _ _ _ _ _ _ _ _ _ _ _ _ _ _ _ _ _ _ _ _ _ _ _ _ _ _ _ _ _ _ _ _ _ _ _ _ _ _ _ _ _ _ _ _ _ _ _ _ _ _ _ _ _ _ _ _ _ _ _ _ _ _ _ _ _ _ _ _ _ _ _ _ _ _ _ _ _ _ _ _ _ _ _ _ _ _ _ _ _ _ _ _ _ _ _ _ _ _ _ _ _ _ _ _ _ _ _ _ _ _ _ _ _ _ _ _ _ _ _ _ _ _ _ _ _ _ _ _ _ _ _ _ _ _ _ _ _ _ _ _ _ _ _ _ _ _ _ _ _ _ _ _ _ _ _ _ _ _ _ _ _ _ _ _ _ _
            · have h2 : st.act = 2 := by obtain ⟨_, _, _, _, _, _, _, _, _, _, _, hd⟩ := HR.out.2.1; have := hd.2.2.2.2.2.2.2.2; omega
              exact rdc_two (a := none) hm hin HR hls hll k0 hx hxx hsf h2 Q hret hnext _ _ _ _ _ _ _ _ _ _ _ _ _ _ _ _ _ _ _ _ _ _ _ _ _ _ _ _ _ _ _ _ _ _ _ _ _ _ _ _ _ _ _ _ _ _ _ _ _ _ _ _ _ _ _ _ _ _ _ _ _ _ _ _ _ _ _ _ _ _ _ _ _ _ _ _ _ _ _ _ _ _ _ _ _ _ _ _ _ _ _ _ _ _ _ _ _ _ _ _ _ _ _ _ _ _ _ _ _ _ _ _ _ _ _ _ _ _ _ _ _ _ _ _ _ _ _ _ _ _ _ _ _ _ _ _ _ _ _ _ _ _ _ _ _ _ _ _ _ _ _ _ _ _ _ _ _ _ _ _ _ _ _ _ _ _ _ _ _ _ _ _ _ _ _ _ _ _ _ _ _ _ _ _ _ _ _ _ _ _ _ _ _ _ _ _ _ _ _ _ _ _ _ _ _ _ _ _ _ _ _ _ _ _ _ _ _ _ _ _ _ _ _ _ _ _ _ _ _ _ _ _ _ _ _ _ _ _ _ _ _ _ _ _ _ _
      · cases hns : numsF r with
        | none => exact rdc_nums (a := none) hm hin HR hls hll k0 hx hxx hns Q hret hnext _ _ _ _ _ _ _ _ _ _ _ _ _ _ _ _ _ _ _ _ _ _ _ _ _ _ _ _ _ _ _ _ _ _ _ _ _ _ _ _ _ _ _ _ _ _ _ _ _ _ _ _ _ _ _ _ _ _ _ _ _ _ _ _ _ _ _ _ _ _ _ _ _ _ _ _ _ _ _ _ _ _ _ _ _ _ _ _ _ _ _ _ _ _ _ _ _ _ _ _ _ _ _ _ _ _ _ _ _ _ _ _ _ _ _ _ _ _ _ _ _ _ _ _ _ _ _ _ _ _ _ _ _ _ _ _ _ _ _ _ _ _ _ _ _ _ _ _ _ _ _ _ _ _ _ _ _ _ _ _ _ _ _ _ _ _ _ _ _ _ _ _ _ _ _ _ _ _ _ _ _ _ _ _ _ _ _ _ _ _ _ _ _ _ _ _ _ _ _ _ _ _ _ _ _ _ _ _ _ _ _ _ _ _ _ _ _ _ _ _ _ _ _ _ _ _ _ _ _ _ _ _ _ _ _ _ _ _ _ _ _ _ _ _ _ _
        | some ns =>
          rcases words_of ns x with ⟨h, x0, rfl⟩ | ⟨h, x0, rfl⟩ | ⟨h, x0, x1, rfl⟩ | ⟨h, x0, rfl⟩ | ⟨h, x0, x1, x2, x3, x4, x5, us, rfl⟩ | ⟨h, x0, rfl⟩ | ⟨h, x0, x1, x2, rfl⟩ | ⟨h0, h1, h2, h3, h4, h5, h6⟩
          · exact rdc_frames (a := none) hm hin HR hls hll k0 hx hxx hns h Q hret hnext _ _ _ _ _ _ _ _ _ _ _ _ _ _ _ _ _ _ _ _ _ _ _ _ _ _ _ _ _ _ _ _ _ _ _ _ _ _ _ _ _ _ _ _ _ _ _ _ _ _ _ _ _ _ _ _ _ _ _ _ _ _ _ _ _ _ _ _ _ _ _ _ _ _ _ _ _ _ _ _ _ _ _ _ _ _ _ _ _ _ _ _ _ _ _ _ _ _ _ _ _ _ _ _ _ _ _ _ _ _ _ _ _ _ _ _ _ _ _ _ _ _ _ _ _ _ _ _ _ _ _ _ _ _ _ _ _ _ _ _ _ _ _ _ _ _ _ _ _ _ _ _ _ _ _ _ _ _ _ _ _ _ _ _ _ _ _ _ _ _ _ _ _ _ _ _ _ _ _ _ _ _ _ _ _ _ _ _ _ _ _ _ _ _ _ _ _ _ _ _ _ _ _ _ _ _ _ _ _ _ _ _ _ _ _ _ _ _ _ _ _ _ _ _ _ _ _ _ _ _ _ _ _ _ _ _ _ _ _ _ _ _ _ _ _ _
          · exact rdc_dog (a := none) hm hin HR hls hll k0 hx hxx hns h Q hret hnext _ _ _ _ _ _ _ _ _ _ _ _ _ _ _ _ _ _ _ _ _ _ _ _ _ _ _ _ _ _ _ _ _ _ _ _ _ _ _ _ _ _ _ _ _ _ _ _ _ _ _ _ _ _ _ _ _ _ _ _ _ _ _ _ _ _ _ _ _ _ _ _ _ _ _ _ _ _ _ _ _ _ _ _ _ _ _ _ _ _ _ _ _ _ _ _ _ _ _ _ _ _ _ _ _ _ _ _ _ _ _ _ _ _ _ _ _ _ _ _ _ _ _ _ _ _ _ _ _ _ _ _ _ _ _ _ _ _ _ _ _ _ _ _ _ _ _ _ _ _ _ _ _ _ _ _ _ _ _ _ _ _ _ _ _ _ _ _ _ _ _ _ _ _ _ _ _ _ _ _ _ _ _ _ _ _ _ _ _ _ _ _ _ _ _ _ _ _ _ _ _ _ _ _ _ _ _ _ _ _ _ _ _ _ _ _ _ _ _ _ _ _ _ _ _ _ _ _ _ _ _ _ _ _ _ _ _ _ _ _ _ _ _ _ _ _
          · exact rdc_mutex (a := none) hm hin HR hls hll k0 hx hxx hns h Q hret hnext _ _ _ _ _ _ _ _ _ _ _ _ _ _ _ _ _ _ _ _ _ _ _ _ _ _ _ _ _ _ _ _ _ _ _ _ _ _ _ _ _ _ _ _ _ _ _ _ _ _ _ _ _ _ _ _ _ _ _ _ _ _ _ _ _ _ _ _ _ _ _ _ _ _ _ _ _ _ _ _ _ _ _ _ _ _ _ _ _ _ _ _ _ _ _ _ _ _ _ _ _ _ _ _ _ _ _ _ _ _ _ _ _ _ _ _ _ _ _ _ _ _ _ _ _ _ _ _ _ _ _ _ _ _ _ _ _ _ _ _ _ _ _ _ _ _ _ _ _ _ _ _ _ _ _ _ _ _ _ _ _ _ _ _ _ _ _ _ _ _ _ _ _ _ _ _ _ _ _ _ _ _ _ _ _ _ _ _ _ _ _ _ _ _ _ _ _ _ _ _ _ _ _ _ _ _ _ _ _ _ _ _ _ _ _ _ _ _ _ _ _ _ _ _ _ _ _ _ _ _ _ _ _ _ _ _ _ _ _ _ _ _ _ _ _ _
          · exact rdc_gap (a := none) hm hin HR hls hll k0 hx hxx hns h Q hret hnext _ _ _ _ _ _ _ _ _ _ _ _ _ _ _ _ _ _ _ _ _ _ _ _ _ _ _ _ _ _ _ _ _ _ _ _ _ _ _ _ _ _ _ _ _ _ _ _ _ _ _ _ _ _ _ _ _ _ _ _ _ _ _ _ _ _ _ _ _ _ _ _ _ _ _ _ _ _ _ _ _ _ _ _ _ _ _ _ _ _ _ _ _ _ _ _ _ _ _ _ _ _ _ _ _ _ _ _ _ _ _ _ _ _ _ _ _ _ _ _ _ _ _ _ _ _ _ _ _ _ _ _ _ _ _ _ _ _ _ _ _ _ _ _ _ _ _ _ _ _ _ _ _ _ _ _ _ _ _ _ _ _ _ _ _ _ _ _ _ _ _ _ _ _ _ _ _ _ _ _ _ _ _ _ _ _ _ _ _ _ _ _ _ _ _ _ _ _ _ _ _ _ _ _ _ _ _ _ _ _ _ _ _ _ _ _ _ _ _ _ _ _ _ _ _ _ _ _ _ _ _ _ _ _ _ _ _ _ _ _ _ _ _ _ _ _
          · exact rdc_task (a := none) hm hin HR hls hll k0 hx hxx hns h Q hret hnext _ _ _ _ _ _ _ _ _ _ _ _ _ _ _ _ _ _ _ _ _ _ _ _ _ _ _ _ _ _ _ _ _ _ _ _ _ _ _ _ _ _ _ _ _ _ _ _ _ _ _ _ _ _ _ _ _ _ _ _ _ _ _ _ _ _ _ _ _ _ _ _ _ _ _ _ _ _ _ _ _ _ _ _ _ _ _ _ _ _ _ _ _ _ _ _ _ _ _ _ _ _ _ _ _ _ _ _ _ _ _ _ _ _ _ _ _ _ _ _ _ _ _ _ _ _ _ _ _ _ _ _ _ _ _ _ _ _ _ _ _ _ _ _ _ _ _ _ _ _ _ _ _ _ _ _ _ _ _ _ _ _ _ _ _ _ _ _ _ _ _ _ _ _ _ _ _ _ _ _ _ _ _ _ _ _ _ _ _ _ _ _ _ _ _ _ _ _ _ _ _ _ _ _ _ _ _ _ _ _ _ _ _ _ _ _ _ _ _ _ _ _ _ _ _ _ _ _ _ _ _ _ _ _ _ _ _ _ _ _ _ _ _ _ _ _
          · exact rdc_best (a := none) hm hin HR hls hll k0 hx hxx hns h Q hret hnext _ _ _ _ _ _ _ _ _ _ _ _ _ _ _ _ _ _ _ _ _ _ _ _ _ _ _ _ _ _ _ _ _ _ _ _ _ _ _ _ _ _ _ _ _ _ _ _ _ _ _ _ _ _ _ _ _ _ _ _ _ _ _ _ _ _ _ _ _ _ _ _ _ _ _ _ _ _ _ _ _ _ _ _ _ _ _ _ _ _ _ _ _ _ _ _ _ _ _ _ _ _ _ _ _ _ _ _ _ _ _ _ _ _ _ _ _ _ _ _ _ _ _ _ _ _ _ _ _ _ _ _ _ _ _ _ _ _ _ _ _ _ _ _ _ _ _ _ _ _ _ _ _ _ _ _ _ _ _ _ _ _ _ _ _ _ _ _ _ _ _ _ _ _ _ _ _ _ _ _ _ _ _ _ _ _ _ _ _ _ _ _ _ _ _ _ _ _ _ _ _ _ _ _ _ _ _ _ _ _ _ _ _ _ _ _ _ _ _ _ _ _ _ _ _ _ _ _ _ _ _ _ _ _ _ _ _ _ _ _ _ _ _ _ _ _
          · exact rdc_at (a := none) hm hin HR hls hll k0 hx hxx hns h Q hret hnext _ _ _ _ _ _ _ _ _ _ _ _ _ _ _ _ _ _ _ _ _ _ _ _ _ _ _ _ _ _ _ _ _ _ _ _ _ _ _ _ _ _ _ _ _ _ _ _ _ _ _ _ _ _ _ _ _ _ _ _ _ _ _ _ _ _ _ _ _ _ _ _ _ _ _ _ _ _ _ _ _ _ _ _ _ _ _ _ _ _ _ _ _ _ _ _ _ _ _ _ _ _ _ _ _ _ _ _ _ _ _ _ _ _ _ _ _ _ _ _ _ _ _ _ _ _ _ _ _ _ _ _ _ _ _ _ _ _ _ _ _ _ _ _ _ _ _ _ _ _ _ _ _ _ _ _ _ _ _ _ _ _ _ _ _ _ _ _ _ _ _ _ _ _ _ _ _ _ _ _ _ _ _ _ _ _ _ _ _ _ _ _ _ _ _ _ _ _ _ _ _ _ _ _ _ _ _ _ _ _ _ _ _ _ _ _ _ _ _ _ _ _ _ _ _ _ _ _ _ _ _ _ _ _ _ _ _ _ _ _ _ _ _ _ _ _
          · exact rdc_bad (a := none) hm hin HR hls hll k0 hx hxx hns h0 h1 h2 h3 h4 h5 h6 Q hret hnext _ _ _ _ _ _ _ _ _ _ _ _ _ _ _ _ _ _ _ _ _ _ _ _ _ _ _ _ _ _ _ _ _ _ _ _ _ _ _ _ _ _ _ _ _ _ _ _ _ _ _ _ _ _ _ _ _ _ _ _ _ _ _ _ _ _ _ _ _ _ _ _ _ _ _ _ _ _ _ _ _ _ _ _ _ _ _ _ _ _ _ _ _ _ _ _ _ _ _ _ _ _ _ _ _ _ _ _ _ _ _ _ _ _ _ _ _ _ _ _ _ _ _ _ _ _ _ _ _ _ _ _ _ _ _ _ _ _ _ _ _ _ _ _ _ _ _ _ _ _ _ _ _ _ _ _ _ _ _ _ _ _ _ _ _ _ _ _ _ _ _ _ _ _ _ _ _ _ _ _ _ _ _ _ _ _ _ _ _ _ _ _ _ _ _ _ _ _ _ _ _ _ _ _ _ _ _ _ _ _ _ _ _ _ _ _ _ _ _ _ _ _ _ _ _ _ _ _ _ _ _ _ _ _ _ _ _ _ _ _ _ _ _ _ _ _
    · obtain rfl : i = n := by omega
      have i1 : ¬ ((i : Int) < (i : Int)) := by omega
      obtain ⟨tv, bv, mv, gv, tq, eq, tb, bb, mb, gb, eb, hdc⟩ := HR.out.2.1
      have hcc := hdc.2.2.1
      have hres := HR.out.2.2.1
      obtain ⟨ae, ce, rfl⟩ := hdc.2.2.2.2.1.slice
      obtain ⟨a4, c4, rfl⟩ := hdc.2.2.2.1.rt.slice
      obtain ⟨a5, c5, rfl⟩ := hdc.2.2.2.1.re.slice
      obtain ⟨a6, c6, rfl⟩ := hdc.2.2.2.1.rm.slice
      obtain ⟨a7, c7, rfl⟩ := hdc.2.2.2.1.rg.slice
      have hcr := hcc.rd
      have HE := Lib.hid (rd_exit HR.out HQ.out.2.1 hdc)
      have HD := Lib.hid hres
      clear hdc hcc hres HR HQ
      generalize st.es.length = n0 at *
      generalize st.c.tasks.length = n1 at *
      generalize st.c.best.length = n2 at *
      generalize st.c.mtx.length = n3 at *
      generalize st.c.gaps.length = n4 at *
      go_wp2_with (refine wpList_store_row rfl 41 (.tmp 2) (.tmp 253) rfl w.heap.size (dsCs (.slice a4 n1 c4) (.slice a5 n2 c5) (.slice a6 n3 c6) (.slice a7 n4 c7) st.c.frames st.c.dog) rfl rfl 41 zCfg HD.out infoCfg rfl (by simp [Value.oneCell']) ?_)
      refine bodyPost_ret (results_cell3 rfl _ _ w.heap.size _ (dsCs (.slice a4 n1 c4) (.slice a5 n2 c5) (.slice a6 n3 c6) (.slice a7 n4 c7) st.c.frames st.c.dog) _ rfl (Blk.row HD.out _) Tryz.underlying41 rfl infoCfg) rfl ?_
      exact HE.out _
end Go.Proofs.YtefaaginedideaaGreatDoor
