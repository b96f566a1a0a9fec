/-
  Script: a line read by the document, case by case.
-/
import Derived.Test.YtefaaginedideaaGreatDoorSRdA
import Derived.Deep.CutRange
namespace Go.Proofs.YtefaaginedideaaGreatDoor
set_option linter.unusedSimpArgs false
set_option linter.unusedVariables false
open Go.RowKit Own RegJ
open Go.Lib hiding intOf

set_option maxRecDepth 1000000 in
set_option maxHeartbeats 40000000 in
theorem rdc_frames {w wr : World} {a : Option Addr} {ls : List Txt} {n c i g0 o0 : Nat} {st : PSt} {u6 : Value} {l x : Txt} {r : List Txt} (hm : n ≤ 90000) (hin : i < n) (HR : Hid (RdL ls w i st u6 wr)) (hls : ls[i]? = some l) (hll : l.length ≤ 90000) (k0 : wr.cell? ⟨g0, o0 + i, none⟩ = some (.string (B l))) (hx : spc 32 l = x :: r) {x0 : Int} (hxx : ¬ (x = opW ∨ x = callW)) (hns : numsF r = some [x0]) (hxw : x = framesW) (Q : Exit → Act → World → Prop) (hret : RdRet ls w Q) (hnext : RdNext ls w (some ⟨g0, o0, none⟩) n c i Q) (u3 u4 u9 u10 u11 u12 u13 u14 u15 u16 u17 u18 u19 u20 u21 u22 u23 u24 u25 u26 u27 u28 u29 u30 u31 u32 u33 u34 u35 u36 u37 u38 u39 u40 u41 u42 u43 u44 u45 u46 u47 u48 u49 u50 u51 u52 u53 u54 u55 u56 u57 u58 u59 u60 u61 u62 u63 u64 u65 u66 u67 u68 u69 u70 u71 u72 u73 u74 u75 u76 u77 u78 u79 u80 u81 u82 u83 u84 u85 u86 u87 u88 u89 u90 u91 u92 u93 u94 u95 u96 u97 u98 u99 u100 u101 u102 u103 u104 u105 u106 u107 u108 u109 u110 u111 u112 u113 u114 u115 u116 u117 u118 u119 u120 u121 u122 u123 u124 u125 u126 u127 u128 u129 u130 u131 u132 u133 u134 u135 u136 u137 u138 u139 u140 u141 u142 u143 u144 u145 u146 u147 u148 u149 u150 u151 u152 u153 u154 u155 u156 u157 u158 u159 u160 u161 u162 u163 u164 u165 u166 u167 u168 u169 u170 u171 u172 u173 u174 u175 u176 u177 u178 u179 u180 u181 u182 u183 u184 u185 u186 u187 u188 u189 u190 u191 u192 u193 u194 u195 u196 u197 u198 u199 u200 u201 u202 u203 u204 u205 u206 u207 u208 u209 u210 u211 u212 u213 u214 u215 u216 u217 u218 u219 u220 u221 u222 u223 u224 u225 u226 u227 u228 u229 u230 u231 u232 u233 u234 u235 u236 u237 u238 u239 u240 u241 u242 u243 u244 u245 u246 u247 u248 u249 u250 u251 u252 : Value) :
    rdBody.wp Tryz.prog Q ⟨#[.slice (some ⟨g0, o0, none⟩) n c, undef, .pointer (some ⟨w.heap.size, 0, none⟩), u3, u4, .pointer (some ⟨w.heap.size + 1, 0, none⟩), u6, .int .i64 st.act, .int .i64 i, u9, u10, u11, u12, u13, u14, u15, u16, u17, u18, u19, u20, u21, u22, u23, u24, u25, u26, u27, u28, u29, u30, u31, u32, u33, u34, u35, u36, u37, u38, u39, u40, u41, u42, u43, u44, u45, u46, u47, u48, u49, u50, u51, u52, u53, u54, u55, u56, u57, u58, u59, u60, u61, u62, u63, u64, u65, u66, u67, u68, u69, u70, u71, u72, u73, u74, u75, u76, u77, u78, u79, u80, u81, u82, u83, u84, u85, u86, u87, u88, u89, u90, u91, u92, u93, u94, u95, u96, u97, u98, u99, u100, u101, u102, u103, u104, u105, u106, u107, u108, u109, u110, u111, u112, u113, u114, u115, u116, u117, u118, u119, u120, u121, u122, u123, u124, u125, u126, u127, u128, u129, u130, u131, u132, u133, u134, u135, u136, u137, u138, u139, u140, u141, u142, u143, u144, u145, u146, u147, u148, u149, u150, u151, u152, u153, u154, u155, u156, u157, u158, u159, u160, u161, u162, u163, u164, u165, u166, u167, u168, u169, u170, u171, u172, u173, u174, u175, u176, u177, u178, u179, u180, u181, u182, u183, u184, u185, u186, u187, u188, u189, u190, u191, u192, u193, u194, u195, u196, u197, u198, u199, u200, u201, u202, u203, u204, u205, u206, u207, u208, u209, u210, u211, u212, u213, u214, u215, u216, u217, u218, u219, u220, u221, u222, u223, u224, u225, u226, u227, u228, u229, u230, u231, u232, u233, u234, u235, u236, u237, u238, u239, u240, u241, u242, u243, u244, u245, u246, u247, u248, u249, u250, u251, u252, undef, undef], []⟩ wr := by
  have HNX := Lib.hid hnext
  have HRT := Lib.hid hret
  clear hnext hret
  have hi0 : (i : Int) ≤ (n : Int) := by omega
  have i1 : (i : Int) < (n : Int) := by omega
  obtain ⟨m, hmm⟩ : ∃ m, (x :: r).length = m := ⟨_, rfl⟩
  have hsl := spc_len 32 l
  rw [hx, hmm] at hsl
  have m1 : 0 < m := by simp at hmm; omega
  have hsp := fun wr' => rsplit_ev l wr' (by omega) (x :: r) hx m hmm
  have hlm : ∀ y ∈ x :: r, y.length ≤ 100000 := fun y hy => by have := (spc_mem 32 l y (by rw [hx]; exact hy)).2; omega
  have hnx := fun (st' : PSt) (w' : World) (ev' : Value) (hn : lineF st l = some st') (hd : DS w' (w.heap.size + 1) st' (w.heap.size + 1) ev') (hb : Below (w.heap.size + 1) wr w') => HR.out.next hls hn hd hb
  have hbd := fun (w' : World) (v : Value) (hv : v = .int .i64 (i + 1 : Nat)) (hn : lineF st l = none) (hb : Below w.heap.size w w') => ReadV.err hv (HR.out.bad hls hn) hb
  have hlf := lineF_of (st := st) hx
  have HZ := Lib.hid (And.intro HR.out.2.1 (And.intro HR.out.2.2.1 (And.intro HR.out.2.2.2.1 (And.intro HR.out.2.2.2.2 (And.intro hlf (And.intro hnx (And.intro hbd (And.intro hlm (And.intro hmm hsl)))))))))
  have ms : m ≤ 90001 := by omega
  clear hnx hbd hlf hlm hx hls hsl hmm hll HR
  have q1 : (x == ([111, 112] : Txt)) = false := (beq_dec x opW).trans (decide_eq_false (fun h => hxx (.inl h)))
  have q2 : (x == ([99, 97, 108, 108] : Txt)) = false := (beq_dec x callW).trans (decide_eq_false (fun h => hxx (.inr h)))
  have hlf2 : lineF st l = match numsF r with
    | some n => doF st x n
    | none => none := HZ.out.2.2.2.2.1.trans (if_neg hxx)
  clear hxx
  have hrl : r.length = m - 1 := by have := HZ.out.2.2.2.2.2.2.2.2.1; simp at this; omega
  have hrm : ∀ y ∈ r, y.length ≤ 10000000 := fun y hy => by have := HZ.out.2.2.2.2.2.2.2.1 y (List.mem_cons_of_mem _ hy); omega
  have hmi : (1 : Int) ≤ (m : Int) := by omega
  rw [hns] at hlf2
  simp only at hlf2
  have hgd := nums_good hns
  have hnl : [x0].length ≤ 90000 := by have := nums_len r _ hns; omega
  obtain ⟨cnt, hcnt⟩ : ∃ cnt, [x0].length = cnt := ⟨_, rfl⟩
  have hcb : cnt ≤ 90000 := by omega
  have HR0 := Lib.hid (And.intro hrl (And.intro hrm (And.intro hns hlf2)))
  have HG := Lib.hid (And.intro hgd (And.intro hnl hcnt))
  clear hrl hrm hns hlf2 hgd hnl hcnt
  have p1 : (x == ([102, 114, 97, 109, 101, 115] : Txt)) = true := (beq_dec x framesW).trans (decide_eq_true hxw)
  have HN := Lib.hid (HR0.out.2.2.2.trans (show doF st x [x0] = some ({ st with c := { st.c with frames := x0 } } : PSt) by rw [hxw]; rfl))
  clear hxw
  obtain rfl : cnt = 1 := HG.out.2.2.symm
  conv => arg 2; whnf
  go_wp2_with (first
    | (go_at_call 70; (with_reducible refine (hsp _).mono ?_); rintro e w1 ⟨g1, c1, rfl, hT, hc1, hb1⟩; have k1 := hT.first; obtain ⟨a1, hs1, hs2, hTr⟩ := slice_tl Tryz.underlying83 rfl hT HZ.out.2.2.2.2.2.2.2.2.1 hc1; have H1 := Lib.hid (And.intro hb1 (And.intro hTr (And.intro hT hc1))); clear hb1 hT hc1 hsp hTr)
    | (go_at_call 72; refine (rnums_some (m - 1) (c1 - 1) H1.out.2.1 HR0.out.1 (by omega) HR0.out.2.1 HR0.out.2.2.1).mono ?_; rintro e w2 ⟨a2, c2, b2, rfl, hI2, hnb2, hb2⟩; have H2 := Lib.hid (H1.out.1.trans (hb2.mono H1.out.1.size)); have k2 := (H1.out.2.2.1.below hb2).first; have HI := Lib.hid (And.intro hI2 hnb2); rw [HG.out.2.2]; clear hb2 hI2 hnb2; obtain ⟨g9, c9, hv9, hg9, hc9, hrd⟩ := HI.out.1.some_of (by simp); simp only [Value.slice.injEq, true_and] at hv9; obtain ⟨rfl, rfl⟩ := hv9; have r0 := hrd 0 x0 rfl; have hg9l := HI.out.1.lt g9 hg9; simp only [List.length_cons, List.length_nil, Nat.zero_add, Nat.reduceAdd] at hc9; obtain ⟨tv, bv, mv, gv, tq, eq, tb, bb, mb, gb, eb, hdc⟩ := HZ.out.1; have hd2 := hdc.below H2.out; have f1 := hd2.2.2.1.rd 4; have f2 := hd2.2.2.1.nf 4; have HD := Lib.hid (hd2.frames x0); clear hd2 hdc; clear hrd hg9))
  refine HNX.out.go _ ?_ (by go_num) (Lib.hid (HZ.out.2.2.2.2.2.1 _ _ _ HN.out HD.out.1 (((Below.mono H2.out (by have := HZ.out.2.1.lt; omega)).trans HD.out.2))))
  rfl
set_option maxRecDepth 1000000 in
set_option maxHeartbeats 40000000 in
theorem rdc_dog {w wr : World} {a : Option Addr} {ls : List Txt} {n c i g0 o0 : Nat} {st : PSt} {u6 : Value} {l x : Txt} {r : List Txt} (hm : n ≤ 90000) (hin : i < n) (HR : Hid (RdL ls w i st u6 wr)) (hls : ls[i]? = some l) (hll : l.length ≤ 90000) (k0 : wr.cell? ⟨g0, o0 + i, none⟩ = some (.string (B l))) (hx : spc 32 l = x :: r) {x0 : Int} (hxx : ¬ (x = opW ∨ x = callW)) (hns : numsF r = some [x0]) (hxw : x = dogW) (Q : Exit → Act → World → Prop) (hret : RdRet ls w Q) (hnext : RdNext ls w (some ⟨g0, o0, none⟩) n c i Q) (u3 u4 u9 u10 u11 u12 u13 u14 u15 u16 u17 u18 u19 u20 u21 u22 u23 u24 u25 u26 u27 u28 u29 u30 u31 u32 u33 u34 u35 u36 u37 u38 u39 u40 u41 u42 u43 u44 u45 u46 u47 u48 u49 u50 u51 u52 u53 u54 u55 u56 u57 u58 u59 u60 u61 u62 u63 u64 u65 u66 u67 u68 u69 u70 u71 u72 u73 u74 u75 u76 u77 u78 u79 u80 u81 u82 u83 u84 u85 u86 u87 u88 u89 u90 u91 u92 u93 u94 u95 u96 u97 u98 u99 u100 u101 u102 u103 u104 u105 u106 u107 u108 u109 u110 u111 u112 u113 u114 u115 u116 u117 u118 u119 u120 u121 u122 u123 u124 u125 u126 u127 u128 u129 u130 u131 u132 u133 u134 u135 u136 u137 u138 u139 u140 u141 u142 u143 u144 u145 u146 u147 u148 u149 u150 u151 u152 u153 u154 u155 u156 u157 u158 u159 u160 u161 u162 u163 u164 u165 u166 u167 u168 u169 u170 u171 u172 u173 u174 u175 u176 u177 u178 u179 u180 u181 u182 u183 u184 u185 u186 u187 u188 u189 u190 u191 u192 u193 u194 u195 u196 u197 u198 u199 u200 u201 u202 u203 u204 u205 u206 u207 u208 u209 u210 u211 u212 u213 u214 u215 u216 u217 u218 u219 u220 u221 u222 u223 u224 u225 u226 u227 u228 u229 u230 u231 u232 u233 u234 u235 u236 u237 u238 u239 u240 u241 u242 u243 u244 u245 u246 u247 u248 u249 u250 u251 u252 : Value) :
    rdBody.wp Tryz.prog Q ⟨#[.slice (some ⟨g0, o0, none⟩) n c, undef, .pointer (some ⟨w.heap.size, 0, none⟩), u3, u4, .pointer (some ⟨w.heap.size + 1, 0, none⟩), u6, .int .i64 st.act, .int .i64 i, u9, u10, u11, u12, u13, u14, u15, u16, u17, u18, u19, u20, u21, u22, u23, u24, u25, u26, u27, u28, u29, u30, u31, u32, u33, u34, u35, u36, u37, u38, u39, u40, u41, u42, u43, u44, u45, u46, u47, u48, u49, u50, u51, u52, u53, u54, u55, u56, u57, u58, u59, u60, u61, u62, u63, u64, u65, u66, u67, u68, u69, u70, u71, u72, u73, u74, u75, u76, u77, u78, u79, u80, u81, u82, u83, u84, u85, u86, u87, u88, u89, u90, u91, u92, u93, u94, u95, u96, u97, u98, u99, u100, u101, u102, u103, u104, u105, u106, u107, u108, u109, u110, u111, u112, u113, u114, u115, u116, u117, u118, u119, u120, u121, u122, u123, u124, u125, u126, u127, u128, u129, u130, u131, u132, u133, u134, u135, u136, u137, u138, u139, u140, u141, u142, u143, u144, u145, u146, u147, u148, u149, u150, u151, u152, u153, u154, u155, u156, u157, u158, u159, u160, u161, u162, u163, u164, u165, u166, u167, u168, u169, u170, u171, u172, u173, u174, u175, u176, u177, u178, u179, u180, u181, u182, u183, u184, u185, u186, u187, u188, u189, u190, u191, u192, u193, u194, u195, u196, u197, u198, u199, u200, u201, u202, u203, u204, u205, u206, u207, u208, u209, u210, u211, u212, u213, u214, u215, u216, u217, u218, u219, u220, u221, u222, u223, u224, u225, u226, u227, u228, u229, u230, u231, u232, u233, u234, u235, u236, u237, u238, u239, u240, u241, u242, u243, u244, u245, u246, u247, u248, u249, u250, u251, u252, undef, undef], []⟩ wr := by
  have HNX := Lib.hid hnext
  have HRT := Lib.hid hret
  clear hnext hret
  have hi0 : (i : Int) ≤ (n : Int) := by omega
  have i1 : (i : Int) < (n : Int) := by omega
  obtain ⟨m, hmm⟩ : ∃ m, (x :: r).length = m := ⟨_, rfl⟩
  have hsl := spc_len 32 l
  rw [hx, hmm] at hsl
  have m1 : 0 < m := by simp at hmm; omega
  have hsp := fun wr' => rsplit_ev l wr' (by omega) (x :: r) hx m hmm
  have hlm : ∀ y ∈ x :: r, y.length ≤ 100000 := fun y hy => by have := (spc_mem 32 l y (by rw [hx]; exact hy)).2; omega
  have hnx := fun (st' : PSt) (w' : World) (ev' : Value) (hn : lineF st l = some st') (hd : DS w' (w.heap.size + 1) st' (w.heap.size + 1) ev') (hb : Below (w.heap.size + 1) wr w') => HR.out.next hls hn hd hb
  have hbd := fun (w' : World) (v : Value) (hv : v = .int .i64 (i + 1 : Nat)) (hn : lineF st l = none) (hb : Below w.heap.size w w') => ReadV.err hv (HR.out.bad hls hn) hb
  have hlf := lineF_of (st := st) hx
  have HZ := Lib.hid (And.intro HR.out.2.1 (And.intro HR.out.2.2.1 (And.intro HR.out.2.2.2.1 (And.intro HR.out.2.2.2.2 (And.intro hlf (And.intro hnx (And.intro hbd (And.intro hlm (And.intro hmm hsl)))))))))
  have ms : m ≤ 90001 := by omega
  clear hnx hbd hlf hlm hx hls hsl hmm hll HR
  have q1 : (x == ([111, 112] : Txt)) = false := (beq_dec x opW).trans (decide_eq_false (fun h => hxx (.inl h)))
  have q2 : (x == ([99, 97, 108, 108] : Txt)) = false := (beq_dec x callW).trans (decide_eq_false (fun h => hxx (.inr h)))
  have hlf2 : lineF st l = match numsF r with
    | some n => doF st x n
    | none => none := HZ.out.2.2.2.2.1.trans (if_neg hxx)
  clear hxx
  have hrl : r.length = m - 1 := by have := HZ.out.2.2.2.2.2.2.2.2.1; simp at this; omega
  have hrm : ∀ y ∈ r, y.length ≤ 10000000 := fun y hy => by have := HZ.out.2.2.2.2.2.2.2.1 y (List.mem_cons_of_mem _ hy); omega
  have hmi : (1 : Int) ≤ (m : Int) := by omega
  rw [hns] at hlf2
  simp only at hlf2
  have hgd := nums_good hns
  have hnl : [x0].length ≤ 90000 := by have := nums_len r _ hns; omega
  obtain ⟨cnt, hcnt⟩ : ∃ cnt, [x0].length = cnt := ⟨_, rfl⟩
  have hcb : cnt ≤ 90000 := by omega
  have HR0 := Lib.hid (And.intro hrl (And.intro hrm (And.intro hns hlf2)))
  have HG := Lib.hid (And.intro hgd (And.intro hnl hcnt))
  clear hrl hrm hns hlf2 hgd hnl hcnt
  have z0 : (x == ([102, 114, 97, 109, 101, 115] : Txt)) = false := (beq_dec x framesW).trans (decide_eq_false (by rw [hxw]; decide))
  have p1 : (x == ([100, 111, 103] : Txt)) = true := (beq_dec x dogW).trans (decide_eq_true hxw)
  have HN := Lib.hid (HR0.out.2.2.2.trans (show doF st x [x0] = some ({ st with c := { st.c with dog := x0 } } : PSt) by rw [hxw]; rfl))
  clear hxw
  obtain rfl : cnt = 1 := HG.out.2.2.symm
  conv => arg 2; whnf
  go_wp2_with (first
    | (go_at_call 70; (with_reducible refine (hsp _).mono ?_); rintro e w1 ⟨g1, c1, rfl, hT, hc1, hb1⟩; have k1 := hT.first; obtain ⟨a1, hs1, hs2, hTr⟩ := slice_tl Tryz.underlying83 rfl hT HZ.out.2.2.2.2.2.2.2.2.1 hc1; have H1 := Lib.hid (And.intro hb1 (And.intro hTr (And.intro hT hc1))); clear hb1 hT hc1 hsp hTr)
    | (go_at_call 72; refine (rnums_some (m - 1) (c1 - 1) H1.out.2.1 HR0.out.1 (by omega) HR0.out.2.1 HR0.out.2.2.1).mono ?_; rintro e w2 ⟨a2, c2, b2, rfl, hI2, hnb2, hb2⟩; have H2 := Lib.hid (H1.out.1.trans (hb2.mono H1.out.1.size)); have k2 := (H1.out.2.2.1.below hb2).first; have HI := Lib.hid (And.intro hI2 hnb2); rw [HG.out.2.2]; clear hb2 hI2 hnb2; obtain ⟨g9, c9, hv9, hg9, hc9, hrd⟩ := HI.out.1.some_of (by simp); simp only [Value.slice.injEq, true_and] at hv9; obtain ⟨rfl, rfl⟩ := hv9; have r0 := hrd 0 x0 rfl; have hg9l := HI.out.1.lt g9 hg9; simp only [List.length_cons, List.length_nil, Nat.zero_add, Nat.reduceAdd] at hc9; obtain ⟨tv, bv, mv, gv, tq, eq, tb, bb, mb, gb, eb, hdc⟩ := HZ.out.1; have hd2 := hdc.below H2.out; have f1 := hd2.2.2.1.rd 5; have f2 := hd2.2.2.1.nf 5; have HD := Lib.hid (hd2.dog x0); clear hd2 hdc; clear hrd hg9))
  refine HNX.out.go _ ?_ (by go_num) (Lib.hid (HZ.out.2.2.2.2.2.1 _ _ _ HN.out HD.out.1 (((Below.mono H2.out (by have := HZ.out.2.1.lt; omega)).trans HD.out.2))))
  rfl
set_option maxRecDepth 1000000 in
set_option maxHeartbeats 40000000 in
theorem rdc_mutex {w wr : World} {a : Option Addr} {ls : List Txt} {n c i g0 o0 : Nat} {st : PSt} {u6 : Value} {l x : Txt} {r : List Txt} (hm : n ≤ 90000) (hin : i < n) (HR : Hid (RdL ls w i st u6 wr)) (hls : ls[i]? = some l) (hll : l.length ≤ 90000) (k0 : wr.cell? ⟨g0, o0 + i, none⟩ = some (.string (B l))) (hx : spc 32 l = x :: r) {x0 x1 : Int} (hxx : ¬ (x = opW ∨ x = callW)) (hns : numsF r = some [x0, x1]) (hxw : x = mutexW) (Q : Exit → Act → World → Prop) (hret : RdRet ls w Q) (hnext : RdNext ls w (some ⟨g0, o0, none⟩) n c i Q) (u3 u4 u9 u10 u11 u12 u13 u14 u15 u16 u17 u18 u19 u20 u21 u22 u23 u24 u25 u26 u27 u28 u29 u30 u31 u32 u33 u34 u35 u36 u37 u38 u39 u40 u41 u42 u43 u44 u45 u46 u47 u48 u49 u50 u51 u52 u53 u54 u55 u56 u57 u58 u59 u60 u61 u62 u63 u64 u65 u66 u67 u68 u69 u70 u71 u72 u73 u74 u75 u76 u77 u78 u79 u80 u81 u82 u83 u84 u85 u86 u87 u88 u89 u90 u91 u92 u93 u94 u95 u96 u97 u98 u99 u100 u101 u102 u103 u104 u105 u106 u107 u108 u109 u110 u111 u112 u113 u114 u115 u116 u117 u118 u119 u120 u121 u122 u123 u124 u125 u126 u127 u128 u129 u130 u131 u132 u133 u134 u135 u136 u137 u138 u139 u140 u141 u142 u143 u144 u145 u146 u147 u148 u149 u150 u151 u152 u153 u154 u155 u156 u157 u158 u159 u160 u161 u162 u163 u164 u165 u166 u167 u168 u169 u170 u171 u172 u173 u174 u175 u176 u177 u178 u179 u180 u181 u182 u183 u184 u185 u186 u187 u188 u189 u190 u191 u192 u193 u194 u195 u196 u197 u198 u199 u200 u201 u202 u203 u204 u205 u206 u207 u208 u209 u210 u211 u212 u213 u214 u215 u216 u217 u218 u219 u220 u221 u222 u223 u224 u225 u226 u227 u228 u229 u230 u231 u232 u233 u234 u235 u236 u237 u238 u239 u240 u241 u242 u243 u244 u245 u246 u247 u248 u249 u250 u251 u252 : Value) :
    rdBody.wp Tryz.prog Q ⟨#[.slice (some ⟨g0, o0, none⟩) n c, undef, .pointer (some ⟨w.heap.size, 0, none⟩), u3, u4, .pointer (some ⟨w.heap.size + 1, 0, none⟩), u6, .int .i64 st.act, .int .i64 i, u9, u10, u11, u12, u13, u14, u15, u16, u17, u18, u19, u20, u21, u22, u23, u24, u25, u26, u27, u28, u29, u30, u31, u32, u33, u34, u35, u36, u37, u38, u39, u40, u41, u42, u43, u44, u45, u46, u47, u48, u49, u50, u51, u52, u53, u54, u55, u56, u57, u58, u59, u60, u61, u62, u63, u64, u65, u66, u67, u68, u69, u70, u71, u72, u73, u74, u75, u76, u77, u78, u79, u80, u81, u82, u83, u84, u85, u86, u87, u88, u89, u90, u91, u92, u93, u94, u95, u96, u97, u98, u99, u100, u101, u102, u103, u104, u105, u106, u107, u108, u109, u110, u111, u112, u113, u114, u115, u116, u117, u118, u119, u120, u121, u122, u123, u124, u125, u126, u127, u128, u129, u130, u131, u132, u133, u134, u135, u136, u137, u138, u139, u140, u141, u142, u143, u144, u145, u146, u147, u148, u149, u150, u151, u152, u153, u154, u155, u156, u157, u158, u159, u160, u161, u162, u163, u164, u165, u166, u167, u168, u169, u170, u171, u172, u173, u174, u175, u176, u177, u178, u179, u180, u181, u182, u183, u184, u185, u186, u187, u188, u189, u190, u191, u192, u193, u194, u195, u196, u197, u198, u199, u200, u201, u202, u203, u204, u205, u206, u207, u208, u209, u210, u211, u212, u213, u214, u215, u216, u217, u218, u219, u220, u221, u222, u223, u224, u225, u226, u227, u228, u229, u230, u231, u232, u233, u234, u235, u236, u237, u238, u239, u240, u241, u242, u243, u244, u245, u246, u247, u248, u249, u250, u251, u252, undef, undef], []⟩ wr := by
  have HNX := Lib.hid hnext
  have HRT := Lib.hid hret
  clear hnext hret
  have hi0 : (i : Int) ≤ (n : Int) := by omega
  have i1 : (i : Int) < (n : Int) := by omega
  obtain ⟨m, hmm⟩ : ∃ m, (x :: r).length = m := ⟨_, rfl⟩
  have hsl := spc_len 32 l
  rw [hx, hmm] at hsl
  have m1 : 0 < m := by simp at hmm; omega
  have hsp := fun wr' => rsplit_ev l wr' (by omega) (x :: r) hx m hmm
  have hlm : ∀ y ∈ x :: r, y.length ≤ 100000 := fun y hy => by have := (spc_mem 32 l y (by rw [hx]; exact hy)).2; omega
  have hnx := fun (st' : PSt) (w' : World) (ev' : Value) (hn : lineF st l = some st') (hd : DS w' (w.heap.size + 1) st' (w.heap.size + 1) ev') (hb : Below (w.heap.size + 1) wr w') => HR.out.next hls hn hd hb
  have hbd := fun (w' : World) (v : Value) (hv : v = .int .i64 (i + 1 : Nat)) (hn : lineF st l = none) (hb : Below w.heap.size w w') => ReadV.err hv (HR.out.bad hls hn) hb
  have hlf := lineF_of (st := st) hx
  have HZ := Lib.hid (And.intro HR.out.2.1 (And.intro HR.out.2.2.1 (And.intro HR.out.2.2.2.1 (And.intro HR.out.2.2.2.2 (And.intro hlf (And.intro hnx (And.intro hbd (And.intro hlm (And.intro hmm hsl)))))))))
  have ms : m ≤ 90001 := by omega
  clear hnx hbd hlf hlm hx hls hsl hmm hll HR
  have q1 : (x == ([111, 112] : Txt)) = false := (beq_dec x opW).trans (decide_eq_false (fun h => hxx (.inl h)))
  have q2 : (x == ([99, 97, 108, 108] : Txt)) = false := (beq_dec x callW).trans (decide_eq_false (fun h => hxx (.inr h)))
  have hlf2 : lineF st l = match numsF r with
    | some n => doF st x n
    | none => none := HZ.out.2.2.2.2.1.trans (if_neg hxx)
  clear hxx
  have hrl : r.length = m - 1 := by have := HZ.out.2.2.2.2.2.2.2.2.1; simp at this; omega
  have hrm : ∀ y ∈ r, y.length ≤ 10000000 := fun y hy => by have := HZ.out.2.2.2.2.2.2.2.1 y (List.mem_cons_of_mem _ hy); omega
  have hmi : (1 : Int) ≤ (m : Int) := by omega
  rw [hns] at hlf2
  simp only at hlf2
  have hgd := nums_good hns
  have hnl : [x0, x1].length ≤ 90000 := by have := nums_len r _ hns; omega
  obtain ⟨cnt, hcnt⟩ : ∃ cnt, [x0, x1].length = cnt := ⟨_, rfl⟩
  have hcb : cnt ≤ 90000 := by omega
  have HR0 := Lib.hid (And.intro hrl (And.intro hrm (And.intro hns hlf2)))
  have HG := Lib.hid (And.intro hgd (And.intro hnl hcnt))
  clear hrl hrm hns hlf2 hgd hnl hcnt
  have z0 : (x == ([102, 114, 97, 109, 101, 115] : Txt)) = false := (beq_dec x framesW).trans (decide_eq_false (by rw [hxw]; decide))
  have z1 : (x == ([100, 111, 103] : Txt)) = false := (beq_dec x dogW).trans (decide_eq_false (by rw [hxw]; decide))
  have p1 : (x == ([109, 117, 116, 101, 120] : Txt)) = true := (beq_dec x mutexW).trans (decide_eq_true hxw)
  have HN := Lib.hid (HR0.out.2.2.2.trans (show doF st x [x0, x1] = some ({ st with c := { st.c with mtx := st.c.mtx ++ [(x0, x1)] } } : PSt) by rw [hxw]; rfl))
  clear hxw
  obtain rfl : cnt = 2 := HG.out.2.2.symm
  conv => arg 2; whnf
  go_wp2_with (first
    | (go_at_call 70; (with_reducible refine (hsp _).mono ?_); rintro e w1 ⟨g1, c1, rfl, hT, hc1, hb1⟩; have k1 := hT.first; obtain ⟨a1, hs1, hs2, hTr⟩ := slice_tl Tryz.underlying83 rfl hT HZ.out.2.2.2.2.2.2.2.2.1 hc1; have H1 := Lib.hid (And.intro hb1 (And.intro hTr (And.intro hT hc1))); clear hb1 hT hc1 hsp hTr)
    | (go_at_call 72; refine (rnums_some (m - 1) (c1 - 1) H1.out.2.1 HR0.out.1 (by omega) HR0.out.2.1 HR0.out.2.2.1).mono ?_; rintro e w2 ⟨a2, c2, b2, rfl, hI2, hnb2, hb2⟩; have H2 := Lib.hid (H1.out.1.trans (hb2.mono H1.out.1.size)); have k2 := (H1.out.2.2.1.below hb2).first; have HI := Lib.hid (And.intro hI2 hnb2); rw [HG.out.2.2]; clear hb2 hI2 hnb2; obtain ⟨g9, c9, hv9, hg9, hc9, hrd⟩ := HI.out.1.some_of (by simp); simp only [Value.slice.injEq, true_and] at hv9; obtain ⟨rfl, rfl⟩ := hv9; have r0 := hrd 0 x0 rfl; have r1 := hrd 1 x1 rfl; have hg9l := HI.out.1.lt g9 hg9; simp only [List.length_cons, List.length_nil, Nat.zero_add, Nat.reduceAdd] at hc9; clear hrd hg9))
  obtain ⟨tv, bv, mv, gv, tq, eq, tb, bb, mb, gb, eb, hdc⟩ := HZ.out.1
  have hd2 := hdc.below H2.out
  obtain ⟨h1, h2, h3, h4, h5, h6, h7, h8, h9⟩ := id hd2
  have hP := h4.rm
  obtain ⟨a0, c0, rfl⟩ := hP.slice
  obtain ⟨nn, hnn⟩ : ∃ nn, st.c.mtx.length = nn := ⟨_, rfl⟩
  have hbA := (((Below.refl w2.heap.size w2).alloc (Nat.le_refl _) (.cells #[.int .i64 x0, .int .i64 x1] 87))).drew
  obtain ⟨v', WC, hrun, hA⟩ := app_run (P := Tryz.prog) (w := ((w2.alloc (.cells #[.int .i64 x0, .int .i64 x1] 87)).drew)) (S := 38) 38 _ 2 16 infoMx rfl (by decide) (by decide) Tryz.underlying38 (hP.below hbA) ⟨w2.heap.size, 0, none⟩ 1 1 [.int .i64 x0, .int .i64 x1] rfl (new_cells (W := w2) [.int .i64 x0, .int .i64 x1] _ rfl) (by intro u hu; simp at hu; rcases hu with rfl | rfl <;> rfl) (by have := HZ.out.2.2.2.1.2.2.1; omega)
  have hA0 := hA
  obtain ⟨b', hI3, hu3, hb3⟩ := hA
  obtain ⟨a3, c3, rfl⟩ := hI3.slice
  have neR : mb ≠ some (w.heap.size + 1) := hP.neT h3 (by decide)
  have hRA := Blk.below hbA h3 h3.lt
  have hRC := Blk.upd hu3 hRA neR
  rw [hnn] at hrun hI3 h3 hRA hRC
  have cW := h3.rd 2
  have cA := hRA.rd 2
  have cC := hRC.rd 2
  have CW := Lib.hid (And.intro cW (And.intro r0 r1))
  have CA := Lib.hid (And.intro cA trivial)
  have CC := Lib.hid (And.intro cC trivial)
  have HSC := Lib.hid (And.intro cC (hRC.nf 2))
  clear cW cA cC
  have hD := (hd2.mtx hbA hA0)
  rw [hnn] at hD
  have HD := Lib.hid hD
  clear hD
  have hnb : nn ≤ 100000 := by have hs := HZ.out.2.2.2.1.2.2.1; omega
  clear h1 h2 h3 h4 h5 h6 h7 h8 h9 hd2 hdc hP hbA hI3 hu3 hb3 neR hRA hRC hA0 r0 r1
  obtain ⟨tl, htl⟩ : ∃ tl : List Value, [u155, u156, u157, u158, u159, u160, u161, u162, u163, u164, u165, u166, u167, u168, u169, u170, u171, u172, u173, u174, u175, u176, u177, u178, u179, u180, u181, u182, u183, u184, u185, u186, u187, u188, u189, u190, u191, u192, u193, u194, u195, u196, u197, u198, u199, u200, u201, u202, u203, u204, u205, u206, u207, u208, u209, u210, u211, u212, u213, u214, u215, u216, u217, u218, u219, u220, u221, u222, u223, u224, u225, u226, u227, u228, u229, u230, u231, u232, u233, u234, u235, u236, u237, u238, u239, u240, u241, u242, u243, u244, u245, u246, u247, u248, u249, u250, u251, u252, undef, undef] = tl := ⟨_, rfl⟩
  rw [htl]
  refine region_K 9 10 12 w2.drew ((w2.alloc (.cells #[.int .i64 x0, .int .i64 x1] 87)).drew) WC (WC.setCell ⟨w.heap.size + 1, 2, none⟩ (.slice a3 (nn + 1) c3)) rfl (by kernel_rfl) (by kernel_rfl) ?_
  apply wpJ_op rfl (by rfl)
  · intro f w1 hf hJ Q1 hQ
    simp only [Act.put, List.setIfInBounds_toArray, List.set_cons_zero, List.set_cons_succ] at hQ
    go_wp2_with (fail)
    exact hQ _ _ rfl (hJ.other rfl hf (by decide) (by decide) (by decide))
  simp only [Act.put, List.setIfInBounds_toArray, List.set_cons_zero, List.set_cons_succ]
  apply wpJ_op rfl (by rfl)
  · intro f w1 hf hJ Q1 hQ
    have hS : f 12 = false := path_no hJ.1 [10, 1] (by kernel_rfl) (by decide) hf.1
    have hF := hJ.pre (F := (fun x : World => x.cell? ⟨w.heap.size + 1, 2, none⟩ = some (.slice a0 nn c0) ∧ True)) hS ⟨CW.out.1, trivial⟩ CA.out CC.out
    have g1 := hF.1
    clear hF
    simp only [Act.put, List.setIfInBounds_toArray, List.set_cons_zero, List.set_cons_succ] at hQ
    go_wp2_with (fail)
    exact hQ _ _ rfl (hJ.other rfl hf (by decide) (by decide) (by decide))
  simp only [Act.put, List.setIfInBounds_toArray, List.set_cons_zero, List.set_cons_succ]
  apply wpJ_op rfl (by rfl)
  · intro f w1 hf hJ Q1 hQ
    simp only [Act.put, List.setIfInBounds_toArray, List.set_cons_zero, List.set_cons_succ] at hQ
    go_wp2_with (fail)
    exact hQ _ _ rfl (hJ.other rfl hf (by decide) (by decide) (by decide))
  simp only [Act.put, List.setIfInBounds_toArray, List.set_cons_zero, List.set_cons_succ]
  apply wpJ_op rfl (by rfl)
  · intro f w1 hf hJ Q1 hQ
    simp only [Act.put, List.setIfInBounds_toArray, List.set_cons_zero, List.set_cons_succ] at hQ
    go_wp2_with (fail)
    exact hQ _ _ rfl (hJ.other rfl hf (by decide) (by decide) (by decide))
  simp only [Act.put, List.setIfInBounds_toArray, List.set_cons_zero, List.set_cons_succ]
  apply wpJ_op rfl (by rfl)
  · intro f w1 hf hJ Q1 hQ
    have hA : f 9 = false := path_no hJ.1 [8, 4] (by kernel_rfl) (by decide) hf.1
    have hC : f 10 = false := path_no hJ.1 [9] (by kernel_rfl) (by decide) hA
    have hS : f 12 = false := path_no hJ.1 [10] (by kernel_rfl) (by decide) hC
    rw [hJ.atA hA hC hS]
    have hF := CW.out
    have g1 := hF.2.1
    clear hF
    simp only [Act.put, List.setIfInBounds_toArray, List.set_cons_zero, List.set_cons_succ] at hQ
    go_wp2_with (fail)
    exact hQ _ _ rfl (by have h9 := hJ.other rfl hf (by decide) (by decide) (by decide); rwa [hJ.atA hA hC hS] at h9)
  simp only [Act.put, List.setIfInBounds_toArray, List.set_cons_zero, List.set_cons_succ]
  apply wpJ_op rfl (by rfl)
  · intro f w1 hf hJ Q1 hQ
    simp only [Act.put, List.setIfInBounds_toArray, List.set_cons_zero, List.set_cons_succ] at hQ
    go_wp2_with (fail)
    exact hQ _ _ rfl (hJ.other rfl hf (by decide) (by decide) (by decide))
  simp only [Act.put, List.setIfInBounds_toArray, List.set_cons_zero, List.set_cons_succ]
  apply wpJ_op rfl (by rfl)
  · intro f w1 hf hJ Q1 hQ
    simp only [Act.put, List.setIfInBounds_toArray, List.set_cons_zero, List.set_cons_succ] at hQ
    go_wp2_with (fail)
    exact hQ _ _ rfl (hJ.other rfl hf (by decide) (by decide) (by decide))
  simp only [Act.put, List.setIfInBounds_toArray, List.set_cons_zero, List.set_cons_succ]
  apply wpJ_op rfl (by rfl)
  · intro f w1 hf hJ Q1 hQ
    have hA : f 9 = false := path_no hJ.1 [8, 7] (by kernel_rfl) (by decide) hf.1
    have hC : f 10 = false := path_no hJ.1 [9] (by kernel_rfl) (by decide) hA
    have hS : f 12 = false := path_no hJ.1 [10] (by kernel_rfl) (by decide) hC
    rw [hJ.atA hA hC hS]
    have hF := CW.out
    have g1 := hF.2.2
    clear hF
    simp only [Act.put, List.setIfInBounds_toArray, List.set_cons_zero, List.set_cons_succ] at hQ
    go_wp2_with (fail)
    exact hQ _ _ rfl (by have h9 := hJ.other rfl hf (by decide) (by decide) (by decide); rwa [hJ.atA hA hC hS] at h9)
  simp only [Act.put, List.setIfInBounds_toArray, List.set_cons_zero, List.set_cons_succ]
  apply wpJ_op rfl (by rfl)
  · intro f w1 hf hJ Q1 hQ
    simp only [Act.put, List.setIfInBounds_toArray, List.set_cons_zero, List.set_cons_succ] at hQ
    go_wp2_with (fail)
    exact hQ _ _ rfl (hJ.other rfl hf (by decide) (by decide) (by decide))
  simp only [Act.put, List.setIfInBounds_toArray, List.set_cons_zero, List.set_cons_succ]
  apply wpJ_op rfl (by rfl)
  · intro f w1 hf hJ Q1 hQ
    have hC : f 10 = false := path_no hJ.1 [9] (by kernel_rfl) (by decide) hf.1
    have hS : f 12 = false := path_no hJ.1 [10] (by kernel_rfl) (by decide) hC
    rw [hJ.atA hf.1 hC hS]
    simp only [Act.put, List.setIfInBounds_toArray, List.set_cons_zero, List.set_cons_succ] at hQ
    go_wp2_with (fail)
    exact hQ _ _ rfl (hJ.goA rfl hf hC hS (by decide) (by decide))
  simp only [Act.put, List.setIfInBounds_toArray, List.set_cons_zero, List.set_cons_succ]
  apply wpJ_op rfl (by rfl)
  · intro f w1 hf hJ Q1 hQ
    have hS : f 12 = false := path_no hJ.1 [10] (by kernel_rfl) (by decide) hf.1
    have hA : f 9 = true := up_dep hf 9 (by kernel_rfl)
    rw [hJ.atC hA hf.1 hS]
    simp only [Act.put, List.setIfInBounds_toArray, List.set_cons_zero, List.set_cons_succ] at hQ
    go_wp2_with (at_builtin; refine wp_appX rfl _ _ 38 rfl rfl rfl hrun ?_)
    exact hQ _ _ rfl (hJ.goC rfl hf hS (by decide))
  simp only [Act.put, List.setIfInBounds_toArray, List.set_cons_zero, List.set_cons_succ]
  apply wpJ_op rfl (by rfl)
  · intro f w1 hf hJ Q1 hQ
    simp only [Act.put, List.setIfInBounds_toArray, List.set_cons_zero, List.set_cons_succ] at hQ
    go_wp2_with (fail)
    exact hQ _ _ rfl (hJ.other rfl hf (by decide) (by decide) (by decide))
  simp only [Act.put, List.setIfInBounds_toArray, List.set_cons_zero, List.set_cons_succ]
  apply wpJ_op (v := undef) rfl (by rfl)
  · intro f w1 hf hJ Q1 hQ
    have hC : f 10 = true := up_dep hf 10 (by kernel_rfl)
    rw [hJ.atS hC hf.1]
    obtain ⟨e1, e2⟩ := HSC.out
    simp only [Act.put, List.setIfInBounds_toArray, List.set_cons_zero, List.set_cons_succ] at hQ
    go_wp2_with (fail)
    exact hQ _ _ rfl (hJ.goS rfl hf)
  simp only [Act.put, List.setIfInBounds_toArray, List.set_cons_zero, List.set_cons_succ]
  refine wpJ_nil ?_
  intro w9 hJ9
  rw [hJ9.fin rfl]
  clear hJ9
  subst htl
  go_wp2_with (fail)
  refine HNX.out.go _ ?_ (by go_num) (Lib.hid (HZ.out.2.2.2.2.2.1 _ _ _ HN.out HD.out.1 (((Below.mono H2.out (by have := HZ.out.2.1.lt; omega)).trans HD.out.2))))
  rfl
set_option maxRecDepth 1000000 in
set_option maxHeartbeats 40000000 in
theorem rdc_gap {w wr : World} {a : Option Addr} {ls : List Txt} {n c i g0 o0 : Nat} {st : PSt} {u6 : Value} {l x : Txt} {r : List Txt} (hm : n ≤ 90000) (hin : i < n) (HR : Hid (RdL ls w i st u6 wr)) (hls : ls[i]? = some l) (hll : l.length ≤ 90000) (k0 : wr.cell? ⟨g0, o0 + i, none⟩ = some (.string (B l))) (hx : spc 32 l = x :: r) {x0 : Int} (hxx : ¬ (x = opW ∨ x = callW)) (hns : numsF r = some [x0]) (hxw : x = gapW) (Q : Exit → Act → World → Prop) (hret : RdRet ls w Q) (hnext : RdNext ls w (some ⟨g0, o0, none⟩) n c i Q) (u3 u4 u9 u10 u11 u12 u13 u14 u15 u16 u17 u18 u19 u20 u21 u22 u23 u24 u25 u26 u27 u28 u29 u30 u31 u32 u33 u34 u35 u36 u37 u38 u39 u40 u41 u42 u43 u44 u45 u46 u47 u48 u49 u50 u51 u52 u53 u54 u55 u56 u57 u58 u59 u60 u61 u62 u63 u64 u65 u66 u67 u68 u69 u70 u71 u72 u73 u74 u75 u76 u77 u78 u79 u80 u81 u82 u83 u84 u85 u86 u87 u88 u89 u90 u91 u92 u93 u94 u95 u96 u97 u98 u99 u100 u101 u102 u103 u104 u105 u106 u107 u108 u109 u110 u111 u112 u113 u114 u115 u116 u117 u118 u119 u120 u121 u122 u123 u124 u125 u126 u127 u128 u129 u130 u131 u132 u133 u134 u135 u136 u137 u138 u139 u140 u141 u142 u143 u144 u145 u146 u147 u148 u149 u150 u151 u152 u153 u154 u155 u156 u157 u158 u159 u160 u161 u162 u163 u164 u165 u166 u167 u168 u169 u170 u171 u172 u173 u174 u175 u176 u177 u178 u179 u180 u181 u182 u183 u184 u185 u186 u187 u188 u189 u190 u191 u192 u193 u194 u195 u196 u197 u198 u199 u200 u201 u202 u203 u204 u205 u206 u207 u208 u209 u210 u211 u212 u213 u214 u215 u216 u217 u218 u219 u220 u221 u222 u223 u224 u225 u226 u227 u228 u229 u230 u231 u232 u233 u234 u235 u236 u237 u238 u239 u240 u241 u242 u243 u244 u245 u246 u247 u248 u249 u250 u251 u252 : Value) :
    rdBody.wp Tryz.prog Q ⟨#[.slice (some ⟨g0, o0, none⟩) n c, undef, .pointer (some ⟨w.heap.size, 0, none⟩), u3, u4, .pointer (some ⟨w.heap.size + 1, 0, none⟩), u6, .int .i64 st.act, .int .i64 i, u9, u10, u11, u12, u13, u14, u15, u16, u17, u18, u19, u20, u21, u22, u23, u24, u25, u26, u27, u28, u29, u30, u31, u32, u33, u34, u35, u36, u37, u38, u39, u40, u41, u42, u43, u44, u45, u46, u47, u48, u49, u50, u51, u52, u53, u54, u55, u56, u57, u58, u59, u60, u61, u62, u63, u64, u65, u66, u67, u68, u69, u70, u71, u72, u73, u74, u75, u76, u77, u78, u79, u80, u81, u82, u83, u84, u85, u86, u87, u88, u89, u90, u91, u92, u93, u94, u95, u96, u97, u98, u99, u100, u101, u102, u103, u104, u105, u106, u107, u108, u109, u110, u111, u112, u113, u114, u115, u116, u117, u118, u119, u120, u121, u122, u123, u124, u125, u126, u127, u128, u129, u130, u131, u132, u133, u134, u135, u136, u137, u138, u139, u140, u141, u142, u143, u144, u145, u146, u147, u148, u149, u150, u151, u152, u153, u154, u155, u156, u157, u158, u159, u160, u161, u162, u163, u164, u165, u166, u167, u168, u169, u170, u171, u172, u173, u174, u175, u176, u177, u178, u179, u180, u181, u182, u183, u184, u185, u186, u187, u188, u189, u190, u191, u192, u193, u194, u195, u196, u197, u198, u199, u200, u201, u202, u203, u204, u205, u206, u207, u208, u209, u210, u211, u212, u213, u214, u215, u216, u217, u218, u219, u220, u221, u222, u223, u224, u225, u226, u227, u228, u229, u230, u231, u232, u233, u234, u235, u236, u237, u238, u239, u240, u241, u242, u243, u244, u245, u246, u247, u248, u249, u250, u251, u252, undef, undef], []⟩ wr := by
  have HNX := Lib.hid hnext
  have HRT := Lib.hid hret
  clear hnext hret
  have hi0 : (i : Int) ≤ (n : Int) := by omega
  have i1 : (i : Int) < (n : Int) := by omega
  obtain ⟨m, hmm⟩ : ∃ m, (x :: r).length = m := ⟨_, rfl⟩
  have hsl := spc_len 32 l
  rw [hx, hmm] at hsl
  have m1 : 0 < m := by simp at hmm; omega
  have hsp := fun wr' => rsplit_ev l wr' (by omega) (x :: r) hx m hmm
  have hlm : ∀ y ∈ x :: r, y.length ≤ 100000 := fun y hy => by have := (spc_mem 32 l y (by rw [hx]; exact hy)).2; omega
  have hnx := fun (st' : PSt) (w' : World) (ev' : Value) (hn : lineF st l = some st') (hd : DS w' (w.heap.size + 1) st' (w.heap.size + 1) ev') (hb : Below (w.heap.size + 1) wr w') => HR.out.next hls hn hd hb
  have hbd := fun (w' : World) (v : Value) (hv : v = .int .i64 (i + 1 : Nat)) (hn : lineF st l = none) (hb : Below w.heap.size w w') => ReadV.err hv (HR.out.bad hls hn) hb
  have hlf := lineF_of (st := st) hx
  have HZ := Lib.hid (And.intro HR.out.2.1 (And.intro HR.out.2.2.1 (And.intro HR.out.2.2.2.1 (And.intro HR.out.2.2.2.2 (And.intro hlf (And.intro hnx (And.intro hbd (And.intro hlm (And.intro hmm hsl)))))))))
  have ms : m ≤ 90001 := by omega
  clear hnx hbd hlf hlm hx hls hsl hmm hll HR
  have q1 : (x == ([111, 112] : Txt)) = false := (beq_dec x opW).trans (decide_eq_false (fun h => hxx (.inl h)))
  have q2 : (x == ([99, 97, 108, 108] : Txt)) = false := (beq_dec x callW).trans (decide_eq_false (fun h => hxx (.inr h)))
  have hlf2 : lineF st l = match numsF r with
    | some n => doF st x n
    | none => none := HZ.out.2.2.2.2.1.trans (if_neg hxx)
  clear hxx
  have hrl : r.length = m - 1 := by have := HZ.out.2.2.2.2.2.2.2.2.1; simp at this; omega
  have hrm : ∀ y ∈ r, y.length ≤ 10000000 := fun y hy => by have := HZ.out.2.2.2.2.2.2.2.1 y (List.mem_cons_of_mem _ hy); omega
  have hmi : (1 : Int) ≤ (m : Int) := by omega
  rw [hns] at hlf2
  simp only at hlf2
  have hgd := nums_good hns
  have hnl : [x0].length ≤ 90000 := by have := nums_len r _ hns; omega
  obtain ⟨cnt, hcnt⟩ : ∃ cnt, [x0].length = cnt := ⟨_, rfl⟩
  have hcb : cnt ≤ 90000 := by omega
  have HR0 := Lib.hid (And.intro hrl (And.intro hrm (And.intro hns hlf2)))
  have HG := Lib.hid (And.intro hgd (And.intro hnl hcnt))
  clear hrl hrm hns hlf2 hgd hnl hcnt
  have z0 : (x == ([102, 114, 97, 109, 101, 115] : Txt)) = false := (beq_dec x framesW).trans (decide_eq_false (by rw [hxw]; decide))
  have z1 : (x == ([100, 111, 103] : Txt)) = false := (beq_dec x dogW).trans (decide_eq_false (by rw [hxw]; decide))
  have z2 : (x == ([109, 117, 116, 101, 120] : Txt)) = false := (beq_dec x mutexW).trans (decide_eq_false (by rw [hxw]; decide))
  have p1 : (x == ([103, 97, 112] : Txt)) = true := (beq_dec x gapW).trans (decide_eq_true hxw)
  have HN := Lib.hid (HR0.out.2.2.2.trans (show doF st x [x0] = some ({ st with c := { st.c with gaps := st.c.gaps ++ [x0] } } : PSt) by rw [hxw]; rfl))
  clear hxw
  obtain rfl : cnt = 1 := HG.out.2.2.symm
  conv => arg 2; whnf
  go_wp2_with (first
    | (go_at_call 70; (with_reducible refine (hsp _).mono ?_); rintro e w1 ⟨g1, c1, rfl, hT, hc1, hb1⟩; have k1 := hT.first; obtain ⟨a1, hs1, hs2, hTr⟩ := slice_tl Tryz.underlying83 rfl hT HZ.out.2.2.2.2.2.2.2.2.1 hc1; have H1 := Lib.hid (And.intro hb1 (And.intro hTr (And.intro hT hc1))); clear hb1 hT hc1 hsp hTr)
    | (go_at_call 72; refine (rnums_some (m - 1) (c1 - 1) H1.out.2.1 HR0.out.1 (by omega) HR0.out.2.1 HR0.out.2.2.1).mono ?_; rintro e w2 ⟨a2, c2, b2, rfl, hI2, hnb2, hb2⟩; have H2 := Lib.hid (H1.out.1.trans (hb2.mono H1.out.1.size)); have k2 := (H1.out.2.2.1.below hb2).first; have HI := Lib.hid (And.intro hI2 hnb2); rw [HG.out.2.2]; clear hb2 hI2 hnb2; obtain ⟨g9, c9, hv9, hg9, hc9, hrd⟩ := HI.out.1.some_of (by simp); simp only [Value.slice.injEq, true_and] at hv9; obtain ⟨rfl, rfl⟩ := hv9; have r0 := hrd 0 x0 rfl; have hg9l := HI.out.1.lt g9 hg9; simp only [List.length_cons, List.length_nil, Nat.zero_add, Nat.reduceAdd] at hc9; clear hrd hg9))
  obtain ⟨tv, bv, mv, gv, tq, eq, tb, bb, mb, gb, eb, hdc⟩ := HZ.out.1
  have hd2 := hdc.below H2.out
  obtain ⟨h1, h2, h3, h4, h5, h6, h7, h8, h9⟩ := id hd2
  have hP := h4.rg
  obtain ⟨a0, c0, rfl⟩ := hP.slice
  obtain ⟨nn, hnn⟩ : ∃ nn, st.c.gaps.length = nn := ⟨_, rfl⟩
  have hbA := (((Below.refl w2.heap.size w2).alloc (Nat.le_refl _) (.cells #[.int .i64 x0] 3))).drew
  obtain ⟨v', WC, hrun, hA⟩ := app_run (P := Tryz.prog) (w := ((w2.alloc (.cells #[.int .i64 x0] 3)).drew)) (S := 39) 39 _ 1 8 infoInt' rfl (by decide) (by decide) Tryz.underlying39 (hP.below hbA) ⟨w2.heap.size, 0, none⟩ 1 1 [.int .i64 x0] rfl (new_cells (W := w2) [.int .i64 x0] _ rfl) (by intro u hu; simp at hu; subst hu; rfl) (by have := HZ.out.2.2.2.1.2.2.2.1; omega)
  have hA0 := hA
  obtain ⟨b', hI3, hu3, hb3⟩ := hA
  obtain ⟨a3, c3, rfl⟩ := hI3.slice
  have neR : gb ≠ some (w.heap.size + 1) := hP.neT h3 (by decide)
  have hRA := Blk.below hbA h3 h3.lt
  have hRC := Blk.upd hu3 hRA neR
  rw [hnn] at hrun hI3 h3 hRA hRC
  have cW := h3.rd 3
  have cA := hRA.rd 3
  have cC := hRC.rd 3
  have CW := Lib.hid (And.intro cW r0)
  have CA := Lib.hid (And.intro cA trivial)
  have CC := Lib.hid (And.intro cC trivial)
  have HSC := Lib.hid (And.intro cC (hRC.nf 3))
  clear cW cA cC
  have hD := (hd2.gap hbA hA0)
  rw [hnn] at hD
  have HD := Lib.hid hD
  clear hD
  have hnb : nn ≤ 100000 := by have hs := HZ.out.2.2.2.1.2.2.2.1; omega
  clear h1 h2 h3 h4 h5 h6 h7 h8 h9 hd2 hdc hP hbA hI3 hu3 hb3 neR hRA hRC hA0 r0
  obtain ⟨tl, htl⟩ : ∃ tl : List Value, [u173, u174, u175, u176, u177, u178, u179, u180, u181, u182, u183, u184, u185, u186, u187, u188, u189, u190, u191, u192, u193, u194, u195, u196, u197, u198, u199, u200, u201, u202, u203, u204, u205, u206, u207, u208, u209, u210, u211, u212, u213, u214, u215, u216, u217, u218, u219, u220, u221, u222, u223, u224, u225, u226, u227, u228, u229, u230, u231, u232, u233, u234, u235, u236, u237, u238, u239, u240, u241, u242, u243, u244, u245, u246, u247, u248, u249, u250, u251, u252, undef, undef] = tl := ⟨_, rfl⟩
  rw [htl]
  refine region_K 5 6 8 w2.drew ((w2.alloc (.cells #[.int .i64 x0] 3)).drew) WC (WC.setCell ⟨w.heap.size + 1, 3, none⟩ (.slice a3 (nn + 1) c3)) rfl (by kernel_rfl) (by kernel_rfl) ?_
  apply wpJ_op rfl (by rfl)
  · intro f w1 hf hJ Q1 hQ
    simp only [Act.put, List.setIfInBounds_toArray, List.set_cons_zero, List.set_cons_succ] at hQ
    go_wp2_with (fail)
    exact hQ _ _ rfl (hJ.other rfl hf (by decide) (by decide) (by decide))
  simp only [Act.put, List.setIfInBounds_toArray, List.set_cons_zero, List.set_cons_succ]
  apply wpJ_op rfl (by rfl)
  · intro f w1 hf hJ Q1 hQ
    have hS : f 8 = false := path_no hJ.1 [6, 1] (by kernel_rfl) (by decide) hf.1
    have hF := hJ.pre (F := (fun x : World => x.cell? ⟨w.heap.size + 1, 3, none⟩ = some (.slice a0 nn c0) ∧ True)) hS ⟨CW.out.1, trivial⟩ CA.out CC.out
    have g1 := hF.1
    clear hF
    simp only [Act.put, List.setIfInBounds_toArray, List.set_cons_zero, List.set_cons_succ] at hQ
    go_wp2_with (fail)
    exact hQ _ _ rfl (hJ.other rfl hf (by decide) (by decide) (by decide))
  simp only [Act.put, List.setIfInBounds_toArray, List.set_cons_zero, List.set_cons_succ]
  apply wpJ_op rfl (by rfl)
  · intro f w1 hf hJ Q1 hQ
    simp only [Act.put, List.setIfInBounds_toArray, List.set_cons_zero, List.set_cons_succ] at hQ
    go_wp2_with (fail)
    exact hQ _ _ rfl (hJ.other rfl hf (by decide) (by decide) (by decide))
  simp only [Act.put, List.setIfInBounds_toArray, List.set_cons_zero, List.set_cons_succ]
  apply wpJ_op rfl (by rfl)
  · intro f w1 hf hJ Q1 hQ
    simp only [Act.put, List.setIfInBounds_toArray, List.set_cons_zero, List.set_cons_succ] at hQ
    go_wp2_with (fail)
    exact hQ _ _ rfl (hJ.other rfl hf (by decide) (by decide) (by decide))
  simp only [Act.put, List.setIfInBounds_toArray, List.set_cons_zero, List.set_cons_succ]
  apply wpJ_op rfl (by rfl)
  · intro f w1 hf hJ Q1 hQ
    have hA : f 5 = false := path_no hJ.1 [4] (by kernel_rfl) (by decide) hf.1
    have hC : f 6 = false := path_no hJ.1 [5] (by kernel_rfl) (by decide) hA
    have hS : f 8 = false := path_no hJ.1 [6] (by kernel_rfl) (by decide) hC
    rw [hJ.atA hA hC hS]
    have hF := CW.out
    have g1 := hF.2
    clear hF
    simp only [Act.put, List.setIfInBounds_toArray, List.set_cons_zero, List.set_cons_succ] at hQ
    go_wp2_with (fail)
    exact hQ _ _ rfl (by have h9 := hJ.other rfl hf (by decide) (by decide) (by decide); rwa [hJ.atA hA hC hS] at h9)
  simp only [Act.put, List.setIfInBounds_toArray, List.set_cons_zero, List.set_cons_succ]
  apply wpJ_op rfl (by rfl)
  · intro f w1 hf hJ Q1 hQ
    have hC : f 6 = false := path_no hJ.1 [5] (by kernel_rfl) (by decide) hf.1
    have hS : f 8 = false := path_no hJ.1 [6] (by kernel_rfl) (by decide) hC
    rw [hJ.atA hf.1 hC hS]
    simp only [Act.put, List.setIfInBounds_toArray, List.set_cons_zero, List.set_cons_succ] at hQ
    go_wp2_with (fail)
    exact hQ _ _ rfl (hJ.goA rfl hf hC hS (by decide) (by decide))
  simp only [Act.put, List.setIfInBounds_toArray, List.set_cons_zero, List.set_cons_succ]
  apply wpJ_op rfl (by rfl)
  · intro f w1 hf hJ Q1 hQ
    have hS : f 8 = false := path_no hJ.1 [6] (by kernel_rfl) (by decide) hf.1
    have hA : f 5 = true := up_dep hf 5 (by kernel_rfl)
    rw [hJ.atC hA hf.1 hS]
    simp only [Act.put, List.setIfInBounds_toArray, List.set_cons_zero, List.set_cons_succ] at hQ
    go_wp2_with (at_builtin; refine wp_appX rfl _ _ 39 rfl rfl rfl hrun ?_)
    exact hQ _ _ rfl (hJ.goC rfl hf hS (by decide))
  simp only [Act.put, List.setIfInBounds_toArray, List.set_cons_zero, List.set_cons_succ]
  apply wpJ_op rfl (by rfl)
  · intro f w1 hf hJ Q1 hQ
    simp only [Act.put, List.setIfInBounds_toArray, List.set_cons_zero, List.set_cons_succ] at hQ
    go_wp2_with (fail)
    exact hQ _ _ rfl (hJ.other rfl hf (by decide) (by decide) (by decide))
  simp only [Act.put, List.setIfInBounds_toArray, List.set_cons_zero, List.set_cons_succ]
  apply wpJ_op (v := undef) rfl (by rfl)
  · intro f w1 hf hJ Q1 hQ
    have hC : f 6 = true := up_dep hf 6 (by kernel_rfl)
    rw [hJ.atS hC hf.1]
    obtain ⟨e1, e2⟩ := HSC.out
    simp only [Act.put, List.setIfInBounds_toArray, List.set_cons_zero, List.set_cons_succ] at hQ
    go_wp2_with (fail)
    exact hQ _ _ rfl (hJ.goS rfl hf)
  simp only [Act.put, List.setIfInBounds_toArray, List.set_cons_zero, List.set_cons_succ]
  refine wpJ_nil ?_
  intro w9 hJ9
  rw [hJ9.fin rfl]
  clear hJ9
  subst htl
  go_wp2_with (fail)
  refine HNX.out.go _ ?_ (by go_num) (Lib.hid (HZ.out.2.2.2.2.2.1 _ _ _ HN.out HD.out.1 (((Below.mono H2.out (by have := HZ.out.2.1.lt; omega)).trans HD.out.2))))
  rfl
end Go.Proofs.YtefaaginedideaaGreatDoor
