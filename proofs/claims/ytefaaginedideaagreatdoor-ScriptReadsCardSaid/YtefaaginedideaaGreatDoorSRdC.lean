/-
  Script: a line read by the document, case by case.
-/
import Derived.Test.YtefaaginedideaaGreatDoorSRdA
import Derived.Deep.CutRange
namespace Go.Proofs.YtefaaginedideaaGreatDoor
set_option linter.unusedSimpArgs false
set_option linter.unusedVariables false
open Go.RowKit Own RegJ
open Go.Lib hiding intOf

set_option maxRecDepth 1000000 in
set_option maxHeartbeats 40000000 in
theorem rdc_two {w wr : World} {a : Option Addr} {ls : List Txt} {n c i g0 o0 : Nat} {st : PSt} {u6 : Value} {l x : Txt} {r : List Txt} (hm : n ≤ 90000) (hin : i < n) (HR : Hid (RdL ls w i st u6 wr)) (hls : ls[i]? = some l) (hll : l.length ≤ 90000) (k0 : wr.cell? ⟨g0, o0 + i, none⟩ = some (.string (B l))) (hx : spc 32 l = x :: r) {o : OpV} (hxx : x = opW ∨ x = callW) (hsf : stepF (x :: r) = some o) (h1 : st.act = 2) (Q : Exit → Act → World → Prop) (hret : RdRet ls w Q) (hnext : RdNext ls w (some ⟨g0, o0, none⟩) n c i Q) (u3 u4 u9 u10 u11 u12 u13 u14 u15 u16 u17 u18 u19 u20 u21 u22 u23 u24 u25 u26 u27 u28 u29 u30 u31 u32 u33 u34 u35 u36 u37 u38 u39 u40 u41 u42 u43 u44 u45 u46 u47 u48 u49 u50 u51 u52 u53 u54 u55 u56 u57 u58 u59 u60 u61 u62 u63 u64 u65 u66 u67 u68 u69 u70 u71 u72 u73 u74 u75 u76 u77 u78 u79 u80 u81 u82 u83 u84 u85 u86 u87 u88 u89 u90 u91 u92 u93 u94 u95 u96 u97 u98 u99 u100 u101 u102 u103 u104 u105 u106 u107 u108 u109 u110 u111 u112 u113 u114 u115 u116 u117 u118 u119 u120 u121 u122 u123 u124 u125 u126 u127 u128 u129 u130 u131 u132 u133 u134 u135 u136 u137 u138 u139 u140 u141 u142 u143 u144 u145 u146 u147 u148 u149 u150 u151 u152 u153 u154 u155 u156 u157 u158 u159 u160 u161 u162 u163 u164 u165 u166 u167 u168 u169 u170 u171 u172 u173 u174 u175 u176 u177 u178 u179 u180 u181 u182 u183 u184 u185 u186 u187 u188 u189 u190 u191 u192 u193 u194 u195 u196 u197 u198 u199 u200 u201 u202 u203 u204 u205 u206 u207 u208 u209 u210 u211 u212 u213 u214 u215 u216 u217 u218 u219 u220 u221 u222 u223 u224 u225 u226 u227 u228 u229 u230 u231 u232 u233 u234 u235 u236 u237 u238 u239 u240 u241 u242 u243 u244 u245 u246 u247 u248 u249 u250 u251 u252 : Value) :
    rdBody.wp Tryz.prog Q ⟨#[.slice (some ⟨g0, o0, none⟩) n c, undef, .pointer (some ⟨w.heap.size, 0, none⟩), u3, u4, .pointer (some ⟨w.heap.size + 1, 0, none⟩), u6, .int .i64 st.act, .int .i64 i, u9, u10, u11, u12, u13, u14, u15, u16, u17, u18, u19, u20, u21, u22, u23, u24, u25, u26, u27, u28, u29, u30, u31, u32, u33, u34, u35, u36, u37, u38, u39, u40, u41, u42, u43, u44, u45, u46, u47, u48, u49, u50, u51, u52, u53, u54, u55, u56, u57, u58, u59, u60, u61, u62, u63, u64, u65, u66, u67, u68, u69, u70, u71, u72, u73, u74, u75, u76, u77, u78, u79, u80, u81, u82, u83, u84, u85, u86, u87, u88, u89, u90, u91, u92, u93, u94, u95, u96, u97, u98, u99, u100, u101, u102, u103, u104, u105, u106, u107, u108, u109, u110, u111, u112, u113, u114, u115, u116, u117, u118, u119, u120, u121, u122, u123, u124, u125, u126, u127, u128, u129, u130, u131, u132, u133, u134, u135, u136, u137, u138, u139, u140, u141, u142, u143, u144, u145, u146, u147, u148, u149, u150, u151, u152, u153, u154, u155, u156, u157, u158, u159, u160, u161, u162, u163, u164, u165, u166, u167, u168, u169, u170, u171, u172, u173, u174, u175, u176, u177, u178, u179, u180, u181, u182, u183, u184, u185, u186, u187, u188, u189, u190, u191, u192, u193, u194, u195, u196, u197, u198, u199, u200, u201, u202, u203, u204, u205, u206, u207, u208, u209, u210, u211, u212, u213, u214, u215, u216, u217, u218, u219, u220, u221, u222, u223, u224, u225, u226, u227, u228, u229, u230, u231, u232, u233, u234, u235, u236, u237, u238, u239, u240, u241, u242, u243, u244, u245, u246, u247, u248, u249, u250, u251, u252, undef, undef], []⟩ wr := by
  have HNX := Lib.hid hnext
  have HRT := Lib.hid hret
  clear hnext hret
  have hi0 : (i : Int) ≤ (n : Int) := by omega
  have i1 : (i : Int) < (n : Int) := by omega
  obtain ⟨m, hmm⟩ : ∃ m, (x :: r).length = m := ⟨_, rfl⟩
  have hsl := spc_len 32 l
  rw [hx, hmm] at hsl
  have m1 : 0 < m := by simp at hmm; omega
  have hsp := fun wr' => rsplit_ev l wr' (by omega) (x :: r) hx m hmm
  have hlm : ∀ y ∈ x :: r, y.length ≤ 100000 := fun y hy => by have := (spc_mem 32 l y (by rw [hx]; exact hy)).2; omega
  have hnx := fun (st' : PSt) (w' : World) (ev' : Value) (hn : lineF st l = some st') (hd : DS w' (w.heap.size + 1) st' (w.heap.size + 1) ev') (hb : Below (w.heap.size + 1) wr w') => HR.out.next hls hn hd hb
  have hbd := fun (w' : World) (v : Value) (hv : v = .int .i64 (i + 1 : Nat)) (hn : lineF st l = none) (hb : Below w.heap.size w w') => ReadV.err hv (HR.out.bad hls hn) hb
  have hlf := lineF_of (st := st) hx
  have HZ := Lib.hid (And.intro HR.out.2.1 (And.intro HR.out.2.2.1 (And.intro HR.out.2.2.2.1 (And.intro HR.out.2.2.2.2 (And.intro hlf (And.intro hnx (And.intro hbd (And.intro hlm (And.intro hmm hsl)))))))))
  have ms : m ≤ 90001 := by omega
  clear hnx hbd hlf hlm hx hls hsl hmm hll HR
  have hq : ((x == ([111, 112] : Txt)) = true) ∨ ((x == ([111, 112] : Txt)) = false ∧ (x == ([99, 97, 108, 108] : Txt)) = true) := by
    rw [beq_dec, beq_dec]
    rcases hxx with rfl | rfl
    · exact .inl (by decide)
    · exact .inr ⟨by decide, by decide⟩
  have HX := Lib.hid hxx
  clear hxx
  conv => arg 2; whnf
  go_upto_region 8 with (go_at_call 70; (with_reducible refine (hsp _).mono ?_); rintro e w1 ⟨g1, c1, rfl, hT, hc1, hb1⟩; have k1 := hT.first; obtain ⟨a1, hs1, hs2, hTr⟩ := slice_tl Tryz.underlying83 rfl hT HZ.out.2.2.2.2.2.2.2.2.1 hc1; have H1 := Lib.hid (And.intro hb1 (And.intro hTr (And.intro hT hc1))); clear hb1 hT hc1 hsp hTr)
  go_cut [34] from 25 to 33 (fun s wx => s = .bool true ∧ wx = w1)
  case first =>
    rcases hq with q1 | ⟨q1, q2⟩
    all_goals
      go_wp2_with (fail)
      go_meet
      exact ⟨rfl, rfl⟩
  case rest =>
  obtain ⟨rfl, rfl⟩ := hcut
  clear hq k1 hs1 hs2
  have hyes : lineF st l = some (addOp st o) := by rw [HZ.out.2.2.2.2.1, if_pos HX.out, if_neg (by omega), hsf]; rfl
  have HN := Lib.hid (And.intro hyes hsf)
  have a1 : ((st.act : Nat) : Int) = 2 := by rw [h1]; rfl
  try rw [a1]
  have HA1 := Lib.hid h1
  clear a1 hyes hsf h1
  go_wp2_with (first
    | (go_at_call 71; refine (rstep_some m c1 H1.out.2.2.1 HZ.out.2.2.2.2.2.2.2.2.1 (by omega) H1.out.2.2.2 HZ.out.2.2.2.2.2.2.2.1 HX.out HN.out.2).mono ?_; rintro e w2 ⟨rfl, hb2⟩; have H2 := Lib.hid (Below.trans H1.out.1 (hb2.mono H1.out.1.size)); clear hb2)
    | (refine wpList_store_row rfl 25 (.tmp 10) (.tmp 38) rfl w2.heap.size #[.int .i64 o.k, .int .i64 o.a, .int .i64 o.b, .int .i64 o.c, .int .i64 o.y, .int .i64 o.p, .int .i64 o.q, .string (B o.s), .string (B o.t)] rfl rfl 25 zOp (Blk.new w2 _ _) infoOpS rfl (by simp [Value.oneCell']) ?_))
  obtain ⟨w3, hw3e⟩ : ∃ w3, ((w2.alloc (.cells #[Value.int .i64 0, .int .i64 0, .int .i64 0, .int .i64 0, .int .i64 0, .int .i64 0, .int .i64 0, .string ⟨#[]⟩, .string ⟨#[]⟩] 25)).setRow w2.heap.size #[.int .i64 o.k, .int .i64 o.a, .int .i64 o.b, .int .i64 o.c, .int .i64 o.y, .int .i64 o.p, .int .i64 o.q, .string (B o.s), .string (B o.t)]) = w3 := ⟨_, rfl⟩
  rw [hw3e]
  have hw3 : Below wr.heap.size wr w3 := hw3e ▸ H2.out.trans ((((Below.refl w2.heap.size w2).alloc (Nat.le_refl _) (.cells #[Value.int .i64 0, .int .i64 0, .int .i64 0, .int .i64 0, .int .i64 0, .int .i64 0, .int .i64 0, .string ⟨#[]⟩, .string ⟨#[]⟩] 25)).trans ((Upd.row _ w2.heap.size #[.int .i64 o.k, .int .i64 o.a, .int .i64 o.b, .int .i64 o.c, .int .i64 o.y, .int .i64 o.p, .int .i64 o.q, .string (B o.s), .string (B o.t)]).below (by simp) (fun k hk => by omega))).mono H2.out.size)
  have hob : Blk w3 w2.heap.size #[.int .i64 o.k, .int .i64 o.a, .int .i64 o.b, .int .i64 o.c, .int .i64 o.y, .int .i64 o.p, .int .i64 o.q, .string (B o.s), .string (B o.t)] 25 := hw3e ▸ Blk.row (Blk.new w2 _ _) _
  obtain ⟨tv, bv, mv, gv, tq, eq, tb, bb, mb, gb, eb, hdc⟩ := HZ.out.1
  have hd3 := hdc.below hw3
  obtain ⟨h1, h2, h3, h4, h5, h6, h7, h8, h9⟩ := id hd3
  have hne := h8 HA1.out
  obtain ⟨nn, hnn⟩ : ∃ nn, st.c.best.length = nn + 1 := ⟨st.c.best.length - 1, by have := List.length_pos_iff.2 hne; omega⟩
  have hnl : nn < st.c.best.length := by omega
  have ht := List.getElem?_eq_getElem hnl
  have hnq : nn < eq.length := by rw [h4.le]; omega
  have hq0 := List.getElem?_eq_getElem hnq
  generalize st.c.best[nn] = t at ht
  generalize eq[nn] = q at hq0
  obtain ⟨g, hg⟩ := h4.re.has (by omega)
  obtain ⟨ct, rest, htv, hS, _⟩ := h4.re.blk g hg
  have hcell : (eCells st.c.best eq ++ rest).toArray[nn * 2 + 1]? = some q.pv := by
    have := eCells_at ht hq0 (k := 1) (by omega)
    rw [List.getElem?_toArray, List.getElem?_append_left (by rw [h4.re.1]; omega), this]; rfl
  have hI := h4.pe nn t q ht hq0
  obtain ⟨ap, cp, hpv⟩ := hI.slice
  have hmem := HZ.out.2.2.2.1.2.2.2.2.2.2 t (List.mem_of_getElem? ht)
  have hbA := (((Below.refl w3.heap.size w3).alloc (Nat.le_refl _) (.cells #[.int .i64 o.k, .int .i64 o.a, .int .i64 o.b, .int .i64 o.c, .int .i64 o.y, .int .i64 o.p, .int .i64 o.q, .string (B o.s), .string (B o.t)] 25))).drew
  obtain ⟨v', WC, hrun, hA⟩ := app_run (P := Tryz.prog) (w := (w3.alloc (.cells #[.int .i64 o.k, .int .i64 o.a, .int .i64 o.b, .int .i64 o.c, .int .i64 o.y, .int .i64 o.p, .int .i64 o.q, .string (B o.s), .string (B o.t)] 25)).drew) (S := 27) 27 _ 9 88 infoOp rfl (by decide) (by decide) Tryz.underlying27 (hI.below hbA) ⟨w3.heap.size, 0, none⟩ 1 1 (opCs o) rfl (new_cells (W := w3) (opCs o) _ rfl) (by intro u hu; simp [opCs] at hu; rcases hu with rfl | rfl | rfl | rfl | rfl | rfl | rfl | rfl | rfl <;> rfl) (by omega)
  have hA0 := hA
  obtain ⟨b', hI3, hu3, hb3⟩ := hA
  obtain ⟨a3, c3, rfl⟩ := hI3.slice
  have HD := hd3.stepE HA1.out hbA hg hnn ht hq0 hA0
  have neR : q.pb ≠ some (w.heap.size + 1) := hI.neT h3 (by decide)
  have neS : q.pb ≠ some g := hI.neT hS (by decide)
  have neB : q.pb ≠ some w2.heap.size := fun e => by
    have hx := (hdc.2.2.2.1.pe nn t q ht hq0).lt _ e
    have hy := H2.out.size
    omega
  have hRA := Blk.below hbA h3 h3.lt
  have hSA := Blk.below hbA hS hS.lt
  have hBA := Blk.below hbA hob hob.lt
  have hRC := Blk.upd hu3 hRA neR
  have hSC := Blk.upd hu3 hSA neS
  have hBC := Blk.upd hu3 hBA neB
  rw [htv] at h3 hRA hRC
  rw [hnn] at h3 hRA hRC
  rw [hpv] at hcell hrun
  have f1 := h3.rd 1
  have f2 := hRA.rd 1
  have f3 := hRC.rd 1
  have f4 := hS.rd (nn * 2 + 1)
  have f5 := hSA.rd (nn * 2 + 1)
  have f6 := hSC.rd (nn * 2 + 1)
  rw [hcell] at f4 f5 f6
  have CW := Lib.hid (And.intro f1 (And.intro f4 hob.rd))
  have CA := Lib.hid (And.intro f2 (And.intro f5 hBA.rd))
  have CC := Lib.hid (And.intro f3 (And.intro f6 hBC.rd))
  have HSC := Lib.hid (And.intro f6 (hSC.nf (nn * 2 + 1)))
  have HDD := Lib.hid HD
  have hlt3 : nn < nn + 1 := by omega
  have hnb : nn ≤ 100000 := by have hs := HZ.out.2.2.2.1.2.1; omega
  clear HD hA0 hI3 hu3 hb3 neR neS neB hRA hSA hBA hRC hSC hBC f1 f2 f3 f4 f5 f6 h1 h2 h3 h4 h5 h6 h7 h8 h9 hd3 hdc hob hne hnn hnl ht hnq hq0 hg htv hS hcell hI hpv hmem hbA
  obtain ⟨tl, htl⟩ : ∃ tl : List Value, [u91, u92, u93, u94, u95, u96, u97, u98, u99, u100, u101, u102, u103, u104, u105, u106, u107, u108, u109, u110, u111, u112, u113, u114, u115, u116, u117, u118, u119, u120, u121, u122, u123, u124, u125, u126, u127, u128, u129, u130, u131, u132, u133, u134, u135, u136, u137, u138, u139, u140, u141, u142, u143, u144, u145, u146, u147, u148, u149, u150, u151, u152, u153, u154, u155, u156, u157, u158, u159, u160, u161, u162, u163, u164, u165, u166, u167, u168, u169, u170, u171, u172, u173, u174, u175, u176, u177, u178, u179, u180, u181, u182, u183, u184, u185, u186, u187, u188, u189, u190, u191, u192, u193, u194, u195, u196, u197, u198, u199, u200, u201, u202, u203, u204, u205, u206, u207, u208, u209, u210, u211, u212, u213, u214, u215, u216, u217, u218, u219, u220, u221, u222, u223, u224, u225, u226, u227, u228, u229, u230, u231, u232, u233, u234, u235, u236, u237, u238, u239, u240, u241, u242, u243, u244, u245, u246, u247, u248, u249, u250, u251, u252, undef, undef] = tl := ⟨_, rfl⟩
  rw [htl]
  refine region_K 16 17 20 w3.drew ((w3.alloc (.cells #[.int .i64 o.k, .int .i64 o.a, .int .i64 o.b, .int .i64 o.c, .int .i64 o.y, .int .i64 o.p, .int .i64 o.q, .string (B o.s), .string (B o.t)] 25)).drew) WC (WC.setCell ⟨g, nn * 2 + 1, none⟩ (.slice a3 (t.prog.length + 1) c3)) rfl (by kernel_rfl) (by kernel_rfl) ?_
  apply wpJ_op rfl (by rfl)
  · intro f w1 hf hJ Q1 hQ
    simp only [Act.put, List.setIfInBounds_toArray, List.set_cons_zero, List.set_cons_succ] at hQ
    go_wp2_with (fail)
    exact hQ _ _ rfl (hJ.other rfl hf (by decide) (by decide) (by decide))
  simp only [Act.put, List.setIfInBounds_toArray, List.set_cons_zero, List.set_cons_succ]
  apply wpJ_op rfl (by rfl)
  · intro f w1 hf hJ Q1 hQ
    have hS : f 20 = false := path_no hJ.1 [19, 18, 1] (by kernel_rfl) (by decide) hf.1
    have hF := hJ.pre (F := (fun x : World => x.cell? ⟨w.heap.size + 1, 1, none⟩ = some (.slice (some ⟨g, 0, none⟩) (nn + 1) ct) ∧ x.cell? ⟨g, nn * 2 + 1, none⟩ = some (.slice ap t.prog.length cp) ∧ ∀ j, x.cell? ⟨w2.heap.size, j, none⟩ = #[.int .i64 o.k, .int .i64 o.a, .int .i64 o.b, .int .i64 o.c, .int .i64 o.y, .int .i64 o.p, .int .i64 o.q, .string (B o.s), .string (B o.t)][j]?)) hS CW.out CA.out CC.out
    have g1 := hF.1
    clear hF
    simp only [Act.put, List.setIfInBounds_toArray, List.set_cons_zero, List.set_cons_succ] at hQ
    go_wp2_with (fail)
    exact hQ _ _ rfl (hJ.other rfl hf (by decide) (by decide) (by decide))
  simp only [Act.put, List.setIfInBounds_toArray, List.set_cons_zero, List.set_cons_succ]
  apply wpJ_op rfl (by rfl)
  · intro f w1 hf hJ Q1 hQ
    simp only [Act.put, List.setIfInBounds_toArray, List.set_cons_zero, List.set_cons_succ] at hQ
    go_wp2_with (fail)
    exact hQ _ _ rfl (hJ.other rfl hf (by decide) (by decide) (by decide))
  simp only [Act.put, List.setIfInBounds_toArray, List.set_cons_zero, List.set_cons_succ]
  apply wpJ_op rfl (by rfl)
  · intro f w1 hf hJ Q1 hQ
    have hS : f 20 = false := path_no hJ.1 [19, 18, 5, 4, 3] (by kernel_rfl) (by decide) hf.1
    have hF := hJ.pre (F := (fun x : World => x.cell? ⟨w.heap.size + 1, 1, none⟩ = some (.slice (some ⟨g, 0, none⟩) (nn + 1) ct) ∧ x.cell? ⟨g, nn * 2 + 1, none⟩ = some (.slice ap t.prog.length cp) ∧ ∀ j, x.cell? ⟨w2.heap.size, j, none⟩ = #[.int .i64 o.k, .int .i64 o.a, .int .i64 o.b, .int .i64 o.c, .int .i64 o.y, .int .i64 o.p, .int .i64 o.q, .string (B o.s), .string (B o.t)][j]?)) hS CW.out CA.out CC.out
    have g1 := hF.1
    clear hF
    simp only [Act.put, List.setIfInBounds_toArray, List.set_cons_zero, List.set_cons_succ] at hQ
    go_wp2_with (fail)
    exact hQ _ _ rfl (hJ.other rfl hf (by decide) (by decide) (by decide))
  simp only [Act.put, List.setIfInBounds_toArray, List.set_cons_zero, List.set_cons_succ]
  apply wpJ_op rfl (by rfl)
  · intro f w1 hf hJ Q1 hQ
    simp only [Act.put, List.setIfInBounds_toArray, List.set_cons_zero, List.set_cons_succ] at hQ
    go_wp2_with (fail)
    exact hQ _ _ rfl (hJ.other rfl hf (by decide) (by decide) (by decide))
  simp only [Act.put, List.setIfInBounds_toArray, List.set_cons_zero, List.set_cons_succ]
  apply wpJ_op rfl (by rfl)
  · intro f w1 hf hJ Q1 hQ
    simp only [Act.put, List.setIfInBounds_toArray, List.set_cons_zero, List.set_cons_succ] at hQ
    go_wp2_with (fail)
    exact hQ _ _ rfl (hJ.other rfl hf (by decide) (by decide) (by decide))
  simp only [Act.put, List.setIfInBounds_toArray, List.set_cons_zero, List.set_cons_succ]
  apply wpJ_op rfl (by rfl)
  · intro f w1 hf hJ Q1 hQ
    simp only [Act.put, List.setIfInBounds_toArray, List.set_cons_zero, List.set_cons_succ] at hQ
    go_wp2_with (fail)
    exact hQ _ _ rfl (hJ.other rfl hf (by decide) (by decide) (by decide))
  simp only [Act.put, List.setIfInBounds_toArray, List.set_cons_zero, List.set_cons_succ]
  apply wpJ_op rfl (by rfl)
  · intro f w1 hf hJ Q1 hQ
    have hS : f 20 = false := path_no hJ.1 [17, 14, 13, 12, 7] (by kernel_rfl) (by decide) hf.1
    have hF := hJ.pre (F := (fun x : World => x.cell? ⟨w.heap.size + 1, 1, none⟩ = some (.slice (some ⟨g, 0, none⟩) (nn + 1) ct) ∧ x.cell? ⟨g, nn * 2 + 1, none⟩ = some (.slice ap t.prog.length cp) ∧ ∀ j, x.cell? ⟨w2.heap.size, j, none⟩ = #[.int .i64 o.k, .int .i64 o.a, .int .i64 o.b, .int .i64 o.c, .int .i64 o.y, .int .i64 o.p, .int .i64 o.q, .string (B o.s), .string (B o.t)][j]?)) hS CW.out CA.out CC.out
    have g1 := hF.1
    clear hF
    simp only [Act.put, List.setIfInBounds_toArray, List.set_cons_zero, List.set_cons_succ] at hQ
    go_wp2_with (fail)
    exact hQ _ _ rfl (hJ.other rfl hf (by decide) (by decide) (by decide))
  simp only [Act.put, List.setIfInBounds_toArray, List.set_cons_zero, List.set_cons_succ]
  apply wpJ_op rfl (by rfl)
  · intro f w1 hf hJ Q1 hQ
    simp only [Act.put, List.setIfInBounds_toArray, List.set_cons_zero, List.set_cons_succ] at hQ
    go_wp2_with (fail)
    exact hQ _ _ rfl (hJ.other rfl hf (by decide) (by decide) (by decide))
  simp only [Act.put, List.setIfInBounds_toArray, List.set_cons_zero, List.set_cons_succ]
  apply wpJ_op rfl (by rfl)
  · intro f w1 hf hJ Q1 hQ
    have hS : f 20 = false := path_no hJ.1 [17, 14, 13, 12, 11, 10, 9] (by kernel_rfl) (by decide) hf.1
    have hF := hJ.pre (F := (fun x : World => x.cell? ⟨w.heap.size + 1, 1, none⟩ = some (.slice (some ⟨g, 0, none⟩) (nn + 1) ct) ∧ x.cell? ⟨g, nn * 2 + 1, none⟩ = some (.slice ap t.prog.length cp) ∧ ∀ j, x.cell? ⟨w2.heap.size, j, none⟩ = #[.int .i64 o.k, .int .i64 o.a, .int .i64 o.b, .int .i64 o.c, .int .i64 o.y, .int .i64 o.p, .int .i64 o.q, .string (B o.s), .string (B o.t)][j]?)) hS CW.out CA.out CC.out
    have g1 := hF.1
    clear hF
    simp only [Act.put, List.setIfInBounds_toArray, List.set_cons_zero, List.set_cons_succ] at hQ
    go_wp2_with (fail)
    exact hQ _ _ rfl (hJ.other rfl hf (by decide) (by decide) (by decide))
  simp only [Act.put, List.setIfInBounds_toArray, List.set_cons_zero, List.set_cons_succ]
  apply wpJ_op rfl (by rfl)
  · intro f w1 hf hJ Q1 hQ
    simp only [Act.put, List.setIfInBounds_toArray, List.set_cons_zero, List.set_cons_succ] at hQ
    go_wp2_with (fail)
    exact hQ _ _ rfl (hJ.other rfl hf (by decide) (by decide) (by decide))
  simp only [Act.put, List.setIfInBounds_toArray, List.set_cons_zero, List.set_cons_succ]
  apply wpJ_op rfl (by rfl)
  · intro f w1 hf hJ Q1 hQ
    simp only [Act.put, List.setIfInBounds_toArray, List.set_cons_zero, List.set_cons_succ] at hQ
    go_wp2_with (fail)
    exact hQ _ _ rfl (hJ.other rfl hf (by decide) (by decide) (by decide))
  simp only [Act.put, List.setIfInBounds_toArray, List.set_cons_zero, List.set_cons_succ]
  apply wpJ_op rfl (by rfl)
  · intro f w1 hf hJ Q1 hQ
    simp only [Act.put, List.setIfInBounds_toArray, List.set_cons_zero, List.set_cons_succ] at hQ
    go_wp2_with (fail)
    exact hQ _ _ rfl (hJ.other rfl hf (by decide) (by decide) (by decide))
  simp only [Act.put, List.setIfInBounds_toArray, List.set_cons_zero, List.set_cons_succ]
  apply wpJ_op rfl (by rfl)
  · intro f w1 hf hJ Q1 hQ
    simp only [Act.put, List.setIfInBounds_toArray, List.set_cons_zero, List.set_cons_succ] at hQ
    go_wp2_with (fail)
    exact hQ _ _ rfl (hJ.other rfl hf (by decide) (by decide) (by decide))
  simp only [Act.put, List.setIfInBounds_toArray, List.set_cons_zero, List.set_cons_succ]
  apply wpJ_op rfl (by rfl)
  · intro f w1 hf hJ Q1 hQ
    have hS : f 20 = false := path_no hJ.1 [17, 14] (by kernel_rfl) (by decide) hf.1
    have hF := hJ.pre (F := (fun x : World => x.cell? ⟨w.heap.size + 1, 1, none⟩ = some (.slice (some ⟨g, 0, none⟩) (nn + 1) ct) ∧ x.cell? ⟨g, nn * 2 + 1, none⟩ = some (.slice ap t.prog.length cp) ∧ ∀ j, x.cell? ⟨w2.heap.size, j, none⟩ = #[.int .i64 o.k, .int .i64 o.a, .int .i64 o.b, .int .i64 o.c, .int .i64 o.y, .int .i64 o.p, .int .i64 o.q, .string (B o.s), .string (B o.t)][j]?)) hS CW.out CA.out CC.out
    have g1 := hF.2.1
    clear hF
    simp only [Act.put, List.setIfInBounds_toArray, List.set_cons_zero, List.set_cons_succ] at hQ
    go_wp2_with (fail)
    exact hQ _ _ rfl (hJ.other rfl hf (by decide) (by decide) (by decide))
  simp only [Act.put, List.setIfInBounds_toArray, List.set_cons_zero, List.set_cons_succ]
  apply wpJ_op rfl (by rfl)
  · intro f w1 hf hJ Q1 hQ
    have hA : f 16 = false := path_no hJ.1 [15] (by kernel_rfl) (by decide) hf.1
    have hC : f 17 = false := path_no hJ.1 [16] (by kernel_rfl) (by decide) hA
    have hS : f 20 = false := path_no hJ.1 [17] (by kernel_rfl) (by decide) hC
    rw [hJ.atA hA hC hS]
    have hF := CW.out
    have g1 := hF.2.2
    clear hF
    simp only [Act.put, List.setIfInBounds_toArray, List.set_cons_zero, List.set_cons_succ] at hQ
    go_wp2_with (fail)
    exact hQ _ _ rfl (by have h9 := hJ.other rfl hf (by decide) (by decide) (by decide); rwa [hJ.atA hA hC hS] at h9)
  simp only [Act.put, List.setIfInBounds_toArray, List.set_cons_zero, List.set_cons_succ]
  apply wpJ_op rfl (by rfl)
  · intro f w1 hf hJ Q1 hQ
    have hC : f 17 = false := path_no hJ.1 [16] (by kernel_rfl) (by decide) hf.1
    have hS : f 20 = false := path_no hJ.1 [17] (by kernel_rfl) (by decide) hC
    rw [hJ.atA hf.1 hC hS]
    simp only [Act.put, List.setIfInBounds_toArray, List.set_cons_zero, List.set_cons_succ] at hQ
    go_wp2_with (fail)
    exact hQ _ _ rfl (hJ.goA rfl hf hC hS (by decide) (by decide))
  simp only [Act.put, List.setIfInBounds_toArray, List.set_cons_zero, List.set_cons_succ]
  apply wpJ_op rfl (by rfl)
  · intro f w1 hf hJ Q1 hQ
    have hS : f 20 = false := path_no hJ.1 [17] (by kernel_rfl) (by decide) hf.1
    have hA : f 16 = true := up_dep hf 16 (by kernel_rfl)
    rw [hJ.atC hA hf.1 hS]
    simp only [Act.put, List.setIfInBounds_toArray, List.set_cons_zero, List.set_cons_succ] at hQ
    go_wp2_with (at_builtin; refine wp_appX rfl _ _ 27 rfl rfl rfl hrun ?_)
    exact hQ _ _ rfl (hJ.goC rfl hf hS (by decide))
  simp only [Act.put, List.setIfInBounds_toArray, List.set_cons_zero, List.set_cons_succ]
  apply wpJ_op rfl (by rfl)
  · intro f w1 hf hJ Q1 hQ
    simp only [Act.put, List.setIfInBounds_toArray, List.set_cons_zero, List.set_cons_succ] at hQ
    go_wp2_with (fail)
    exact hQ _ _ rfl (hJ.other rfl hf (by decide) (by decide) (by decide))
  simp only [Act.put, List.setIfInBounds_toArray, List.set_cons_zero, List.set_cons_succ]
  apply wpJ_op rfl (by rfl)
  · intro f w1 hf hJ Q1 hQ
    simp only [Act.put, List.setIfInBounds_toArray, List.set_cons_zero, List.set_cons_succ] at hQ
    go_wp2_with (fail)
    exact hQ _ _ rfl (hJ.other rfl hf (by decide) (by decide) (by decide))
  simp only [Act.put, List.setIfInBounds_toArray, List.set_cons_zero, List.set_cons_succ]
  apply wpJ_op (v := undef) rfl (by rfl)
  · intro f w1 hf hJ Q1 hQ
    have hC : f 17 = true := up_dep hf 17 (by kernel_rfl)
    rw [hJ.atS hC hf.1]
    obtain ⟨e1, e2⟩ := HSC.out
    simp only [Act.put, List.setIfInBounds_toArray, List.set_cons_zero, List.set_cons_succ] at hQ
    go_wp2_with (fail)
    exact hQ _ _ rfl (hJ.goS rfl hf)
  simp only [Act.put, List.setIfInBounds_toArray, List.set_cons_zero, List.set_cons_succ]
  refine wpJ_nil ?_
  intro w9 hJ9
  rw [hJ9.fin rfl]
  clear hJ9
  subst htl
  go_wp2_with (fail)
  refine HNX.out.go (addOp st o) (by rw [addOp_act, HA1.out]; rfl) (by go_num) (Lib.hid (HZ.out.2.2.2.2.2.1 _ _ _ HN.out.1 HDD.out.1 (((Below.mono hw3 (by have := HZ.out.2.1.lt; omega)).trans HDD.out.2))))
set_option maxRecDepth 1000000 in
set_option maxHeartbeats 40000000 in
theorem rdc_bad {w wr : World} {a : Option Addr} {ls : List Txt} {n c i g0 o0 : Nat} {st : PSt} {u6 : Value} {l x : Txt} {r : List Txt} (hm : n ≤ 90000) (hin : i < n) (HR : Hid (RdL ls w i st u6 wr)) (hls : ls[i]? = some l) (hll : l.length ≤ 90000) (k0 : wr.cell? ⟨g0, o0 + i, none⟩ = some (.string (B l))) (hx : spc 32 l = x :: r) {ns : List Int} (hxx : ¬ (x = opW ∨ x = callW)) (hns : numsF r = some ns) (hk0 : ¬ (x = framesW ∧ ∃ x0, ns = [x0])) (hk1 : ¬ (x = dogW ∧ ∃ x0, ns = [x0])) (hk2 : ¬ (x = mutexW ∧ ∃ x0 x1, ns = [x0, x1])) (hk3 : ¬ (x = gapW ∧ ∃ x0, ns = [x0])) (hk4 : ¬ (x = taskW ∧ ∃ x0 x1 x2 x3 x4 x5 us, ns = x0 :: x1 :: x2 :: x3 :: x4 :: x5 :: us)) (hk5 : ¬ (x = bestW ∧ ∃ x0, ns = [x0])) (hk6 : ¬ (x = atW ∧ ∃ x0 x1 x2, ns = [x0, x1, x2])) (Q : Exit → Act → World → Prop) (hret : RdRet ls w Q) (hnext : RdNext ls w (some ⟨g0, o0, none⟩) n c i Q) (u3 u4 u9 u10 u11 u12 u13 u14 u15 u16 u17 u18 u19 u20 u21 u22 u23 u24 u25 u26 u27 u28 u29 u30 u31 u32 u33 u34 u35 u36 u37 u38 u39 u40 u41 u42 u43 u44 u45 u46 u47 u48 u49 u50 u51 u52 u53 u54 u55 u56 u57 u58 u59 u60 u61 u62 u63 u64 u65 u66 u67 u68 u69 u70 u71 u72 u73 u74 u75 u76 u77 u78 u79 u80 u81 u82 u83 u84 u85 u86 u87 u88 u89 u90 u91 u92 u93 u94 u95 u96 u97 u98 u99 u100 u101 u102 u103 u104 u105 u106 u107 u108 u109 u110 u111 u112 u113 u114 u115 u116 u117 u118 u119 u120 u121 u122 u123 u124 u125 u126 u127 u128 u129 u130 u131 u132 u133 u134 u135 u136 u137 u138 u139 u140 u141 u142 u143 u144 u145 u146 u147 u148 u149 u150 u151 u152 u153 u154 u155 u156 u157 u158 u159 u160 u161 u162 u163 u164 u165 u166 u167 u168 u169 u170 u171 u172 u173 u174 u175 u176 u177 u178 u179 u180 u181 u182 u183 u184 u185 u186 u187 u188 u189 u190 u191 u192 u193 u194 u195 u196 u197 u198 u199 u200 u201 u202 u203 u204 u205 u206 u207 u208 u209 u210 u211 u212 u213 u214 u215 u216 u217 u218 u219 u220 u221 u222 u223 u224 u225 u226 u227 u228 u229 u230 u231 u232 u233 u234 u235 u236 u237 u238 u239 u240 u241 u242 u243 u244 u245 u246 u247 u248 u249 u250 u251 u252 : Value) :
    rdBody.wp Tryz.prog Q ⟨#[.slice (some ⟨g0, o0, none⟩) n c, undef, .pointer (some ⟨w.heap.size, 0, none⟩), u3, u4, .pointer (some ⟨w.heap.size + 1, 0, none⟩), u6, .int .i64 st.act, .int .i64 i, u9, u10, u11, u12, u13, u14, u15, u16, u17, u18, u19, u20, u21, u22, u23, u24, u25, u26, u27, u28, u29, u30, u31, u32, u33, u34, u35, u36, u37, u38, u39, u40, u41, u42, u43, u44, u45, u46, u47, u48, u49, u50, u51, u52, u53, u54, u55, u56, u57, u58, u59, u60, u61, u62, u63, u64, u65, u66, u67, u68, u69, u70, u71, u72, u73, u74, u75, u76, u77, u78, u79, u80, u81, u82, u83, u84, u85, u86, u87, u88, u89, u90, u91, u92, u93, u94, u95, u96, u97, u98, u99, u100, u101, u102, u103, u104, u105, u106, u107, u108, u109, u110, u111, u112, u113, u114, u115, u116, u117, u118, u119, u120, u121, u122, u123, u124, u125, u126, u127, u128, u129, u130, u131, u132, u133, u134, u135, u136, u137, u138, u139, u140, u141, u142, u143, u144, u145, u146, u147, u148, u149, u150, u151, u152, u153, u154, u155, u156, u157, u158, u159, u160, u161, u162, u163, u164, u165, u166, u167, u168, u169, u170, u171, u172, u173, u174, u175, u176, u177, u178, u179, u180, u181, u182, u183, u184, u185, u186, u187, u188, u189, u190, u191, u192, u193, u194, u195, u196, u197, u198, u199, u200, u201, u202, u203, u204, u205, u206, u207, u208, u209, u210, u211, u212, u213, u214, u215, u216, u217, u218, u219, u220, u221, u222, u223, u224, u225, u226, u227, u228, u229, u230, u231, u232, u233, u234, u235, u236, u237, u238, u239, u240, u241, u242, u243, u244, u245, u246, u247, u248, u249, u250, u251, u252, undef, undef], []⟩ wr := by
  have HNX := Lib.hid hnext
  have HRT := Lib.hid hret
  clear hnext hret
  have hi0 : (i : Int) ≤ (n : Int) := by omega
  have i1 : (i : Int) < (n : Int) := by omega
  obtain ⟨m, hmm⟩ : ∃ m, (x :: r).length = m := ⟨_, rfl⟩
  have hsl := spc_len 32 l
  rw [hx, hmm] at hsl
  have m1 : 0 < m := by simp at hmm; omega
  have hsp := fun wr' => rsplit_ev l wr' (by omega) (x :: r) hx m hmm
  have hlm : ∀ y ∈ x :: r, y.length ≤ 100000 := fun y hy => by have := (spc_mem 32 l y (by rw [hx]; exact hy)).2; omega
  have hnx := fun (st' : PSt) (w' : World) (ev' : Value) (hn : lineF st l = some st') (hd : DS w' (w.heap.size + 1) st' (w.heap.size + 1) ev') (hb : Below (w.heap.size + 1) wr w') => HR.out.next hls hn hd hb
  have hbd := fun (w' : World) (v : Value) (hv : v = .int .i64 (i + 1 : Nat)) (hn : lineF st l = none) (hb : Below w.heap.size w w') => ReadV.err hv (HR.out.bad hls hn) hb
  have hlf := lineF_of (st := st) hx
  have HZ := Lib.hid (And.intro HR.out.2.1 (And.intro HR.out.2.2.1 (And.intro HR.out.2.2.2.1 (And.intro HR.out.2.2.2.2 (And.intro hlf (And.intro hnx (And.intro hbd (And.intro hlm (And.intro hmm hsl)))))))))
  have ms : m ≤ 90001 := by omega
  clear hnx hbd hlf hlm hx hls hsl hmm hll HR
  have q1 : (x == ([111, 112] : Txt)) = false := (beq_dec x opW).trans (decide_eq_false (fun h => hxx (.inl h)))
  have q2 : (x == ([99, 97, 108, 108] : Txt)) = false := (beq_dec x callW).trans (decide_eq_false (fun h => hxx (.inr h)))
  have hlf2 : lineF st l = match numsF r with
    | some n => doF st x n
    | none => none := HZ.out.2.2.2.2.1.trans (if_neg hxx)
  clear hxx
  have hrl : r.length = m - 1 := by have := HZ.out.2.2.2.2.2.2.2.2.1; simp at this; omega
  have hrm : ∀ y ∈ r, y.length ≤ 10000000 := fun y hy => by have := HZ.out.2.2.2.2.2.2.2.1 y (List.mem_cons_of_mem _ hy); omega
  have hmi : (1 : Int) ≤ (m : Int) := by omega
  rw [hns] at hlf2
  simp only at hlf2
  have hgd := nums_good hns
  have hnl : ns.length ≤ 90000 := by have := nums_len r _ hns; omega
  obtain ⟨cnt, hcnt⟩ : ∃ cnt, ns.length = cnt := ⟨_, rfl⟩
  have hcb : cnt ≤ 90000 := by omega
  have HR0 := Lib.hid (And.intro hrl (And.intro hrm (And.intro hns hlf2)))
  have HG := Lib.hid (And.intro hgd (And.intro hnl hcnt))
  clear hrl hrm hns hlf2 hgd hnl hcnt
  have HK0 := Lib.hid hk0
  have ho0 := Lib.hid (no_frames hk0 HG.out.2.2)
  clear hk0
  have HK1 := Lib.hid hk1
  have ho1 := Lib.hid (no_dog hk1 HG.out.2.2)
  clear hk1
  have HK2 := Lib.hid hk2
  have ho2 := Lib.hid (no_mutex hk2 HG.out.2.2)
  clear hk2
  have HK3 := Lib.hid hk3
  have ho3 := Lib.hid (no_gap hk3 HG.out.2.2)
  clear hk3
  have HK4 := Lib.hid hk4
  have ho4 := Lib.hid (no_task hk4 HG.out.2.2)
  clear hk4
  have HK5 := Lib.hid hk5
  have ho5 := Lib.hid (no_best hk5 HG.out.2.2)
  clear hk5
  have HK6 := Lib.hid hk6
  have ho6 := Lib.hid (no_at hk6 HG.out.2.2)
  clear hk6
  conv => arg 2; whnf
  go_upto_region 19 with (first
    | (go_at_call 70; (with_reducible refine (hsp _).mono ?_); rintro e w1 ⟨g1, c1, rfl, hT, hc1, hb1⟩; have k1 := hT.first; obtain ⟨a1, hs1, hs2, hTr⟩ := slice_tl Tryz.underlying83 rfl hT HZ.out.2.2.2.2.2.2.2.2.1 hc1; have H1 := Lib.hid (And.intro hb1 (And.intro hTr (And.intro hT hc1))); clear hb1 hT hc1 hsp hTr)
    | (go_at_call 72; refine (rnums_some (m - 1) (c1 - 1) H1.out.2.1 HR0.out.1 (by omega) HR0.out.2.1 HR0.out.2.2.1).mono ?_; rintro e w2 ⟨a2, c2, b2, rfl, hI2, hnb2, hb2⟩; have H2 := Lib.hid (H1.out.1.trans (hb2.mono H1.out.1.size)); have k2 := (H1.out.2.2.1.below hb2).first; have HI := Lib.hid (And.intro hI2 hnb2); rw [HG.out.2.2]; clear hb2 hI2 hnb2))
  clear q1 q2 k1 hs1 hs2
  go_cut [105] from 106 to 114 (fun s wx => s = .bool false ∧ wx = w2)
  case first =>
    rcases ho0.out with p | ⟨p, q1, q2⟩
    all_goals
      go_wp2_with (fail)
      go_meet
      exact ⟨rfl, rfl⟩
  case rest =>
  obtain ⟨rfl, rfl⟩ := hcut
  clear ho0
  go_upto_region 21 with (fail)
  go_cut [119] from 120 to 128 (fun s wx => s = .bool false ∧ wx = wc)
  case first =>
    rcases ho1.out with p | ⟨p, q1, q2⟩
    all_goals
      go_wp2_with (fail)
      go_meet
      exact ⟨rfl, rfl⟩
  case rest =>
  obtain ⟨rfl, rfl⟩ := hcut
  clear ho1
  go_upto_region 23 with (fail)
  go_cut [133] from 134 to 142 (fun s wx => s = .bool false ∧ wx = wc)
  case first =>
    rcases ho2.out with p | ⟨p, q1, q2⟩
    all_goals
      go_wp2_with (fail)
      go_meet
      exact ⟨rfl, rfl⟩
  case rest =>
  obtain ⟨rfl, rfl⟩ := hcut
  clear ho2
  go_upto_region 25 with (fail)
  go_cut [155] from 156 to 164 (fun s wx => s = .bool false ∧ wx = wc)
  case first =>
    rcases ho3.out with p | ⟨p, q1, q2⟩
    all_goals
      go_wp2_with (fail)
      go_meet
      exact ⟨rfl, rfl⟩
  case rest =>
  obtain ⟨rfl, rfl⟩ := hcut
  clear ho3
  go_upto_region 27 with (fail)
  go_cut [173] from 174 to 182 (fun s wx => s = .bool false ∧ wx = wc)
  case first =>
    rcases ho4.out with p | ⟨p, q1, q2⟩
    all_goals
      go_wp2_with (fail)
      go_meet
      exact ⟨rfl, rfl⟩
  case rest =>
  obtain ⟨rfl, rfl⟩ := hcut
  clear ho4
  go_upto_region 30 with (fail)
  go_cut [210] from 211 to 219 (fun s wx => s = .bool false ∧ wx = wc)
  case first =>
    rcases ho5.out with p | ⟨p, q1, q2⟩
    all_goals
      go_wp2_with (fail)
      go_meet
      exact ⟨rfl, rfl⟩
  case rest =>
  obtain ⟨rfl, rfl⟩ := hcut
  clear ho5
  go_upto_region 33 with (fail)
  go_cut [229] from 230 to 238 (fun s wx => s = .bool false ∧ wx = wc)
  case first =>
    rcases ho6.out with p | ⟨p, q1, q2⟩
    all_goals
      go_wp2_with (fail)
      go_meet
      exact ⟨rfl, rfl⟩
  case rest =>
  obtain ⟨rfl, rfl⟩ := hcut
  clear ho6
  go_wp2_with (refine wpList_store_row rfl 41 (.tmp 2) (.tmp 102) rfl w.heap.size zCfg rfl rfl 41 zCfg (Blk.below H2.out HZ.out.2.1 HZ.out.2.1.lt) infoCfg rfl (by simp [Value.oneCell']) ?_)
  refine HRT.out _ _ ?_
  refine bodyPost_ret (results_cell3 rfl _ _ w.heap.size _ zCfg _ rfl (Blk.row (Blk.below H2.out HZ.out.2.1 HZ.out.2.1.lt) _) Tryz.underlying41 rfl infoCfg) rfl ?_
  refine HZ.out.2.2.2.2.2.2.1 _ _ (by simp) (HR0.out.2.2.2.trans (do_no HK0.out HK1.out HK2.out HK3.out HK4.out HK5.out HK6.out)) ?_
  exact rd_end0 HZ.out.2.2.1 H2.out
end Go.Proofs.YtefaaginedideaaGreatDoor
