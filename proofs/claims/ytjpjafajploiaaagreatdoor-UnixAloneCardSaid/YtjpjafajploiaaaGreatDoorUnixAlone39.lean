/-
  Processes: Exit.
-/
import Derived.Test.YtjpjafajploiaaaGreatDoorUnixAlone38
set_option linter.unusedSimpArgs false
set_option linter.unusedVariables false
namespace Go.Proofs.YtjpjafajploiaaaGreatDoor
open Go.RowKit Own RegJ Two
def exitM (m:PrM) (pid code:Int):PrM:=match m pid with
 | none=> m
 | some x=> if x.pa= -1 then prPut m pid none else prPut m pid (some ⟨x.pa,code,true⟩)
noncomputable def exitP (m:PrM) (pid code:Int):Int×PrM:=if aliveF m pid=false then (4,m) else if code < 0∨255 < code then (19,m) else (0,exitM ((kidsOf m pid).foldl leaveP m) pid code)
theorem leaveP_ne (m:PrM) {c i:Int} (h:i≠c):leaveP m c i=m i:=by
 unfold leaveP
 cases hm:m c with
 | none=> rfl
 | some x=>
  simp only
  split
  ·exact if_neg h
  ·exact if_neg h
theorem leaves_ne (i:Int):∀(l:List Int) (m:PrM),i∉l→l.foldl leaveP m i=m i
 | [],m,_=> rfl
 | c::r,m,h=> by
  rw [List.foldl_cons,leaves_ne i r _ (fun e=> h (List.mem_cons_of_mem _ e)),leaveP_ne m (fun e=> h (by rw [e];exact List.mem_cons_self ..))]
theorem leaves_alive (i:Int):∀(l:List Int) (m:PrM) (x:Pr),m i=some x→x.de=false→∃y,l.foldl leaveP m i=some y∧y.de=false
 | [],m,x,h,hd=> ⟨x,h,hd⟩
 | c::r,m,x,h,hd=> by
  rw [List.foldl_cons]
  by_cases e:i=c
  ·subst e
   refine leaves_alive i r _ {x with pa:= -1} ?_ hd
   unfold leaveP
   rw [h]
   simp only [hd,Bool.false_eq_true,if_false]
   exact if_pos rfl
  ·exact leaves_alive i r _ x ((leaveP_ne m e).trans h) hd
theorem alive_some {m:PrM} {pid:Int} (h:aliveF m pid=true):∃x,m pid=some x∧x.de=false:=by
 unfold aliveF at h
 cases hm:m pid with
 | none=> rw [hm] at h;cases h
 | some x=> rw [hm] at h;exact ⟨x,rfl,by simpa using h⟩
theorem take_notin {l:List Int} (h:l.Pairwise (· < ·)) {i:Nat} {c:Int} (hc:l[i]? =some c):c∉l.take i:=by
 intro hm
 obtain ⟨j,hj,he⟩:=List.getElem_of_mem hm
 rw [List.length_take] at hj
 obtain ⟨hi,hic⟩:=List.getElem?_eq_some_iff.1 hc
 have:=List.pairwise_iff_getElem.1 h j i (by omega) hi (by omega)
 rw [List.getElem_take] at he
 omega
section
variable {w w' :World} {qb qm n s n' s' :Nat} {m m' :PrM}
set_option maxRecDepth 100000 in
set_option maxHeartbeats 2000000 in
theorem pexit_c (h:PrC w qb qm n s m) (hn:n+s≤90000000) (hs:s≤100000) (pid code:Int) (hw:(Lit.int .i64 pid).wf=true) (r:Int) (m' :PrM) (hr:exitP m pid code=(r,m')):
  Calls Tryz.prog 57 #[.pointer (some ⟨qb,0,none⟩),.int .i64 pid,.int .i64 code] w fun e w' => e= .returned (.int .i64 r)∧PrC w' qb qm (n+s+3) s m' ∧Upd (fun k=> k=qm) w w' :=by
 have hquiet:∀w1,Below w.heap.size w w1→PrC w1 qb qm (n+s+3) s m∧Upd (fun k=> k=qm) w w1:=fun w1 hB=> ⟨(h.below hB).le (by omega) (by omega),Upd.of_below hB⟩
 have hal:=alive_is h.b pid hw
 unfold exitP at hr
 cases ha:aliveF m pid with
 | false=>
  rw [if_pos ha] at hr;cases hr
  have hal' :=hal false ha
  have HQ:=Lib.hid hquiet
  clear h hquiet hal ha hw
  go_enter Tryz.func57,Tryz.ntmps57
  go_wp2_with (go_at_call 22;refine hal'.mono ?_;rintro e w1 ⟨rfl,hB⟩;have H1:=Lib.hid hB;clear hB)
  go_ret
  exact ⟨rfl,HQ.out _ H1.out⟩
 | true=>
  rw [if_neg (by rw [ha];decide)] at hr
  have hal' :=hal true ha
  by_cases hcd:code < 0∨255 < code
  ·rw [if_pos hcd] at hr;cases hr
   have HQ:=Lib.hid hquiet
   clear h hquiet hal ha hw
   by_cases h0:code < 0
   ·have d1:decide (code < 0)=true:=decide_eq_true h0
    go_enter Tryz.func57,Tryz.ntmps57
    go_wp2_with (go_at_call 22;refine hal'.mono ?_;rintro e w1 ⟨rfl,hB⟩;have H1:=Lib.hid hB;clear hB)
    go_ret
    exact ⟨rfl,HQ.out _ H1.out⟩
   ·have d1:decide (code < 0)=false:=decide_eq_false h0
    have d2:decide (code > 255)=true:=decide_eq_true (hcd.resolve_left h0)
    go_enter Tryz.func57,Tryz.ntmps57
    go_wp2_with (go_at_call 22;refine hal'.mono ?_;rintro e w1 ⟨rfl,hB⟩;have H1:=Lib.hid hB;clear hB)
    go_ret
    exact ⟨rfl,HQ.out _ H1.out⟩
  ·rw [if_neg hcd] at hr;cases hr
   have d1:decide (code < 0)=false:=decide_eq_false (by omega)
   have d2:decide (code > 255)=false:=decide_eq_false (by omega)
   obtain ⟨hIK,hkl,-⟩:=pkids_c h hs pid hw ha
   have hkc:=fun w1 (hB:Below w.heap.size w w1)=> (pkids_c (h.below hB) hs pid hw ha).2.2
   obtain ⟨ys,hys⟩:∃ys,kidsOf m pid=ys:=⟨_,rfl⟩
   rw [hys] at hIK hkl
   simp only [hys] at hkc
   rw [hys]
   obtain ⟨len,hlen⟩:∃len,ys.length=len:=⟨_,rfl⟩
   have hl6:len≤100000:=by omega
   have hpm:∀c∈ys,∃x,m c=some x:=fun c hc=> by obtain ⟨x,hx,-⟩:=(hIK.2 c).1 hc;exact ⟨x,hx⟩
   have hwfy:∀c∈ys,(Lit.int .i64 c).wf=true:=fun c hc=> by obtain ⟨x,hx⟩:=hpm c hc;exact h.p c x hx
   obtain ⟨x0,hx0,hde0⟩:=alive_some ha
   obtain ⟨⟨pa,co,de⟩,hy1,hde1⟩:=leaves_alive pid ys m x0 hx0 hde0
   obtain rfl:de=false:=hde1
   have HE:=Lib.hid (And.intro h (And.intro hkc (And.intro hIK (And.intro hpm (And.intro hwfy (And.intro hlen (And.intro hw hkl)))))))
   have HY:=Lib.hid hy1
   have HN:=Lib.hid (And.intro hn (show len≤s by omega))
   obtain ⟨hq1,hq2⟩:=h.lt
   have HZ:=Lib.hid (And.intro hq1 hq2)
   clear h hquiet hal ha hw hkc hIK hpm hwfy hlen hkl hys hx0 hde0 hy1 hcd hn hs hq1 hq2
   go_enter Tryz.func57,Tryz.ntmps57
   go_wp2_with (first
    | (go_at_call 22;refine hal'.mono ?_;rintro e w1 ⟨rfl,hB⟩;have H1:=Lib.hid hB;clear hB hal')
    | (go_at_call 97;refine (HE.out.2.1 w1 H1.out).mono ?_;rintro e w3 ⟨v,row,rfl,hR,hrow,hB3⟩;obtain ⟨ka,kl,kc,rfl,hkl⟩:∃a l c,v= .slice a l c∧l=len:=(by obtain ⟨a,c,e,-,-⟩:=hR.slice;exact ⟨a,_,c,e,by simp [HE.out.2.2.2.2.2.1]⟩);subst hkl;have H3:=Lib.hid (And.intro hR (And.intro hrow (H1.out.trans (hB3.mono H1.out.size))));clear hR hrow hB3))
   go_loopw [32] (fun ix wr=> ∃i:Nat,i≤kl∧ix= .int .i64 i∧Hid (PrC wr qb qm (n+i) s ((ys.take i).foldl leaveP m)∧Upd (fun k=> k=qm) w3 wr)) (fun ix _=> kl - (intOf ix).toNat)
   case atStart=> exact ⟨0,Nat.zero_le _,rfl,Lib.hid ⟨HE.out.1.below H3.out.2.2,Upd.refl _ _⟩⟩
   case round=>
    obtain ⟨i,hi,rfl,H⟩:=hrel
    obtain ⟨hP,hU⟩:=H.out
    by_cases him:i < kl
    ·have d3:decide ((i:Int) < kl)=true:=by simp;omega
     have i1:(i:Int) < kl:=by omega
     have i2:(0:Int)≤i:=by omega
     obtain ⟨dx,hdx⟩:∃dx,ys[i]? =some dx:=⟨_,List.getElem?_eq_getElem (by rw [HE.out.2.2.2.2.2.1];exact him)⟩
     have hmem:=List.mem_of_getElem? hdx
     obtain ⟨kg,rfl,hkc⟩:∃g,ka=some ⟨g,0,none⟩∧wr.cell? ⟨g,i,none⟩=some (.int .i64 dx):=by
      obtain ⟨hR,hro,-⟩:=H3.out
      rcases hR with ⟨hv,hn,_⟩ | ⟨g',cap',rest,hv,hgr,hBk,_⟩
      ·simp only [Value.slice.injEq] at hv
       omega
      ·simp only [Value.slice.injEq] at hv
       refine ⟨g',hv.1,?_⟩
       rw [(Blk.upd hU hBk (fun e=> by have:=hro g' hgr;have:=HZ.out.2;have:=H1.out.size;omega)).rd]
       have:(Own.icells ys)[i]? =some (.int .i64 dx):=by rw [List.getElem?_map,hdx];rfl
       have hl:=(List.getElem?_eq_some_iff.1 this).1
       show (Own.icells ys++rest).toArray[i]? =_
       rw [List.getElem?_toArray,List.getElem?_append_left hl,this]
     obtain ⟨x,hx⟩:=HE.out.2.2.2.1 dx hmem
     have hlv:=pleave_c hP (by have:=HN.out;omega) dx (HE.out.2.2.2.2.1 dx hmem) x ((leaves_ne dx _ m (take_notin HE.out.2.2.1.1 hdx)).trans hx)
     have HD:=Lib.hid (And.intro hdx hU)
     clear hdx hmem hx hP hU
     go_wp2_with (go_at_call 96;refine hlv.mono ?_;rintro e w4 ⟨rfl,hP4,hU4⟩;have H4:=Lib.hid (And.intro hP4 hU4);clear hP4 hU4 hlv)
     go_roundw
     case rel=>
      refine ⟨i+1,by omega,by go_num,Lib.hid ⟨?_,HD.out.2.trans H4.out.2 (fun _ _ h=> h)⟩⟩
      rw [List.take_add_one,HD.out.1,List.foldl_append]
      exact H4.out.1
     case measure=> simp [intOf];omega
    ·have d3:decide ((i:Int) < kl)=false:=by simp;omega
     obtain rfl:i=kl:=by omega
     rw [List.take_of_length_le (by rw [HE.out.2.2.2.2.2.1];exact Nat.le_refl _)] at hP
     have hlk:=(MapI.look hP.mm.choose_spec.choose_spec.1 Tryz.underlying3 Tryz.underlying127 (zero_pr wr) pid HE.out.2.2.2.2.2.2.1)
     rw [HY.out] at hlk
     simp only [Option.map_some,prV] at hlk
     have c1:=hP.q.rd 0
     have HP:=Lib.hid (And.intro hP hU)
     clear hP hU
     go_upto_region 15 with (fail)
     obtain ⟨W9,hW9⟩:∃W9,(wr.alloc (.cells #[.int .i64 pa,.int .i64 code,.bool true] 125)).drew=W9:=⟨_,rfl⟩
     obtain ⟨M1,hM1⟩:∃M1,ys.foldl leaveP m=M1:=⟨_,rfl⟩
     have hY1:=HY.out
     obtain ⟨hP,hU⟩:=HP.out
     rw [hM1] at hP hY1
     have h9:Below wr.heap.size wr W9:=by rw [←hW9];exact ((Below.refl _ _).alloc (Nat.le_refl _) _).trans ((dn _ 1).mono (by simp))
     have hb9:Blk W9 wr.heap.size #[.int .i64 pa,.int .i64 code,.bool true] 125:=by rw [←hW9];exact (Blk.new wr _ _).drew
     have hp9:=hP.below h9
     obtain ⟨hlt1,hlt2⟩:=hP.lt
     have hne:=hP.ne
     have hw:=HE.out.2.2.2.2.2.2.1
     obtain ⟨RQ,hRQ⟩:∃RQ:World→Prop,RQ=fun w9=> PrC w9 qb qm (n+i+1) s (prPut M1 pid (some ⟨pa,code,true⟩))∧Upd (fun k=> k=qm) W9 w9∧Blk w9 wr.heap.size #[.int .i64 pa,.int .i64 code,.bool true] 125:=⟨_,rfl⟩
     obtain ⟨n',s',hm9,hn',hs'⟩:=hp9.mm
     have key:∀w9,MapI w9 Tryz.prog 3 qm (n' +1) (if ((M1 pid).map prV).isSome then s' else s' +1) (mput (fun i=> (M1 i).map prV) pid (prV ⟨pa,code,true⟩))→Upd (fun k=> k=qm) W9 w9→RQ w9:=by
      intro w9 hm2 hu2
      rw [hRQ]
      refine ⟨?_,hu2,Blk.upd hu2 hb9 (by omega)⟩
      have:=PrC.put (Blk.upd hu2 hp9.q hne) hp9 hw ⟨pa,code,true⟩ hn' hs' hm2
      rwa [hY1] at this
     have HM:=Lib.hid (And.intro key (And.intro hm9 (And.intro hn' (And.intro hw (And.intro hp9.q (And.intro hb9 HN.out))))))
     have hbase:Upd (fun k=> k=qm) w W9:=((Upd.of_below (F:=fun k=> k=qm) H3.out.2.2).trans hU (fun _ _ h=> h)).trans (Upd.of_below h9) (fun _ _ h=> h)
     have HF:=Lib.hid (And.intro hRQ (And.intro hbase hY1))
     clear hP hU hY1 h9 hb9 hp9 hlt1 hlt2 hne hRQ hm9 hn' hs' key hw hlk c1 hbase
     refine region_C 6 W9 RQ hW9 (by kernel_rfl) (by kernel_rfl) ?_
     iterate 3
      apply wpJ_op rfl (by rfl)
      ·intro f w1 hf hJ Q1 hQ
       simp only [nrm] at hQ
       go_wp2_with (fail)
       exact hQ _ _ rfl (hJ.other rfl hf (by decide))
      simp only [nrm]
     apply wpJ_op rfl (by rfl)
     ·intro f w1 hf hJ Q1 hQ
      have hC:f 6=false:=path_no hJ.1 [3] (by kernel_rfl) (by decide) hf.1
      rw [hJ.atC hC]
      have hF:=HM.out
      have c1:=hF.2.2.2.2.1.rd 0
      simp only [nrm] at hQ
      go_wp2_with (fail)
      exact hQ _ _ rfl (by have h9:=hJ.other rfl hf (by decide);rwa [hJ.atC hC] at h9)
     simp only [nrm]
     apply wpJ_op rfl (by rfl)
     ·intro f w1 hf hJ Q1 hQ
      simp only [nrm] at hQ
      go_wp2_with (fail)
      exact hQ _ _ rfl (hJ.other rfl hf (by decide))
     simp only [nrm]
     apply wpJ_op rfl (by rfl)
     ·intro f w1 hf hJ Q1 hQ
      have hC:f 6=false:=path_no hJ.1 [5] (by kernel_rfl) (by decide) hf.1
      rw [hJ.atC hC]
      have hF:=HM.out
      have c2:=hF.2.2.2.2.2.1.rd
      simp only [nrm] at hQ
      go_wp2_with (fail)
      exact hQ _ _ rfl (by have h9:=hJ.other rfl hf (by decide);rwa [hJ.atC hC] at h9)
     simp only [nrm]
     apply wpJ_op (v:=undef) rfl (by rfl)
     ·intro f w1 hf hJ Q1 hQ
      rw [hJ.atC hf.1]
      simp only [nrm] at hQ
      go_wp2_with (refine wp_mapput _ rfl (.tmp 52) (.tmp 53) (.tmp 54) 127 rfl 3 125 Tryz.underlying3 Tryz.underlying127 qm n' s' _ rfl HM.out.2.1 (by have:=HM.out.2.2.1;have:=HM.out.2.2.2.2.2.2;unfold maxLen;omega) pid HM.out.2.2.2.1 _ rfl rfl ?_;intro w2 hm2 hu2;have hq:=HM.out.1 w2 hm2 hu2;clear hm2 hu2)
      exact hQ _ _ rfl (hJ.goC rfl hf hq)
     simp only [nrm]
     refine wpJ_nil ?_
     intro w9 hJ9
     have hq9:=hJ9.fin rfl
     clear hJ9
     obtain ⟨hRQ,hbase,hY1⟩:=HF.out
     rw [hRQ] at hq9
     obtain ⟨hP,hU,hB⟩:=hq9
     have hk:=hB.rd
     have hfin:exitM M1 pid code=if pa= -1 then prPut M1 pid none else prPut M1 pid (some ⟨pa,code,true⟩):=by unfold exitM;rw [hY1]
     have hlv:=fun (e:pa= -1)=> pleave_c (n:=n+i+1) hP (by have:=HN.out;omega) pid HM.out.2.2.2.1 ⟨pa,code,true⟩ (if_pos rfl)
     have HG:=Lib.hid (And.intro hP (And.intro hU (And.intro hfin hbase)))
     clear hP hU hB hfin hbase hRQ hY1
     by_cases hpa:pa= -1
     ·have hlv1:=hlv hpa
      have e1:(pa== -1)=true:=by simpa using hpa
      clear hlv
      go_wp2_with (go_at_call 96;refine hlv1.mono ?_;rintro e w6 ⟨rfl,hP6,hU6⟩;have H6:=Lib.hid (And.intro hP6 hU6);clear hP6 hU6 hlv1)
      go_ret
      obtain ⟨hP,hU,hfin,hbase⟩:=HG.out
      obtain ⟨hP6,hU6⟩:=H6.out
      refine ⟨rfl,?_,(hbase.trans hU (fun _ _ h=> h)).trans hU6 (fun _ _ h=> h)⟩
      rw [hM1,hfin,if_pos hpa]
      have e:leaveP (prPut M1 pid (some ⟨pa,code,true⟩)) pid=prPut M1 pid none:=by
       unfold leaveP
       rw [show prPut M1 pid (some ⟨pa,code,true⟩) pid=some ⟨pa,code,true⟩ from if_pos rfl]
       simp only [if_true]
       funext j
       unfold prPut
       split <;> rfl
      rw [e] at hP6
      exact hP6.le (by have:=HN.out;omega) (Nat.le_refl _)
     ·have e1:(pa== -1)=false:=by simpa using hpa
      clear hlv
      go_wp2_with (fail)
      go_ret
      obtain ⟨hP,hU,hfin,hbase⟩:=HG.out
      refine ⟨rfl,?_,hbase.trans hU (fun _ _ h=> h)⟩
      rw [hM1,hfin,if_neg hpa]
      exact hP.le (by have:=HN.out;omega) (Nat.le_refl _)
end
end Go.Proofs.YtjpjafajploiaaaGreatDoor
namespace Go.Proofs.YtjpjafajploiaaaGreatDoor
open Go.RowKit Own RegJ Two
def deadOf (m:PrM) (c:Int):Bool:=match m c with
 | some x=> x.de
 | none=> false
def codeOf (m:PrM) (c:Int):Int:=match m c with
 | some x=> x.co
 | none=> 0
noncomputable def childP (m:PrM) (pid:Int):Int×Int×Int×PrM:=if aliveF m pid=false then (0,0,4,m) else if kidsOf m pid= [] then (0,0,18,m) else match (kidsOf m pid).findIdx? (deadOf m) with
 | none=> (0,0,17,m)
 | some i=> ((kidsOf m pid).getD i 0,codeOf m ((kidsOf m pid).getD i 0),0,prPut m ((kidsOf m pid).getD i 0) none)
theorem fld_p (pa co:Int) (de:Bool) (w:World):(Instr.field 125 (.agg #[.int .i64 pa,.int .i64 co,.bool de]) 0).run Tryz.prog w= .ok (.int .i64 pa) w∧(Instr.field 125 (.agg #[.int .i64 pa,.int .i64 co,.bool de]) 1).run Tryz.prog w= .ok (.int .i64 co) w∧(Instr.field 125 (.agg #[.int .i64 pa,.int .i64 co,.bool de]) 2).run Tryz.prog w= .ok (.bool de) w:=⟨by kernel_rfl,by kernel_rfl,by kernel_rfl⟩
theorem look_some {w:World} {qb qm n s:Nat} {m:PrM} (h:PrC w qb qm n s m) {c:Int} {x:Pr} (hx:m c=some x):(Instr.lookup 127 (.map (some qm)) (.int .i64 c) false).run Tryz.prog w= .ok (.agg #[.int .i64 x.pa,.int .i64 x.co,.bool x.de]) w:=by
 obtain ⟨n',s',hmm,-⟩:=h.mm
 have:=MapI.look hmm Tryz.underlying3 Tryz.underlying127 (zero_pr w) c (h.p c x hx)
 rw [hx] at this
 exact this
section
variable {w w' :World} {qb qm n s n' s' :Nat} {m m' :PrM}
set_option maxRecDepth 100000 in
theorem dead_c (h:PrC w qb qm n s m) {tb2:Nat} (ht:Blk w tb2 #[.pointer (some ⟨qb,0,none⟩)] 55) {c:Int} {x:Pr} (hx:m c=some x):
  Calls Tryz.prog 153 #[.int .i64 c,.pointer (some ⟨tb2,0,none⟩)] w fun e w' => e= .returned (.bool x.de)∧w=w' :=by
 have hl:=look_some h hx
 have c0:=h.q.rd 0
 have c1:=ht.rd 0
 have hf:=(fld_p x.pa x.co x.de w).2.2
 clear h ht hx
 go_enter Tryz.func153,Tryz.ntmps153
 go_wp2_with (fail)
 go_ret
 exact ⟨rfl,rfl⟩
def fiR (o:Option Nat):Int:=match o with | some i=> (i:Int) | none=> -1
theorem fi_none {p:Int→Bool} {ys:List Int} (h:∀(j:Nat) (c:Int),ys[j]? =some c→p c=false):ys.findIdx? p=none:=List.findIdx?_eq_none_iff.2 fun c hc=> by
 obtain ⟨j,hj,he⟩:=List.getElem_of_mem hc
 exact h j c (by rw [List.getElem?_eq_getElem hj,he])
theorem fi_some {p:Int→Bool} {ys:List Int} {i:Nat} {c:Int} (hi:ys[i]? =some c) (hc:p c=true) (h:∀(j:Nat) (c:Int),j < i→ys[j]? =some c→p c=false):ys.findIdx? p=some i:=by
 obtain ⟨hlt,he⟩:=List.getElem?_eq_some_iff.1 hi
 refine List.findIdx?_eq_some_iff_getElem.2 ⟨hlt,by rw [he];exact hc,fun j hj=> ?_⟩
 have:=h j (ys[j]'(by omega)) hj (List.getElem?_eq_getElem (by omega))
 simp [this]
set_option maxRecDepth 100000 in
set_option maxHeartbeats 1000000 in
theorem index_c (h:PrC w qb qm n s m) {tb2:Nat} (ht:Blk w tb2 #[.pointer (some ⟨qb,0,none⟩)] 55) (ys:List Int) (hy:∀c∈ys,∃x,m c=some x) (len:Nat) (hlen:ys.length=len) (hl6:len≤100000) (a:Option Addr) (cp:Nat) (row:Option Nat) (hR:RowV w 3 (.slice a len cp) (icells ys) row) (r:Int) (hr:fiR (ys.findIdx? (deadOf m))=r):
  Calls Tryz.prog 152 #[.slice a len cp,.func (.func 153) #[] #[.pointer (some ⟨tb2,0,none⟩)]] w fun e w' => e= .returned (.int .i64 r)∧w=w' :=by
 have HE:=Lib.hid (And.intro h (And.intro ht (And.intro hy (And.intro hlen (And.intro hR hr)))))
 clear h ht hy hlen hR hr
 go_enter Tryz.func152,Tryz.ntmps152
 go_wp2_with (fail)
 go_loopw [8] (fun ix wr=> ∃i:Nat,i≤len∧ix= .int .i64 i∧wr=w∧Hid (∀(j:Nat) (c:Int),j < i→ys[j]? =some c→deadOf m c=false)) (fun ix _=> len - (intOf ix).toNat)
 case atStart=> exact ⟨0,Nat.zero_le _,rfl,rfl,Lib.hid (fun j c hj=> by omega)⟩
 case round=>
  obtain ⟨i,hi,rfl,rfl,H⟩:=hrel
  by_cases him:i < len
  ·have d1:decide ((i:Int) < len)=true:=by simp;omega
   have i1:(i:Int) < len:=by omega
   have i2:(0:Int)≤i:=by omega
   obtain ⟨dx,hdx⟩:∃dx,ys[i]? =some dx:=⟨_,List.getElem?_eq_getElem (by rw [HE.out.2.2.2.1];exact him)⟩
   obtain ⟨kg,rfl,hkc⟩:∃g,a=some ⟨g,0,none⟩∧wr.cell? ⟨g,i,none⟩=some (.int .i64 dx):=by
    rcases HE.out.2.2.2.2.1 with ⟨hv,hn,_⟩ | ⟨g',cap',rest,hv,hgr,hBk,_⟩
    ·simp only [Value.slice.injEq] at hv
     omega
    ·simp only [Value.slice.injEq] at hv
     refine ⟨g',hv.1,?_⟩
     rw [hBk.rd]
     have:(icells ys)[i]? =some (.int .i64 dx):=by rw [List.getElem?_map,hdx];rfl
     have hl:=(List.getElem?_eq_some_iff.1 this).1
     show (icells ys++rest).toArray[i]? =_
     rw [List.getElem?_toArray,List.getElem?_append_left hl,this]
   obtain ⟨x,hx⟩:=HE.out.2.2.1 dx (List.mem_of_getElem? hdx)
   have hdc:=dead_c HE.out.1 HE.out.2.1 hx
   have hdo:deadOf m dx=x.de:=by unfold deadOf;rw [hx]
   obtain ⟨pa,co,de⟩:=x
   simp only at hdc hdo
   have HD:=Lib.hid (And.intro hdx hdo)
   clear hdx hx hdo
   cases de with
   | true=>
    go_wp2_with (go_at_call 153;refine hdc.mono ?_;rintro e w4 ⟨rfl,rfl⟩)
    go_ret
    refine ⟨?_,rfl⟩
    rw [←HE.out.2.2.2.2.2,fi_some HD.out.1 HD.out.2 H.out]
    rfl
   | false=>
    go_wp2_with (go_at_call 153;refine hdc.mono ?_;rintro e w4 ⟨rfl,rfl⟩)
    go_roundw
    case rel=>
     refine ⟨i+1,by omega,by go_num,by trivial,Lib.hid (fun j c hj hc=> ?_)⟩
     by_cases e:j=i
     ·subst e
      rw [HD.out.1] at hc
      cases hc
      exact HD.out.2
     ·exact H.out j c (by omega) hc
    case measure=> simp [intOf];omega
  ·have d1:decide ((i:Int) < len)=false:=by simp;omega
   obtain rfl:i=len:=by omega
   go_wp2_with (fail)
   go_ret
   refine ⟨?_,rfl⟩
   rw [←HE.out.2.2.2.2.2,fi_none (fun j c hc=> H.out j c (by rw [←HE.out.2.2.2.1];exact (List.getElem?_eq_some_iff.1 hc).1) hc)]
   rfl
set_option maxRecDepth 100000 in
set_option maxHeartbeats 2000000 in
theorem pchild_c (h:PrC w qb qm n s m) (hs:s≤100000) (pid:Int) (hw:(Lit.int .i64 pid).wf=true) (r1 r2 r3:Int) (m' :PrM) (hr:childP m pid=(r1,r2,r3,m')):
  Calls Tryz.prog 95 #[.pointer (some ⟨qb,0,none⟩),.int .i64 pid] w fun e w' => e= .returned (.tuple #[.int .i64 r1,.int .i64 r2,.int .i64 r3])∧PrC w' qb qm n s m' ∧Upd (fun k=> k=qm) w w' :=by
 have hquiet:∀w1,Below w.heap.size w w1→PrC w1 qb qm n s m∧Upd (fun k=> k=qm) w w1:=fun w1 hB=> ⟨h.below hB,Upd.of_below hB⟩
 have hal0:Below w.heap.size w (w.alloc (.cells #[.pointer (some ⟨qb,0,none⟩)] 55)):=(Below.refl _ _).alloc (Nat.le_refl _) _
 have hal:=alive_is (h.below hal0).b pid hw
 have hc0:=(Blk.new w #[.pointer (some ⟨qb,0,none⟩)] 55)
 have c0:=hc0.rd 0
 unfold childP at hr
 cases ha:aliveF m pid with
 | false=>
  rw [if_pos ha] at hr;cases hr
  have hal' :=hal false ha
  have HQ:=Lib.hid (And.intro hquiet hal0)
  clear h hquiet hal ha hw hal0 hc0
  go_enter Tryz.func95,Tryz.ntmps95
  go_wp2_with (go_at_call 22;refine hal'.mono ?_;rintro e w1 ⟨rfl,hB⟩;have H1:=Lib.hid (HQ.out.2.trans (hB.mono HQ.out.2.size));clear hB)
  go_returns
  exact ⟨rfl,HQ.out.1 _ H1.out⟩
 | true=>
  rw [if_neg (by rw [ha];decide)] at hr
  have hal' :=hal true ha
  obtain ⟨hIK,hkl,-⟩:=pkids_c h hs pid hw ha
  have hkc:=fun w1 (hB:Below w.heap.size w w1)=> (pkids_c (h.below hB) hs pid hw ha).2.2
  obtain ⟨ys,hys⟩:∃ys,kidsOf m pid=ys:=⟨_,rfl⟩
  rw [hys] at hIK hkl hr
  simp only [hys] at hkc
  obtain ⟨len,hlen⟩:∃len,ys.length=len:=⟨_,rfl⟩
  have hl6:len≤100000:=by omega
  have hpm:∀c∈ys,∃x,m c=some x:=fun c hc=> by obtain ⟨x,hx,-⟩:=(hIK.2 c).1 hc;exact ⟨x,hx⟩
  obtain ⟨fi,hfi⟩:∃fi,ys.findIdx? (deadOf m)=fi:=⟨_,rfl⟩
  have hix:=fun w1 (hB:Below w.heap.size w w1) (hB0:Below (w.alloc (.cells #[.pointer (some ⟨qb,0,none⟩)] 55)).heap.size (w.alloc (.cells #[.pointer (some ⟨qb,0,none⟩)] 55)) w1) a cp row (hR:RowV w1 3 (.slice a len cp) (icells ys) row)=> index_c (h.below hB) (Blk.below hB0 hc0 hc0.lt) ys hpm len hlen hl6 a cp row hR (fiR fi) (by rw [hfi])
  have HE:=Lib.hid (And.intro h (And.intro hkc (And.intro hix (And.intro hpm (And.intro hlen (And.intro hw (And.intro hal0 hc0)))))))
  have HQ:=Lib.hid hquiet
  rw [hfi] at hr
  have ARMC:=True
  by_cases hnil:ys= []
  ·rw [if_pos hnil] at hr;cases hr
   have hl0:len=0:=by rw [←hlen,hnil];rfl
   subst hl0
   clear h hquiet hal ha hw hkc hIK hpm hlen hkl hys hal0 hc0 hix ARMC hfi hnil
   go_enter Tryz.func95,Tryz.ntmps95
   go_wp2_with (first
    | (go_at_call 22;refine hal'.mono ?_;rintro e w1 ⟨rfl,hB⟩;have c1:=(Blk.below hB HE.out.2.2.2.2.2.2.2 HE.out.2.2.2.2.2.2.2.lt).rd 0;have H1:=Lib.hid (HE.out.2.2.2.2.2.2.1.trans (hB.mono HE.out.2.2.2.2.2.2.1.size));clear hB hal')
    | (go_at_call 97;refine (HE.out.2.1 w1 H1.out).mono ?_;rintro e w3 ⟨v,row,rfl,hR,hrow,hB3⟩;obtain ⟨ka,kl,kc,rfl,hkl⟩:∃a l c,v= .slice a l c∧l=0:=(by obtain ⟨a,c,e,-,-⟩:=hR.slice;exact ⟨a,_,c,e,by simp [HE.out.2.2.2.2.1]⟩);subst hkl;have H3:=Lib.hid (H1.out.trans (hB3.mono H1.out.size));clear hR hrow hB3))
   go_returns
   exact ⟨rfl,HQ.out _ H3.out⟩
  ·rw [if_neg hnil] at hr
   have hpos:0 < len:=by rw [←hlen];exact List.length_pos_iff.2 hnil
   have e0:((len:Int)==0)=false:=by simp;omega
   clear hnil
   cases fi with
   | none=>
    simp only at hr
    cases hr
    have d1:decide (fiR none < 0)=true:=by decide
    simp only [show fiR none= -1 from rfl] at HE
    clear h hquiet hal ha hw hkc hIK hpm hlen hkl hys hal0 hc0 hix ARMC hfi
    go_enter Tryz.func95,Tryz.ntmps95
    go_wp2_with (first
     | (go_at_call 22;refine hal'.mono ?_;rintro e w1 ⟨rfl,hB⟩;have c1:=(Blk.below hB HE.out.2.2.2.2.2.2.2 HE.out.2.2.2.2.2.2.2.lt).rd 0;have H1:=Lib.hid (And.intro (HE.out.2.2.2.2.2.2.1.trans (hB.mono HE.out.2.2.2.2.2.2.1.size)) hB);clear hB hal')
     | (go_at_call 97;refine (HE.out.2.1 w1 H1.out.1).mono ?_;rintro e w3 ⟨v,row,rfl,hR,hrow,hB3⟩;obtain ⟨ka,kl,kc,rfl,hkl⟩:∃a l c,v= .slice a l c∧l=len:=(by obtain ⟨a,c,e,-,-⟩:=hR.slice;exact ⟨a,_,c,e,by simp [HE.out.2.2.2.2.1]⟩);subst hkl;have H3:=Lib.hid (And.intro (H1.out.1.trans (hB3.mono H1.out.1.size)) (And.intro (H1.out.2.trans ((hB3.mono (Nat.le_trans (Nat.le_of_eq rfl) H1.out.2.size)))) hR));clear hR hrow hB3)
     | (go_at_call 152;refine (HE.out.2.2.1 w3 H3.out.1 H3.out.2.1 ka kc row H3.out.2.2).mono ?_;rintro e w4 ⟨rfl,rfl⟩))
    go_returns
    exact ⟨rfl,HQ.out _ H3.out.1⟩
   | some i=>
    simp only at hr
    obtain ⟨hlt,hdd,-⟩:=List.findIdx?_eq_some_iff_getElem.1 hfi
    obtain ⟨dx,hdx⟩:∃dx,ys[i]? =some dx:=⟨_,List.getElem?_eq_getElem hlt⟩
    have hgd:ys.getD i 0=dx:=by rw [List.getD_eq_getElem?_getD,hdx];rfl
    rw [hgd] at hr
    have hdd2:deadOf m dx=true:=by rw [List.getElem?_eq_getElem hlt] at hdx;cases hdx;exact hdd
    obtain ⟨x,hx⟩:=hpm dx (List.mem_of_getElem? hdx)
    have hco:codeOf m dx=x.co:=by unfold codeOf;rw [hx]
    rw [hco] at hr
    obtain ⟨pa,co,de⟩:=x
    simp only at hr
    cases hr
    have i1:(i:Int) < len:=by omega
    have i2:(0:Int)≤i:=by omega
    have d1:decide ((i:Int) < 0)=false:=decide_eq_false (by omega)
    simp only [show fiR (some i)=(i:Int) from rfl] at HE
    have HX:=Lib.hid (And.intro hx hdx)
    have HL:=Lib.hid h.lt
    clear h hquiet hal ha hw hkc hIK hpm hlen hkl hys hal0 hc0 hix ARMC hfi hx hco hgd hdd2 hdd hdx hlt
    go_enter Tryz.func95,Tryz.ntmps95
    go_upto_region 11 with (first
     | (go_at_call 22;refine hal'.mono ?_;rintro e w1 ⟨rfl,hB⟩;have c1:=(Blk.below hB HE.out.2.2.2.2.2.2.2 HE.out.2.2.2.2.2.2.2.lt).rd 0;have H1:=Lib.hid (And.intro (HE.out.2.2.2.2.2.2.1.trans (hB.mono HE.out.2.2.2.2.2.2.1.size)) hB);clear hB hal')
     | (go_at_call 97;refine (HE.out.2.1 w1 H1.out.1).mono ?_;rintro e w3 ⟨v,row,rfl,hR,hrow,hB3⟩;obtain ⟨ka,kl,kc,rfl,hkl⟩:∃a l c,v= .slice a l c∧l=len:=(by obtain ⟨a,c,e,-,-⟩:=hR.slice;exact ⟨a,_,c,e,by simp [HE.out.2.2.2.2.1]⟩);subst hkl;have H3:=Lib.hid (And.intro (H1.out.1.trans (hB3.mono H1.out.1.size)) (And.intro (H1.out.2.trans ((hB3.mono (Nat.le_trans (Nat.le_of_eq rfl) H1.out.2.size)))) (And.intro hR hrow)));clear hR hrow hB3 c1)
     | (go_at_call 152;refine (HE.out.2.2.1 w3 H3.out.1 H3.out.2.1 ka kc row H3.out.2.2.1).mono ?_;rintro e w4 ⟨rfl,rfl⟩))
    obtain ⟨kg,rfl,hkg,hkcell⟩:∃g,ka=some ⟨g,0,none⟩∧g≠qm∧w3.cell? ⟨g,i,none⟩=some (.int .i64 r1):=by
     obtain ⟨-,-,hR,hro⟩:=H3.out
     rcases hR with ⟨hv,hn,_⟩ | ⟨g',cap',rest,hv,hgr,hBk,_⟩
     ·simp only [Value.slice.injEq] at hv
      omega
     ·simp only [Value.slice.injEq] at hv
      refine ⟨g',hv.1,fun e=> ?_,?_⟩
      ·have:=hro g' hgr
       have:=HL.out.2
       have:=H1.out.1.size
       omega
      ·rw [hBk.rd]
       have:(icells ys)[i]? =some (.int .i64 r1):=by rw [List.getElem?_map,HX.out.2];rfl
       have hl:=(List.getElem?_eq_some_iff.1 this).1
       show (icells ys++rest).toArray[i]? =_
       rw [List.getElem?_toArray,List.getElem?_append_left hl,this]
    obtain ⟨W9,hW9⟩:∃W9,w3.drew=W9:=⟨_,rfl⟩
    have h9:Below w3.heap.size w3 W9:=by rw [←hW9];exact dn w3 1
    have hkl3:=World.block_lt_of_cell? _ _ hkcell
    have hP9:=(HE.out.1.below H3.out.1).below h9
    have c0:=(Blk.below h9 (Blk.below H3.out.2.1 HE.out.2.2.2.2.2.2.2 HE.out.2.2.2.2.2.2.2.lt) ((Blk.below H3.out.2.1 HE.out.2.2.2.2.2.2.2 HE.out.2.2.2.2.2.2.2.lt)).lt)
    have HC:=Lib.hid (And.intro hP9 (And.intro c0 (And.intro ((h9.cell (p:=⟨kg,i,none⟩) hkl3).trans hkcell) (And.intro hkg (H3.out.1.trans (h9.mono H3.out.1.size))))))
    clear h9 hP9 c0 hkl3 hkcell hkg
    have HF9:(fun u=> u.cell? ⟨w.heap.size,0,none⟩=some (.pointer (some ⟨qb,0,none⟩))∧u.cell? ⟨qb,0,none⟩=some (.map (some qm))∧u.cell? ⟨kg,i,none⟩=some (.int .i64 r1)∧(Instr.lookup 127 (.map (some qm)) (.int .i64 r1) false).run Tryz.prog u= .ok (.agg #[.int .i64 pa,.int .i64 r2,.bool de]) u∧(Instr.field 125 (.agg #[.int .i64 pa,.int .i64 r2,.bool de]) 1).run Tryz.prog u= .ok (.int .i64 r2) u) W9:=⟨HC.out.2.1.rd 0,HC.out.1.q.rd 0,HC.out.2.2.1,look_some HC.out.1 HX.out.1,(fld_p pa r2 de W9).2.1⟩
    obtain ⟨k1,k2,k3,k4,k5⟩:=HF9
    refine region_J (fun _ w1=> w1=W9) (by kernel_rfl) (by kernel_rfl) hW9 ?_
    iterate 11
     apply wpJ_op rfl (by rfl)
     ·intro f w1 hf hJ Q1 hQ
      subst hJ
      simp only [nrm] at hQ
      go_wp2_with (fail)
      exact hQ _ _ rfl rfl
     simp only [nrm]
    refine wpJ_nil ?_
    intro wa hJ9
    subst hJ9
    go_upto_region 12 with (fail)
    obtain ⟨W8,hW8⟩:∃W8,wa.drew=W8:=⟨_,rfl⟩
    have h8:Below wa.heap.size wa W8:=by rw [←hW8];exact dn wa 1
    obtain ⟨hP9,hB9,hk9,hkq,hb9⟩:=HC.out
    have hkl9:=World.block_lt_of_cell? _ _ hk9
    have hP8:=hP9.below h8
    have hB8:=Blk.below h8 hB9 hB9.lt
    have hk8:=(h8.cell (p:=⟨kg,i,none⟩) hkl9).trans hk9
    have hb8:=hb9.trans (h8.mono hb9.size)
    obtain ⟨n',s',hm8,hn',hs'⟩:=hP8.mm
    obtain ⟨RQ,hRQ⟩:∃RQ:World→Prop,RQ=fun w9=> PrC w9 qb qm n s (prPut m r1 none)∧Upd (fun k=> k=qm) W8 w9:=⟨_,rfl⟩
    have hwx:=hP8.p r1 _ HX.out.1
    have key:∀w9,MapI w9 Tryz.prog 3 qm n' (if ((m r1).map prV).isSome then s' - 1 else s') (mdel (fun i=> (m i).map prV) r1)→Upd (fun k=> k=qm) W8 w9→RQ w9:=by
     intro w9 hm2 hu2
     rw [hRQ]
     exact ⟨PrC.del (Blk.upd hu2 hP8.q hP8.ne) hP8 hwx hn' hs' hm2,hu2⟩
    have HM:=Lib.hid (And.intro key (And.intro hm8 (And.intro hwx (And.intro hP8.q (And.intro hB8 hk8)))))
    have HF:=Lib.hid (And.intro hRQ (And.intro hb8 (And.intro hk8 hkq)))
    clear h8 hP9 hB9 hk9 hkq hb9 hkl9 hP8 hB8 hk8 hb8 hm8 hn' hs' hRQ hwx key
    refine region_C 8 W8 RQ hW8 (by kernel_rfl) (by kernel_rfl) ?_
    apply wpJ_op rfl (by rfl)
    ·intro f w1 hf hJ Q1 hQ
     have hC:f 8=false:=path_no hJ.1 [3,2,1,0] (by kernel_rfl) (by decide) hf.1
     rw [hJ.atC hC]
     have hF:=HM.out
     have c1:=hF.2.2.2.2.1.rd 0
     simp only [nrm] at hQ
     go_wp2_with (fail)
     exact hQ _ _ rfl (by have h9:=hJ.other rfl hf (by decide);rwa [hJ.atC hC] at h9)
    iterate 2
     simp only [nrm]
     apply wpJ_op rfl (by rfl)
     ·intro f w1 hf hJ Q1 hQ
      simp only [nrm] at hQ
      go_wp2_with (fail)
      exact hQ _ _ rfl (hJ.other rfl hf (by decide))
    simp only [nrm]
    apply wpJ_op rfl (by rfl)
    ·intro f w1 hf hJ Q1 hQ
     have hC:f 8=false:=path_no hJ.1 [3] (by kernel_rfl) (by decide) hf.1
     rw [hJ.atC hC]
     have hF:=HM.out
     have c2:=hF.2.2.2.1.rd 0
     simp only [nrm] at hQ
     go_wp2_with (fail)
     exact hQ _ _ rfl (by have h9:=hJ.other rfl hf (by decide);rwa [hJ.atC hC] at h9)
    iterate 3
     simp only [nrm]
     apply wpJ_op rfl (by rfl)
     ·intro f w1 hf hJ Q1 hQ
      simp only [nrm] at hQ
      go_wp2_with (fail)
      exact hQ _ _ rfl (hJ.other rfl hf (by decide))
    simp only [nrm]
    apply wpJ_op rfl (by rfl)
    ·intro f w1 hf hJ Q1 hQ
     have hC:f 8=false:=path_no hJ.1 [7] (by kernel_rfl) (by decide) hf.1
     rw [hJ.atC hC]
     have hF:=HM.out
     have c3:=hF.2.2.2.2.2
     simp only [nrm] at hQ
     go_wp2_with (fail)
     exact hQ _ _ rfl (by have h9:=hJ.other rfl hf (by decide);rwa [hJ.atC hC] at h9)
    simp only [nrm]
    apply wpJ_op (v:=undef) rfl (by rfl)
    ·intro f w1 hf hJ Q1 hQ
     rw [hJ.atC hf.1]
     simp only [nrm] at hQ
     go_wp2_with (at_delete;refine wp_mapdel _ rfl (.tmp 42) (.tmp 46) 127 3 rfl 125 Tryz.underlying3 Tryz.underlying127 qm n' s' _ rfl HM.out.2.1 r1 HM.out.2.2.1 rfl ?_;intro w5 hM5 hu5;have hq:=HM.out.1 w5 hM5 hu5;clear hM5 hu5)
     exact hQ _ _ rfl (hJ.goC rfl hf hq)
    simp only [nrm]
    refine wpJ_nil ?_
    intro w9 hJ9
    have hq9:=hJ9.fin rfl
    clear hJ9
    obtain ⟨hRQ,hb8,hk8,hkq⟩:=HF.out
    rw [hRQ] at hq9
    obtain ⟨hP,hU⟩:=hq9
    have k8:w9.cell? ⟨kg,i,none⟩=some (.int .i64 r1):=cell_upd hU hk8 hkq
    have HG:=Lib.hid (And.intro hP (And.intro hU hb8))
    clear hP hU hb8 hk8 hkq hRQ
    go_wp2_with (fail)
    go_returns
    exact ⟨rfl,HG.out.1,(Upd.of_below HG.out.2.2).trans HG.out.2.1 (fun _ _ h=> h)⟩
end
end Go.Proofs.YtjpjafajploiaaaGreatDoor
