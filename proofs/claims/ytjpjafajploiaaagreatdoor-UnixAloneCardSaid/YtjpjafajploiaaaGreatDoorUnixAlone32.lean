/-
  Descriptors: a Write of a file that is refused.
-/
import Derived.Test.YtjpjafajploiaaaGreatDoorUnixAlone31
set_option linter.unusedSimpArgs false
set_option linter.unusedVariables false
namespace Go.Proofs.YtjpjafajploiaaaGreatDoor
open Go.RowKit Own RegJ Two
open Go.Lib hiding intOf
section
variable {w0 w w1 w2 w' :World} {O O1:Nat→Prop} {fdb vb tb fb sb pb mb:Nat} {ns ns' :NSt} {c N N' :Nat} {S S' :FS}
set_option maxRecDepth 100000 in
set_option maxHeartbeats 4000000 in
theorem kf_writeerr [Inhabited CapT] {ns2:NSt}(h:FX w0 O fdb vb tb fb sb pb mb ns c N S w)(x:Nat)(t:Th)(ht:S.th x=some t)(hid:(Lit.int .i64 t.id).wf=true)(bs:List Int)(m cp:Nat)(a:Option Addr)(hm:bs.length=m)(hm6:m≤100000)(hv:SrcF O w(.slice a m cp)bs)
  (p:Int)(hp0:0≤p)(hp:(t.en=false∧t.pl=p)∨(t.en=true∧∃e,sizeV(filesOf ns)t.id=(p,e)))(r:Int)(hr:wrF ns capN t.id p bs=(r,ns2))(hr0:r≠0):
  Calls Tryz.prog 84 #[.pointer(some⟨fdb,0,none⟩),.pointer(some⟨x,0,none⟩),.slice a m cp]w(FP w0 O fdb vb tb fb sb pb mb ns2 c N S w(.int .i64 r)):=by
 have hB:=h.fd.x x t ht
 have HE:=Lib.hid(And.intro h(And.intro hid(And.intro(show bs.length≤1000000 by omega)(And.intro hv(And.intro hr ht)))))
 have dr1:(r==0)=false:=by simpa using hr0
 have dr2:(r !=0)=true:=by simpa using hr0
 clear hr0
 rcases hp with⟨hen,hpl⟩ | ⟨hen,er,hsv⟩
 ·have c3:w.cell? ⟨x,3,none⟩=some(.int .i64 p):=by rw [←hpl];exact hB.rd 3
  have c4:w.cell? ⟨x,4,none⟩=some(.bool false):=by rw [←hen];exact hB.rd 4
  clear h hB ht hid hv hr hen hpl
  go_enter Tryz.func84,Tryz.ntmps84
  go_upto_region 4 with(fail)
  clear c3 c4
  have hBX:Below w.heap.size w w:=(Below.refl _ _)
  have hDX:=HE.out.1.below hBX
  have hDd:=hDX.below(dn w 1)
  have hBd:Below w.heap.size w(w.drewN 1):=hBX.trans((dn w 1).mono hBX.size)
  have hst:Calls Tryz.prog 141 #[.pointer(some⟨vb,0,none⟩)]w.drew fun e w' => e= .returned(.pointer(some⟨sb,0,none⟩))∧w.drew=w' :=v_store hDd
  have hwr:Calls Tryz.prog 143 #[.pointer(some⟨sb,0,none⟩),.int .i64 t.id,.int .i64 p,.slice a m cp]w.drew fun e w9=> e= .returned(.int .i64 r)∧(Upd O w w9∧∃O9,FX w0 O9 fdb vb tb fb sb pb mb ns2 c N S w9∧∀k,O9 k→O k∨w.heap.size≤k):=(v_write hDd t.id HE.out.2.1 p bs HE.out.2.2.1 _(HE.out.2.2.2.1.below hBd)r ns2 HE.out.2.2.2.2.1).mono(fun e w9 hh=> FP.ahead hBd hh)
  have hF0:(fun u=> u.cell? ⟨fdb,0,none⟩=some(.pointer(some⟨vb,0,none⟩))∧u.cell? ⟨x,2,none⟩=some(.int .i64 t.id))w.drew:=⟨hDd.fd.f.rd 0,(hDd.fd.x x t HE.out.2.2.2.2.2).rd 2⟩
  have HQ:=Lib.hid(And.intro hF0(And.intro hst hwr))
  clear hBX hDX hDd hBd hst hwr hF0
  refine region_C 11 w.drew(fun w9=> (Upd O w w9∧∃O9,FX w0 O9 fdb vb tb fb sb pb mb ns2 c N S w9∧∀k,O9 k→O k∨w.heap.size≤k))rfl(by kernel_rfl)(by kernel_rfl) ?_
  iterate 3
   apply wpJ_op rfl(by rfl)
   ·intro f w1 hf hJ Q1 hQ
    simp only [nrm]at hQ
    go_wp2_with(go_at_call 141;refine k1.mono ?_;rintro e w8⟨rfl,rfl⟩)
    exact hQ _ _ rfl(hJ.other rfl hf(by decide))
   simp only [nrm]
  apply wpJ_op rfl(by rfl)
  ·intro f w1 hf hJ Q1 hQ
   have hC:f 11=false:=path_no hJ.1 [4,3](by kernel_rfl)(by decide)hf.1
   rw [hJ.atC hC]
   have hF:=HQ.out.1
   have k0:=hF.1
   simp only [nrm]at hQ
   go_wp2_with(go_at_call 141;refine k1.mono ?_;rintro e w8⟨rfl,rfl⟩)
   exact hQ _ _ rfl(by have h9:=hJ.other rfl hf(by decide);rwa [hJ.atC hC]at h9)
  simp only [nrm]
  apply wpJ_op rfl(by rfl)
  ·intro f w1 hf hJ Q1 hQ
   have hC:f 11=false:=path_no hJ.1 [4](by kernel_rfl)(by decide)hf.1
   rw [hJ.atC hC]
   have hF:=HQ.out.1
   have k1:=HQ.out.2.1
   simp only [nrm]at hQ
   go_wp2_with(go_at_call 141;refine k1.mono ?_;rintro e w8⟨rfl,rfl⟩)
   exact hQ _ _ rfl(by have h9:=hJ.other rfl hf(by decide);rwa [hJ.atC hC]at h9)
  iterate 3
   simp only [nrm]
   apply wpJ_op rfl(by rfl)
   ·intro f w1 hf hJ Q1 hQ
    simp only [nrm]at hQ
    go_wp2_with(go_at_call 141;refine k1.mono ?_;rintro e w8⟨rfl,rfl⟩)
    exact hQ _ _ rfl(hJ.other rfl hf(by decide))
  simp only [nrm]
  apply wpJ_op rfl(by rfl)
  ·intro f w1 hf hJ Q1 hQ
   have hC:f 11=false:=path_no hJ.1 [8](by kernel_rfl)(by decide)hf.1
   rw [hJ.atC hC]
   have hF:=HQ.out.1
   have k2:=hF.2
   simp only [nrm]at hQ
   go_wp2_with(go_at_call 141;refine k1.mono ?_;rintro e w8⟨rfl,rfl⟩)
   exact hQ _ _ rfl(by have h9:=hJ.other rfl hf(by decide);rwa [hJ.atC hC]at h9)
  iterate 2
   simp only [nrm]
   apply wpJ_op rfl(by rfl)
   ·intro f w1 hf hJ Q1 hQ
    simp only [nrm]at hQ
    go_wp2_with(go_at_call 141;refine k1.mono ?_;rintro e w8⟨rfl,rfl⟩)
    exact hQ _ _ rfl(hJ.other rfl hf(by decide))
  simp only [nrm]
  apply wpJ_op rfl(by rfl)
  ·intro f w1 hf hJ Q1 hQ
   rw [hJ.atC hf.1]
   simp only [nrm]at hQ
   go_wp2_with(have kw:=HQ.out.2.2;go_at_call 143;refine kw.mono ?_;rintro e w8⟨rfl,hq⟩)
   exact hQ _ _ rfl(hJ.goC rfl hf hq)
  simp only [nrm]
  apply wpJ_op rfl(by rfl)
  ·intro f w1 hf hJ Q1 hQ
   simp only [nrm]at hQ
   go_wp2_with(go_at_call 141;refine k1.mono ?_;rintro e w8⟨rfl,rfl⟩)
   exact hQ _ _ rfl(hJ.other rfl hf(by decide))
  simp only [nrm]
  refine wpJ_nil ?_
  intro w9 hJ9
  have hq9:=hJ9.fin rfl
  clear hJ9
  obtain⟨hU9,O9,hD9,hO9⟩:=hq9
  have HF:=Lib.hid(show FP w0 O fdb vb tb fb sb pb mb ns2 c N S w(.int .i64 r)(.returned(.int .i64 r))w9 from⟨rfl,hU9,O9,hD9,hO9⟩)
  clear hU9 hD9 hO9 HQ
  go_wp2_with(fail)
  go_ret
  exact HF.out
 ·have c3:w.cell? ⟨x,3,none⟩=some(.int .i64 t.pl):=hB.rd 3
  have c4:w.cell? ⟨x,4,none⟩=some(.bool true):=by rw [←hen];exact hB.rd 4
  have hDd:=h.below(dn w 1)
  have hst:Calls Tryz.prog 141 #[.pointer(some⟨vb,0,none⟩)]w.drew fun e w' => e= .returned(.pointer(some⟨sb,0,none⟩))∧w.drew=w' :=v_store hDd
  have hsz:Calls Tryz.prog 142 #[.pointer(some⟨sb,0,none⟩),.int .i64 t.id]w.drew fun e w' => e= .returned(.tuple #[.int .i64 p,.int .i64 er])∧w.drew=w' :=v_size hDd t.id hid p er hsv
  have k0:w.drew.cell? ⟨fdb,0,none⟩=some(.pointer(some⟨vb,0,none⟩)):=hDd.fd.f.rd 0
  have k2:w.drew.cell? ⟨x,2,none⟩=some(.int .i64 t.id):=(hDd.fd.x x t ht).rd 2
  clear h hB ht hid hv hr hen hsv hDd
  go_enter Tryz.func84,Tryz.ntmps84
  go_upto_region 3 with(fail)
  refine region_J(fun _ w1=> w1=w.drew)(by kernel_rfl)(by kernel_rfl)rfl ?_
  iterate 14
   apply wpJ_op rfl(by rfl)
   ·intro f w1 hf hJ Q1 hQ
    subst hJ
    simp only [nrm]at hQ
    go_wp2_with(first | (go_at_call 141;refine hst.mono ?_;rintro e w8⟨rfl,rfl⟩) | (go_at_call 142;refine hsz.mono ?_;rintro e w8⟨rfl,rfl⟩))
    exact hQ _ _ rfl rfl
   simp only [nrm]
  refine wpJ_nil ?_
  intro w9 hJ9
  subst hJ9
  clear c3 c4 k0 k2 hst hsz
  have hdb:=Lib.hid(show Below w.heap.size w w.drew from dn w 1)
  generalize w.drew=wq at*
  go_upto_region 4 with(fail)
  have hBX:Below w.heap.size w wq:=hdb.out
  have hDX:=HE.out.1.below hBX
  have hDd:=hDX.below(dn wq 1)
  have hBd:Below w.heap.size w(wq.drewN 1):=hBX.trans((dn wq 1).mono hBX.size)
  have hst:Calls Tryz.prog 141 #[.pointer(some⟨vb,0,none⟩)]wq.drew fun e w' => e= .returned(.pointer(some⟨sb,0,none⟩))∧wq.drew=w' :=v_store hDd
  have hwr:Calls Tryz.prog 143 #[.pointer(some⟨sb,0,none⟩),.int .i64 t.id,.int .i64 p,.slice a m cp]wq.drew fun e w9=> e= .returned(.int .i64 r)∧(Upd O w w9∧∃O9,FX w0 O9 fdb vb tb fb sb pb mb ns2 c N S w9∧∀k,O9 k→O k∨w.heap.size≤k):=(v_write hDd t.id HE.out.2.1 p bs HE.out.2.2.1 _(HE.out.2.2.2.1.below hBd)r ns2 HE.out.2.2.2.2.1).mono(fun e w9 hh=> FP.ahead hBd hh)
  have hF0:(fun u=> u.cell? ⟨fdb,0,none⟩=some(.pointer(some⟨vb,0,none⟩))∧u.cell? ⟨x,2,none⟩=some(.int .i64 t.id))wq.drew:=⟨hDd.fd.f.rd 0,(hDd.fd.x x t HE.out.2.2.2.2.2).rd 2⟩
  have HQ:=Lib.hid(And.intro hF0(And.intro hst hwr))
  clear hBX hDX hDd hBd hst hwr hF0
  refine region_C 11 wq.drew(fun w9=> (Upd O w w9∧∃O9,FX w0 O9 fdb vb tb fb sb pb mb ns2 c N S w9∧∀k,O9 k→O k∨w.heap.size≤k))rfl(by kernel_rfl)(by kernel_rfl) ?_
  iterate 3
   apply wpJ_op rfl(by rfl)
   ·intro f w1 hf hJ Q1 hQ
    simp only [nrm]at hQ
    go_wp2_with(go_at_call 141;refine k1.mono ?_;rintro e w8⟨rfl,rfl⟩)
    exact hQ _ _ rfl(hJ.other rfl hf(by decide))
   simp only [nrm]
  apply wpJ_op rfl(by rfl)
  ·intro f w1 hf hJ Q1 hQ
   have hC:f 11=false:=path_no hJ.1 [4,3](by kernel_rfl)(by decide)hf.1
   rw [hJ.atC hC]
   have hF:=HQ.out.1
   have k0:=hF.1
   simp only [nrm]at hQ
   go_wp2_with(go_at_call 141;refine k1.mono ?_;rintro e w8⟨rfl,rfl⟩)
   exact hQ _ _ rfl(by have h9:=hJ.other rfl hf(by decide);rwa [hJ.atC hC]at h9)
  simp only [nrm]
  apply wpJ_op rfl(by rfl)
  ·intro f w1 hf hJ Q1 hQ
   have hC:f 11=false:=path_no hJ.1 [4](by kernel_rfl)(by decide)hf.1
   rw [hJ.atC hC]
   have hF:=HQ.out.1
   have k1:=HQ.out.2.1
   simp only [nrm]at hQ
   go_wp2_with(go_at_call 141;refine k1.mono ?_;rintro e w8⟨rfl,rfl⟩)
   exact hQ _ _ rfl(by have h9:=hJ.other rfl hf(by decide);rwa [hJ.atC hC]at h9)
  iterate 3
   simp only [nrm]
   apply wpJ_op rfl(by rfl)
   ·intro f w1 hf hJ Q1 hQ
    simp only [nrm]at hQ
    go_wp2_with(go_at_call 141;refine k1.mono ?_;rintro e w8⟨rfl,rfl⟩)
    exact hQ _ _ rfl(hJ.other rfl hf(by decide))
  simp only [nrm]
  apply wpJ_op rfl(by rfl)
  ·intro f w1 hf hJ Q1 hQ
   have hC:f 11=false:=path_no hJ.1 [8](by kernel_rfl)(by decide)hf.1
   rw [hJ.atC hC]
   have hF:=HQ.out.1
   have k2:=hF.2
   simp only [nrm]at hQ
   go_wp2_with(go_at_call 141;refine k1.mono ?_;rintro e w8⟨rfl,rfl⟩)
   exact hQ _ _ rfl(by have h9:=hJ.other rfl hf(by decide);rwa [hJ.atC hC]at h9)
  iterate 2
   simp only [nrm]
   apply wpJ_op rfl(by rfl)
   ·intro f w1 hf hJ Q1 hQ
    simp only [nrm]at hQ
    go_wp2_with(go_at_call 141;refine k1.mono ?_;rintro e w8⟨rfl,rfl⟩)
    exact hQ _ _ rfl(hJ.other rfl hf(by decide))
  simp only [nrm]
  apply wpJ_op rfl(by rfl)
  ·intro f w1 hf hJ Q1 hQ
   rw [hJ.atC hf.1]
   simp only [nrm]at hQ
   go_wp2_with(have kw:=HQ.out.2.2;go_at_call 143;refine kw.mono ?_;rintro e w8⟨rfl,hq⟩)
   exact hQ _ _ rfl(hJ.goC rfl hf hq)
  simp only [nrm]
  apply wpJ_op rfl(by rfl)
  ·intro f w1 hf hJ Q1 hQ
   simp only [nrm]at hQ
   go_wp2_with(go_at_call 141;refine k1.mono ?_;rintro e w8⟨rfl,rfl⟩)
   exact hQ _ _ rfl(hJ.other rfl hf(by decide))
  simp only [nrm]
  refine wpJ_nil ?_
  intro w9 hJ9
  have hq9:=hJ9.fin rfl
  clear hJ9
  obtain⟨hU9,O9,hD9,hO9⟩:=hq9
  have HF:=Lib.hid(show FP w0 O fdb vb tb fb sb pb mb ns2 c N S w(.int .i64 r)(.returned(.int .i64 r))w9 from⟨rfl,hU9,O9,hD9,hO9⟩)
  clear hU9 hD9 hO9 HQ
  go_wp2_with(fail)
  go_ret
  exact HF.out
set_option maxRecDepth 100000 in
set_option maxHeartbeats 2000000 in
theorem k_writeerr [Inhabited CapT] {ns2:NSt}(h:FX w0 O fdb vb tb fb sb pb mb ns c N S w)(pid:Int)(hw:(Lit.int .i64 pid).wf=true)(b:Nat)(hb:S.pr pid=some b)(d x:Nat)(hd:d < 8)(hx:S.sl b d=some x)(t:Th)(ht:S.th x=some t)(hpp:t.pp=false)(hid:(Lit.int .i64 t.id).wf=true)(bs:List Int)(m cp:Nat)(a:Option Addr)(hm:bs.length=m)(hm6:m≤100000)(hv:SrcF O w(.slice a m cp)bs)
  (p:Int)(hp0:0≤p)(hp:(t.en=false∧t.pl=p)∨(t.en=true∧∃e,sizeV(filesOf ns)t.id=(p,e)))(r:Int)(hr:wrF ns capN t.id p bs=(r,ns2))(hr0:r≠0):
  Calls Tryz.prog 45 #[.pointer(some⟨fdb,0,none⟩),.int .i64 pid,.int .i64 d,.slice a m cp]w(FP w0 O fdb vb tb fb sb pb mb ns2 c N S w(.tuple #[.int .i64 0,.int .i64 r])):=by
 have hg:=k_get h.fd pid hw b hb d x hd hx
 have hB:=h.fd.x x t ht
 have c0:w.cell? ⟨x,0,none⟩=some(.bool false):=by rw [←hpp];exact hB.rd 0
 have hfw:=kf_writeerr h x t ht hid bs m cp a hm hm6 hv p hp0 hp r hr hr0
 have dr1:(r==0)=false:=by simpa using hr0
 have dr2:(r !=0)=true:=by simpa using hr0
 clear hr0 h hB ht hb hx hpp hid hv hr hp hp0
 go_enter Tryz.func45,Tryz.ntmps45
 go_wp2_with(first
  | (go_at_call 80;refine hg.mono ?_;rintro e w1⟨rfl,rfl⟩)
  | (go_at_call 84;refine hfw.mono ?_;rintro e w2⟨rfl,hq⟩;have HF:=Lib.hid hq;clear hq hfw))
 go_ret2
 exact⟨rfl,HF.out⟩
end
end Go.Proofs.YtjpjafajploiaaaGreatDoor
