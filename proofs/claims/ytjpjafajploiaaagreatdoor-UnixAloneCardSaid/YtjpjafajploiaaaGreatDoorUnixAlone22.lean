/-
  Descriptors: Copy.
-/
import Derived.Test.YtjpjafajploiaaaGreatDoorUnixAlone21
import Derived.Test.YtjpjafajploiaaaGreatDoorProg
import Derived.Test.YtjpjafajploiaaaGreatDoorUnixAlone03
import Derived.Deep.MidRow
import Derived.LoopTactic
import Derived.Handy
import Derived.WalkKit
import Derived.Lib.Hide
import Derived.Deep.QuietTactic
import Derived.BigQuiet
import Derived.Test.YtjpjafajploiaaaGreatDoorUnixAlone01
import Derived.WalkSpells
set_option linter.unusedSimpArgs false
set_option linter.unusedVariables false
namespace Go.Proofs.YtjpjafajploiaaaGreatDoor
open Go.RowKit Own RegJ Two
open Go.Lib hiding intOf
def FS.bump(S:FS)(x:Nat):FS:=match S.th x with
 | some t=> S.setth x {t with nm:=t.nm+1}
 | none=> S
def FS.bumps(S:FS)(f:Nat→Option Nat):Nat→FS
 | 0=> S
 | i+1=> match f i with
  | some x=> (S.bumps f i).bump x
  | none=> S.bumps f i
def FS.twin(S:FS)(q:Int)(b b2:Nat):FS:=⟨fun i=> if i=q then some b2 else S.pr i,upN S.sl b2(S.sl b),S.th⟩
theorem bump_pr(S:FS)(x:Nat):(S.bump x).pr=S.pr∧(S.bump x).sl=S.sl:=by unfold FS.bump;split <;> exact⟨rfl,rfl⟩
theorem bumps_pr(S:FS)(f:Nat→Option Nat):∀i,(S.bumps f i).pr=S.pr∧(S.bumps f i).sl=S.sl
 | 0=> ⟨rfl,rfl⟩
 | i+1=> by
  have h:=bumps_pr S f i
  unfold FS.bumps
  split
  ·have h2:=bump_pr(S.bumps f i)(by assumption)
   exact⟨h2.1.trans h.1,h2.2.trans h.2⟩
  ·exact h
def Few(S:FS)(M:Int):Prop:=∀x t,S.th x=some t→ -100000≤t.nm∧t.nm≤M
theorem Few.bump {S:FS} {M:Int}(h:Few S M)(x:Nat):Few(S.bump x)(M+1):=by
 intro y u hy
 unfold FS.bump at hy
 split at hy
 ·rename_i t ht
  unfold FS.setth upN at hy
  simp only at hy
  split at hy
  ·cases hy
   have:=h x t ht
   simp only
   omega
  ·have:=h y u hy;omega
 ·have:=h y u hy;omega
theorem Few.bumps {S:FS} {M:Int}(h:Few S M)(f:Nat→Option Nat):∀i,Few(S.bumps f i)(M+i)
 | 0=> by show Few S _;simpa using h
 | i+1=> by
  have h2:=Few.bumps h f i
  unfold FS.bumps
  split
  ·have:=h2.bump(by assumption)
   rw [show M+((i+1:Nat):Int)=M+i+1 by omega]
   exact this
  ·intro y u hy
   have:=h2 y u hy
   omega
theorem bump_some {S:FS} {x y:Nat} {t:Th}(h:S.th y=some t):∃t',(S.bump x).th y=some t' :=by
 unfold FS.bump
 split
 ·unfold FS.setth upN
  simp only
  split
  ·exact⟨_,rfl⟩
  ·exact⟨t,h⟩
 ·exact⟨t,h⟩
theorem bumps_some {S:FS} {f:Nat→Option Nat} {y:Nat} {t:Th}(h:S.th y=some t):∀i,∃t',(S.bumps f i).th y=some t'
 | 0=> ⟨t,h⟩
 | i+1=> by
  obtain⟨t',h'⟩:=bumps_some h i
  unfold FS.bumps
  split
  ·exact bump_some h'
  ·exact⟨t',h'⟩
theorem Ow.bump {fdb mb k x:Nat} {S:FS}(h:Ow fdb mb(S.bump x)k):Ow fdb mb S k:=by
 unfold FS.bump at h
 split at h
 ·rename_i t ht;exact Ow.th ht h
 ·exact h
theorem Ow.bumps {fdb mb k:Nat} {S:FS} {f:Nat→Option Nat}:∀i,Ow fdb mb(S.bumps f i)k→Ow fdb mb S k
 | 0,h=> h
 | i+1,h=> by
  unfold FS.bumps at h
  split at h
  ·exact Ow.bumps i(Ow.bump h)
  ·exact Ow.bumps i h
theorem Upd.row(W:World)(b:Nat)(cs:Array Value):Upd(fun k=> k=b)W(W.setRow b cs):=⟨rfl,rfl,rfl,by simp,fun k _ hk=> setRow_other W b k cs hk⟩
theorem Blk.row {W:World} {b:Nat} {T:TypeId} {old:Array Value}(h:Blk W b old T)(cs:Array Value):Blk(W.setRow b cs)b cs T:=setRow_heap W b old cs T _ h
theorem info_tab:(Tryz.prog.info? 164).map(·.size)=some 8:=by kernel_rfl
section
variable {w w1:World} {fdb vb pb mb N:Nat} {S:FS}
theorem FdB.twin {q:Int} {b2:Nat}(h:FdB w fdb vb pb mb N(S.start q b2)) {b:Nat} {pid:Int}(hb:S.pr pid=some b)(hne:pid≠q)(hnew:∀i c,S.pr i=some c→c≠b2):FdB(w.setRow b2(slC(S.sl b)))fdb vb pb mb N(S.twin q b b2):=by
 have hi:(S.start q b2).pr q=some b2:=if_pos rfl
 obtain⟨n1,n2,n3⟩:=h.tne hi
 have hu:=Upd.row w b2(slC(S.sl b))
 obtain⟨n,s,hm,hn⟩:=h.m
 have hbp:(S.start q b2).pr pid=some b:=(if_neg hne).trans hb
 have hbb:b≠b2:=hnew pid b hb
 have hsb:(S.start q b2).sl b=S.sl b:=upN_ne _ _ hbb
 refine⟨Blk.upd hu h.f(fun e=> n1 e.symm),⟨n,s,hm.upd hu(fun e=> n2 e.symm),hn⟩,fun j b' hj=> ?_,fun y t hy=> Blk.upd hu(h.x y t hy)(n3 y t hy),fun j b' hj d' x' hd' hs=> ?_,h.j⟩
 ·unfold FS.twin
  simp only
  by_cases e:b' =b2
  ·subst e
   rw [upN_eq]
   exact Blk.row(h.t q _ hi)_
  ·rw [upN_ne _ _ e]
   have:=Blk.upd hu(h.t j b' hj)e
   rwa [show(S.start q b2).sl b' =S.sl b' from upN_ne _ _ e]at this
 ·unfold FS.twin at hs
  simp only at hs
  by_cases e:b' =b2
  ·subst e
   rw [upN_eq]at hs
   exact h.r pid b hbp d' x' hd' (by rw [hsb];exact hs)
  ·rw [upN_ne _ _ e]at hs
   exact h.r j b' hj d' x' hd' (by rw [show(S.start q b2).sl b' =S.sl b' from upN_ne _ _ e];exact hs)
end
section
variable {w0 w w1 w2 w' :World} {O O1:Nat→Prop} {fdb vb tb fb sb pb mb:Nat} {ns ns' :NSt} {c N N' :Nat} {S S' :FS}
set_option maxRecDepth 100000 in
set_option maxHeartbeats 4000000 in
theorem k_copy [Inhabited CapT](h:FX w0 O fdb vb tb fb sb pb mb ns c N S w)(hN:N≤100000)(pid q:Int)(hw:(Lit.int .i64 pid).wf=true)(hw2:(Lit.int .i64 q).wf=true)(h0:0≤q)(b:Nat)(hb:S.pr pid=some b)(hto:S.pr q=none)(hfew:Few S 100000):
  Calls Tryz.prog 56 #[.pointer(some⟨fdb,0,none⟩),.int .i64 pid,.int .i64 q]w fun e w' => ∃b2,w.heap.size≤b2∧FP w0 O fdb vb tb fb sb pb mb ns c(N+1)((S.twin q b b2).bumps(S.sl b)8)w(.int .i64 0)e w' :=by
 have hpc:=k_proc h.fd pid hw(some b)hb 0(by unfold procR;rw [hb])
 have hst:=k_start h hN q hw2 h0 hto
 have hne:pid≠q:=fun e=> by rw [e,hto]at hb;cases hb
 have hlt:∀i c,S.pr i=some c→c < w.heap.size:=fun i c hi=> (h.fd.t i c hi).lt
 have HE:=Lib.hid(And.intro h(And.intro hb(And.intro hw2(And.intro hne(And.intro hlt(And.intro hfew h.fd.r))))))
 clear h hb hto hfew hne hlt
 simp only [ptb,Option.map]at hpc
 go_enter Tryz.func56,Tryz.ntmps56
 go_upto_region 7 with(first
  | (go_at_call 67;refine hpc.mono ?_;rintro e w1⟨rfl,rfl⟩)
  | (go_at_call 39;refine hst.mono ?_;rintro e wd⟨b2,hb2,rfl,hU,O2,hD,hO2⟩;have H1:=Lib.hid(And.intro hb2(And.intro hU(And.intro hD hO2)));clear hb2 hU hD hO2 hst))
 obtain⟨hb2,hU,hD,hO2⟩:=H1.out
 have hbb:b≠b2:=fun e=> by have:=HE.out.2.2.2.2.1 pid b HE.out.2.1;omega
 have hDd:=hD.below(dn wd 1)
 have hi2:(S.start q b2).pr q=some b2:=if_pos rfl
 have hbp:(S.start q b2).pr pid=some b:=(if_neg HE.out.2.2.2.1).trans HE.out.2.1
 have hl:=hDd.fd.look q HE.out.2.2.1
 rw [hi2]at hl
 have hTb:=hDd.fd.t pid b hbp
 rw [show(S.start q b2).sl b=S.sl b from upN_ne _ _ hbb]at hTb
 have hT2:=hDd.fd.t q b2 hi2
 rw [show(S.start q b2).sl b2=(fun _=> none)from upN_eq _ _ _]at hT2
 have hF0:(fun u=> u.cell? ⟨fdb,2,none⟩=some(.map(some mb))∧(Instr.lookup 152(.map(some mb))(.int .i64 q)false).run Tryz.prog u= .ok(.pointer(some⟨b2,0,none⟩))u∧∀k,u.cell? ⟨b,k,none⟩=(slC(S.sl b))[k]?)wd.drew:=⟨hDd.fd.f.rd 2,hl,hTb.rd⟩
 have hS:=hDd.fd.twin HE.out.2.1 HE.out.2.2.2.1(fun i c hi=> by have:=HE.out.2.2.2.2.1 i c hi;omega)
 have huR:Upd(Ow fdb mb(S.start q b2))wd((wd.drewN 1).setRow b2(slC(S.sl b))):=(Upd.of_below(F:=Ow fdb mb(S.start q b2))(dn wd 1)).trans(Upd.row(wd.drewN 1)b2(slC(S.sl b)))(fun i _ hi=> by subst hi;exact .inr(.inr(.inl⟨q,hi2⟩)))
 have hTw:∀k,Ow fdb mb(S.twin q b b2)k→Ow fdb mb(S.start q b2)k∨wd.heap.size≤k:=fun k hk=> .inl hk
 have hFP:=(FP.then_own hU hD hO2 huR hS hTw(.int .i64 0)).2
 have hB2d:Blk wd.drew b2(slC fun _=> none)164:=hT2
 have HQ:=Lib.hid(And.intro hF0(And.intro hB2d hFP))
 clear hb2 hU hD hO2 hbb hDd hi2 hbp hl hTb hT2 hF0 hS huR hTw hFP hB2d
 refine region_S 10 wd.drew(wd.drew.setRow b2(slC(S.sl b)))rfl(by kernel_rfl)(by kernel_rfl) ?_
 iterate 3
  apply wpJ_op rfl(by rfl)
  ·intro f w1 hf hJ Q1 hQ
   simp only [nrm]at hQ
   go_wp2_with(fail)
   exact hQ _ _ rfl(hJ.other rfl hf(by decide))
  simp only [nrm]
 apply wpJ_op rfl(by rfl)
 ·intro f w1 hf hJ Q1 hQ
  have hS:f 10=false:=path_no hJ.1 [9,5,3](by kernel_rfl)(by decide)hf.1
  rw [hJ.atS hS]
  have hF:=HQ.out.1
  have k0:=hF.1
  simp only [nrm]at hQ
  go_wp2_with(fail)
  exact hQ _ _ rfl(by have h9:=hJ.other rfl hf(by decide);rwa [hJ.atS hS]at h9)
 simp only [nrm]
 apply wpJ_op rfl(by rfl)
 ·intro f w1 hf hJ Q1 hQ
  simp only [nrm]at hQ
  go_wp2_with(fail)
  exact hQ _ _ rfl(hJ.other rfl hf(by decide))
 simp only [nrm]
 apply wpJ_op rfl(by rfl)
 ·intro f w1 hf hJ Q1 hQ
  have hS:f 10=false:=path_no hJ.1 [9,5](by kernel_rfl)(by decide)hf.1
  rw [hJ.atS hS]
  have hF:=HQ.out.1
  have k1:=hF.2.1
  simp only [nrm]at hQ
  go_wp2_with(fail)
  exact hQ _ _ rfl(by have h9:=hJ.other rfl hf(by decide);rwa [hJ.atS hS]at h9)
 iterate 2
  simp only [nrm]
  apply wpJ_op rfl(by rfl)
  ·intro f w1 hf hJ Q1 hQ
   simp only [nrm]at hQ
   go_wp2_with(fail)
   exact hQ _ _ rfl(hJ.other rfl hf(by decide))
 simp only [nrm]
 apply wpJ_op rfl(by rfl)
 ·intro f w1 hf hJ Q1 hQ
  have hS:f 10=false:=path_no hJ.1 [8](by kernel_rfl)(by decide)hf.1
  rw [hJ.atS hS]
  have hF:=HQ.out.1
  have k2:=hF.2.2
  simp only [nrm]at hQ
  go_wp2_with(fail)
  exact hQ _ _ rfl(by have h9:=hJ.other rfl hf(by decide);rwa [hJ.atS hS]at h9)
 simp only [nrm]
 apply wpJ_op rfl(by rfl)
 ·intro f w1 hf hJ Q1 hQ
  simp only [nrm]at hQ
  go_wp2_with(fail)
  exact hQ _ _ rfl(hJ.other rfl hf(by decide))
 simp only [nrm]
 apply wpJ_op(v:=undef)rfl(by rfl)
 ·intro f w1 hf hJ Q1 hQ
  rw [hJ.atS hf.1]
  have k3:=HQ.out.2.1
  simp only [nrm]at hQ
  go_wp2_with(refine wpList_store_row rfl 164(.tmp 36)(.tmp 35)rfl b2(slC(S.sl b))rfl rfl 164(slC fun _=> none)k3 info_tab rfl(by simp [Value.oneCell',ptb]) ?_)
  exact hQ _ _ rfl(hJ.goS rfl hf)
 simp only [nrm]
 refine wpJ_nil ?_
 intro w9 hJ9
 rw [hJ9.fin rfl]
 clear hJ9
 have hFP:=HQ.out.2.2
 change Upd O w(wd.drew.setRow b2(slC(S.sl b)))∧∃O',FX _ _ _ _ _ _ _ _ _ _ _ _ _(wd.drew.setRow b2(slC(S.sl b)))∧_ at hFP
 generalize(wd.drew.setRow b2(slC(S.sl b)))=W9 at hFP ⊢
 clear HQ
 obtain⟨hU9,O9,hD9,hO9⟩:=hFP
 have hTw9:(S.twin q b b2).sl b=S.sl b:=upN_ne _ _(fun e=> by have:=HE.out.2.2.2.2.1 pid b HE.out.2.1;have:=H1.out.1;omega)
 have hpr9:(S.twin q b b2).pr pid=some b:=(if_neg HE.out.2.2.2.1).trans HE.out.2.1
 have HL:=Lib.hid(And.intro hU9(And.intro hD9(And.intro hO9(And.intro hTw9 hpr9))))
 clear hU9 hD9 hO9 hTw9 hpr9
 go_wp2_with(fail)
 go_loopw [38](fun ix wr=> ∃i:Nat,i≤8∧ix= .int .i64 i∧Hid(FdB wr fdb vb pb mb(N+1)((S.twin q b b2).bumps(S.sl b)i)∧Upd(Ow fdb mb(S.twin q b b2))W9 wr))(fun ix _=> 8 - (intOf ix).toNat)
 case atStart=> exact⟨0,Nat.zero_le _,rfl,Lib.hid⟨HL.out.2.1.fd,Upd.refl _ _⟩⟩
 case round=>
  obtain⟨i,hi,rfl,H⟩:=hrel
  by_cases hil:i < 8
  ·have d1:decide((i:Int) < 8)=true:=by simp;omega
   have i1:(i:Int) < 8:=by omega
   have i2:(0:Int)≤i:=by omega
   have hp:=bumps_pr(S.twin q b b2)(S.sl b)i
   have c0:=H.out.1.slot(i:=pid)(b:=b)(by rw [hp.1];exact HL.out.2.2.2.2)hil
   rw [hp.2,HL.out.2.2.2.1]at c0
   cases hx:S.sl b i with
   | none=>
    rw [hx]at c0
    simp only [ptb,Option.map]at c0
    have HX:=Lib.hid(show(S.twin q b b2).bumps(S.sl b)(i+1)=(S.twin q b b2).bumps(S.sl b)i by show(match S.sl b i with | some x=> _ | none=> _)=_;rw [hx])
    clear hx hp
    go_wp2_with(fail)
    go_roundw
    case rel=> exact⟨i+1,by omega,by go_num,by rw [HX.out];exact H⟩
    case measure=> simp [intOf];omega
   | some x=>
    rw [hx]at c0
    simp only [ptb,Option.map]at c0
    obtain⟨t0,ht0⟩:=HE.out.2.2.2.2.2.2 pid b HE.out.2.1 i x hil hx
    obtain⟨t,ht⟩:=bumps_some(S:=S.twin q b b2)(f:=S.sl b)(y:=x)ht0 i
    have hnm:=Few.bumps(S:=S.twin q b b2)(M:=100000)HE.out.2.2.2.2.2.1(S.sl b)i x t ht
    have hBx:=H.out.1.x x t ht
    have k5:=hBx.rd 5
    have f5:=hBx.nf 5
    have hN:=H.out.1.setth ht {t with nm:=t.nm+1}5(.int .i64(t.nm+1))rfl
    have hE:(S.twin q b b2).bumps(S.sl b)(i+1)=((S.twin q b b2).bumps(S.sl b)i).setth x {t with nm:=t.nm+1}:=by
     show(match S.sl b i with | some x=> _ | none=> _)=_
     rw [hx]
     simp only
     unfold FS.bump
     rw [ht]
    have hU:Upd(Ow fdb mb(S.twin q b b2))W9(wr.setCell⟨x,5,none⟩(.int .i64(t.nm+1))):=H.out.2.setCell(p:=⟨x,5,none⟩)(fun _=> .inr(.inr(.inr(by show(S.th x).isSome=true;rw [ht0];rfl))))_
    have HX:=Lib.hid(show FdB(wr.setCell⟨x,5,none⟩(.int .i64(t.nm+1)))fdb vb pb mb(N+1)((S.twin q b b2).bumps(S.sl b)(i+1))∧Upd(Ow fdb mb(S.twin q b b2))W9(wr.setCell⟨x,5,none⟩(.int .i64(t.nm+1)))from⟨by rw [hE];exact hN,hU⟩)
    have j1:=hnm.1
    have j2:t.nm≤100008:=by omega
    clear hx hp ht0 ht hnm hBx hN hE hU H
    go_wp2_with(fail)
    go_roundw
    case rel=> exact⟨i+1,by omega,by go_num,HX⟩
    case measure=> simp [intOf];omega
  ·have d1:decide((i:Int) < 8)=false:=by simp;omega
   obtain rfl:i=8:=by omega
   have hfin:=FP.then_own HL.out.1 HL.out.2.1 HL.out.2.2.1 H.out.2 H.out.1(fun k hk=> .inl(Ow.bumps 8 hk))(.int .i64 0)
   have HF:=Lib.hid hfin
   clear hfin H hil hi
   go_wp2_with(fail)
   go_ret
   exact⟨b2,H1.out.1,HF.out⟩
end
end Go.Proofs.YtjpjafajploiaaaGreatDoor
namespace Go.Proofs.YtjpjafajploiaaaGreatDoor
open Go.RowKit Own RegJ
def RdU(w:World)(v:Value)(xs:List Int):Prop:=∃a c,v= .slice a xs.length c∧xs.length≤maxLen∧∀j,j < xs.length→∃g o,a=some⟨g,o,none⟩∧w.cell? ⟨g,o+j,none⟩=some(.int .u8(xs.getD j 0))
theorem RdU.of {w:World} {E:TypeId} {v:Value} {xs:List Int} {b:Option Nat}(h:RowV w E v(ucells xs)b):RdU w v xs:=by
 rcases h with⟨rfl,h0,rfl⟩ | ⟨g,cap,rest,rfl,rfl,hB,hc,hm⟩
 ·have:xs= []:=by cases xs with | nil=> rfl | cons x r=> cases h0
  subst this
  exact⟨none,0,rfl,by simp,fun j hj=> by simp at hj⟩
 ·have hl:(ucells xs).length=xs.length:=by simp
  rw [hl]
  refine⟨_,_,rfl,by rw [hc,List.length_append,hl]at hm;omega,fun j hj=> ⟨g,0,rfl,?_⟩⟩
  rw [hB.rd,Nat.zero_add,List.getElem?_toArray,List.getElem?_append_left(by simpa using hj)]
  simp [ucells,hj]
theorem RdU.keep {w w' :World} {v:Value} {xs:List Int}(h:RdU w v xs)(hk:∀a,(∃x,w.cell? a=some x)→w'.cell? a=w.cell? a):RdU w' v xs:=by
 obtain⟨a,c,rfl,hm,h⟩:=h
 refine⟨a,c,rfl,hm,fun j hj=> ?_⟩
 obtain⟨g,o,h1,h2⟩:=h j hj
 exact⟨g,o,h1,by rw [hk _⟨_,h2⟩];exact h2⟩
theorem RdU.some {w:World} {v:Value} {xs:List Int}(h:RdU w v xs)(hn:0 < xs.length):∃g o c,v= .slice(some⟨g,o,none⟩)xs.length c∧xs.length≤maxLen∧∀j,j < xs.length→w.cell? ⟨g,o+j,none⟩=some(.int .u8(xs.getD j 0)):=by
 obtain⟨a,c,rfl,hm,h⟩:=h
 obtain⟨g,o,rfl,-⟩:=h 0 hn
 refine⟨g,o,c,rfl,hm,fun j hj=> ?_⟩
 obtain⟨g',o',h1,h2⟩:=h j hj
 cases h1;exact h2
end Go.Proofs.YtjpjafajploiaaaGreatDoor
namespace Go.Proofs.YtjpjafajploiaaaGreatDoor
open Go.RowKit Own RegJ Two
open Go.Lib hiding intOf
theorem o_writeE {x:Txt}(F:Nat)(hF:8≤F)(op:Int)(b:List Int)(h:b.length≤512):wrF(nsO x op [])F 1 0 b=(0,nsO x op b):=by
 by_cases h0:b= []
 ·subst h0;exact o_write0 F op []0
 ·have:=o_write(x:=x)F hF op []b 0(by omega)(by simp)h0
  rw [show writeB []0 b=b from writeB_end []b]at this
  exact this
end Go.Proofs.YtjpjafajploiaaaGreatDoor
