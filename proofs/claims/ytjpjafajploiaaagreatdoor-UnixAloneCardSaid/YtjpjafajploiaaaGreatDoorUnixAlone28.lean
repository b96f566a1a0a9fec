/-
  Descriptors: a closed one closed again, no free one; Used.
-/
import Derived.Test.YtjpjafajploiaaaGreatDoorUnixAlone22
import Derived.Test.YtjpjafajploiaaaGreatDoorUnixAlone27
import Derived.Test.YtjpjafajploiaaaGreatDoorUnixAlone21
set_option linter.unusedSimpArgs false
set_option linter.unusedVariables false
namespace Go.Proofs.YtjpjafajploiaaaGreatDoor
open Go.RowKit Own RegJ Two
open Go.Lib hiding intOf
section
variable {w0 w w1 w2 w' :World} {O O1:Nat→Prop} {fdb vb tb fb sb pb mb:Nat} {ns ns' :NSt} {c N N' :Nat} {S S' :FS}
set_option maxRecDepth 100000 in
theorem k_openfull(h:FdB w fdb vb pb mb N S)(pid:Int)(hw:(Lit.int .i64 pid).wf=true)(b:Nat)(hb:S.pr pid=some b)(hl:∀k,k < 8→S.sl b k≠none)(n:Int)(s:ByteArray):
  Calls Tryz.prog 42 #[.pointer(some⟨fdb,0,none⟩),.int .i64 pid,.string s,.int .i64 n]w fun e w' => e= .returned(.tuple #[.int .i64 0,.int .i64 14])∧Below w.heap.size w w' :=by
 have hfr:=freeL_none(S.sl b)hl 8(Nat.le_refl _)
 have hfree:=k_free h pid hw b hb 1(.int .i64 0)0(fun e w' => e= .returned(.tuple #[.slice none 0 0,.int .i64 14])∧Below w.heap.size w w')(fun hlt=> by rw [hfr]at hlt;simp at hlt)(fun _ w' hB=> ⟨rfl,hB⟩)
 clear h hb hw hl hfr
 go_enter Tryz.func42,Tryz.ntmps42
 go_wp2_with(go_at_call 78;refine hfree.mono ?_;rintro e w1⟨rfl,hB1⟩;have H1:=Lib.hid hB1;clear hfree hB1)
 go_ret2
 exact⟨rfl,H1.out⟩
def usedL(f:Nat→Option Nat):Nat→List Int
 | 0=> []
 | i+1=> usedL f i++(if(f i).isSome then [(i:Int)]else [])
theorem usedL_len(f:Nat→Option Nat):∀i,(usedL f i).length≤i
 | 0=> Nat.le_refl _
 | i+1=> by
  have:=usedL_len f i
  unfold usedL
  rw [List.length_append]
  split <;> simp <;> omega
set_option maxRecDepth 100000 in
theorem clip_is(a:Option Addr)(m c:Nat)(hmc:m≤c)(w:World):Calls Tryz.prog 68 #[.slice a m c]w fun e w' => e= .returned(.slice a m m)∧w=w' :=by
 go_enter Tryz.func68,Tryz.ntmps68
 go_wp2_with(fail)
 go_ret
 exact⟨rfl,rfl⟩
def UsedP(w:World)(ys:List Int)(e:Ending)(w' :World):Prop:=∃a c g,e= .returned(.slice a ys.length ys.length)∧RowV w' 3(.slice a ys.length c)(icells ys)g∧(∀k,g=some k→w.heap.size≤k)∧Below w.heap.size w w'
set_option maxRecDepth 100000 in
set_option maxHeartbeats 2000000 in
theorem k_used(h:FdB w fdb vb pb mb N S)(pid:Int)(hw:(Lit.int .i64 pid).wf=true)(b:Nat)(hb:S.pr pid=some b):
  Calls Tryz.prog 26 #[.pointer(some⟨fdb,0,none⟩),.int .i64 pid]w(UsedP w(usedL(S.sl b)8)):=by
 have hp:=k_proc h pid hw(some b)hb 0(by unfold procR;rw [hb])
 have hs:=fun d hd=> h.slot hb(d:=d)hd
 have hlt:=(h.t pid b hb).lt
 have HE:=Lib.hid(And.intro hs hlt)
 have HL:=Lib.hid(usedL_len(S.sl b))
 clear h hb hs hlt
 simp only [ptb,Option.map]at hp
 go_enter Tryz.func26,Tryz.ntmps26
 go_wp2_with(go_at_call 67;refine hp.mono ?_;rintro e w1⟨rfl,rfl⟩)
 go_loopw [7,19](fun v10 ix wr=> ∃i:Nat,i≤8∧ix= .int .i64 i∧∃a m c,v10= .slice a m c∧Hid(∃g,RowV wr 3(.slice a m c)(icells(usedL(S.sl b)i))g∧(∀k,g=some k→w.heap.size≤k)∧Below w.heap.size w wr))(fun _ ix _=> 8 - (intOf ix).toNat)
 case atStart=> exact⟨0,Nat.zero_le _,rfl,none,0,0,rfl,Lib.hid⟨none,.inl⟨rfl,rfl,rfl⟩,fun k hk=> (by cases hk),Below.refl _ _⟩⟩
 case round=>
  obtain⟨i,hi,rfl,a,m,c,rfl,H⟩:=hrel
  obtain⟨gr,hR,hgr,hBl⟩:=H.out
  have hm:m=(usedL(S.sl b)i).length∧m≤c:=by
   obtain⟨a',c',hv,h1,_⟩:=hR.slice
   simp only [Value.slice.injEq,List.length_map]at hv h1
   exact⟨hv.2.1,by omega⟩
  have hml:=HL.out i
  by_cases hil:i < 8
  ·have d1:decide((i:Int) < 8)=true:=by simp;omega
   have i1:(i:Int) < 8:=by omega
   have i2:(0:Int)≤i:=by omega
   have c0:wr.cell? ⟨b,i,none⟩=some(ptb(S.sl b i)):=(hBl.cell(p:=⟨b,i,none⟩)HE.out.2).trans(HE.out.1 i hil)
   cases hx:S.sl b i with
   | none=>
    have HX:=Lib.hid(show usedL(S.sl b)(i+1)=usedL(S.sl b)i by show usedL(S.sl b)i++(if(S.sl b i).isSome then [(i:Int)]else [])=_;rw [hx];simp)
    rw [hx]at c0
    simp only [ptb,Option.map]at c0
    clear hx hR hgr hBl hm
    go_wp2_with(fail)
    go_quiet(fail)
    go_wp2_with(fail)
    go_roundw
    case rel=> exact⟨i+1,by omega,by go_num,a,m,c,rfl,Lib.hid(by rw [HX.out];obtain⟨g,h1,h2,h3⟩:=H.out;exact⟨g,h1.below(dn _ _),h2,h3.trans(((dn _ _)).mono h3.size)⟩)⟩
    case measure=> simp [intOf];omega
   | some x=>
    have HX:=Lib.hid(show usedL(S.sl b)(i+1)=usedL(S.sl b)i++ [(i:Int)]by show usedL(S.sl b)i++(if(S.sl b i).isSome then [(i:Int)]else [])=_;rw [hx];simp)
    rw [hx]at c0
    simp only [ptb,Option.map]at c0
    have HK:=Lib.hid(fun q=> hR.below((dn wr q).trans((Below.refl _ _).alloc(by simp)(.cells #[.int .i64(i:Int)]3))))
    obtain⟨hm,hmc⟩:=hm
    have HM:=Lib.hid(And.intro hgr(And.intro hBl hm))
    clear hx hR hgr hBl hm
    go_wp2_with(fail)
    go_quiet(fail)
    go_wp2_with(at_builtin;refine wp_appV rfl _ _ 59 3(.int .i64 0)8(by kernel_rfl)rfl(by decide)Tryz.underlying59 rfl(.slice a m c)(icells(usedL(S.sl b)i))gr rfl(HK.out _)(some⟨wr.heap.size,0,none⟩)1 1 [.int .i64 i]rfl rfl(fun _=> ⟨_,rfl,new_cell(wr.drewN _)(.int .i64 i)3⟩)(fun u hu=> by(simp at hu;subst hu;rfl))(by simp;omega) ?_;intro v' w4 row' hI hrow' hu4;obtain⟨a2,c2,rfl,-,-⟩:=hI.slice;have H4:=Lib.hid(And.intro hI(And.intro hrow' hu4));clear hI hrow' hu4)
    go_roundw
    case rel=>
     refine⟨i+1,by omega,by go_num,a2,_,c2,rfl,Lib.hid ?_⟩
     rw [HX.out,show icells(usedL(S.sl b)i++ [(i:Int)])=icells(usedL(S.sl b)i)++ [Value.int .i64 i]by simp [icells]]
     have hB5:=HM.out.2.1.trans((dn wr nq).mono HM.out.2.1.size)
     refine⟨row',by rw [show(usedL(S.sl b)i).length+1=(icells(usedL(S.sl b)i)++ [Value.int .i64 i]).length by simp];exact H4.out.1,fun k hk=> ?_,?_⟩
     ·rcases H4.out.2.1 k hk with h1 | h1
      ·exact HM.out.1 k h1
      ·have h2:=HM.out.2.1.size
       simp at h1
       omega
     ·have h6:=(hB5.alloc hB5.size(.cells #[.int .i64(i:Int)]3))
      exact h6.trans(H4.out.2.2.below h6.size(fun k hk=> HM.out.1 k hk))
    case measure=> simp [intOf];omega
  ·have hi8:i=8:=by omega
   have d1:decide((i:Int) < 8)=false:=by simp;omega
   have d0:decide(i < 8)=false:=by simp;omega
   subst hi8
   have hcl:=clip_is a m c hm.2 wr
   have HF:=Lib.hid(And.intro hm.1(And.intro hR(And.intro hgr hBl)))
   clear hR hgr hBl hm hil hi
   go_wp2_with(go_at_call 68;refine hcl.mono ?_;rintro e w9⟨rfl,rfl⟩)
   go_ret
   refine⟨a,c,gr,?_,?_,HF.out.2.2.1,HF.out.2.2.2⟩
   ·rw [←HF.out.1];rfl
   ·rw [←HF.out.1];exact HF.out.2.1
end
end Go.Proofs.YtjpjafajploiaaaGreatDoor
namespace Go.Proofs.YtjpjafajploiaaaGreatDoor
open Go.RowKit Own RegJ Two
open Go.Lib hiding intOf
structure Z where
 pr:Int→Option(Nat→Option Nat)
 th:Nat→Th
 nx:Nat
 ns:NSt
 ps:PS
def Z.putp(z:Z)(pid:Int)(f:Option(Nat→Option Nat)):Z:= {z with pr:=fun i=> if i=pid then f else z.pr i}
def Z.putt(z:Z)(k:Nat)(t:Th):Z:= {z with th:=upN z.th k t}
def fdZ(f:Nat→Option Nat)(d:Int):Option Nat:=if 0≤d∧d < 8 then f d.toNat else none
def Z.on {α:Type}(z:Z)(pid d:Int)(bad:Int→α)(k:(Nat→Option Nat)→Nat→α):α:=match z.pr pid with
 | none=> bad 4
 | some f=> match fdZ f d with
  | none=> bad 8
  | some x=> k f x
def Z.name(z:Z)(pid:Int)(f:Nat→Option Nat)(d:Nat)(t:Th):Z:=⟨fun i=> if i=pid then some(upN f d(some z.nx))else z.pr i,upN z.th z.nx t,z.nx+1,z.ns,z.ps⟩
def freeZ(cap:Nat)(z:Z):Nat:=cap - psN z.ps 4 - usedN(filesOf z.ns)16
def startZ(z:Z)(pid:Int):Int×Z:=if pid < 0 then(2,z)else if(z.pr pid).isSome then(5,z)else(0,z.putp pid(some fun _=> none))
def bumpZ(th:Nat→Th)(f:Nat→Option Nat):Nat→Nat→Th
 | 0=> th
 | i+1=> match f i with
  | some x=> upN(bumpZ th f i)x {bumpZ th f i x with nm:=(bumpZ th f i x).nm+1}
  | none=> bumpZ th f i
def copyZ(z:Z)(p q:Int):Int×Z:=match z.pr p with
 | none=> (4,z)
 | some f=> if q < 0 then(2,z)else if(z.pr q).isSome then(5,z)else(0,{z.putp q(some f)with th:=bumpZ z.th f 8})
def dropT(z:Z)(k:Nat):Z:=if 2≤(z.th k).nm then z.putt k {z.th k with nm:=(z.th k).nm - 1}
 else if(z.th k).pp then {z.putt k {z.th k with nm:=(z.th k).nm - 1}with ps:=(pcloseF z.ps(z.th k).id(z.th k).wr).2}
 else {z.putt k {z.th k with nm:=(z.th k).nm - 1}with ns:=(closeF z.ns(z.th k).id).2}
def dropZ(z:Z)(pid:Int)(f:Nat→Option Nat)(d k:Nat):Z:=dropT(z.putp pid(some(upN f d none)))k
def closeZ(z:Z)(pid d:Int):Int×Z:=z.on pid d(fun e=> (e,z))fun f k=> (0,dropZ z pid f d.toNat k)
def leaveN(z:Z)(pid:Int):Nat→Z
 | 0=> z
 | i+1=> match(leaveN z pid i).pr pid with
  | none=> leaveN z pid i
  | some f=> match f i with
   | none=> leaveN z pid i
   | some k=> dropZ(leaveN z pid i)pid f i k
def leaveZ(z:Z)(pid:Int):Int×Z:=match z.pr pid with
 | none=> (4,z)
 | some _=> (0,(leaveN z pid 8).putp pid none)
def openZ(z:Z)(pid:Int)(l:Txt)(n:Int):Int×Int×Z:=match z.pr pid with
 | none=> (0,4,z)
 | some f=> match freeL f 8 with
  | []=> (0,14,z)
  | d::_=> if(openF z.ns l n).2.1=0 then(d,0,({z with ns:=(openF z.ns l n).2.2}:Z).name pid f d.toNat⟨false,false,(openF z.ns l n).1,0,flE n,1⟩)
   else(0,(openF z.ns l n).2.1,{z with ns:=(openF z.ns l n).2.2})
def pipeZ(cap:Nat)(z:Z)(pid:Int):Int×Int×Z:=match z.pr pid with
 | none=> (0,4,z)
 | some f=> match freeL f 8 with
  | d1::d2::_=> if(pmakeF(freeZ cap z)z.ps).2.1=0 then(16*d1+d2,0,(({z with ps:=(pmakeF(freeZ cap z)z.ps).2.2}:Z).name pid f d1.toNat⟨true,false,(pmakeF(freeZ cap z)z.ps).1,0,false,1⟩).name pid(upN f d1.toNat(some z.nx))d2.toNat⟨true,true,(pmakeF(freeZ cap z)z.ps).1,0,false,1⟩)
   else(0,(pmakeF(freeZ cap z)z.ps).2.1,{z with ps:=(pmakeF(freeZ cap z)z.ps).2.2})
  | _=> (0,14,z)
def dupZ(z:Z)(pid d:Int):Int×Int×Z:=z.on pid d(fun e=> (0,e,z))fun f k=> match freeL f 8 with
 | []=> (0,14,z)
 | d2::_=> (d2,0,(z.putp pid(some(upN f d2.toNat(some k)))).putt k {z.th k with nm:=(z.th k).nm+1})
def seekZ(z:Z)(pid d off:Int):Int×Z:=z.on pid d(fun e=> (e,z))fun _ k=> if(z.th k).pp=true∨off < 0 then(19,z)else(0,z.putt k {z.th k with pl:=off})
def readZ(z:Z)(pid d n:Int):List Int×Int×Z:=z.on pid d(fun e=> ([],e,z))fun _ k=>
 if(z.th k).wr=true then([],8,z)
 else if(z.th k).pp=true then((preadF z.ps(z.th k).id n).1,(preadF z.ps(z.th k).id n).2.1,{z with ps:=(preadF z.ps(z.th k).id n).2.2})
 else((readV(filesOf z.ns)(z.th k).id(z.th k).pl n).1,(readV(filesOf z.ns)(z.th k).id(z.th k).pl n).2,z.putt k {z.th k with pl:=(z.th k).pl+((readV(filesOf z.ns)(z.th k).id(z.th k).pl n).1.length:Int)})
def atZ(ns:NSt)(t:Th):Int:=if t.en=true then(sizeV(filesOf ns)t.id).1 else t.pl
def writeZ(cap:Nat)(z:Z)(pid d:Int)(b:List Int):Int×Int×Z:=z.on pid d(fun e=> (0,e,z))fun _ k=>
 if(z.th k).pp=true then(if(z.th k).wr=true then(if(pwriteF z.ps(z.th k).id b).1=0 then((b.length:Int),0,{z with ps:=(pwriteF z.ps(z.th k).id b).2})else(0,(pwriteF z.ps(z.th k).id b).1,{z with ps:=(pwriteF z.ps(z.th k).id b).2}))else(0,8,z))
 else if(wrF z.ns(cap - psN z.ps 4)(z.th k).id(atZ z.ns(z.th k))b).1=0 then((b.length:Int),0,({z with ns:=(wrF z.ns(cap - psN z.ps 4)(z.th k).id(atZ z.ns(z.th k))b).2}:Z).putt k {z.th k with pl:=atZ z.ns(z.th k)+(b.length:Int)})
 else(0,(wrF z.ns(cap - psN z.ps 4)(z.th k).id(atZ z.ns(z.th k))b).1,{z with ns:=(wrF z.ns(cap - psN z.ps 4)(z.th k).id(atZ z.ns(z.th k))b).2})
def usedZ(z:Z)(pid:Int):List Int:=match z.pr pid with
 | none=> []
 | some f=> usedL f 8
end Go.Proofs.YtjpjafajploiaaaGreatDoor
