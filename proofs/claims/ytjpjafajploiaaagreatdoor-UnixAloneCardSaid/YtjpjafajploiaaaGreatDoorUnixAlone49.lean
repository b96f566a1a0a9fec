/-
  A file of one's own, plain: made, written, read again.
-/
import Derived.Test.YtjpjafajploiaaaGreatDoorUnixAlone48
import Derived.Test.YtjpjafajploiaaaGreatDoorUnixAlone22
import Derived.Test.YtjpjafajploiaaaGreatDoorUnixAlone21
import Derived.Test.YtjpjafajploiaaaGreatDoorUnixAlone41
import Derived.Test.YtjpjafajploiaaaGreatDoorProg
import Derived.Test.YtjpjafajploiaaaGreatDoorUnixAlone01
import Derived.ProofKit
import Derived.OpenShut
import Derived.ChangeSlices
import Derived.Lib.SmallJoins
import Derived.Deep.Slices
import Derived.Deep.Fields
import Derived.Laws.StructEq
import Derived.ChangeKeysEq
import Derived.Lib.BytesEntry
set_option linter.unusedSimpArgs false
set_option linter.unusedVariables false
namespace Go.Proofs.YtjpjafajploiaaaGreatDoor
open Go.RowKit Own RegJ Two
open Go.Lib hiding intOf
def mA:PrM:=prPut(fun _=> none)500(some⟨-1,0,false⟩)
def zA:Z:=z00.putp 500(some fun _=> none)
theorem startA:startU z00(fun _=> none)500=(0,zA,mA):=by kernel_rfl
def zB:Z:=({zA with ns:=nsO mineT 1 []}:Z).name 500(fun _=> none)0⟨false,false,1,0,false,1⟩
def zC(b:List Int):Z:=({zB with ns:=nsO mineT 1 b}:Z).putt 0⟨false,false,1,0+(b.length:Int),false,1⟩
theorem mineE:nameE mineT=0:=by kernel_rfl
theorem openZ_A:openZ zA 500 pathM 1=(0,0,zB):=by
 have ho:openF zA.ns pathM 1=(1,0,nsO mineT 1 []):=o_new(x:=mineT)mineE 1(by omega)(by kernel_rfl)
 unfold openZ
 rw [ho]
 simp only
 rw [show zA.pr 500=some(fun _=> none)from rfl]
 simp only
 rw [show freeL(fun _=> (none:Option Nat))8= [0,1,2,3,4,5,6,7]from rfl]
 simp only
 rw [if_pos trivial,flE1]
 rfl
theorem aliveA:aliveF mA 500=true:=by kernel_rfl
theorem openA:udoZ 64 zA mA 500 1 1 0⟨#[47,109,105,110,101]⟩⟨#[]⟩=((0,0,⟨#[]⟩),zB,mA):=by
 unfold udoZ
 rw [if_neg(by rw [aliveA];decide),if_neg(by rw [show mayB 1 1 0⟨#[47,109,105,110,101]⟩⟨#[]⟩=true from by kernel_rfl];decide)]
 show(nb(plR(openZ zA 500 pathM 1).1(openZ zA 500 pathM 1).2.1),(openZ zA 500 pathM 1).2.2,mA)=_
 rw [openZ_A]
 rfl
theorem writeZ_A(b:List Int)(h:b.length≤512):writeZ 64 zB 500 0 b=((b.length:Int),0,zC b):=by
 have hw:wrF zB.ns 64 1 0 b=(0,nsO mineT 1 b):=o_writeE 64(by omega)1 b h
 have e:writeZ 64 zB 500 0 b=if(wrF zB.ns 64 1 0 b).1=0 then((b.length:Int),0,({zB with ns:=(wrF zB.ns 64 1 0 b).2}:Z).putt 0⟨false,false,1,0+(b.length:Int),false,1⟩)else(0,(wrF zB.ns 64 1 0 b).1,{zB with ns:=(wrF zB.ns 64 1 0 b).2}):=rfl
 rw [e,hw,if_pos rfl]
 rfl
theorem u8s_len(s:ByteArray):(u8s s).length=s.size:=by unfold u8s;rw [List.length_map,Array.length_toList];rfl
theorem writeA(s:ByteArray)(h:s.size≤512):udoZ 64 zB mA 500 4 0 0 s⟨#[]⟩=((0,(s.size:Int),⟨#[]⟩),zC(u8s s),mA):=by
 have hm:mayB 4 0 0 s⟨#[]⟩=true:=by
  rw [mayB_4,show withinB 0 0 7=true from rfl,show emp⟨#[]⟩=true from by kernel_rfl]
  simp;omega
 unfold udoZ
 rw [if_neg(by rw [aliveA];decide),if_neg(by rw [hm];decide)]
 show(nb(plR(writeZ 64 zB 500 0(u8s s)).1(writeZ 64 zB 500 0(u8s s)).2.1),(writeZ 64 zB 500 0(u8s s)).2.2,mA)=_
 rw [writeZ_A _(by rw [u8s_len];exact h),u8s_len]
 rfl
theorem mnA(bs:List Int):MN(nsO mineT 1 bs)bs:=by
 refine⟨rfl,⟨_,rfl,rfl⟩,fun i nd hi=> ?_⟩
 unfold nsO at hi
 split at hi
 ·rename_i h0
  cases hi
  intro x hx
  obtain rfl:x=(mineT,1):=by simpa using hx
  exact⟨fun _=> ⟨h0,rfl⟩,Int.le_refl 1⟩
 ·split at hi
  ·cases hi;intro x hx;cases hx
  ·cases hi
theorem auC(bs:List Int):AU(zC bs)mA bs:=by
 refine⟨⟨mnA bs,⟨_,rfl,rfl⟩,fun pid f d k hp hf hk=> ?_,⟨_,rfl⟩,Nat.lt_succ_self 0,fun k hk=> ?_⟩,⟨⟨⟨-1,0,false⟩,rfl,rfl,rfl⟩,fun i x hx=> ?_⟩⟩
 ·have h1:(if pid=500 then some(upN(fun _=> (none:Option Nat))0(some 0))else if pid=500 then some(fun _=> (none:Option Nat))else none)=some f:=hf
  rw [if_neg hp,if_neg hp]at h1;cases h1
 ·intro _
  show(upN(upN z00.th 0⟨false,false,1,0,false,1⟩)0⟨false,false,1,0+(bs.length:Int),false,1⟩k).id≠1
  rw [upN_ne _ _ hk,upN_ne _ _ hk]
  exact(by decide:(0:Int)≠1)
 ·unfold mA prPut at hx
  split at hx
  ·omega
  ·cases hx
theorem byC(s:ByteArray):BY(zC(u8s s)):=by
 refine⟨fun i nd hi=> ?_,fun i p hp=> by cases hp⟩
 have hi' :nsO mineT 1(u8s s)i=some nd:=hi
 unfold nsO at hi'
 split at hi'
 ·cases hi'
  refine⟨(fun y hy=> by cases hy),fun x hx=> ?_⟩
  obtain rfl:x=(mineT,1):=by simpa using hx
  exact(by decide:(4:Nat)≤1000)
 ·split at hi'
  ·cases hi';exact⟨u8s_by s,(fun x hx=> by cases hx)⟩
  ·cases hi'
section
variable {z:Z} {bs:List Int} {m:PrM}
theorem AU.alive(h:AU z m bs):aliveF m 500=true:=by
 obtain⟨x,h1,-,h2⟩:=h.ap.me
 unfold aliveF
 rw [h1]
 simp [h2]
theorem AU.on {α:Type}(h:AU z m bs)(bad:Int→α)(k:(Nat→Option Nat)→Nat→α):∃f,z.on 500 0 bad k=k f 0:=by
 obtain⟨f,h1,h2⟩:=h.al.pr
 refine⟨f,?_⟩
 unfold Z.on
 rw [h1]
 simp only
 rw [show fdZ f 0=some 0 from h2]
theorem seekA(h:AU z m bs):∃z',udoZ 64 z m 500 5 0 0⟨#[]⟩⟨#[]⟩=((0,0,⟨#[]⟩),z',m)∧AU z' m bs∧z'.th 0=⟨false,false,1,0,false,1⟩∧z'.ns=z.ns∧z'.ps=z.ps:=by
 obtain⟨pl,ht⟩:=h.al.th
 have hs:seekZ z 500 0 0=(0,z.putt 0 {z.th 0 with pl:=0}):=by
  unfold seekZ
  obtain⟨f,e⟩:=h.on(fun e=> (e,z))(fun _ k=> if(z.th k).pp=true∨(0:Int) < 0 then(19,z)else(0,z.putt k {z.th k with pl:=0}))
  rw [e,if_neg(by rw [ht];simp)]
 refine⟨z.putt 0 {z.th 0 with pl:=0},?_,⟨⟨h.al.mn,h.al.pr,h.al.fo,⟨0,?_⟩,h.al.nx,fun k hk=> ?_⟩,h.ap⟩,?_,rfl,rfl⟩
 ·unfold udoZ
  rw [if_neg(by rw [h.alive];decide),if_neg(by rw [show mayB 5 0 0⟨#[]⟩⟨#[]⟩=true from by kernel_rfl];decide)]
  show(nb(plR 0(seekZ z 500 0 0).1),(seekZ z 500 0 0).2,m)=_
  rw [hs]
  rfl
 ·exact(upN_eq z.th 0 {z.th 0 with pl:=0}).trans(by rw [ht])
 ·show(upN z.th 0 {z.th 0 with pl:=0}k).pp=false→(upN z.th 0 {z.th 0 with pl:=0}k).id≠1
  rw [upN_ne _ _ hk]
  exact h.al.ot k hk
 ·exact(upN_eq z.th 0 {z.th 0 with pl:=0}).trans(by rw [ht])
theorem readA(h:AU z m bs)(ht:z.th 0=⟨false,false,1,0,false,1⟩)(hb:bs.length≤512):∃z',udoZ 64 z m 500 3 0 512⟨#[]⟩⟨#[]⟩=((0,(bs.length:Int),B(toU bs)),z',m):=by
 have hr:readV(filesOf z.ns)1 0 512=(bs,0):=by
  unfold readV
  rw [show fsAt(filesOf z.ns)1=some bs from by
   show filesOf z.ns 1=some bs
   unfold filesOf
   rw [h.al.mn.one]
   rfl]
  simp only
  rw [if_neg(by omega)]
  show((bs.drop 0).take 512,(0:Int))=(bs,0)
  rw [List.drop_zero,List.take_of_length_le hb]
 have hs:∃z',readZ z 500 0 512=(bs,0,z'):=by
  unfold readZ
  obtain⟨f,e⟩:=h.on(fun e=> (([]:List Int),e,z))(fun _ k=> if(z.th k).wr=true then([],8,z)
   else if(z.th k).pp=true then((preadF z.ps(z.th k).id 512).1,(preadF z.ps(z.th k).id 512).2.1,{z with ps:=(preadF z.ps(z.th k).id 512).2.2})
   else((readV(filesOf z.ns)(z.th k).id(z.th k).pl 512).1,(readV(filesOf z.ns)(z.th k).id(z.th k).pl 512).2,z.putt k {z.th k with pl:=(z.th k).pl+((readV(filesOf z.ns)(z.th k).id(z.th k).pl 512).1.length:Int)}))
  rw [e,if_neg(by rw [ht];simp),if_neg(by rw [ht];simp),ht]
  simp only
  rw [hr]
  exact⟨_,rfl⟩
 obtain⟨z',hz⟩:=hs
 refine⟨z',?_⟩
 unfold udoZ
 rw [if_neg(by rw [h.alive];decide),if_neg(by rw [show mayB 3 0 512⟨#[]⟩⟨#[]⟩=true from by kernel_rfl];decide)]
 show((if(readZ z 500 0 512).2.1=0 then(0,((readZ z 500 0 512).1.length:Int),B(toU(readZ z 500 0 512).1))else((readZ z 500 0 512).2.1,0,⟨#[]⟩)),(readZ z 500 0 512).2.2,m)=_
 rw [hz]
 rfl
end
theorem toU_u8s(s:ByteArray):B(toU(u8s s))=s:=by
 rw [show toU(u8s s)=tx s from ?_]
 ·exact(tx_B s).symm
 ·unfold toU u8s tx
  rw [List.map_map]
  exact List.map_id'' (fun c=> by simp)_
end Go.Proofs.YtjpjafajploiaaaGreatDoor
namespace Go.Proofs.YtjpjafajploiaaaGreatDoor
open Go.RowKit Own RegJ Two
open Go.Lib hiding intOf
theorem eqr_n(w:World):(binOp .neq 32(.agg #[.int .i64 0,.int .i64 0,.string⟨#[]⟩])(.agg #[.int .i64 0,.int .i64 0,.string⟨#[]⟩])).run Tryz.prog w= .ok(.bool false)w:=by kernel_rfl
theorem eqr_s(w:World):(binOp .eql 32(.agg #[.int .i64 0,.int .i64 1001,.string⟨#[]⟩])(.agg #[.int .i64 0,.int .i64 1001,.string⟨#[]⟩])).run Tryz.prog w= .ok(.bool true)w:=by kernel_rfl
theorem fld_4(w:World):(Instr.field 32(.agg #[.int .i64 4,.int .i64 0,.string⟨#[]⟩])0).run Tryz.prog w= .ok(.int .i64 4)w:=by kernel_rfl
def nsD:NSt:=(atPar ns0 [47,100](mkdirF ns0)).2
theorem mkD:atPar ns0 [47,100](mkdirF ns0)=(0,nsD):=Prod.ext(by kernel_rfl)rfl
theorem stD:statF nsD [47]=(#[.int .i64 0,.int .i64 0,.bool true,.int .i64 1],0):=Prod.ext(by kernel_rfl)(by kernel_rfl)
set_option maxRecDepth 100000 in
set_option maxHeartbeats 4000000 in
theorem u_awake [Inhabited CapT](w:World)(hm:MC w)(hc:capI=capV 16):Calls Tryz.prog 9 #[]w fun e w' => e= .returned(.bool true)∧Below w.heap.size w w' :=by
 have hn:=unew_is 16(by omega)(by omega)w hm hc
 have q1:=eqr_n
 have q2:=eqr_s
 have q3:=fld_4
 clear hm hc
 go_enter Tryz.func9,Tryz.ntmps9
 go_wp2_with(first
  | (go_at_call 10;refine hn.mono ?_;rintro e w1⟨syb,fdb,vb,tb,fb,sb,pb,mb,qb,qm,O,rfl,hX⟩;have a1:=ustart_is hX(by omega)(by omega)1(by decide)(by omega)rfl rfl;clear hn hX)
  | (go_at_call 11;go_loud(refine a1.mono ?_;rintro e w2⟨b,-,rfl,-,O2,hX2,-⟩;have a2:=udo_mk hX2(by omega)1(by decide)rfl [47,100](by decide)0 0 0 mkD rfl⟨#[47,100]⟩rfl 0 0⟨#[]⟩(by kernel_rfl);clear a1 hX2))
  | (go_at_call 12;(with_reducible refine a2.mono ?_);rintro e w3⟨rfl,-,O3,hX3,-⟩;have a3:=udo_stat hX3 1(by decide)rfl [47](by decide)stD⟨#[47]⟩rfl 0 0⟨#[]⟩(by kernel_rfl);have H3:=Lib.hid hX3;clear a2 hX3)
  | (go_at_call 12;(with_reducible refine a3.mono ?_);rintro e w4⟨rfl,hB4⟩;have a4:=udo_dead(H3.out.below hB4)2(by decide)rfl #[.int .i64 17,.int .i64 0,.int .i64 0,.string⟨#[]⟩,.string⟨#[]⟩];have H4:=Lib.hid hB4;clear a3 hB4)
  | (go_at_call 12;(with_reducible refine a4.mono ?_);rintro e w5⟨rfl,hB5⟩;have H5:=Lib.hid((H3.out.below H4.out).below hB5).fx.bel;clear a4 hB5))
 go_ret
 exact⟨rfl,H5.out⟩
end Go.Proofs.YtjpjafajploiaaaGreatDoor
namespace Go.Proofs.YtjpjafajploiaaaGreatDoor
open Go.RowKit Own RegJ Two
open Go.Lib hiding intOf
structure UAct(w:World)(av:Option Addr)(i g o:Nat)(d p n sys a b:Int)(s t:ByteArray):Prop where
 adr:av=some⟨g,o,none⟩
 lt:g < w.heap.size
 k0:w.cell? ⟨g,o+i*8,none⟩=some(.int .i64 d)
 k1:w.cell? ⟨g,o+i*8+1,none⟩=some(.int .i64 p)
 k2:w.cell? ⟨g,o+i*8+2,none⟩=some(.int .i64 n)
 k3:w.cell? ⟨g,o+i*8+3,none⟩=some(.int .i64 sys)
 k4:w.cell? ⟨g,o+i*8+4,none⟩=some(.int .i64 a)
 k5:w.cell? ⟨g,o+i*8+5,none⟩=some(.int .i64 b)
 k6:w.cell? ⟨g,o+i*8+6,none⟩=some(.string s)
 k7:w.cell? ⟨g,o+i*8+7,none⟩=some(.string t)
 wp:(Lit.int .i64 p).wf=true
 wn:(Lit.int .i64 n).wf=true
def UActs(w:World)(av:Option Addr)(len:Nat):Prop:=∀i,i < len→∃g o d p n sys a b s t,UAct w av i g o d p n sys a b s t
def GrU(w:World)(len most:Nat)(e:Ending)(w' :World):Prop:=∃b,e= .returned(.bool b)∧(b=false→len≤most)∧w=w'
set_option maxRecDepth 100000 in
set_option maxHeartbeats 4000000 in
theorem greatu_v {w:World} {av:Option Addr} {len cap:Nat}(hA:UActs w av len)(hm:len≤maxLen)(most:Nat)(hmo:most≤1000):Calls Tryz.prog 8 #[.slice av len cap,.int .i64 most]w(GrU w len most):=by
 unfold maxLen at hm
 have HA:=Lib.hid hA
 clear hA
 by_cases hl:len≤most
 ·have d1:decide((len:Int)≤(most:Int))=true:=by simp;omega
  have d2:decide((len:Int) > (most:Int))=false:=by simp;omega
  have d2n:decide(len > most)=false:=by simp;omega
  have d2m:decide(most < len)=false:=by simp;omega
  have d1n:decide(len≤most)=true:=by simp;omega
  go_enter Tryz.func8,Tryz.ntmps8
  go_wp2_with(fail)
  go_loopw [5](fun v5 wr=> ∃i:Nat,i≤len∧v5= .int .i64 i∧wr=w)(fun v5 _=> len - (intOf v5).toNat)
  case atStart=> exact⟨0,Nat.zero_le _,rfl,rfl⟩
  case round=>
   obtain⟨i,hi,rfl,rfl⟩:=hrel
   by_cases hil:i < len
   ·obtain⟨g,o,d,p,n,sys,a,b,S,T,hact⟩:=HA.out i hil
    obtain⟨rfl,-,-,-,-,-,-,-,k6,k7,-,-⟩:=hact
    have k6' :wr.cell? ⟨g,o+i*8+3+3,none⟩=some(.string S):=k6
    have k7' :wr.cell? ⟨g,o+i*8+3+4,none⟩=some(.string T):=k7
    have d5:decide((i:Int) < (len:Int))=true:=by simp;omega
    have i5:(i:Int) < (len:Int):=by omega
    have i6:(0:Int)≤i:=by omega
    by_cases hs:S.size > 600
    ·have d6:decide((S.size:Int) > 600)=true:=by simp;omega
     have d6n:decide(S.size > 600)=true:=by simpa using hs
     clear hs
     go_wp2_with(fail)
     go_ret
     exact⟨true,rfl,(fun h=> by cases h),rfl⟩
    ·have d6:decide((S.size:Int) > 600)=false:=by simp;omega
     have d6n:decide(S.size > 600)=false:=by simpa using hs
     by_cases ht:T.size > 600
     ·have d7:decide((T.size:Int) > 600)=true:=by simp;omega
      have d7n:decide(T.size > 600)=true:=by simpa using ht
      clear hs ht
      go_wp2_with(fail)
      go_ret
      exact⟨true,rfl,(fun h=> by cases h),rfl⟩
     ·have d7:decide((T.size:Int) > 600)=false:=by simp;omega
      have d7n:decide(T.size > 600)=false:=by simpa using ht
      clear hs ht
      go_wp2_with(fail)
      go_roundw
      case rel=> exact⟨i+1,by omega,by go_num,by trivial⟩
      case measure=> simp [intOf];omega
   ·have d5:decide((i:Int) < (len:Int))=false:=by simp;omega
    have d5n:decide(i < len)=false:=by simp;omega
    obtain rfl:i=len:=by omega
    have HLL:=Lib.hid hl
    clear hil hi
    go_wp2_with(fail)
    go_ret
    exact⟨false,rfl,fun _=> HLL.out,rfl⟩
 ·have d1:decide((len:Int)≤(most:Int))=false:=by simp;omega
  have d2:decide((len:Int) > (most:Int))=true:=by simp;omega
  have d1n:decide(len≤most)=false:=by simp;omega
  have d2n:decide(len > most)=true:=by simp;omega
  have d2m:decide(most < len)=true:=by simp;omega
  have d5:decide((0:Int) < (len:Int))=true:=by simp;omega
  have d5n:decide(0 < len)=true:=by simp;omega
  have i5:(0:Int) < (len:Int):=by omega
  clear hl
  go_enter Tryz.func8,Tryz.ntmps8
  go_wp2_with(fail)
  go_loopw [5](fun v5 wr=> v5= .int .i64 0∧wr=w)(fun v5 _=> 0)
  case atStart=> exact⟨rfl,rfl⟩
  case round=>
   obtain⟨rfl,rfl⟩:=hrel
   go_wp2_with(fail)
   go_ret
   exact⟨true,rfl,(fun h=> by cases h),rfl⟩
end Go.Proofs.YtjpjafajploiaaaGreatDoor
namespace Go.Proofs.YtjpjafajploiaaaGreatDoor
open Go.RowKit Own RegJ Two
open Go.Lib hiding intOf
theorem eq_three {P:Program} {t:TypeId} {f0 f1 f2:Field}(hs:P.underlying t=some(.struct #[f0,f1,f2]))(hp:P.stoodInHeld t=false)(n0:f0.name≠ "_")(n1:f1.name≠ "_")(n2:f2.name≠ "_")(o0:f0.offset=0)(o1:f1.offset=1)(o2:f2.offset=2)
  (p0:P.plainKey f0.type=true)(p1:P.plainKey f1.type=true)(p2:P.plainKey f2.type=true)(i0:P.underlying f0.type=some(.int .i64))(i1:P.underlying f1.type=some(.int .i64))(i2:P.underlying f2.type=some .string)(x y:Int)(s:ByteArray)(w:World):
  (binOp .eql t(.agg #[.int .i64 x,.int .i64 y,.string s])(.agg #[.int .i64 x,.int .i64 y,.string s])).run P w= .ok(.bool true)w:=by
 have hf:(P.fieldsOf t).toList= [f0,f1,f2]:=by unfold Program.fieldsOf;rw [hs]
 rw [run_eql_struct,run_equalIn_struct w 9999 t _ _(by unfold Program.fieldsOf;rw [hs])hp,hf]
 have q0:=Go.run_part_plain(w:=w)p0(xs:= #[.int .i64 x,.int .i64 y,.string s])(off:=0)(v:= .int .i64 x)rfl
 have q1:=Go.run_part_plain(w:=w)p1(xs:= #[.int .i64 x,.int .i64 y,.string s])(off:=1)(v:= .int .i64 y)rfl
 have q2:=Go.run_part_plain(w:=w)p2(xs:= #[.int .i64 x,.int .i64 y,.string s])(off:=2)(v:= .string s)rfl
 have e0:=run_equalIn_int(P:=P)w 9998 f0.type .i64 .i64 x x i0
 have e1:=run_equalIn_int(P:=P)w 9998 f1.type .i64 .i64 y y i1
 have e2:=run_equalIn_string(P:=P)w 9998 f2.type s s i2
 simp only [Op.eqFields,o0,o1,o2,if_pos n0,if_pos n1,if_pos n2,Sem.run_bind,q0,q1,q2,Result.andThen_ok,e0,e1,e2,beq_self_eq_true,Bool.not_true,Bool.false_eq_true,if_false,Sem.run_pure]
set_option maxRecDepth 100000 in
theorem eqr_any(x y:Int)(s:ByteArray)(w:World):(binOp .eql 32(.agg #[.int .i64 x,.int .i64 y,.string s])(.agg #[.int .i64 x,.int .i64 y,.string s])).run Tryz.prog w= .ok(.bool true)w:=
 eq_three(P:=Tryz.prog)Tryz.underlying32(by kernel_rfl)(by decide)(by decide)(by decide)rfl rfl rfl(by kernel_rfl)(by kernel_rfl)(by kernel_rfl)(by kernel_rfl)(by kernel_rfl)(by kernel_rfl)x y s w
theorem argS {w0:World} {v:Value} {bs:List Int}(h:ArgB w0 v bs):∃s:ByteArray,s.size=bs.length∧∀w,Below w0.heap.size w0 w→(convert 22 9 v).run Tryz.prog w= .ok(.string s)w:=by
 obtain⟨a,c,rfl,hc,hr⟩:=h
 cases a with
 | none=>
  have h0:bs.length=0:=Nat.eq_zero_of_not_pos fun hp=> by obtain⟨g,q,e,-⟩:=hr hp;cases e
  rw [h0]
  exact⟨⟨#[]⟩,rfl,fun w _=> run_convert_nil_bytes w _ _ _ c Tryz.underlying22 Tryz.underlying5 Tryz.underlying9⟩
 | some a=>
  refine⟨bs.foldl(fun r n=> r.push(UInt8.ofNat n.toNat))ByteArray.empty,?_,fun w hB=> ?_⟩
  ·have:∀(l:List Int)(r:ByteArray),(l.foldl(fun r n=> r.push(UInt8.ofNat n.toNat))r).size=r.size+l.length:=by
    intro l
    induction l with
    | nil=> intro r;rfl
    | cons x l ih=> intro r;rw [List.foldl_cons,ih,ByteArray.size_push,List.length_cons];omega
   rw [this];exact Nat.zero_add _
  ·rw [run_convert_bytes_string w _ _ _ _ _ _ Tryz.underlying22 Tryz.underlying5 Tryz.underlying9]
   refine run_bytesToString w a _ c bs ?_
   have:=run_loadCells_list(P:=Tryz.prog)w a(bs.map(Value.int .u8))(fun j v hj=> by
    have hp:0 < bs.length:=by
     have:=(List.getElem?_eq_some_iff.1 hj).1
     rw [List.length_map]at this;omega
    obtain⟨g,q,e,h1,h2⟩:=hr hp
    cases e
    obtain⟨A,eA,h3⟩:=rdv_far h1 h2 hB j v(by unfold ucells;exact hj)
    cases eA
    rw [←h3])
   rw [List.length_map]at this
   exact this
end Go.Proofs.YtjpjafajploiaaaGreatDoor
