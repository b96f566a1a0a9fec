/-
  A process leaves: all that its descriptors name is closed.
-/
import Derived.Test.YtjpjafajploiaaaGreatDoorUnixAlone34
import Derived.Test.YtjpjafajploiaaaGreatDoorUnixAlone06
import Derived.Test.YtjpjafajploiaaaGreatDoorUnixAlone02
import Derived.Test.YtjpjafajploiaaaGreatDoorUnixAlone03
import Derived.Lib.BufferRead
import Derived.Test.YtjpjafajploiaaaGreatDoorUnixAlone30
set_option linter.unusedSimpArgs false
set_option linter.unusedVariables false
namespace Go.Proofs.YtjpjafajploiaaaGreatDoor
open Go.RowKit Own RegJ Two
open Go.Lib hiding intOf
def closeL(z:Z)(pid:Int):List Int→Z
 | []=> z
 | d::r=> closeL(closeZ z pid d).2 pid r
theorem closeL_app(pid:Int)(b:List Int):∀(a:List Int)(z:Z),closeL z pid(a++b)=closeL(closeL z pid a)pid b
 | [],z=> rfl
 | d::r,z=> closeL_app pid b r _
theorem dropT_pr(z:Z)(k:Nat):(dropT z k).pr=z.pr:=by
 unfold dropT
 split
 ·rfl
 ·split <;> rfl
theorem closeL_used {z:Z} {pid:Int} {f:Nat→Option Nat}(hp:z.pr pid=some f):∀i,i≤8→closeL z pid(usedL f i)=leaveN z pid i∧∃g,(leaveN z pid i).pr pid=some g∧∀d,i≤d→g d=f d
 | 0,_=> ⟨rfl,f,hp,fun _ _=> rfl⟩
 | i+1,hi=> by
  obtain⟨h1,g,h2,h3⟩:=closeL_used hp i(by omega)
  unfold usedL
  rw [closeL_app,h1]
  have hgi:g i=f i:=h3 i(Nat.le_refl _)
  have hl:leaveN z pid(i+1)=match g i with | none=> leaveN z pid i | some k=> dropZ(leaveN z pid i)pid g i k:=by
   show(match(leaveN z pid i).pr pid with | none=> leaveN z pid i | some f=> match f i with | none=> leaveN z pid i | some k=> dropZ(leaveN z pid i)pid f i k)=_
   rw [h2]
  rw [hl,hgi]
  cases hf:f i with
  | none=> exact⟨rfl,g,h2,fun d hd=> h3 d(by omega)⟩
  | some k=>
   refine⟨?_,upN g i none,?_,fun d hd=> ?_⟩
   ·show(closeZ(leaveN z pid i)pid i).2=_
    unfold closeZ Z.on fdZ
    rw [h2]
    simp only [Int.toNat_natCast]
    rw [if_pos(by omega),hgi,hf]
   ·unfold dropZ
    rw [dropT_pr]
    exact if_pos rfl
   ·rw [upN_ne _ _(by omega)];exact h3 d(by omega)
section
variable {cap:Nat} {w0 w w1 w2 w' :World} {O O1:Nat→Prop} {fdb vb tb fb sb pb mb:Nat} {c c' N N' M M' :Nat} {S S' :FS} {ns:NSt} {ps:PS} {φ:Nat→Nat} {z z' :Z}
theorem ZP.ahead {v:Value} {e:Ending}(hB:Below w.heap.size w w1)(h:ZP cap w0 O fdb vb tb fb sb pb mb c z w1 v e w'):ZP cap w0 O fdb vb tb fb sb pb mb c z w v e w' :=by
 obtain⟨h1,h2,O',h3,h4⟩:=h
 exact⟨h1,(Upd.of_below hB).trans h2(fun _ _ h=> h),O',h3,fun k hk=> (h4 k hk).imp id(fun h=> Nat.le_trans hB.size h)⟩
theorem ZP.seq {v:Value} {e:Ending}(h:Upd O w w1)(hO1:∀k,O1 k→O k∨w.heap.size≤k)(k:ZP cap w0 O1 fdb vb tb fb sb pb mb c z w1 v e w'):ZP cap w0 O fdb vb tb fb sb pb mb c z w v e w' :=by
 obtain⟨k1,k2,O2,k3,k4⟩:=k
 refine⟨k1,h.trans k2(fun i hi hk=> (hO1 i hk).elim id(fun h=> by omega)),O2,k3,fun j hj=> ?_⟩
 rcases k4 j hj with hj | hj
 ·exact hO1 j hj
 ·exact .inr(Nat.le_trans h.size hj)
set_option maxRecDepth 100000 in
set_option maxHeartbeats 2000000 in
theorem zz_leave(h:EZ cap w0 O fdb vb tb fb sb pb mb c z w)(hc:c≤8900)(hmc:0 < w0.heap.size)(pid:Int)(hw:(Lit.int .i64 pid).wf=true)(r:Int)(hr:leaveZ z pid=(r,z')):
  Calls Tryz.prog 58 #[.pointer(some⟨fdb,0,none⟩),.int .i64 pid]w(ZP cap w0 O fdb vb tb fb sb pb mb(c+8)z' w(.int .i64 r)):=by
 have hz:=h
 obtain⟨S,φ,hE,hR,hB⟩:=h
 unfold leaveZ at hr
 cases hp:z.pr pid with
 | none=>
  rw [hp]at hr;cases hr
  refine(k_leavenone hE.fd pid hw(hR.none' hp)).mono ?_
  rintro e w1⟨rfl,rfl⟩
  exact ZP.same hz(by omega)(Below.refl _ _)_
 | some f=>
  rw [hp]at hr;cases hr
  obtain⟨b,hb,hsl⟩:=hR.some' hp
  obtain⟨us,hus⟩:∃us,usedL f 8=us:=⟨_,rfl⟩
  obtain⟨m,hm⟩:∃m,us.length=m:=⟨_,rfl⟩
  have hpc:=k_proc hE.fd pid hw(some b)hb 0(by unfold procR;rw [hb])
  have husd:=zz_used hz pid hw us(by unfold usedZ;rw [hp];exact hus)
  obtain⟨hcl,g8,hg8,-⟩:=closeL_used hp 8(Nat.le_refl _)
  rw [hus]at hcl
  have hm8:m≤8:=by rw [←hm,←hus];exact usedL_len f 8
  have HE:=Lib.hid(And.intro hz(And.intro hw(And.intro hcl(And.intro hg8(And.intro hm hmc)))))
  have HL:=Lib.hid hE.rng
  simp only [ptb,Option.map]at hpc
  clear hz hE hR hB hp hb hsl hus hcl hg8 hw
  go_enter Tryz.func58,Tryz.ntmps58
  go_wp2_with(first
   | (go_at_call 67;refine hpc.mono ?_;rintro e w1⟨rfl,rfl⟩)
   | (go_at_call 26;refine husd.mono ?_;rintro e w1⟨a,cu,g,rfl,hR,hgO,hB1⟩;rw [hm]at hR ⊢;have H1:=Lib.hid(And.intro hR(And.intro hgO hB1));clear hR hgO hB1 husd hpc hm))
  go_loopw [22](fun v22 wr=> ∃i:Nat,i≤m∧v22= .int .i64 i∧Hid(∃O3,EZ cap w0 O3 fdb vb tb fb sb pb mb(c+i)(closeL z pid(us.take i))wr∧Upd O w1 wr∧∀k,O3 k→O k∨w1.heap.size≤k))(fun v22 _=> m - (intOf v22).toNat)
  case atStart=> exact⟨0,Nat.zero_le _,rfl,Lib.hid⟨O,HE.out.1.below H1.out.2.2,Upd.refl _ _,fun k hk=> .inl hk⟩⟩
  case round=>
   obtain⟨i,hi,rfl,H⟩:=hrel
   obtain⟨O3,hZ,hU,hO3⟩:=H.out
   by_cases him:i < m
   ·have d1:decide((i:Int) < m)=true:=by simp;omega
    have i1:(i:Int) < m:=by omega
    have i2:(0:Int)≤i:=by omega
    obtain⟨dx,hdx⟩:∃dx,us[i]? =some dx:=⟨_,List.getElem?_eq_getElem(by rw [HE.out.2.2.2.2.1];exact him)⟩
    obtain⟨g',rfl,hcell⟩:∃g,a=some⟨g,0,none⟩∧wr.cell? ⟨g,i,none⟩=some(.int .i64 dx):=by
     obtain⟨hR,hgO,hB1⟩:=H1.out
     rcases hR with⟨hv,hn,_⟩ | ⟨g',cap',rest,hv,hgr,hBk,_⟩
     ·simp only [Value.slice.injEq]at hv
      omega
     ·simp only [Value.slice.injEq]at hv
      refine⟨g',hv.1,?_⟩
      have h0:w1.cell? ⟨g',i,none⟩=some(.int .i64 dx):=by
       rw [hBk.rd]
       have:(icells us)[i]? =some(.int .i64 dx):=by rw [List.getElem?_map,hdx];rfl
       have hl:=(List.getElem?_eq_some_iff.1 this).1
       show(icells us++rest).toArray[i]? =_
       rw [List.getElem?_toArray,List.getElem?_append_left hl,this]
      exact cell_upd hU h0(fun hk=> by have:=(HL.out g' hk).2;have:=hgO g' hgr;omega)
    have hcl:=zz_close hZ(by omega)HE.out.2.2.2.2.2 pid HE.out.2.1 dx _(z' :=(closeZ(closeL z pid(us.take i))pid dx).2)rfl
    have HD:=Lib.hid hdx
    have HP:=Lib.hid(And.intro hU hO3)
    clear hdx hZ hU hO3
    go_wp2_with(go_at_call 43;refine hcl.mono ?_;rintro e w3⟨rfl,hU3,O4,hZ4,hO4⟩;have H3:=Lib.hid(And.intro hU3(And.intro hZ4 hO4));clear hU3 hZ4 hO4 hcl)
    go_roundw
    case rel=>
     obtain⟨hU,hO3⟩:=HP.out
     obtain⟨hU3,hZ4,hO4⟩:=H3.out
     have hz4:=hU.size
     refine⟨i+1,by omega,by go_num,Lib.hid⟨O4,?_,hU.trans hU3(fun j hj hk=> (hO3 j hk).elim id(fun h=> by omega)),fun k hk=> (hO4 k hk).elim(fun h=> hO3 k h)(fun h=> .inr(by omega))⟩⟩
     rw [List.take_add_one,HD.out,closeL_app]
     exact hZ4
    case measure=> simp [intOf];omega
   ·have d1:decide((i:Int) < m)=false:=by simp;omega
    obtain rfl:i=m:=by omega
    rw [List.take_of_length_le(by rw [HE.out.2.2.2.2.1];exact Nat.le_refl _),HE.out.2.2.1]at hZ
    obtain⟨S3,φ3,hE3,hR3,hB3⟩:=hZ
    have c2:wr.cell? ⟨fdb,2,none⟩=some(.map(some mb)):=hE3.fd.f.rd 2
    obtain⟨n,s,hmm,hn⟩:=hE3.fd.m
    have H4:=Lib.hid(And.intro hU(And.intro hE3(And.intro hO3(And.intro hmm(And.intro hn(And.intro hR3 hB3))))))
    clear hU hE3 hO3 hmm hn hR3 hB3
    go_wp2_with(at_delete;refine wp_mapdel _ rfl _ _ 152 3 rfl 132 Tryz.underlying3 Tryz.underlying152 mb n s _ rfl H4.out.2.2.2.1 pid HE.out.2.1 rfl ?_;intro w5 hM5 hu5;have H5:=Lib.hid(And.intro hM5 hu5);clear hM5 hu5)
    go_ret
    obtain⟨hU,hE3,hO3,hmm,hn,hR3,hB3⟩:=H4.out
    obtain⟨hM5,hu5⟩:=H5.out
    obtain⟨hR,hgO,hB1⟩:=H1.out
    have hD:=hE3.fd.drop pid hM5 hn hu5(fun k cs T hk=> hmm.blk hk)
    have hown:=hE3.own(hu5.mono(fun k _ e=> .inr(.inl e)))hD(fun k hk=> .inl(by
     rcases hk with hk | hk | ⟨i,hi⟩ | hk
     ·exact .inl hk
     ·exact .inr(.inl hk)
     ·refine .inr(.inr(.inl⟨i,?_⟩))
      unfold FS.drop at hi
      simp only at hi
      split at hi
      ·cases hi
      ·exact hi
     ·exact .inr(.inr(.inr hk))))(.int .i64 0)
    exact ZP.ahead hB1(ZP.seq hU hO3(ZP.of(z:=(leaveN z pid 8).putp pid none)hown(by omega)(by omega)(by omega)(hR3.drop pid)((hB3.le(by push_cast;omega)).putp pid none)))
end
end Go.Proofs.YtjpjafajploiaaaGreatDoor
namespace Go.Proofs.YtjpjafajploiaaaGreatDoor
open Go.RowKit Own RegJ Two
open Go.Lib
structure Pr where
 pa:Int
 co:Int
 de:Bool
abbrev PrM:=Int→Option Pr
abbrev prV(x:Pr):Value:= .agg #[.int .i64 x.pa,.int .i64 x.co,.bool x.de]
def prPut(m:PrM)(i:Int)(x:Option Pr):PrM:=fun j=> if j=i then x else m j
def aliveF(m:PrM)(pid:Int):Bool:=match m pid with
 | some x=> !x.de
 | none=> false
structure PrB(w:World)(qb qm N:Nat)(m:PrM):Prop where
 q:Blk w qb #[.map(some qm)]129
 m:∃n s,MapI w Tryz.prog 3 qm n s(fun i=> (m i).map prV)∧n≤N
theorem zero_pr(w:World):(zeroValue 125).run Tryz.prog w= .ok(.agg #[.int .i64 0,.int .i64 0,.bool false])w:=by kernel_rfl
section
variable {w w' :World} {qb qm N N' :Nat} {m m' :PrM}
theorem PrB.upd {F:Nat→Prop}(h:PrB w qb qm N m)(hu:Upd F w w')(h1:¬F qb)(h2:¬F qm):PrB w' qb qm N m:=by
 obtain⟨n,s,hm,hn⟩:=h.m
 exact⟨Blk.upd hu h.q h1,n,s,hm.upd hu h2,hn⟩
theorem PrB.below(h:PrB w qb qm N m)(hB:Below w.heap.size w w'):PrB w' qb qm N m:=h.upd(Upd.of_below(F:=fun _=> False)hB)(fun h=> h)(fun h=> h)
theorem PrB.lt(h:PrB w qb qm N m):qb < w.heap.size∧qm < w.heap.size:=by
 obtain⟨n,s,hm,hn⟩:=h.m
 exact⟨h.q.lt,hm.lt⟩
theorem PrB.look(h:PrB w qb qm N m)(pid:Int)(hw:(Lit.int .i64 pid).wf=true):(Instr.lookup 127(.map(some qm))(.int .i64 pid)true).run Tryz.prog w= .ok(.tuple #[((m pid).map prV).getD(.agg #[.int .i64 0,.int .i64 0,.bool false]),.bool(m pid).isSome])w:=by
 obtain⟨n,s,hm,hn⟩:=h.m
 have:=hm.look_ok Tryz.underlying3 Tryz.underlying127(zero_pr w)pid hw
 rw [this]
 cases m pid <;> rfl
set_option maxRecDepth 100000 in
theorem procnew_is(w:World):Calls Tryz.prog 37 #[]w fun e w' => ∃qb qm,e= .returned(.pointer(some⟨qb,0,none⟩))∧Below w.heap.size w w' ∧w.heap.size≤qb∧w.heap.size≤qm∧PrB w' qb qm 0(fun _=> none):=by
 have hal:=((Below.refl w.heap.size w).alloc(Nat.le_refl _)(.map #[]0)).alloc(by simp)(.cells #[.map(some w.heap.size)]129)
 have hm:=(MapI.made w Tryz.prog 3).upd(Upd.of_below(F:=fun _=> False)((Below.refl(w.alloc(.map #[]0)).heap.size _).alloc(Nat.le_refl _)(.cells #[.map(some w.heap.size)]129)))(fun h=> h)
 have hf:=Blk.new(w.alloc(.map #[]0)) #[.map(some w.heap.size)]129
 have hmm:= @run_makeMap Tryz.prog
 go_enter Tryz.func37,Tryz.ntmps37
 go_wp2_with(fail)
 go_ret
 exact⟨_,w.heap.size,rfl,hal,by simp,Nat.le_refl _,(by have h:=hf;rw [show(w.alloc(.map #[]0)).heap.size=w.heap.size+1 by simp]at h;exact h),0,0,hm,Nat.le_refl _⟩
set_option maxRecDepth 100000 in
theorem alive_is(h:PrB w qb qm N m)(pid:Int)(hw:(Lit.int .i64 pid).wf=true)(r:Bool)(hr:aliveF m pid=r):
  Calls Tryz.prog 22 #[.pointer(some⟨qb,0,none⟩),.int .i64 pid]w fun e w' => e= .returned(.bool r)∧Below w.heap.size w w' :=by
 have hl:=h.look pid hw
 have c0:=h.q.rd 0
 unfold aliveF at hr
 cases hm:m pid with
 | none=>
  rw [hm]at hl hr
  obtain rfl:false=r:=hr
  simp only [Option.map_none,Option.getD_none,Option.isSome_none]at hl
  clear h hw hm
  go_enter Tryz.func22,Tryz.ntmps22
  go_wp2_with(fail)
  go_ret
  exact⟨rfl,(Below.refl _ _).alloc(Nat.le_refl _)_⟩
 | some x=>
  obtain⟨pa,co,de⟩:=x
  rw [hm]at hl hr
  simp only [Option.map_some,Option.getD_some,Option.isSome_some,prV]at hl
  obtain rfl:(!de)=r:=hr
  clear h hw hm
  go_enter Tryz.func22,Tryz.ntmps22
  go_wp2_with(fail)
  go_ret
  exact⟨rfl,(Below.refl _ _).alloc(Nat.le_refl _)_⟩
theorem PrB.put(h:PrB w qb qm N m)(pid:Int)(x:Pr) {w1 w2:World}(hB:Below w.heap.size w w1)(n s:Nat)(hn:n≤N)(hm:MapI w2 Tryz.prog 3 qm(n+1)s(mput(fun i=> (m i).map prV)pid(prV x)))(hu:Upd(fun k=> k=qm)w1 w2):PrB w2 qb qm(N+1)(prPut m pid(some x))∧Upd(fun k=> k=qm)w w2:=by
 have hne:qb≠qm:=by
  obtain⟨n,s,h1,_⟩:=h.m
  obtain⟨D,⟨es,clock,hb,_⟩,_⟩:=h1
  rintro rfl
  have:=h.q
  unfold Blk at this
  rw [hb]at this
  cases this
 refine⟨⟨Blk.upd hu(Blk.below hB h.q h.q.lt)hne,n+1,s,?_,by omega⟩,(Upd.of_below hB).trans hu(fun _ _ h=> h)⟩
 have e:(fun i=> (prPut m pid(some x)i).map prV)=mput(fun i=> (m i).map prV)pid(prV x):=by
  funext j
  unfold prPut mput
  by_cases hj:j=pid
  ·rw [if_pos hj,if_pos hj];rfl
  ·rw [if_neg hj,if_neg hj]
 rw [e];exact hm
set_option maxRecDepth 100000 in
theorem pstart_one(h:PrB w qb qm N m)(hN:N≤10000)(pid:Int)(hw:(Lit.int .i64 pid).wf=true)(h0:0≤pid)(hp:m pid=none):
  Calls Tryz.prog 38 #[.pointer(some⟨qb,0,none⟩),.int .i64 pid,.int .i64(-1)]w fun e w' => e= .returned(.int .i64 0)∧PrB w' qb qm(N+1)(prPut m pid(some⟨-1,0,false⟩))∧Upd(fun k=> k=qm)w w' :=by
 have hl:=h.look pid hw
 have c0:=h.q.rd 0
 rw [hp]at hl
 simp only [Option.map_none,Option.getD_none,Option.isSome_none]at hl
 have d1:decide(pid < 0)=false:=decide_eq_false(by omega)
 obtain⟨n,s,hm,hn⟩:=h.m
 have hal:Below w.heap.size w(w.alloc(.cells #[.int .i64 0,.int .i64 0,.bool false]125)):=(Below.refl _ _).alloc(Nat.le_refl _)_
 have hm1:MapI(w.alloc(.cells #[.int .i64 0,.int .i64 0,.bool false]125))Tryz.prog 3 qm n s(fun i=> (m i).map prV):=hm.upd(Upd.of_below(F:=fun _=> False)hal)(fun h=> h)
 have c1:=(Blk.below hal h.q h.q.lt).rd 0
 have key:=fun w2 s2=> h.put pid⟨-1,0,false⟩(w2:=w2)hal n s2 hn
 have HK:=Lib.hid(And.intro key(And.intro hm1(And.intro hn hw)))
 clear h hm hn key hm1 hal hp
 go_enter Tryz.func38,Tryz.ntmps38
 go_wp2_with(refine wp_mapput _ rfl(.tmp 37)(.tmp 38)(.tmp 40)127 rfl 3 125 Tryz.underlying3 Tryz.underlying127 qm n s _ rfl HK.out.2.1(by have:=HK.out.2.2.1;unfold maxLen;omega)pid HK.out.2.2.2 _ rfl rfl ?_;intro w2 hm2 hu2;have H2:=Lib.hid(HK.out.1 w2 _ hm2 hu2);clear hm2 hu2)
 go_ret
 exact⟨rfl,H2.out⟩
end
end Go.Proofs.YtjpjafajploiaaaGreatDoor
namespace Go.Proofs.YtjpjafajploiaaaGreatDoor
open Go.RowKit Own RegJ Two Go.Shelf Go.Proofs
structure PrC(w:World)(qb qm n s:Nat)(m:PrM):Prop where
 q:Blk w qb #[.map(some qm)]129
 mm:∃n' s',MapI w Tryz.prog 3 qm n' s' (fun i=> (m i).map prV)∧n' ≤n∧s' ≤s
 p:∀i x,m i=some x→(Lit.int .i64 i).wf=true
def startP(m:PrM)(pid pa:Int):Int×PrM:=if pid < 0 then(2,m)else if(m pid).isSome then(5,m)else if pa≠ -1∧aliveF m pa=false then(4,m)else(0,prPut m pid(some⟨pa,0,false⟩))
def leaveP(m:PrM)(c:Int):PrM:=match m c with
 | some x=> if x.de=true then prPut m c none else prPut m c(some {x with pa:= -1})
 | none=> m
def IsKids(m:PrM)(pid:Int)(ys:List Int):Prop:=ys.Pairwise(· < ·)∧∀c,c∈ys↔∃x,m c=some x∧x.pa=pid
theorem sorted_ext:∀ {a b:List Int},a.Pairwise(· < ·)→b.Pairwise(· < ·)→(∀c,c∈a↔c∈b)→a=b
 | [],[],_,_,_=> rfl
 | [],y::b,_,_,h=> absurd((h y).2(List.mem_cons_self ..))(by simp)
 | x::a,[],_,_,h=> absurd((h x).1(List.mem_cons_self ..))(by simp)
 | x::a,y::b,h1,h2,h=> by
  obtain⟨p1,q1⟩:=List.pairwise_cons.1 h1
  obtain⟨p2,q2⟩:=List.pairwise_cons.1 h2
  have e:x=y:=by
   have hx:=(h x).1(List.mem_cons_self ..)
   have hy:=(h y).2(List.mem_cons_self ..)
   rcases List.mem_cons.1 hx with e | e
   ·exact e
   ·rcases List.mem_cons.1 hy with e2 | e2
    ·exact e2.symm
    ·have:=p2 x e;have:=p1 y e2;omega
  subst e
  congr 1
  refine sorted_ext q1 q2(fun c=> ?_)
  have hc:=h c
  simp only [List.mem_cons]at hc
  constructor
  ·intro hm
   rcases hc.1(.inr hm)with e | e
   ·have:=p1 c hm;omega
   ·exact e
  ·intro hm
   rcases hc.2(.inr hm)with e | e
   ·have:=p2 c hm;omega
   ·exact e
open Classical in
noncomputable def kidsOf(m:PrM)(pid:Int):List Int:=if h:∃ys,IsKids m pid ys then h.choose else []
theorem IsKids.eq {m:PrM} {pid:Int} {ys:List Int}(h:IsKids m pid ys):kidsOf m pid=ys:=by
 have hex:∃ys,IsKids m pid ys:=⟨ys,h⟩
 unfold kidsOf
 rw [dif_pos hex]
 exact sorted_ext hex.choose_spec.1 h.1(fun c=> (hex.choose_spec.2 c).trans(h.2 c).symm)
section
variable {w w' :World} {qb qm n s n' s' :Nat} {m m' :PrM}
theorem PrC.upd {F:Nat→Prop}(h:PrC w qb qm n s m)(hu:Upd F w w')(h1:¬F qb)(h2:¬F qm):PrC w' qb qm n s m:=by
 obtain⟨n',s',hm,hn⟩:=h.mm
 exact⟨Blk.upd hu h.q h1,⟨n',s',hm.upd hu h2,hn⟩,h.p⟩
theorem PrC.below(h:PrC w qb qm n s m)(hB:Below w.heap.size w w'):PrC w' qb qm n s m:=h.upd(Upd.of_below(F:=fun _=> False)hB)(fun h=> h)(fun h=> h)
theorem PrC.le(h:PrC w qb qm n s m)(hn:n≤n')(hs:s≤s'):PrC w qb qm n' s' m:=by
 obtain⟨a,b,hm,h1,h2⟩:=h.mm
 exact⟨h.q,⟨a,b,hm,by omega,by omega⟩,h.p⟩
theorem PrC.lt(h:PrC w qb qm n s m):qb < w.heap.size∧qm < w.heap.size:=by
 obtain⟨n',s',hm,hn⟩:=h.mm
 exact⟨h.q.lt,hm.lt⟩
theorem PrC.ne(h:PrC w qb qm n s m):qb≠qm:=by
 obtain⟨n',s',hm,_⟩:=h.mm
 exact hm.blk h.q
theorem PrC.b(h:PrC w qb qm n s m):PrB w qb qm n m:=by
 obtain⟨n',s',hm,hn,_⟩:=h.mm
 exact⟨h.q,n',s',hm,hn⟩
theorem prV_put(m:PrM)(c:Int)(x:Pr):(fun i=> (prPut m c(some x)i).map prV)=mput(fun i=> (m i).map prV)c(prV x):=by
 funext j
 unfold prPut mput
 by_cases hj:j=c
 ·rw [if_pos hj,if_pos hj];rfl
 ·rw [if_neg hj,if_neg hj]
theorem prV_del(m:PrM)(c:Int):(fun i=> (prPut m c none i).map prV)=mdel(fun i=> (m i).map prV)c:=by
 funext j
 unfold prPut mdel
 by_cases hj:j=c
 ·rw [if_pos hj,if_pos hj];rfl
 ·rw [if_neg hj,if_neg hj]
theorem prPut_wf {m:PrM} {c:Int} {x:Option Pr}(h:∀i x,m i=some x→(Lit.int .i64 i).wf=true)(hc:(Lit.int .i64 c).wf=true):∀i y,prPut m c x i=some y→(Lit.int .i64 i).wf=true:=by
 intro i y hy
 unfold prPut at hy
 split at hy
 ·rename_i e;rw [e];exact hc
 ·exact h i y hy
theorem PrC.put(hq:Blk w' qb #[.map(some qm)]129)(h:PrC w qb qm n s m) {c:Int}(hc:(Lit.int .i64 c).wf=true)(x:Pr)(h1:n' ≤n)(h2:s' ≤s)(hm:MapI w' Tryz.prog 3 qm(n' +1)(if((m c).map prV).isSome then s' else s' +1)(mput(fun i=> (m i).map prV)c(prV x))):PrC w' qb qm(n+1)(if(m c).isSome then s else s+1)(prPut m c(some x)):=by
 refine⟨hq,⟨n' +1,_,by rw [prV_put];exact hm,by omega,?_⟩,prPut_wf h.p hc⟩
 cases m c <;> simp <;> omega
theorem PrC.del(hq:Blk w' qb #[.map(some qm)]129)(h:PrC w qb qm n s m) {c:Int}(hc:(Lit.int .i64 c).wf=true)(h1:n' ≤n)(h2:s' ≤s)(hm:MapI w' Tryz.prog 3 qm n' (if((m c).map prV).isSome then s' - 1 else s')(mdel(fun i=> (m i).map prV)c)):PrC w' qb qm n s(prPut m c none):=by
 refine⟨hq,⟨n',_,by rw [prV_del];exact hm,by omega,?_⟩,prPut_wf h.p hc⟩
 cases m c <;> simp <;> omega
set_option maxRecDepth 100000 in
set_option maxHeartbeats 1000000 in
theorem pstart_c(h:PrC w qb qm n s m)(hn:n≤100000000)(pid pa:Int)(hw:(Lit.int .i64 pid).wf=true)(hwa:(Lit.int .i64 pa).wf=true)(r:Int)(m' :PrM)(hr:startP m pid pa=(r,m')):
  Calls Tryz.prog 38 #[.pointer(some⟨qb,0,none⟩),.int .i64 pid,.int .i64 pa]w fun e w' => e= .returned(.int .i64 r)∧PrC w' qb qm(n+1)(s+1)m' ∧Upd(fun k=> k=qm)w w' :=by
 have hl:=h.b.look pid hw
 have c0:=h.q.rd 0
 have hquiet:∀w1,Below w.heap.size w w1→PrC w1 qb qm(n+1)(s+1)m∧Upd(fun k=> k=qm)w w1:=fun w1 hB=> ⟨(h.below hB).le(by omega)(by omega),Upd.of_below hB⟩
 have hal:∀a b c,Below w.heap.size w(w.alloc(.cells #[.int .i64 a,.int .i64 b,.bool c]125)):=fun a b c=> (Below.refl _ _).alloc(Nat.le_refl _)_
 unfold startP at hr
 by_cases h0:pid < 0
 ·rw [if_pos h0]at hr;cases hr
  have d1:decide(pid < 0)=true:=decide_eq_true h0
  have HQ:=Lib.hid(And.intro hquiet hal)
  cases hp:m pid with
  | none=>
   rw [hp]at hl
   simp only [Option.map_none,Option.getD_none,Option.isSome_none]at hl
   clear h hquiet hal h0 hp hw
   go_enter Tryz.func38,Tryz.ntmps38
   go_wp2_with(fail)
   go_ret
   exact⟨rfl,HQ.out.1 _(HQ.out.2 _ _ _)⟩
  | some x=>
   obtain⟨p1,p2,p3⟩:=x
   rw [hp]at hl
   simp only [Option.map_some,Option.getD_some,Option.isSome_some,prV]at hl
   clear h hquiet hal h0 hp hw
   go_enter Tryz.func38,Tryz.ntmps38
   go_wp2_with(fail)
   go_ret
   exact⟨rfl,HQ.out.1 _(HQ.out.2 _ _ _)⟩
 ·rw [if_neg h0]at hr
  have d1:decide(pid < 0)=false:=decide_eq_false h0
  cases hp:m pid with
  | some x=>
   rw [hp]at hl hr
   cases hr
   obtain⟨p1,p2,p3⟩:=x
   simp only [Option.map_some,Option.getD_some,Option.isSome_some,prV]at hl
   have HQ:=Lib.hid(And.intro hquiet hal)
   clear h hquiet hal h0 hp hw
   go_enter Tryz.func38,Tryz.ntmps38
   go_wp2_with(fail)
   go_ret
   exact⟨rfl,HQ.out.1 _(HQ.out.2 _ _ _)⟩
  | none=>
   rw [hp]at hl hr
   simp only [Option.map_none,Option.getD_none,Option.isSome_none,Bool.false_eq_true,if_false]at hl hr
   have hal0:=hal 0 0 false
   obtain⟨n',s',hm,hn',hs'⟩:=h.mm
   have hm1:MapI(w.alloc(.cells #[.int .i64 0,.int .i64 0,.bool false]125))Tryz.prog 3 qm n' s' (fun i=> (m i).map prV):=hm.upd(Upd.of_below(F:=fun _=> False)hal0)(fun h=> h)
   have hq1:=Blk.below hal0 h.q h.q.lt
   have c1:=hq1.rd 0
   have key:∀w1 w2,Below w.heap.size w w1→MapI w2 Tryz.prog 3 qm(n' +1)(if((m pid).map prV).isSome then s' else s' +1)(mput(fun i=> (m i).map prV)pid(prV⟨pa,0,false⟩))→Upd(fun k=> k=qm)w1 w2→PrC w2 qb qm(n+1)(s+1)(prPut m pid(some⟨pa,0,false⟩))∧Upd(fun k=> k=qm)w w2:=by
    intro w1 w2 hB hm2 hu2
    refine⟨(PrC.put(Blk.upd hu2(Blk.below hB h.q h.q.lt)h.ne)h hw⟨pa,0,false⟩hn' hs' hm2).le(by omega)(by split <;> omega),(Upd.of_below hB).trans hu2(fun _ _ h=> h)⟩
   by_cases hpa:pa= -1
   ·subst hpa
    rw [if_neg(by simp)]at hr;cases hr
    have HK:=Lib.hid(And.intro key(And.intro hm1(And.intro hal0(And.intro hw hn'))))
    clear h hquiet hal h0 hp hw key hm1 hal0 hm hq1 hn' hs'
    go_enter Tryz.func38,Tryz.ntmps38
    go_wp2_with(refine wp_mapput _ rfl(.tmp 37)(.tmp 38)(.tmp 40)127 rfl 3 125 Tryz.underlying3 Tryz.underlying127 qm n' s' _ rfl HK.out.2.1(by have:=HK.out.2.2.2.2;unfold maxLen;omega)pid HK.out.2.2.2.1 _ rfl rfl ?_;intro w2 hm2 hu2;have H2:=Lib.hid(HK.out.1 _ w2 HK.out.2.2.1 hm2 hu2);clear hm2 hu2)
    go_ret
    exact⟨rfl,H2.out⟩
   ·have e1:(pa== -1)=false:=by simpa using hpa
    have e2:(pa != -1)=true:=by simpa using hpa
    have ha:=fun w1(hB:Below w.heap.size w w1)=> alive_is(h.below hB).b pa hwa
    cases hav:aliveF m pa with
    | true=>
     rw [if_neg(by simp [hav])]at hr;cases hr
     have ha' :=fun w1 hB=> ha w1 hB true hav
     have hcell:=fun w1(hB:Below w.heap.size w w1)=> (Blk.below hB h.q h.q.lt).rd 0
     have hmap:∀w1,Below w.heap.size w w1→MapI w1 Tryz.prog 3 qm n' s' (fun i=> (m i).map prV):=fun w1 hB=> hm.upd(Upd.of_below(F:=fun _=> False)hB)(fun h=> h)
     have HK:=Lib.hid(And.intro key(And.intro hmap(And.intro hal0(And.intro hw(And.intro hn' (And.intro ha' hcell))))))
     clear h hquiet hal h0 hp hw key hm1 hal0 hm hq1 hn' hs' ha ha' hcell hmap hpa hav
     go_enter Tryz.func38,Tryz.ntmps38
     go_wp2_with(first
      | (go_at_call 22;refine(HK.out.2.2.2.2.2.1 _ HK.out.2.2.1).mono ?_;rintro e w1⟨rfl,hB⟩;have hB1:=HK.out.2.2.1.trans(hB.mono HK.out.2.2.1.size);have c2:=HK.out.2.2.2.2.2.2 _ hB1;have H1:=Lib.hid hB1;clear hB hB1 c1)
      | (refine wp_mapput _ rfl(.tmp 37)(.tmp 38)(.tmp 40)127 rfl 3 125 Tryz.underlying3 Tryz.underlying127 qm n' s' _ rfl(HK.out.2.1 _ H1.out)(by have:=HK.out.2.2.2.2.1;unfold maxLen;omega)pid HK.out.2.2.2.1 _ rfl rfl ?_;intro w2 hm2 hu2;have H2:=Lib.hid(HK.out.1 _ w2 H1.out hm2 hu2);clear hm2 hu2))
     go_ret
     exact⟨rfl,H2.out⟩
    | false=>
     rw [if_pos⟨hpa,hav⟩]at hr;cases hr
     have ha' :=fun w1 hB=> ha w1 hB false hav
     have HK:=Lib.hid(And.intro hquiet(And.intro hal0 ha'))
     clear h hquiet hal h0 hp hw key hm1 hal0 hm hq1 hn' hs' ha ha' hpa hav
     go_enter Tryz.func38,Tryz.ntmps38
     go_wp2_with(go_at_call 22;refine(HK.out.2.2 _ HK.out.2.1).mono ?_;rintro e w1⟨rfl,hB⟩;have H1:=Lib.hid(HK.out.2.1.trans(hB.mono HK.out.2.1.size));clear hB)
     go_ret
     exact⟨rfl,HK.out.1 _ H1.out⟩
end
end Go.Proofs.YtjpjafajploiaaaGreatDoor
namespace Go.Proofs.YtjpjafajploiaaaGreatDoor
open Go.RowKit Own RegJ Two Go.Shelf Go.Proofs
section
variable {w w' :World} {qb qm n s n' s' :Nat} {m m' :PrM}
set_option maxRecDepth 100000 in
set_option maxHeartbeats 1000000 in
theorem pleave_c(h:PrC w qb qm n s m)(hn:n≤100000000)(c:Int)(hw:(Lit.int .i64 c).wf=true)(x:Pr)(hx:m c=some x):
  Calls Tryz.prog 96 #[.pointer(some⟨qb,0,none⟩),.int .i64 c]w fun e w' => e= .returned(.tuple #[])∧PrC w' qb qm(n+1)s(leaveP m c)∧Upd(fun k=> k=qm)w w' :=by
 have hl:=(MapI.look h.mm.choose_spec.choose_spec.1 Tryz.underlying3 Tryz.underlying127(zero_pr w)c hw)
 rw [hx]at hl
 obtain⟨pa,co,de⟩:=x
 simp only [Option.map_some,prV]at hl
 have c0:=h.q.rd 0
 go_enter Tryz.func96,Tryz.ntmps96
 go_upto_region 2 with(fail)
 obtain⟨W9,hW9⟩:∃W9,(w.alloc(.cells #[.int .i64(-1),.int .i64 co,.bool de]125)).drew=W9:=⟨_,rfl⟩
 have h9:Below w.heap.size w W9:=by rw [←hW9];exact((Below.refl _ _).alloc(Nat.le_refl _)_).trans((dn _ 1).mono(by simp))
 have hb9:Blk W9 w.heap.size #[.int .i64(-1),.int .i64 co,.bool de]125:=by rw [←hW9];exact(Blk.new w _ _).drew
 have hp9:=h.below h9
 obtain⟨hlt1,hlt2⟩:=h.lt
 have hne:=h.ne
 obtain⟨RQ,hRQ⟩:∃RQ:World→Prop,RQ=fun w9=> PrC w9 qb qm(n+1)s(prPut m c(some⟨-1,co,de⟩))∧Upd(fun k=> k=qm)W9 w9∧Blk w9 w.heap.size #[.int .i64(-1),.int .i64 co,.bool de]125:=⟨_,rfl⟩
 obtain⟨n',s',hm9,hn',hs'⟩:=hp9.mm
 have key:∀w9,MapI w9 Tryz.prog 3 qm(n' +1)(if((m c).map prV).isSome then s' else s' +1)(mput(fun i=> (m i).map prV)c(prV⟨-1,co,de⟩))→Upd(fun k=> k=qm)W9 w9→RQ w9:=by
  intro w9 hm2 hu2
  rw [hRQ]
  refine⟨?_,hu2,Blk.upd hu2 hb9(by omega)⟩
  have:=PrC.put(Blk.upd hu2 hp9.q hne)hp9 hw⟨-1,co,de⟩hn' hs' hm2
  rwa [hx]at this
 have HM:=Lib.hid(And.intro key(And.intro hm9(And.intro hn' (And.intro hw(And.intro hp9.q(And.intro hb9 hn))))))
 have HF:=Lib.hid(And.intro hRQ(And.intro h9 hx))
 clear h hn hx hl c0 h9 hb9 hp9 hlt1 hlt2 hne hRQ hm9 hn' hs' key hw
 refine region_C 6 W9 RQ hW9(by kernel_rfl)(by kernel_rfl) ?_
 iterate 3
  apply wpJ_op rfl(by rfl)
  ·intro f w1 hf hJ Q1 hQ
   simp only [nrm]at hQ
   go_wp2_with(fail)
   exact hQ _ _ rfl(hJ.other rfl hf(by decide))
  simp only [nrm]
 apply wpJ_op rfl(by rfl)
 ·intro f w1 hf hJ Q1 hQ
  have hC:f 6=false:=path_no hJ.1 [3](by kernel_rfl)(by decide)hf.1
  rw [hJ.atC hC]
  have hF:=HM.out
  have c1:=hF.2.2.2.2.1.rd 0
  simp only [nrm]at hQ
  go_wp2_with(fail)
  exact hQ _ _ rfl(by have h9:=hJ.other rfl hf(by decide);rwa [hJ.atC hC]at h9)
 simp only [nrm]
 apply wpJ_op rfl(by rfl)
 ·intro f w1 hf hJ Q1 hQ
  simp only [nrm]at hQ
  go_wp2_with(fail)
  exact hQ _ _ rfl(hJ.other rfl hf(by decide))
 simp only [nrm]
 apply wpJ_op rfl(by rfl)
 ·intro f w1 hf hJ Q1 hQ
  have hC:f 6=false:=path_no hJ.1 [5](by kernel_rfl)(by decide)hf.1
  rw [hJ.atC hC]
  have hF:=HM.out
  have c2:=hF.2.2.2.2.2.1.rd
  simp only [nrm]at hQ
  go_wp2_with(fail)
  exact hQ _ _ rfl(by have h9:=hJ.other rfl hf(by decide);rwa [hJ.atC hC]at h9)
 simp only [nrm]
 apply wpJ_op(v:=undef)rfl(by rfl)
 ·intro f w1 hf hJ Q1 hQ
  rw [hJ.atC hf.1]
  simp only [nrm]at hQ
  go_wp2_with(refine wp_mapput _ rfl(.tmp 15)(.tmp 16)(.tmp 17)127 rfl 3 125 Tryz.underlying3 Tryz.underlying127 qm n' s' _ rfl HM.out.2.1(by have:=HM.out.2.2.1;have:=HM.out.2.2.2.2.2.2;unfold maxLen;omega)c HM.out.2.2.2.1 _ rfl rfl ?_;intro w2 hm2 hu2;have hq:=HM.out.1 w2 hm2 hu2;clear hm2 hu2)
  exact hQ _ _ rfl(hJ.goC rfl hf hq)
 simp only [nrm]
 refine wpJ_nil ?_
 intro w9 hJ9
 have hq9:=hJ9.fin rfl
 clear hJ9
 obtain⟨hRQ,h9,hx⟩:=HF.out
 rw [hRQ]at hq9
 obtain⟨hP,hU,hB⟩:=hq9
 have hk:=hB.rd
 have c5:=hP.q.rd 0
 cases de with
 | false=>
  have HE:=Lib.hid(And.intro hP hU)
  clear hP hU hB
  go_wp2_with(fail)
  go_returns
  refine⟨rfl,?_,(Upd.of_below h9).trans HE.out.2(fun _ _ h=> h)⟩
  unfold leaveP
  rw [hx]
  exact HE.out.1
 | true=>
  obtain⟨n2,s2,hm2,hn2,hs2⟩:=hP.mm
  have HE:=Lib.hid(And.intro hP(And.intro hU(And.intro hm2(And.intro hn2 hs2))))
  clear hP hU hB hm2 hn2 hs2
  go_wp2_with(at_delete;refine wp_mapdel _ rfl(.tmp 23)(.tmp 24)127 3 rfl 125 Tryz.underlying3 Tryz.underlying127 qm n2 s2 _ rfl HE.out.2.2.1 c HM.out.2.2.2.1 rfl ?_;intro w5 hM5 hu5;have H5:=Lib.hid(And.intro hM5 hu5);clear hM5 hu5)
  go_returns
  obtain⟨hP,hU,hm2,hn2,hs2⟩:=HE.out
  obtain⟨hM5,hu5⟩:=H5.out
  have hd:=PrC.del(Blk.upd hu5 hP.q hP.ne)hP HM.out.2.2.2.1 hn2 hs2 hM5
  refine⟨rfl,?_,((Upd.of_below h9).trans hU(fun _ _ h=> h)).trans hu5(fun _ _ h=> h)⟩
  have e:leaveP m c=prPut(prPut m c(some⟨-1,co,true⟩))c none:=by
   unfold leaveP
   rw [hx]
   simp only [if_true]
   funext i
   unfold prPut
   split <;> rfl
  rw [e]
  exact hd
end
end Go.Proofs.YtjpjafajploiaaaGreatDoor
