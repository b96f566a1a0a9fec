/-
  The program's table of nodes, as it lies: which blocks it owns, what they hold; get, Len, the first free place.
-/
import Derived.Test.YtjpjafajploiaaaGreatDoorUnixAlone05
import Derived.Test.YtjpjafajploiaaaGreatDoorUnixAlone09
import Derived.Test.YtjpjafajploiaaaGreatDoorUnixAlone01
set_option linter.unusedSimpArgs false
set_option linter.unusedVariables false
namespace Go.Proofs.YtjpjafajploiaaaGreatDoor
open Go.RowKit Own RegJ Two
open Go.Lib hiding intOf
structure Nd where
 dir:Bool
 links:Int
 opens:Int
 es:List En
 bs:List Int
inductive Rl where
 | tab
 | node(i:Nat)
 | ents(i:Nat)
 | st(r:SRl)
abbrev Lo:=Rl→Option Nat
def ptr(o:Option Nat):Value:=match o with | some k=> .pointer(some⟨k,0,none⟩) | none=> .pointer none
def tabCells(lo:Lo):Array Value:=(ptr(lo(.st .sto))::(List.range 16).map fun i=> ptr(lo(.node i))).toArray
def soOf(lo:Lo):SRl→Option Nat:=fun r=> lo(.st r)
def filesOf(ns:Nat→Option Nd):Sfs:=fun i=> match ns i with
 | some nd=> if nd.dir=true then none else some nd.bs
 | none=> none
structure TB [Inhabited CapT](w:World)(tb:Nat)(ns:Nat→Option Nd)(lo:Lo)(N:Nat):Prop where
 inj:∀r r' k,lo r=some k→lo r' =some k→r=r'
 lt:∀r k,lo r=some k→k < w.heap.size
 at' :lo .tab=some tb
 sto:St w(soOf lo)(filesOf ns)capN N
 tab:Blk w tb(tabCells lo)223
 none' :∀i,ns i=none→lo(.node i)=none
 far:∀i,16≤i→ns i=none
 node:∀i nd,ns i=some nd→∃k v,lo(.node i)=some k∧Blk w k #[.bool nd.dir,.int .i64 nd.links,.int .i64 nd.opens,v]220∧Row2 w 188 v(nd.es.map enV)(lo(.ents i))∧nd.es.length≤8∧Srt nd.es
theorem tab_at(lo:Lo)(i:Nat)(hi:i < 16):(tabCells lo)[i+1]? =some(ptr(lo(.node i))):=by
 unfold tabCells
 simp [hi]
section
variable {w:World} {tb:Nat} {ns:Nat→Option Nd} {lo:Lo} {N:Nat}
theorem TB.cell [Inhabited CapT](h:TB w tb ns lo N)(i:Nat)(hi:i < 16):w.cell? ⟨tb,1+i,none⟩=some(ptr(lo(.node i))):=by
 rw [h.tab.rd,Nat.add_comm];exact tab_at lo i hi
set_option maxRecDepth 100000 in
theorem get_out(tb:Nat)(id:Int)(hid:id < 0∨16≤id)(w:World):
  Calls Tryz.prog 72 #[.pointer(some⟨tb,0,none⟩),.int .i64 id]w fun e w' => e= .returned(.pointer none)∧w=w' :=by
 by_cases h0:id < 0
 ·have d1:decide(id < 0)=true:=by simpa using h0
  clear hid h0
  go_enter Tryz.func72,Tryz.ntmps72
  go_wp2
  go_ret
  exact⟨rfl,rfl⟩
 ·have d1:decide(id < 0)=false:=by simpa using h0
  have d2:decide(id≥16)=true:=by simp;omega
  clear hid h0
  go_enter Tryz.func72,Tryz.ntmps72
  go_wp2
  go_ret
  exact⟨rfl,rfl⟩
set_option maxRecDepth 100000 in
theorem get_in [Inhabited CapT](h:TB w tb ns lo N)(i:Nat)(hi:i < 16):
  Calls Tryz.prog 72 #[.pointer(some⟨tb,0,none⟩),.int .i64 i]w fun e w' => e= .returned(ptr(lo(.node i)))∧w=w' :=by
 have c1:=h.cell i hi
 have d1:decide((i:Int) < 0)=false:=by simp
 have d2:decide((i:Int)≥16)=false:=by simp;omega
 have i1:(i:Int) < 16:=by omega
 have i2:(0:Int)≤i:=by omega
 generalize ptr(lo(.node i))=p at*
 clear h hi
 go_enter Tryz.func72,Tryz.ntmps72
 go_wp2
 go_ret
 exact⟨rfl,rfl⟩
theorem TB.is [Inhabited CapT](h:TB w tb ns lo N) {i:Nat} {nd:Nd}(hi:ns i=some nd):i < 16∧∃k,lo(.node i)=some k:=by
 refine⟨?_,?_⟩
 ·rcases Nat.lt_or_ge i 16 with h1 | h1
  ·exact h1
  ·rw [h.far i h1]at hi;cases hi
 ·obtain⟨k,v,h1,_⟩:=h.node i nd hi
  exact⟨k,h1⟩
def ndAt(ns:Nat→Option Nd)(id:Int):Option Nd:=if 0≤id then ns id.toNat else none
theorem get_is [Inhabited CapT](h:TB w tb ns lo N)(id:Int)(p:Option Nat)(hp:match ndAt ns id with | some _=> lo(.node id.toNat)=p | none=> p=none):
  Calls Tryz.prog 72 #[.pointer(some⟨tb,0,none⟩),.int .i64 id]w fun e w' => e= .returned(ptr p)∧w=w' :=by
 by_cases h0:0≤id∧id < 16
 ·obtain⟨i,rfl⟩:∃i:Nat,id=i:=⟨id.toNat,by omega⟩
  have:=get_in h i(by omega)
  unfold ndAt at hp
  rw [if_pos h0.1]at hp
  simp only [Int.toNat_natCast]at hp
  cases hn:ns i with
  | none=> rw [hn]at hp;rw [h.none' i hn]at this;rw [hp];exact this
  | some nd=> rw [hn]at hp;rw [←hp];exact this
 ·have hx:ndAt ns id=none:=by
   unfold ndAt
   split
   ·rename_i h1;exact h.far _(by omega)
   ·rfl
  rw [hx]at hp
  rw [hp]
  exact get_out tb id(by omega)w
def lenN(ns:Nat→Option Nd):Nat→Nat
 | 0=> 0
 | i+1=> lenN ns i+(if(ns i).isSome then 1 else 0)
theorem lenN_le(ns:Nat→Option Nd):∀i,lenN ns i≤i
 | 0=> Nat.le_refl _
 | i+1=> by have:=lenN_le ns i;unfold lenN;split <;> omega
set_option maxRecDepth 100000 in
theorem len_is [Inhabited CapT](h:TB w tb ns lo N):Calls Tryz.prog 31 #[.pointer(some⟨tb,0,none⟩)]w fun e w' => e= .returned(.int .i64(lenN ns 16))∧w=w' :=by
 have H:=Lib.hid h
 clear h
 go_enter Tryz.func31,Tryz.ntmps31
 go_wp2
 go_loopw [3,5](fun v3 v5 wr=> ∃i:Nat,i≤16∧v5= .int .i64 i∧v3= .int .i64(lenN ns i)∧wr=w)(fun _ v5 _=> 16 - (intOf v5).toNat)
 case atStart=> exact⟨0,by omega,rfl,rfl,rfl⟩
 case round=>
  obtain⟨i,hi,rfl,rfl,rfl⟩:=hrel
  by_cases hil:i < 16
  ·have d1:decide((i:Int) < 16)=true:=by simp;omega
   have d1n:decide(i < 16)=true:=by simp;omega
   have hg:=get_in H.out i hil
   have hle:=lenN_le ns i
   have e1:lenN ns(i+1)=lenN ns i+(if(ns i).isSome then 1 else 0):=rfl
   generalize lenN ns i=c at*
   cases hn:ns i with
   | none=>
    rw [H.out.none' i hn]at hg
    rw [hn]at e1
    have HE:=Lib.hid e1
    clear e1 hn
    unfold ptr at hg
    go_wp2_with(go_at_call 72;refine hg.mono ?_;rintro e w' ⟨rfl,rfl⟩)
    go_roundw
    case rel=> exact⟨i+1,by omega,by go_num,by rw [HE.out];rfl,by trivial⟩
    case measure=> simp [intOf];omega
   | some nd=>
    obtain⟨k,hk⟩:=(H.out.is hn).2
    rw [hk]at hg
    rw [hn]at e1
    have HE:=Lib.hid e1
    clear e1 hn hk
    unfold ptr at hg
    go_wp2_with(go_at_call 72;refine hg.mono ?_;rintro e w' ⟨rfl,rfl⟩)
    go_roundw
    case rel=> exact⟨i+1,by omega,by go_num,by rw [HE.out];simp,by trivial⟩
    case measure=> simp [intOf];omega
  ·have hie:i=16:=by omega
   subst hie
   go_wp2_with(fail)
   go_ret
   exact⟨rfl,rfl⟩
def freeI(ns:Nat→Option Nd)(r:Int):Prop:=(r= -1∧∀j,j < 16→ns j≠none)∨∃i:Nat,r=i∧i < 16∧ns i=none∧∀j,j < i→ns j≠none
theorem nil_eq(k:Nat)(w:World):(binOp .eql 145(.pointer none)(.pointer(some⟨k,0,none⟩))).run Tryz.prog w= .ok(.bool false)w:=by kernel_rfl
set_option maxRecDepth 100000 in
theorem index_is [Inhabited CapT](h:TB w tb ns lo N):Calls Tryz.prog 223 #[.slice(some⟨tb,1,none⟩)16 16,.pointer none]w fun e w' => (∃r,e= .returned(.int .i64 r)∧freeI ns r)∧Below w.heap.size w w' :=by
 have H:=Lib.hid h
 clear h
 go_enter Tryz.func223,Tryz.ntmps223
 go_wp2
 go_loopw [8](fun v8 wr=> ∃i:Nat,i≤16∧v8= .int .i64 i∧Hid(∀j,j < i→ns j≠none)∧wr=w)(fun v8 _=> 16 - (intOf v8).toNat)
 case atStart=> exact⟨0,by omega,rfl,Lib.hid(fun j hj=> by omega),rfl⟩
 case round=>
  obtain⟨i,hi,rfl,HA,rfl⟩:=hrel
  by_cases hil:i < 16
  ·have d1:decide((i:Int) < 16)=true:=by simp;omega
   have d1n:decide(i < 16)=true:=by simp;omega
   have i1:(i:Int) < 16:=by omega
   have i2:(0:Int)≤i:=by omega
   have c1:=H.out.cell i hil
   cases hn:ns i with
   | none=>
    rw [H.out.none' i hn]at c1
    have HE:=Lib.hid hn
    clear hn
    unfold ptr at c1
    go_wp2_with(fail)
    go_ret
    exact⟨⟨_,rfl,Or.inr⟨i,rfl,hil,HE.out,HA.out⟩⟩,Below.refl _ _⟩
   | some nd=>
    obtain⟨k,hk⟩:=(H.out.is hn).2
    rw [hk]at c1
    have HE:=Lib.hid hn
    clear hn hk
    unfold ptr at c1
    have hcm:=nil_eq k
    go_wp2_with(fail)
    go_roundw
    case rel=> exact⟨i+1,by omega,by go_num,Lib.hid(fun j hj=> by
     by_cases hji:j < i
     ·exact HA.out j hji
     ·have:j=i:=by omega
      subst this;rw [HE.out];simp),by trivial⟩
    case measure=> simp [intOf];omega
  ·have hie:i=16:=by omega
   subst hie
   go_wp2_with(fail)
   go_ret
   exact⟨⟨_,rfl,Or.inl⟨rfl,HA.out⟩⟩,Below.refl _ _⟩
end
end Go.Proofs.YtjpjafajploiaaaGreatDoor
namespace Go.Proofs.YtjpjafajploiaaaGreatDoor.RegF
open Go.Proofs.YtjpjafajploiaaaGreatDoor.RegJ hiding Up
section
variable {P:Program} {ops:Array Oper} {md:Region.Mode} {J:(Nat→Bool)→Act→World→Prop}
def Closed(md:Region.Mode)(ops:Array Oper)(f:Nat→Bool):Prop:=∀k o,ops[k]? =some o→f k=true→∀e∈o.after,Region.binds md e=true→f e.on=true
def Up(md:Region.Mode)(ops:Array Oper)(i:Nat)(o:Oper)(f:Nat→Bool):Prop:=RegJ.Up md i o f∧Closed md ops f
theorem Closed.fset {f:Nat→Bool} {i:Nat} {o:Oper}(ho:ops[i]? =some o)(h:Up md ops i o f):Closed md ops(fset f i):=by
 intro k o' hk hf e he hb
 unfold RegJ.fset at*
 by_cases hki:k=i
 ·subst hki
  obtain rfl:o' =o:=Option.some.inj(hk.symm.trans ho)
  simp [h.1.2 e he hb]
 ·have hf' :f k=true:=by simpa [hki]using hf
  simp [h.2 k o' hk hf' e he hb]
def upE(P:Program)(R:Value→World→Prop):Result Next→Prop
 | .ok(.value u)w' => R u w'
 | .ok .skip w' => R undef w'
 | .ok(.enter f args)w' => Calls P f args w' (fun e w'' => ∃u,e= .returned u∧R u w'')
 | .ok(.row r args)w' => Rows P r args w' R
 | _=> False
theorem upE_mono {R R' :Value→World→Prop} {r:Result Next}(h:∀u w,R u w→R' u w)(hh:upE P R r):upE P R' r:=by
 cases r with
 | ok x w' =>
  cases x <;> simp only [upE]at hh ⊢
  case value u=> exact h _ _ hh
  case skip=> exact h _ _ hh
  case enter f args=> exact hh.mono fun e w'' ⟨u,he,hr⟩=> ⟨u,he,h _ _ hr⟩
  case row r args=> exact hh.mono fun u w'' hr=> h _ _ hr
 | halt x w' => simp only [upE]at hh
def Agree(ops:Array Oper)(o:Oper)(a a' :Act):Prop:=a'.tmps.size=a.tmps.size∧∀d∈o.looksAt ops,a'.tmps[d]? =a.tmps[d]?
theorem Agree.refl(o:Oper)(a:Act):Agree ops o a a:=⟨rfl,fun _ _=> rfl⟩
theorem Agree.exec {o:Oper} {a a' :Act}(hs:∀cs b,o.op≠ .select cs b)(h:Agree ops o a a'):execOp a'.eval o=execOp a.eval o:=
 execOp_congr o hs fun x hx=> by
  cases x with
  | tmp d=>
   have hd:d∈o.looksAt ops:=List.mem_append_left _(List.mem_filterMap.2⟨.tmp d,by simpa using hx,rfl⟩)
   simp only [Act.eval,Array.getD_eq_getD_getElem?,h.2 d hd]
  | _=> rfl
theorem Agree.wanted {o:Oper} {a a' :Act}(h:Agree ops o a a'):Region.wanted o(yielded ops a'.tmps)=Region.wanted o(yielded ops a.tmps):=by
 unfold Region.wanted
 cases hg:o.guard with
 | none=> rfl
 | some gw=>
  obtain⟨g,want⟩:=gw
  have hy:yielded ops a'.tmps g=yielded ops a.tmps g:=by
   unfold yielded
   cases ht:(ops[g]?).bind(·.dst)with
   | none=> rfl
   | some t=>
    have h2:=h.2 t(by simp [Oper.looksAt,hg,ht])
    show(match a'.tmps[t]? with | some(.bool b)=> some b | _=> none)=match a.tmps[t]? with | some(.bool b)=> some b | _=> none
    rw [h2]
  simp only [hy]
theorem put_size(a:Act)(d:Option Tmp)(v:Value):(a.put d v).tmps.size=a.tmps.size:=by
 cases d <;> simp [Act.put]
theorem Agree.put {o:Oper} {a a' :Act} {d:Option Tmp} {v:Value}(hd:∀t,d=some t→t∉o.looksAt ops)(h:Agree ops o a a'):Agree ops o(a.put d v)a' :=by
 refine⟨by rw [put_size];exact h.1,fun t ht=> ?_⟩
 rw [h.2 t ht]
 cases d with
 | none=> rfl
 | some d=>
  have hne:d≠t:=fun e=> hd d rfl(e▸ht)
  simp [Act.put,Array.getElem?_setIfInBounds_ne hne]
theorem Agree.of_put {o:Oper} {a a' :Act} {d:Option Tmp} {v:Value}(hd:∀t,d=some t→t∉o.looksAt ops)(h:Agree ops o(a.put d v)a'):Agree ops o a a' :=by
 refine⟨by rw [←put_size a d v];exact h.1,fun t ht=> ?_⟩
 rw [h.2 t ht]
 cases d with
 | none=> rfl
 | some d=>
  have hne:d≠t:=fun e=> hd d rfl(e▸ht)
  simp [Act.put,Array.getElem?_setIfInBounds_ne hne]
def YieldsE(P:Program)(md:Region.Mode)(ops:Array Oper)(J:(Nat→Bool)→Act→World→Prop)(i:Nat)(o:Oper)(V:Value→Prop)(a:Act):Prop:=
 (Region.wanted o(yielded ops a.tmps)=true∧∀a' f w,Agree ops o a a' →Up md ops i o f→J f a' w→upE P(fun u w' => V u∧J(fset f i)(a'.put o.dst u)w')((execOp a.eval o).run P w))∨
 (Region.wanted o(yielded ops a.tmps)=false∧V undef∧∀a' f w,Agree ops o a a' →Up md ops i o f→J f a' w→J(fset f i)(a'.put o.dst undef)w)
theorem YieldsE.of_agree {i:Nat} {o:Oper} {V:Value→Prop} {a b:Act}(hs:∀cs c,o.op≠ .select cs c)(hy:YieldsE P md ops J i o V a)(h:Agree ops o a b):YieldsE P md ops J i o V b:=by
 have tr:∀a',Agree ops o b a' →Agree ops o a a' :=fun a' h' => ⟨h'.1.trans h.1,fun d hd=> (h'.2 d hd).trans(h.2 d hd)⟩
 rcases hy with⟨h1,h2⟩ | ⟨h1,h2,h3⟩
 ·refine .inl⟨h.wanted.trans h1,fun a' f w ha hf hj=> ?_⟩
  rw [h.exec hs]
  exact h2 a' f w(tr a' ha)hf hj
 ·exact .inr⟨h.wanted.trans h1,h2,fun a' f w ha hf hj=> h3 a' f w(tr a' ha)hf hj⟩
def jOp(P:Program)(md:Region.Mode)(ops:Array Oper)(J:(Nat→Bool)→Act→World→Prop)(Vs:Nat→Value→Prop)(i:Nat)(K:Act→Prop)(a:Act):Prop:=
 match ops[i]? with
 | none=> K a
 | some o=> YieldsE P md ops J i o(Vs i)a∧∀u,Vs i u→K(a.put o.dst u)
def wpAnyE(P:Program)(md:Region.Mode)(ops:Array Oper)(J:(Nat→Bool)→Act→World→Prop)(Vs:Nat→Value→Prop)(Q:Array Bool→Act→Prop):Nat→Array Bool→Act→Prop
 | 0,s,a=> Region.ready md ops s= []∧Q s a
 | fuel+1,s,a=> (Region.ready md ops s= []→Q s a)∧∀i∈Region.ready md ops s,jOp P md ops J Vs i(wpAnyE P md ops J Vs Q fuel(s.setIfInBounds i true))a
theorem wp_of_upE {o:Oper} {a:Act} {R:Value→World→Prop} {K' :Act→World→Prop} {Q' :Exit→Act→World→Prop} {w:World}
  (h:∀u w',R u w' →K' (a.put o.dst u)w')(hh:upE P R((execOp a.eval o).run P w)):o.wp P a w K' Q' :=by
 unfold Oper.wp
 generalize(execOp a.eval o).run P w=r at*
 cases r with
 | ok x w' =>
  cases x <;> simp only [upE]at hh <;> simp only [Oper.upon]
  case value u=> exact h _ _ hh
  case skip=> exact h _ _ hh
  case enter f args=> exact hh.mono fun e w'' ⟨u,he,hr⟩=> by subst he;exact h _ _ hr
  case row r args=> exact hh.mono fun u w'' hr=> h _ _ hr
 | halt x w' => simp only [upE]at hh
theorem wpAny_of_E {Vs:Nat→Value→Prop} {Q:Array Bool→Act→Prop} {Q' :Exit→Act→World→Prop}(hQ:∀s a w,J(flags s)a w→Q s a→Q' .normal a w):∀(fuel:Nat)(s:Array Bool)(a:Act)(w:World),Closed md ops(flags s)→J(flags s)a w→
  wpAnyE P md ops J Vs Q fuel s a→wpAny P md ops Q' fuel s a w
 | 0,_,_,_,_,hw,h=> ⟨h.1,hQ _ _ _ hw h.2⟩
 | fuel+1,s,a,w,hcl,hw,h=> by
  refine⟨fun h0=> hQ _ _ _ hw(h.1 h0),fun i hi=> ?_⟩
  have h2:=h.2 i hi
  obtain⟨h1,o,ho,hall⟩:=mem_ready.1 hi
  obtain⟨his,hup0⟩:=up_of_ready ho hi
  have hup:Up md ops i o(flags s):=⟨hup0,hcl⟩
  have hcl' :Closed md ops(flags(s.setIfInBounds i true)):=by rw [flags_set his];exact Closed.fset ho hup
  unfold jOp at h2
  unfold wpOp
  simp only [ho]at h2 ⊢
  obtain⟨hy,hK⟩:=h2
  rcases hy with⟨hwd,hs⟩ | ⟨hwd,hv,hs⟩
  ·simp only [hwd,if_true]
   refine .inl(wp_of_upE(R:=fun u w' => Vs i u∧J(fset(flags s)i)(a.put o.dst u)w')(fun u w' ⟨hu,hj⟩=> ?_)(hs a _ w(Agree.refl _ _)hup hw))
   exact wpAny_of_E hQ fuel _ _ _ hcl' (by rw [flags_set his];exact hj)(hK u hu)
  ·simp only [hwd,Bool.false_eq_true,if_false]
   exact wpAny_of_E hQ fuel _ _ _ hcl' (by rw [flags_set his];exact hs a _ w(Agree.refl _ _)hup hw)(hK undef hv)
theorem wpAnyE_first {Vs:Nat→Value→Prop} {Q:Array Bool→Act→Prop} {i:Nat} {oi:Oper}(hi:ops[i]? =some oi)(hsel:∀(j:Nat)(o:Oper)cs b,ops[j]? =some o→o.op≠ .select cs b)(hne:∃u,Vs i u):
  ∀(fuel:Nat)(s:Array Bool)(a:Act),
   (∀j oj,ops[j]? =some oj→j≠i→s.getD j true=false→(∀e∈oj.after,Region.binds md e=true→e.on≠i)→oi.apart ops oj=true)→
   i∈Region.ready md ops s→YieldsE P md ops J i oi(Vs i)a→
   (∀u,Vs i u→wpAnyE P md ops J Vs Q fuel(s.setIfInBounds i true)(a.put oi.dst u))→wpAnyE P md ops J Vs Q(fuel+1)s a:=by
 have here:∀ {K:Act→Prop} {a:Act},YieldsE P md ops J i oi(Vs i)a→(∀u,Vs i u→K(a.put oi.dst u))→jOp P md ops J Vs i K a:=fun {K a}hy h=> by
  unfold jOp;simp only [hi];exact⟨hy,h⟩
 obtain⟨u0,hu0⟩:=hne
 intro fuel
 induction fuel with
 | zero=>
  intro s a _ hr hy H
  refine⟨fun h=> (by rw [h]at hr;cases hr),fun j hj=> ?_⟩
  by_cases hji:j=i
  ·subst hji;exact here hy H
  ·have:=ready_mono hj hji
   rw [(H u0 hu0).1]at this
   cases this
 | succ fuel ih=>
  intro s a hfree hr hy H
  refine⟨fun h=> (by rw [h]at hr;cases hr),fun j hj=> ?_⟩
  by_cases hji:j=i
  ·subst hji;exact here hy H
  ·have h1:=fun u hu=> (H u hu).2 j(ready_mono hj hji)
   obtain⟨hjun,oj,hoj,hall⟩:=mem_ready.1 hj
   have hnot:∀e∈oj.after,Region.binds md e=true→e.on≠i:=fun e he hb heq=> by
    have h1:=hall e he hb
    have h0:=(up_of_ready hi hr).2.1
    unfold flags at h0
    rw [heq,h0]at h1
    cases h1
   have hap:=hfree j oj hoj hji hjun hnot
   have hsi:=fun cs b=> hsel i oi cs b hi
   have hsj:=fun cs b=> hsel j oj cs b hoj
   obtain⟨p1,p2,p3⟩:=Oper.apart_spec hap
   have hfree' :∀k ok,ops[k]? =some ok→k≠i→(s.setIfInBounds j true).getD k true=false→
     (∀e∈ok.after,Region.binds md e=true→e.on≠i)→oi.apart ops ok=true:=fun k ok hk hki hun hno=> by
    refine hfree k ok hk hki ?_ hno
    by_cases hjk:j=k
    ·subst hjk;exact hjun
    ·rw [getD_set_ne true hjk]at hun;exact hun
   unfold jOp at h1 ⊢
   simp only [hoj]at h1 ⊢
   refine⟨(h1 u0 hu0).1.of_agree hsj(Agree.put p1(Agree.refl _ _)),fun x hx=> ?_⟩
   refine ih(s.setIfInBounds j true)_ hfree' (ready_mono hr(Ne.symm hji))(hy.of_agree hsi(Agree.of_put p3(Agree.refl _ _)))(fun u hu=> ?_)
   have h2:=(h1 u hu).2 x hx
   rw [Array.setIfInBounds_comm _ _ hji,←Act.put_comm a u x p2]
   exact h2
def wpE(P:Program)(md:Region.Mode)(ops:Array Oper)(J:(Nat→Bool)→Act→World→Prop)(Q:Array Bool→Act→Prop):Nat→List(Value→Prop)→List Oper→Array Bool→Act→Prop
 | _,_,[],s,a=> Q s a
 | _,[],_::_,_,_=> False
 | k,V::Vl,o::rest,s,a=> (∃u,V u)∧YieldsE P md ops J k o V a∧∀u,V u→wpE P md ops J Q(k+1)Vl rest(s.setIfInBounds k true)(a.put o.dst u)
theorem wpAnyE_lex {Vs:Nat→Value→Prop} {Q:Array Bool→Act→Prop}(hs:Region.noSelect ops=true):∀(l:List Oper)(Vl:List(Value→Prop))(k:Nat)(s:Array Bool)(a:Act),(∀j,l[j]? =ops[k+j]?)→(∀j V,Vl[j]? =some V→Vs(k+j)=V)→
  Region.lexFrom md ops l.length k s=true→wpE P md ops J Q k Vl l s a→wpAnyE P md ops J Vs Q l.length s a
 | [],_,_,_,_,_,_,hB,h=> by
  cases ‹List(Value→Prop)› <;> exact⟨by simpa [Region.lexFrom]using hB,h⟩
 | o::l,[],_,_,_,_,_,_,h=> h.elim
 | o::l,V::Vl,k,s,a,hl,hV,hB,h=> by
  have h0:ops[k]? =some o:=by simpa using(hl 0).symm
  have hV0:Vs k=V:=by simpa using hV 0 V rfl
  simp only [List.length_cons,Region.lexFrom,Bool.and_eq_true]at hB
  obtain⟨⟨hr,hf⟩,hB'⟩:=hB
  have hl' :∀j,l[j]? =ops[k+1+j]? :=fun j=> by have:=hl(j+1);simpa [Nat.add_assoc,Nat.add_comm 1 j]using this
  have hV' :∀j V,Vl[j]? =some V→Vs(k+1+j)=V:=fun j V' hj=> by
   have:=hV(j+1)V' (by simpa using hj)
   rw [show k+1+j=k+(j+1)by omega];exact this
  obtain⟨hne,hy,hK⟩:=h
  exact wpAnyE_first h0(Region.noSelect_spec hs)(by rw [hV0];exact hne)l.length s a(Region.free_spec h0 hf)(by simpa using hr)(by rw [hV0];exact hy)
   (fun u hu=> wpAnyE_lex hs l Vl(k+1)_ _ hl' hV' hB' (hK u(by rw [hV0]at hu;exact hu)))
theorem upE_of_list {o:Oper} {a:Act} {w:World} {R:Value→World→Prop} {Q1:Exit→Act→World→Prop}(hw:Region.wanted o(yielded ops a.tmps)=true)
  (hQ:∀e b w',Q1 e b w' →e= .normal∧∃u,b=a.put o.dst u∧R u w')(hR:∀u u' w',a.put o.dst u=a.put o.dst u' →R u w' →R u' w')
  (h:wpList P ops Q1 [o]a w):upE P R((execOp a.eval o).run P w):=by
 have fin:∀u w',Q1 .normal(a.put o.dst u)w' →R u w' :=fun u w' h=> by
  obtain⟨_,u',he,hr⟩:=hQ _ _ _ h
  exact hR u' u w' he.symm hr
 unfold wpList at h
 rw [if_pos hw]at h
 rcases h with h | ⟨_,b,w',hb⟩
 ·unfold Oper.wp at h
  generalize(execOp a.eval o).run P w=r at*
  cases r with
  | ok x w' =>
   cases x <;> simp only [Oper.upon,wpList]at h <;> simp only [upE]
   case value u=> exact fin _ _ h
   case skip=> exact fin _ _ h
   case defer d=>
    obtain⟨_,u,he,_⟩:=hQ _ _ _ h
    have h2:=congrArg(fun b:Act=> b.defers.length)he
    cases hd:o.dst <;> simp [Act.put,hd]at h2
   case enter f args=>
    refine h.mono fun e w'' he=> ?_
    cases e with
    | returned u=> exact⟨u,rfl,fin _ _ he⟩
    | panicked c=> have:=(hQ _ _ _ he).1;cases this
    | outgrown=> obtain⟨b,w3,hb⟩:=he;have:=(hQ _ _ _ hb).1;cases this
   case row r args=> exact h.mono fun u w'' he=> fin _ _ he
  | halt x w' =>
   cases x <;> simp only [Oper.upon]at h
   case panic u=> have:=(hQ _ _ _ h).1;cases this
 ·have:=(hQ _ _ _ hb).1;cases this
def Is(n:Nat)(dst:Option Tmp)(v:Value):Value→Prop:=fun u=> PutEq n dst u v
theorem wpE_op {Q:Array Bool→Act→Prop} {k:Nat} {Vl:List(Value→Prop)} {o:Oper} {rest:List Oper} {s:Array Bool} {a:Act} {v:Value} {n:Nat} {d:Option Tmp}(hn:a.tmps.size=n)(hd:o.dst=d)
  (hw:Region.wanted o(yielded ops a.tmps)=true)
  (h:∀f a' w,Agree ops o a a' →Up md ops k o f→J f a' w→∀Q1:Exit→Act→World→Prop,(∀b w',b=a.put d v→J(fset f k)(a'.put d v)w' →Q1 .normal b w')→wpList P ops Q1 [o]a w)
  (hr:wpE P md ops J Q(k+1)Vl rest(s.setIfInBounds k true)(a.put d v)):wpE P md ops J Q k(Is n d v::Vl)(o::rest)s a:=by
 subst hd
 have hp:∀u,a.put o.dst u=a.put o.dst v→PutEq n o.dst u v:=fun u he=> putEq_of hn he
 refine⟨⟨v,fun _ _=> rfl⟩,.inl⟨hw,fun a' f w ha hf hj=> ?_⟩,fun u hu=> by rw [hu a hn];exact hr⟩
 refine upE_mono(R:=fun u w' => a.put o.dst u=a.put o.dst v∧J(fset f k)(a'.put o.dst v)w')(fun u w' ⟨he,hj'⟩=> ⟨hp u he,by rw [(hp u he)a' (ha.1.trans hn)];exact hj'⟩)
  (upE_of_list(Q1:=fun e b w' => e= .normal∧b=a.put o.dst v∧J(fset f k)(a'.put o.dst v)w')hw(fun e b w' ⟨h1,h2,h3⟩=> ⟨h1,v,h2,rfl,h3⟩)(fun u u' w' he⟨h1,h2⟩=> ⟨he▸h1,h2⟩)(h f a' w ha hf hj _ fun b w' hb hj' => ⟨rfl,hb,hj'⟩))
theorem wpE_any {Q:Array Bool→Act→Prop} {k d:Nat} {Vl:List(Value→Prop)} {o:Oper} {rest:List Oper} {s:Array Bool} {a:Act}(hd:o.dst=some d)(hdn:d < a.tmps.size) {V:Value→Prop}(hne:∃u,V u)
  (hw:Region.wanted o(yielded ops a.tmps)=true)
  (h:∀f a' w,Agree ops o a a' →Up md ops k o f→J f a' w→∀Q1:Exit→Act→World→Prop,(∀u b w',b=a.put(some d)u→V u→J(fset f k)(a'.put(some d)u)w' →Q1 .normal b w')→wpList P ops Q1 [o]a w)
  (hr:∀u,V u→wpE P md ops J Q(k+1)Vl rest(s.setIfInBounds k true)(a.put(some d)u)):wpE P md ops J Q k(V::Vl)(o::rest)s a:=by
 refine⟨hne,.inl⟨hw,fun a' f w ha hf hj=> ?_⟩,by rw [hd];exact hr⟩
 refine upE_of_list(Q1:=fun e b w' => e= .normal∧∃u,b=a.put(some d)u∧V u∧J(fset f k)(a'.put(some d)u)w')hw ?_ ?_(h f a' w ha hf hj _ fun u b w' hb hV hj' => ⟨rfl,u,hb,hV,hj'⟩)
 ·rintro e b w' ⟨h1,u,h2,h3,h4⟩
  rw [hd]
  exact⟨h1,u,h2,h3,h4⟩
 ·intro u u' w' he⟨h1,h2⟩
  have e:u=u' :=by
   rw [hd]at he
   simp only [Act.put,Act.mk.injEq,and_true]at he
   have h3:(a.tmps.setIfInBounds d u)[d]? =(a.tmps.setIfInBounds d u')[d]? :=by rw [he]
   simpa [hdn]using h3
  subst e
  exact⟨h1,h2⟩
theorem wpE_nil {Q:Array Bool→Act→Prop} {k:Nat} {Vl:List(Value→Prop)} {s:Array Bool} {a:Act}(h:Q s a):wpE P md ops J Q k Vl []s a:=by
 cases Vl <;> exact h
theorem region_E {id:Nat} {Q:Exit→Act→World→Prop} {a:Act} {w:World} {l:List Oper}(J:(Nat→Bool)→Act→World→Prop)(Vl:List(Value→Prop))(hm:P.follows .mixedOrders=true)(hB:Region.lexB .any l.toArray=true)
  (h0:J(fun _=> false)a w.drew)
  (h:wpE P .any l.toArray J(fun s a' => ∀w',J(flags s)a' w' →Q .normal a' w')0 Vl l(Array.replicate l.length false)a):(Code.region id l.toArray true).wp P Q a w:=by
 simp only [Region.lexB,Bool.and_eq_true]at hB
 refine wp_region_any hm(wpAny_of_E(J:=J)(Vs:=fun k=> Vl.getD k(fun _=> False))(Q:=fun s a' => ∀w',J(flags s)a' w' →Q .normal a' w')(fun _ _ w' hw' h=> h w' hw')_ _ _ _ ?_ ?_ ?_)
 ·intro k o _ hf
  have e:flags(Array.replicate l.toArray.size false)k=false:=by
   unfold flags;simp only [Array.getD_eq_getD_getElem?,Array.getElem?_replicate];split <;> rfl
  rw [e]at hf;cases hf
 ·have e:flags(Array.replicate l.toArray.size false)=fun _=> false:=by
   funext k;unfold flags;simp only [Array.getD_eq_getD_getElem?,Array.getElem?_replicate];split <;> rfl
  rw [e];exact h0
 ·have:=wpAnyE_lex(J:=J)(md:= .any)(P:=P)(Vs:=fun k=> Vl.getD k(fun _=> False))hB.1 l Vl 0(Array.replicate l.length false)a(by simp)(fun j V hj=> by simp [hj])(by simpa using hB.2)h
  simpa using this
end
theorem Closed.step {ops:Array Oper} {md:Region.Mode} {f:Nat→Bool}(h:Closed md ops f)(j i:Nat) {o:Oper}(ho:ops[j]? =some o)(he:(o.after.any fun e=> Region.binds md e && e.on==i)=true)(hf:f j=true):f i=true:=by
 obtain⟨e,hm,hb⟩:=Array.any_eq_true'.1 he
 simp only [Bool.and_eq_true,beq_iff_eq]at hb
 have:=h j o ho hf e hm hb.1
 rw [hb.2]at this
 exact this
def slot(a:Act)(d:Nat):Value:=a.tmps.getD d undef
theorem slot_put {a:Act} {d:Nat}(h:d < a.tmps.size)(u:Value):slot(a.put(some d)u)d=u:=by
 simp [slot,Act.put,h]
theorem slot_put_ne {a:Act} {d e:Nat}(h:d≠e)(u:Value):slot(a.put(some d)u)e=slot a e:=by
 simp [slot,Act.put,Array.getElem?_setIfInBounds_ne h]
def RowJ(c s d:Nat)(A:(Nat→Bool)→World→Prop)(PW:Value→World→Prop)(p:Addr)(f:Nat→Bool)(a:Act)(w:World):Prop:=
 (f c=false→f s=false→A f w)∧(f c=true→f s=false→PW(slot a d)w)∧(f s=true→∃w0,PW(slot a d)w0∧w=w0.setCell p(slot a d))
theorem RowJ.blk {c s d:Nat} {A:(Nat→Bool)→World→Prop} {PW:Value→World→Prop} {p:Addr} {f:Nat→Bool} {a:Act} {w:World}(h:RowJ c s d A PW p f a w) {b:Nat} {cs:Array Value} {T:TypeId}
  (hA:∀w,A f w→Blk w b cs T)(hP:∀v w,PW v w→Blk w b cs T)(hne:b≠p.block):Blk w b cs T:=by
 cases hc:f c with
 | false=>
  cases hs:f s with
  | false=> exact hA _(h.1 hc hs)
  | true=> obtain⟨w0,h1,h2⟩:=h.2.2 hs;rw [h2];exact(hP _ _ h1).set_ne hne _
 | true=>
  cases hs:f s with
  | false=> exact hP _ _(h.2.1 hc hs)
  | true=> obtain⟨w0,h1,h2⟩:=h.2.2 hs;rw [h2];exact(hP _ _ h1).set_ne hne _
end Go.Proofs.YtjpjafajploiaaaGreatDoor.RegF
