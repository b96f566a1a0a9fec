/-
  Processes: Children.
-/
import Derived.Test.YtjpjafajploiaaaGreatDoorUnixAlone35
set_option linter.unusedSimpArgs false
set_option linter.unusedVariables false
namespace Go.Proofs.YtjpjafajploiaaaGreatDoor
open Go.RowKit Own RegJ Two Go.Shelf Go.Proofs
abbrev keyPW(w:World)(b:Nat):World:=w.alloc(.cells #[.map(some b)]127)
abbrev keyPV(w:World):Value:= .func(.func 205) #[] #[.pointer(some⟨w.heap.size,0,none⟩)]
theorem keysP_is(b:Nat)(w:World):Calls Tryz.prog 155 #[.map(some b)]w fun e w' => e= .returned(keyPV w)∧w' =keyPW w b:=
 callsIn_wide.1(AnyZI.keys_in Tryz.keysP Fence.wide 5 trivial rfl(some b)w)
theorem sortedP_is {w:World} {b n s:Nat} {m:Int→Option Value}(h:MapI w Tryz.prog 3 b n s m)(hs:s≤100000):
  ∃ss:List Int,ss.Pairwise(· < ·)∧(∀x,(Lit.int .i64 x).wf=true→(x∈ss↔(m x).isSome=true))∧(∀x∈ss,(Lit.int .i64 x).wf=true)∧ss.length=s∧Calls Tryz.prog 154 #[keyPV w](keyPW w b)fun e w' => ∃v row,e= .returned v∧RowV w' 3 v(Own.icells ss)row∧(∀g,row=some g→w.heap.size≤g)∧Below w.heap.size w w' :=by
 obtain⟨D0,hown,hD,hm⟩:=h
 have hbl:=hown.lt
 have hseq:SeqGives Fence.wide 2 Tryz.prog 205 #[.pointer(some⟨w.heap.size,0,none⟩)]encZ(fun ss=> ss.Perm(intKeys D0))(Maps.size D0)(keyPW w b):=
  AnyZI.keys_gives(ρ:=Tryz.keysP_ren) {Tryz.keysP with}Fence.wide _ trivial rfl(by omega)w.heap.size b n D0 _(by simp)(by simp)(by
   obtain⟨es,clock,hb,Ft,hs,hD⟩:=hown
   exact⟨es,clock,(Below.heap_alloc _ _ b hbl).trans hb,Ft,hs,hD⟩)
 have cS:=AnyZI.sorted_in Tryz.sortedA Fence.wide 5 trivial trivial trivial trivial rfl(by omega)(sorts_in _)(enters_of Tryz.func204(by kernel_rfl)rfl)205 #[.pointer(some⟨w.heap.size,0,none⟩)]trivial(enters_of Tryz.func205(by kernel_rfl)rfl)_ _(by unfold maxLen;omega)(by omega)_ hseq
 change CallsIn _ _ Tryz.prog 154 _ _ _ at cS
 have hk:=Tryz.underlying3
 obtain⟨es,hDe,hpw,_⟩:=hown.entries(Maps.int_keyed hk)
 obtain⟨es',hDe',hko⟩:=hown.keysOf
 obtain rfl:es=es' :=by rw [hDe]at hDe';simpa using hDe'
 subst hDe
 have hint:∀p∈es,∃x,p.1= .int .i64 x:=fun p hp=> by obtain⟨v,hv⟩:=hko p hp;obtain⟨x,_,hx,_⟩:=Maps.keyOf_i64 hk hv;exact⟨x,hx⟩
 have hnd:(intKeys(.map es:DataW Value)).Nodup:=by
  show(es.map fun p=> Go.intOf p.1).Nodup
  refine List.pairwise_map.2(hpw.imp_of_mem fun {p q}hp' hq' hne e=> hne ?_)
  obtain⟨a,ha⟩:=hint p hp'
  obtain⟨b,hb⟩:=hint q hq'
  rw [ha,hb]at e ⊢
  exact congrArg _ e
 have hmem:∀x,x∈intKeys(.map es:DataW Value)↔Maps.has(.map es:DataW Value)(.int .i64 x)=true:=fun x=> by
  rw [Maps.has_eq,List.any_eq_true]
  show x∈(es.map fun p=> Go.intOf p.1)↔_
  rw [List.mem_map]
  constructor
  ·rintro⟨p,hp',rfl⟩
   obtain⟨a,ha⟩:=hint p hp'
   exact⟨p,hp',by rw [ha];simp [Lit.sameKey,Go.intOf]⟩
  ·rintro⟨p,hp',hs⟩
   obtain⟨a,ha⟩:=hint p hp'
   rw [ha]at hs
   exact⟨p,hp',by rw [ha];simpa [Lit.sameKey,Go.intOf]using hs⟩
 have tr:∀a b c:Int,leI a b=true→leI b c=true→leI a c=true:=fun a b c h1 h2=> by simp only [leI,decide_eq_true_eq]at*;exact Int.le_trans h1 h2
 have tot:∀a b:Int,(leI a b || leI b a)=true:=fun a b=> by simp only [leI,Bool.or_eq_true,decide_eq_true_eq];exact Int.le_total a b
 have hp:=List.mergeSort_perm(intKeys(.map es:DataW Value))leI
 have hle:=List.pairwise_mergeSort tr tot(intKeys(.map es:DataW Value))
 have hnd2:=hp.nodup_iff.2 hnd
 refine⟨(intKeys(.map es:DataW Value)).mergeSort leI,?_,fun x hx=> ?_,fun x hx=> intKeys_wf hown hk x(hp.mem_iff.1 hx),?_,?_⟩
 ·refine(hle.and hnd2).imp(fun {a b}hab=> ?_)
  have h1:a≤b:=by simpa [leI]using hab.1
  have h2:a≠b:=hab.2
  omega
 ·rw [hp.mem_iff,hmem,(hm x hx).1]
 ·rw [hp.length_eq,show(intKeys(.map es:DataW Value)).length=es.length from List.length_map _]
  exact hD
 ·refine(callsIn_wide.1 cS).mono ?_
  rintro e w' ⟨v,ss,rfl,hpp,hrow,hnil,hB⟩
  obtain⟨row,hr,hb⟩:=rowV_of hrow
  have hal:=(Below.refl w.heap.size w).alloc(Nat.le_refl _)(.cells #[.map(some b)]127)
  refine⟨v,row,rfl,?_,fun g hg=> Nat.le_trans(by simp)(hb g hg),hal.trans(hB.mono hal.size)⟩
  rw [←mergeSort_of_perm_i hpp]
  exact hr
section
variable {w w' :World} {qb qm n s n' s' :Nat} {m m' :PrM}
def KidP(w:World)(ys:List Int)(e:Ending)(w' :World):Prop:=∃v row,e= .returned v∧RowV w' 3 v(Own.icells ys)row∧(∀g,row=some g→w.heap.size≤g)∧Below w.heap.size w w'
def isKid(m:PrM)(pid c:Int):Bool:=match m c with
 | some x=> decide(x.pa=pid)
 | none=> false
def kidL(m:PrM)(pid:Int)(ss:List Int):List Int:=ss.filter(isKid m pid)
theorem kidL_is(hp:∀i x,m i=some x→(Lit.int .i64 i).wf=true)(pid:Int) {ss:List Int}(h1:ss.Pairwise(· < ·))(h2:∀x,(Lit.int .i64 x).wf=true→(x∈ss↔(m x).isSome=true)):IsKids m pid(kidL m pid ss):=by
 refine⟨h1.filter _,fun c=> ?_⟩
 unfold kidL
 rw [List.mem_filter]
 unfold isKid
 constructor
 ·rintro⟨hc,hk⟩
  cases hm:m c with
  | none=> rw [hm]at hk;cases hk
  | some x=> rw [hm]at hk;exact⟨x,rfl,by simpa using hk⟩
 ·rintro⟨x,hx,rfl⟩
  exact⟨(h2 c(hp c x hx)).2(by rw [hx];rfl),by rw [hx];simp⟩
theorem kidL_take(m:PrM)(pid:Int) {ss:List Int} {i:Nat} {c:Int}(hc:ss[i]? =some c):kidL m pid(ss.take(i+1))=kidL m pid(ss.take i)++(if isKid m pid c then [c]else []):=by
 unfold kidL
 rw [List.take_add_one,hc,List.filter_append]
 cases h:isKid m pid c <;> simp [h]
set_option maxRecDepth 100000 in
set_option maxHeartbeats 2000000 in
theorem pkids_c(h:PrC w qb qm n s m)(hs:s≤100000)(pid:Int)(hw:(Lit.int .i64 pid).wf=true)(ha:aliveF m pid=true):
  IsKids m pid(kidsOf m pid)∧(kidsOf m pid).length≤s∧Calls Tryz.prog 97 #[.pointer(some⟨qb,0,none⟩),.int .i64 pid]w(KidP w(kidsOf m pid)):=by
 obtain⟨n',s',hmm,hn',hs'⟩:=h.mm
 have hsort:=fun w1(hB:Below w.heap.size w w1)=> sortedP_is(hmm.upd(Upd.of_below(F:=fun _=> False)hB)(fun h=> h))(by omega)
 obtain⟨ss,h1,h2,h3,h4,-⟩:=hsort w(Below.refl _ _)
 have hk:=kidL_is h.p pid h1(fun x hx=> by have:=h2 x hx;rwa [Option.isSome_map]at this)
 have hkl:(kidL m pid ss).length≤s:=by have:=List.length_filter_le(isKid m pid)ss;unfold kidL;omega
 rw [hk.eq]
 refine⟨hk,hkl,?_⟩
 have hsort2:∀w1,Below w.heap.size w w1→Calls Tryz.prog 154 #[keyPV w1](keyPW w1 qm)fun e w' => ∃v row,e= .returned v∧RowV w' 3 v(Own.icells ss)row∧(∀g,row=some g→w1.heap.size≤g)∧Below w1.heap.size w1 w' :=by
  intro w1 hB
  obtain⟨ss2,g1,g2,g3,-,g5⟩:=hsort w1 hB
  have e:ss2=ss:=sorted_ext g1 h1(fun c=> ⟨fun hc=> (h2 c(g3 c hc)).2((g2 c(g3 c hc)).1 hc),fun hc=> (g2 c(h3 c hc)).2((h2 c(h3 c hc)).1 hc)⟩)
  rw [←e];exact g5
 have hal:=alive_is h.b pid hw true ha
 have hlook:=fun w1(hB:Below w.heap.size w w1)c(hc:(Lit.int .i64 c).wf=true)=> MapI.look(hmm.upd(Upd.of_below(F:=fun _=> False)hB)(fun h=> h))Tryz.underlying3 Tryz.underlying127(zero_pr w1)c hc
 have hcell:=fun w1(hB:Below w.heap.size w w1)=> (Blk.below hB h.q h.q.lt).rd 0
 obtain⟨len,hlen⟩:∃len,ss.length=len:=⟨_,rfl⟩
 have hl6:len≤100000:=by omega
 have HE:=Lib.hid(And.intro hsort2(And.intro hlook(And.intro hcell(And.intro h2(And.intro h3(And.intro hlen hkl))))))
 clear h hmm hsort h1 h2 h3 h4 hk hkl hsort2 hlook hcell hn' hs' hs
 go_enter Tryz.func97,Tryz.ntmps97
 go_wp2_with(first
  | (go_at_call 22;refine hal.mono ?_;rintro e w1⟨rfl,hB1⟩;have c1:=HE.out.2.2.1 w1 hB1;have H1:=Lib.hid hB1;clear hB1 hal)
  | (go_at_call 155;refine(keysP_is qm w1).mono ?_;rintro e w2⟨rfl,rfl⟩)
  | (go_at_call 154;refine(HE.out.1 w1 H1.out).mono ?_;rintro e w3⟨v,row,rfl,hR,hrow,hB3⟩;obtain⟨ka,kl,kc,rfl,hkl⟩:∃a l c,v= .slice a l c∧l=len:=(by obtain⟨a,c,e,-,-⟩:=hR.slice;exact⟨a,_,c,e,by simp [HE.out.2.2.2.2.2.1]⟩);subst hkl;have H3:=Lib.hid(And.intro hR(And.intro hrow(H1.out.trans(hB3.mono H1.out.size))));clear hR hrow hB3 c1))
 go_loopw [5,19](fun v5 ix wr=> ∃i:Nat,i≤kl∧ix= .int .i64 i∧∃a l c,v5= .slice a l c∧Hid(∃g,RowV wr 3(.slice a l c)(Own.icells(kidL m pid(ss.take i)))g∧(∀k,g=some k→w3.heap.size≤k)∧Below w3.heap.size w3 wr))(fun _ ix _=> kl - (intOf ix).toNat)
 case atStart=> exact⟨0,Nat.zero_le _,rfl,none,0,0,rfl,Lib.hid⟨none,.inl⟨rfl,rfl,rfl⟩,fun k hk=> (by cases hk),Below.refl _ _⟩⟩
 case round=>
  obtain⟨i,hi,rfl,a,l,c,rfl,H⟩:=hrel
  obtain⟨gr,hR,hgr,hBl⟩:=H.out
  have hm:l=(kidL m pid(ss.take i)).length∧l≤c:=by
   obtain⟨a',c',hv,h1,_⟩:=hR.slice
   simp only [Value.slice.injEq,List.length_map]at hv h1
   exact⟨hv.2.1,by omega⟩
  have hml:(kidL m pid(ss.take i)).length≤i:=by
   unfold kidL
   have:=List.length_filter_le(isKid m pid)(ss.take i)
   rw [List.length_take]at this
   omega
  have hBw:Below w.heap.size w wr:=H3.out.2.2.trans(hBl.mono H3.out.2.2.size)
  by_cases him:i < kl
  ·have d1:decide((i:Int) < kl)=true:=by simp;omega
   have i1:(i:Int) < kl:=by omega
   have i2:(0:Int)≤i:=by omega
   obtain⟨dx,hdx⟩:∃dx,ss[i]? =some dx:=⟨_,List.getElem?_eq_getElem(by rw [HE.out.2.2.2.2.2.1];exact him)⟩
   have hwx:=HE.out.2.2.2.2.1 dx(List.mem_of_getElem? hdx)
   obtain⟨kg,rfl,hkc⟩:∃g,ka=some⟨g,0,none⟩∧wr.cell? ⟨g,i,none⟩=some(.int .i64 dx):=by
    obtain⟨hR,-,-⟩:=H3.out
    rcases hR with⟨hv,hn,_⟩ | ⟨g',cap',rest,hv,hgr,hBk,_⟩
    ·simp only [Value.slice.injEq]at hv
     omega
    ·simp only [Value.slice.injEq]at hv
     refine⟨g',hv.1,?_⟩
     rw [(Blk.below hBl hBk hBk.lt).rd]
     have:(Own.icells ss)[i]? =some(.int .i64 dx):=by rw [List.getElem?_map,hdx];rfl
     have hl:=(List.getElem?_eq_some_iff.1 this).1
     show(Own.icells ss++rest).toArray[i]? =_
     rw [List.getElem?_toArray,List.getElem?_append_left hl,this]
   have c1:=HE.out.2.2.1 wr hBw
   have hlk:=HE.out.2.1 wr hBw dx hwx
   obtain⟨x,hx⟩:=Option.isSome_iff_exists.1((HE.out.2.2.2.1 dx hwx).1(List.mem_of_getElem? hdx))
   obtain⟨y,hy⟩:∃y,m dx=some y:=by
    cases hmd:m dx with
    | none=> rw [hmd]at hx;cases hx
    | some y=> exact⟨y,rfl⟩
   obtain⟨pa,co,de⟩:=y
   rw [hy]at hlk
   simp only [Option.map_some,prV]at hlk
   have hfld:∀W:World,(Instr.field 125(.agg #[.int .i64 pa,.int .i64 co,.bool de])0).run Tryz.prog W= .ok(.int .i64 pa)W:=fun W=> by kernel_rfl
   have htk:=kidL_take m pid hdx
   have hik:isKid m pid dx=decide(pa=pid):=by unfold isKid;rw [hy]
   rw [hik]at htk
   by_cases hpa:pa=pid
   ·subst hpa
    have HX:=Lib.hid(show kidL m pa(ss.take(i+1))=kidL m pa(ss.take i)++ [dx]by rw [htk];simp)
    have HK:=Lib.hid(hR.below((Below.refl wr.heap.size wr).alloc(by simp)(.cells #[.int .i64 dx]3)))
    obtain⟨hm,hmc⟩:=hm
    have HM:=Lib.hid(And.intro hgr(And.intro hBl hm))
    clear hx hy hR hgr hBl hm hdx hwx htk hik hBw
    go_wp2_with(at_builtin;refine wp_appV rfl _ _ 59 3(.int .i64 0)8(by kernel_rfl)rfl(by decide)Tryz.underlying59 rfl(.slice a l c)(Own.icells(kidL m pa(ss.take i)))gr rfl HK.out(some⟨wr.heap.size,0,none⟩)1 1 [.int .i64 dx]rfl rfl(fun _=> ⟨_,rfl,new_cell wr(.int .i64 dx)3⟩)(fun u hu=> by(simp at hu;subst hu;rfl))(by simp;omega) ?_;intro v' w4 row' hI hrow' hu4;obtain⟨a2,c2,rfl,-,-⟩:=hI.slice;have H4:=Lib.hid(And.intro hI(And.intro hrow' hu4));clear hI hrow' hu4)
    go_roundw
    case rel=>
     refine⟨i+1,by omega,by go_num,a2,_,c2,rfl,Lib.hid ?_⟩
     rw [HX.out,show Own.icells(kidL m pa(ss.take i)++ [dx])=Own.icells(kidL m pa(ss.take i))++ [Value.int .i64 dx]by simp [Own.icells]]
     refine⟨row',by rw [show(kidL m pa(ss.take i)).length+1=(Own.icells(kidL m pa(ss.take i))++ [Value.int .i64 dx]).length by simp [Own.icells]];exact H4.out.1,fun k hk=> ?_,?_⟩
     ·rcases H4.out.2.1 k hk with h1 | h1
      ·exact HM.out.1 k h1
      ·have h2:=HM.out.2.1.size
       simp at h1
       omega
     ·have h6:=(HM.out.2.1.alloc HM.out.2.1.size(.cells #[.int .i64 dx]3))
      exact h6.trans(H4.out.2.2.below h6.size(fun k hk=> HM.out.1 k hk))
    case measure=> simp [intOf];omega
   ·have e1:(pa==pid)=false:=by simpa using hpa
    have HX:=Lib.hid(show kidL m pid(ss.take(i+1))=kidL m pid(ss.take i)by rw [htk];simp [hpa])
    clear hx hy hR hgr hBl hm hdx hwx htk hik hBw
    go_wp2_with(fail)
    go_roundw
    case rel=> exact⟨i+1,by omega,by go_num,a,l,c,rfl,Lib.hid(by rw [HX.out];exact H.out)⟩
    case measure=> simp [intOf];omega
  ·have d1:decide((i:Int) < kl)=false:=by simp;omega
   obtain rfl:i=kl:=by omega
   rw [List.take_of_length_le(by rw [HE.out.2.2.2.2.2.1];exact Nat.le_refl _)]at hR
   have HF:=Lib.hid(And.intro hR(And.intro hgr hBw))
   clear hR hgr hBl hm hml hBw
   go_wp2_with(fail)
   go_ret
   exact⟨_,gr,rfl,HF.out.1,fun g hg=> by have:=HF.out.2.1 g hg;have:=H3.out.2.2.size;omega,HF.out.2.2⟩
end
end Go.Proofs.YtjpjafajploiaaaGreatDoor
namespace Go.Proofs.YtjpjafajploiaaaGreatDoor
open Go.RowKit Own RegJ Two
def exitM(m:PrM)(pid code:Int):PrM:=match m pid with
 | none=> m
 | some x=> if x.pa= -1 then prPut m pid none else prPut m pid(some⟨x.pa,code,true⟩)
noncomputable def exitP(m:PrM)(pid code:Int):Int×PrM:=if aliveF m pid=false then(4,m)else if code < 0∨255 < code then(19,m)else(0,exitM((kidsOf m pid).foldl leaveP m)pid code)
theorem leaveP_ne(m:PrM) {c i:Int}(h:i≠c):leaveP m c i=m i:=by
 unfold leaveP
 cases hm:m c with
 | none=> rfl
 | some x=>
  simp only
  split
  ·exact if_neg h
  ·exact if_neg h
theorem leaves_ne(i:Int):∀(l:List Int)(m:PrM),i∉l→l.foldl leaveP m i=m i
 | [],m,_=> rfl
 | c::r,m,h=> by
  rw [List.foldl_cons,leaves_ne i r _(fun e=> h(List.mem_cons_of_mem _ e)),leaveP_ne m(fun e=> h(by rw [e];exact List.mem_cons_self ..))]
theorem leaves_alive(i:Int):∀(l:List Int)(m:PrM)(x:Pr),m i=some x→x.de=false→∃y,l.foldl leaveP m i=some y∧y.de=false
 | [],m,x,h,hd=> ⟨x,h,hd⟩
 | c::r,m,x,h,hd=> by
  rw [List.foldl_cons]
  by_cases e:i=c
  ·subst e
   refine leaves_alive i r _ {x with pa:= -1} ?_ hd
   unfold leaveP
   rw [h]
   simp only [hd,Bool.false_eq_true,if_false]
   exact if_pos rfl
  ·exact leaves_alive i r _ x((leaveP_ne m e).trans h)hd
theorem alive_some {m:PrM} {pid:Int}(h:aliveF m pid=true):∃x,m pid=some x∧x.de=false:=by
 unfold aliveF at h
 cases hm:m pid with
 | none=> rw [hm]at h;cases h
 | some x=> rw [hm]at h;exact⟨x,rfl,by simpa using h⟩
theorem take_notin {l:List Int}(h:l.Pairwise(· < ·)) {i:Nat} {c:Int}(hc:l[i]? =some c):c∉l.take i:=by
 intro hm
 obtain⟨j,hj,he⟩:=List.getElem_of_mem hm
 rw [List.length_take]at hj
 obtain⟨hi,hic⟩:=List.getElem?_eq_some_iff.1 hc
 have:=List.pairwise_iff_getElem.1 h j i(by omega)hi(by omega)
 rw [List.getElem_take]at he
 omega
section
variable {w w' :World} {qb qm n s n' s' :Nat} {m m' :PrM}
set_option maxRecDepth 100000 in
set_option maxHeartbeats 2000000 in
theorem pexit_c(h:PrC w qb qm n s m)(hn:n+s≤90000000)(hs:s≤100000)(pid code:Int)(hw:(Lit.int .i64 pid).wf=true)(r:Int)(m' :PrM)(hr:exitP m pid code=(r,m')):
  Calls Tryz.prog 57 #[.pointer(some⟨qb,0,none⟩),.int .i64 pid,.int .i64 code]w fun e w' => e= .returned(.int .i64 r)∧PrC w' qb qm(n+s+3)s m' ∧Upd(fun k=> k=qm)w w' :=by
 have hquiet:∀w1,Below w.heap.size w w1→PrC w1 qb qm(n+s+3)s m∧Upd(fun k=> k=qm)w w1:=fun w1 hB=> ⟨(h.below hB).le(by omega)(by omega),Upd.of_below hB⟩
 have hal:=alive_is h.b pid hw
 unfold exitP at hr
 cases ha:aliveF m pid with
 | false=>
  rw [if_pos ha]at hr;cases hr
  have hal' :=hal false ha
  have HQ:=Lib.hid hquiet
  clear h hquiet hal ha hw
  go_enter Tryz.func57,Tryz.ntmps57
  go_wp2_with(go_at_call 22;refine hal'.mono ?_;rintro e w1⟨rfl,hB⟩;have H1:=Lib.hid hB;clear hB)
  go_ret
  exact⟨rfl,HQ.out _ H1.out⟩
 | true=>
  rw [if_neg(by rw [ha];decide)]at hr
  have hal' :=hal true ha
  by_cases hcd:code < 0∨255 < code
  ·rw [if_pos hcd]at hr;cases hr
   have HQ:=Lib.hid hquiet
   clear h hquiet hal ha hw
   by_cases h0:code < 0
   ·have d1:decide(code < 0)=true:=decide_eq_true h0
    go_enter Tryz.func57,Tryz.ntmps57
    go_wp2_with(go_at_call 22;refine hal'.mono ?_;rintro e w1⟨rfl,hB⟩;have H1:=Lib.hid hB;clear hB)
    go_ret
    exact⟨rfl,HQ.out _ H1.out⟩
   ·have d1:decide(code < 0)=false:=decide_eq_false h0
    have d2:decide(code > 255)=true:=decide_eq_true(hcd.resolve_left h0)
    go_enter Tryz.func57,Tryz.ntmps57
    go_wp2_with(go_at_call 22;refine hal'.mono ?_;rintro e w1⟨rfl,hB⟩;have H1:=Lib.hid hB;clear hB)
    go_ret
    exact⟨rfl,HQ.out _ H1.out⟩
  ·rw [if_neg hcd]at hr;cases hr
   have d1:decide(code < 0)=false:=decide_eq_false(by omega)
   have d2:decide(code > 255)=false:=decide_eq_false(by omega)
   obtain⟨hIK,hkl,-⟩:=pkids_c h hs pid hw ha
   have hkc:=fun w1(hB:Below w.heap.size w w1)=> (pkids_c(h.below hB)hs pid hw ha).2.2
   obtain⟨ys,hys⟩:∃ys,kidsOf m pid=ys:=⟨_,rfl⟩
   rw [hys]at hIK hkl
   simp only [hys]at hkc
   rw [hys]
   obtain⟨len,hlen⟩:∃len,ys.length=len:=⟨_,rfl⟩
   have hl6:len≤100000:=by omega
   have hpm:∀c∈ys,∃x,m c=some x:=fun c hc=> by obtain⟨x,hx,-⟩:=(hIK.2 c).1 hc;exact⟨x,hx⟩
   have hwfy:∀c∈ys,(Lit.int .i64 c).wf=true:=fun c hc=> by obtain⟨x,hx⟩:=hpm c hc;exact h.p c x hx
   obtain⟨x0,hx0,hde0⟩:=alive_some ha
   obtain⟨⟨pa,co,de⟩,hy1,hde1⟩:=leaves_alive pid ys m x0 hx0 hde0
   obtain rfl:de=false:=hde1
   have HE:=Lib.hid(And.intro h(And.intro hkc(And.intro hIK(And.intro hpm(And.intro hwfy(And.intro hlen(And.intro hw hkl)))))))
   have HY:=Lib.hid hy1
   have HN:=Lib.hid(And.intro hn(show len≤s by omega))
   obtain⟨hq1,hq2⟩:=h.lt
   have HZ:=Lib.hid(And.intro hq1 hq2)
   clear h hquiet hal ha hw hkc hIK hpm hwfy hlen hkl hys hx0 hde0 hy1 hcd hn hs hq1 hq2
   go_enter Tryz.func57,Tryz.ntmps57
   go_wp2_with(first
    | (go_at_call 22;refine hal'.mono ?_;rintro e w1⟨rfl,hB⟩;have H1:=Lib.hid hB;clear hB hal')
    | (go_at_call 97;refine(HE.out.2.1 w1 H1.out).mono ?_;rintro e w3⟨v,row,rfl,hR,hrow,hB3⟩;obtain⟨ka,kl,kc,rfl,hkl⟩:∃a l c,v= .slice a l c∧l=len:=(by obtain⟨a,c,e,-,-⟩:=hR.slice;exact⟨a,_,c,e,by simp [HE.out.2.2.2.2.2.1]⟩);subst hkl;have H3:=Lib.hid(And.intro hR(And.intro hrow(H1.out.trans(hB3.mono H1.out.size))));clear hR hrow hB3))
   go_loopw [32](fun ix wr=> ∃i:Nat,i≤kl∧ix= .int .i64 i∧Hid(PrC wr qb qm(n+i)s((ys.take i).foldl leaveP m)∧Upd(fun k=> k=qm)w3 wr))(fun ix _=> kl - (intOf ix).toNat)
   case atStart=> exact⟨0,Nat.zero_le _,rfl,Lib.hid⟨HE.out.1.below H3.out.2.2,Upd.refl _ _⟩⟩
   case round=>
    obtain⟨i,hi,rfl,H⟩:=hrel
    obtain⟨hP,hU⟩:=H.out
    by_cases him:i < kl
    ·have d3:decide((i:Int) < kl)=true:=by simp;omega
     have i1:(i:Int) < kl:=by omega
     have i2:(0:Int)≤i:=by omega
     obtain⟨dx,hdx⟩:∃dx,ys[i]? =some dx:=⟨_,List.getElem?_eq_getElem(by rw [HE.out.2.2.2.2.2.1];exact him)⟩
     have hmem:=List.mem_of_getElem? hdx
     obtain⟨kg,rfl,hkc⟩:∃g,ka=some⟨g,0,none⟩∧wr.cell? ⟨g,i,none⟩=some(.int .i64 dx):=by
      obtain⟨hR,hro,-⟩:=H3.out
      rcases hR with⟨hv,hn,_⟩ | ⟨g',cap',rest,hv,hgr,hBk,_⟩
      ·simp only [Value.slice.injEq]at hv
       omega
      ·simp only [Value.slice.injEq]at hv
       refine⟨g',hv.1,?_⟩
       rw [(Blk.upd hU hBk(fun e=> by have:=hro g' hgr;have:=HZ.out.2;have:=H1.out.size;omega)).rd]
       have:(Own.icells ys)[i]? =some(.int .i64 dx):=by rw [List.getElem?_map,hdx];rfl
       have hl:=(List.getElem?_eq_some_iff.1 this).1
       show(Own.icells ys++rest).toArray[i]? =_
       rw [List.getElem?_toArray,List.getElem?_append_left hl,this]
     obtain⟨x,hx⟩:=HE.out.2.2.2.1 dx hmem
     have hlv:=pleave_c hP(by have:=HN.out;omega)dx(HE.out.2.2.2.2.1 dx hmem)x((leaves_ne dx _ m(take_notin HE.out.2.2.1.1 hdx)).trans hx)
     have HD:=Lib.hid(And.intro hdx hU)
     clear hdx hmem hx hP hU
     go_wp2_with(go_at_call 96;refine hlv.mono ?_;rintro e w4⟨rfl,hP4,hU4⟩;have H4:=Lib.hid(And.intro hP4 hU4);clear hP4 hU4 hlv)
     go_roundw
     case rel=>
      refine⟨i+1,by omega,by go_num,Lib.hid⟨?_,HD.out.2.trans H4.out.2(fun _ _ h=> h)⟩⟩
      rw [List.take_add_one,HD.out.1,List.foldl_append]
      exact H4.out.1
     case measure=> simp [intOf];omega
    ·have d3:decide((i:Int) < kl)=false:=by simp;omega
     obtain rfl:i=kl:=by omega
     rw [List.take_of_length_le(by rw [HE.out.2.2.2.2.2.1];exact Nat.le_refl _)]at hP
     have hlk:=(MapI.look hP.mm.choose_spec.choose_spec.1 Tryz.underlying3 Tryz.underlying127(zero_pr wr)pid HE.out.2.2.2.2.2.2.1)
     rw [HY.out]at hlk
     simp only [Option.map_some,prV]at hlk
     have c1:=hP.q.rd 0
     have HP:=Lib.hid(And.intro hP hU)
     clear hP hU
     go_upto_region 15 with(fail)
     obtain⟨W9,hW9⟩:∃W9,(wr.alloc(.cells #[.int .i64 pa,.int .i64 code,.bool true]125)).drew=W9:=⟨_,rfl⟩
     obtain⟨M1,hM1⟩:∃M1,ys.foldl leaveP m=M1:=⟨_,rfl⟩
     have hY1:=HY.out
     obtain⟨hP,hU⟩:=HP.out
     rw [hM1]at hP hY1
     have h9:Below wr.heap.size wr W9:=by rw [←hW9];exact((Below.refl _ _).alloc(Nat.le_refl _)_).trans((dn _ 1).mono(by simp))
     have hb9:Blk W9 wr.heap.size #[.int .i64 pa,.int .i64 code,.bool true]125:=by rw [←hW9];exact(Blk.new wr _ _).drew
     have hp9:=hP.below h9
     obtain⟨hlt1,hlt2⟩:=hP.lt
     have hne:=hP.ne
     have hw:=HE.out.2.2.2.2.2.2.1
     obtain⟨RQ,hRQ⟩:∃RQ:World→Prop,RQ=fun w9=> PrC w9 qb qm(n+i+1)s(prPut M1 pid(some⟨pa,code,true⟩))∧Upd(fun k=> k=qm)W9 w9∧Blk w9 wr.heap.size #[.int .i64 pa,.int .i64 code,.bool true]125:=⟨_,rfl⟩
     obtain⟨n',s',hm9,hn',hs'⟩:=hp9.mm
     have key:∀w9,MapI w9 Tryz.prog 3 qm(n' +1)(if((M1 pid).map prV).isSome then s' else s' +1)(mput(fun i=> (M1 i).map prV)pid(prV⟨pa,code,true⟩))→Upd(fun k=> k=qm)W9 w9→RQ w9:=by
      intro w9 hm2 hu2
      rw [hRQ]
      refine⟨?_,hu2,Blk.upd hu2 hb9(by omega)⟩
      have:=PrC.put(Blk.upd hu2 hp9.q hne)hp9 hw⟨pa,code,true⟩hn' hs' hm2
      rwa [hY1]at this
     have HM:=Lib.hid(And.intro key(And.intro hm9(And.intro hn' (And.intro hw(And.intro hp9.q(And.intro hb9 HN.out))))))
     have hbase:Upd(fun k=> k=qm)w W9:=((Upd.of_below(F:=fun k=> k=qm)H3.out.2.2).trans hU(fun _ _ h=> h)).trans(Upd.of_below h9)(fun _ _ h=> h)
     have HF:=Lib.hid(And.intro hRQ(And.intro hbase hY1))
     clear hP hU hY1 h9 hb9 hp9 hlt1 hlt2 hne hRQ hm9 hn' hs' key hw hlk c1 hbase
     refine region_C 6 W9 RQ hW9(by kernel_rfl)(by kernel_rfl) ?_
     iterate 3
      apply wpJ_op rfl(by rfl)
      ·intro f w1 hf hJ Q1 hQ
       simp only [nrm]at hQ
       go_wp2_with(fail)
       exact hQ _ _ rfl(hJ.other rfl hf(by decide))
      simp only [nrm]
     apply wpJ_op rfl(by rfl)
     ·intro f w1 hf hJ Q1 hQ
      have hC:f 6=false:=path_no hJ.1 [3](by kernel_rfl)(by decide)hf.1
      rw [hJ.atC hC]
      have hF:=HM.out
      have c1:=hF.2.2.2.2.1.rd 0
      simp only [nrm]at hQ
      go_wp2_with(fail)
      exact hQ _ _ rfl(by have h9:=hJ.other rfl hf(by decide);rwa [hJ.atC hC]at h9)
     simp only [nrm]
     apply wpJ_op rfl(by rfl)
     ·intro f w1 hf hJ Q1 hQ
      simp only [nrm]at hQ
      go_wp2_with(fail)
      exact hQ _ _ rfl(hJ.other rfl hf(by decide))
     simp only [nrm]
     apply wpJ_op rfl(by rfl)
     ·intro f w1 hf hJ Q1 hQ
      have hC:f 6=false:=path_no hJ.1 [5](by kernel_rfl)(by decide)hf.1
      rw [hJ.atC hC]
      have hF:=HM.out
      have c2:=hF.2.2.2.2.2.1.rd
      simp only [nrm]at hQ
      go_wp2_with(fail)
      exact hQ _ _ rfl(by have h9:=hJ.other rfl hf(by decide);rwa [hJ.atC hC]at h9)
     simp only [nrm]
     apply wpJ_op(v:=undef)rfl(by rfl)
     ·intro f w1 hf hJ Q1 hQ
      rw [hJ.atC hf.1]
      simp only [nrm]at hQ
      go_wp2_with(refine wp_mapput _ rfl(.tmp 52)(.tmp 53)(.tmp 54)127 rfl 3 125 Tryz.underlying3 Tryz.underlying127 qm n' s' _ rfl HM.out.2.1(by have:=HM.out.2.2.1;have:=HM.out.2.2.2.2.2.2;unfold maxLen;omega)pid HM.out.2.2.2.1 _ rfl rfl ?_;intro w2 hm2 hu2;have hq:=HM.out.1 w2 hm2 hu2;clear hm2 hu2)
      exact hQ _ _ rfl(hJ.goC rfl hf hq)
     simp only [nrm]
     refine wpJ_nil ?_
     intro w9 hJ9
     have hq9:=hJ9.fin rfl
     clear hJ9
     obtain⟨hRQ,hbase,hY1⟩:=HF.out
     rw [hRQ]at hq9
     obtain⟨hP,hU,hB⟩:=hq9
     have hk:=hB.rd
     have hfin:exitM M1 pid code=if pa= -1 then prPut M1 pid none else prPut M1 pid(some⟨pa,code,true⟩):=by unfold exitM;rw [hY1]
     have hlv:=fun(e:pa= -1)=> pleave_c(n:=n+i+1)hP(by have:=HN.out;omega)pid HM.out.2.2.2.1⟨pa,code,true⟩(if_pos rfl)
     have HG:=Lib.hid(And.intro hP(And.intro hU(And.intro hfin hbase)))
     clear hP hU hB hfin hbase hRQ hY1
     by_cases hpa:pa= -1
     ·have hlv1:=hlv hpa
      have e1:(pa== -1)=true:=by simpa using hpa
      clear hlv
      go_wp2_with(go_at_call 96;refine hlv1.mono ?_;rintro e w6⟨rfl,hP6,hU6⟩;have H6:=Lib.hid(And.intro hP6 hU6);clear hP6 hU6 hlv1)
      go_ret
      obtain⟨hP,hU,hfin,hbase⟩:=HG.out
      obtain⟨hP6,hU6⟩:=H6.out
      refine⟨rfl,?_,(hbase.trans hU(fun _ _ h=> h)).trans hU6(fun _ _ h=> h)⟩
      rw [hM1,hfin,if_pos hpa]
      have e:leaveP(prPut M1 pid(some⟨pa,code,true⟩))pid=prPut M1 pid none:=by
       unfold leaveP
       rw [show prPut M1 pid(some⟨pa,code,true⟩)pid=some⟨pa,code,true⟩from if_pos rfl]
       simp only [if_true]
       funext j
       unfold prPut
       split <;> rfl
      rw [e]at hP6
      exact hP6.le(by have:=HN.out;omega)(Nat.le_refl _)
     ·have e1:(pa== -1)=false:=by simpa using hpa
      clear hlv
      go_wp2_with(fail)
      go_ret
      obtain⟨hP,hU,hfin,hbase⟩:=HG.out
      refine⟨rfl,?_,hbase.trans hU(fun _ _ h=> h)⟩
      rw [hM1,hfin,if_neg hpa]
      exact hP.le(by have:=HN.out;omega)(Nat.le_refl _)
end
end Go.Proofs.YtjpjafajploiaaaGreatDoor
