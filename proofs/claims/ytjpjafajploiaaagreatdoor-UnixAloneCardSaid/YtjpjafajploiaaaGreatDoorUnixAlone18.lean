/-
  Descriptors: what they are, plain; how they lie beside a vfs of the call's own.
-/
import Derived.Test.YtjpjafajploiaaaGreatDoorUnixAlone17
import Derived.Test.YtjpjafajploiaaaGreatDoorUnixAlone02
set_option linter.unusedSimpArgs false
set_option linter.unusedVariables false
namespace Go.Proofs.YtjpjafajploiaaaGreatDoor
open Go.RowKit Own RegJ Two
open Go.Lib hiding intOf
structure Th where
 pp:Bool
 wr:Bool
 id:Int
 pl:Int
 en:Bool
 nm:Int
structure FS where
 pr:Int→Option Nat
 sl:Nat→Nat→Option Nat
 th:Nat→Option Th
def fs00:FS:=⟨fun _=> none,fun _ _=> none,fun _=> none⟩
def ptb(x:Option Nat):Value:= .pointer(x.map fun b=> ⟨b,0,none⟩)
abbrev thC(t:Th):Array Value:= #[.bool t.pp,.bool t.wr,.int .i64 t.id,.int .i64 t.pl,.bool t.en,.int .i64 t.nm]
abbrev slC(f:Nat→Option Nat):Array Value:= #[ptb(f 0),ptb(f 1),ptb(f 2),ptb(f 3),ptb(f 4),ptb(f 5),ptb(f 6),ptb(f 7)]
theorem slC_at(f:Nat→Option Nat) {d:Nat}(h:d < 8):(slC f)[d]? =some(ptb(f d)):=by
 have:d=0∨d=1∨d=2∨d=3∨d=4∨d=5∨d=6∨d=7:=by omega
 rcases this with rfl | rfl | rfl | rfl | rfl | rfl | rfl | rfl <;> rfl
def upN {α:Type}(f:Nat→α)(d:Nat)(x:α):Nat→α:=fun k=> if k=d then x else f k
theorem upN_eq {α:Type}(f:Nat→α)(d:Nat)(x:α):upN f d x d=x:=if_pos rfl
theorem upN_ne {α:Type}(f:Nat→α) {d k:Nat}(x:α)(h:k≠d):upN f d x k=f k:=if_neg h
theorem slC_set(f:Nat→Option Nat) {d:Nat}(h:d < 8)(x:Option Nat):(slC f).setIfInBounds d(ptb x)=slC(upN f d x):=by
 have:d=0∨d=1∨d=2∨d=3∨d=4∨d=5∨d=6∨d=7:=by omega
 rcases this with rfl | rfl | rfl | rfl | rfl | rfl | rfl | rfl <;> rfl
def Ow(fdb mb:Nat)(S:FS)(k:Nat):Prop:=k=fdb∨k=mb∨(∃i,S.pr i=some k)∨(S.th k).isSome=true
structure FdB(w:World)(fdb vb pb mb:Nat)(N:Nat)(S:FS):Prop where
 f:Blk w fdb #[.pointer(some⟨vb,0,none⟩),.pointer(some⟨pb,0,none⟩),.map(some mb)]154
 m:∃n s,MapI w Tryz.prog 3 mb n s(fun i=> (S.pr i).map fun b=> .pointer(some⟨b,0,none⟩))∧n≤N
 t:∀i b,S.pr i=some b→Blk w b(slC(S.sl b))164
 x:∀b t,S.th b=some t→Blk w b(thC t)173
 r:∀i b,S.pr i=some b→∀d x,d < 8→S.sl b d=some x→∃t,S.th x=some t
 j:∀i j b,S.pr i=some b→S.pr j=some b→i=j
section
variable {w w' :World} {fdb vb pb mb N:Nat} {S:FS}
theorem FdB.lt(h:FdB w fdb vb pb mb N S) {k:Nat}(hk:Ow fdb mb S k):k < w.heap.size:=by
 rcases hk with rfl | rfl | ⟨i,hi⟩ | hx
 ·exact h.f.lt
 ·obtain⟨n,s,hm,_⟩:=h.m;exact hm.lt
 ·exact(h.t i k hi).lt
 ·obtain⟨t,ht⟩:=Option.isSome_iff_exists.1 hx;exact(h.x k t ht).lt
theorem FdB.upd {F:Nat→Prop}(h:FdB w fdb vb pb mb N S)(hu:Upd F w w')(hF:∀k,Ow fdb mb S k→¬F k):FdB w' fdb vb pb mb N S:=by
 obtain⟨n,s,hm,hn⟩:=h.m
 exact⟨Blk.upd hu h.f(hF _(.inl rfl)),⟨n,s,hm.upd hu(hF _(.inr(.inl rfl))),hn⟩,fun i b hi=> Blk.upd hu(h.t i b hi)(hF _(.inr(.inr(.inl⟨i,hi⟩)))),fun b t ht=> Blk.upd hu(h.x b t ht)(hF _(.inr(.inr(.inr(by rw [ht];rfl))))),h.r,h.j⟩
theorem FdB.below(h:FdB w fdb vb pb mb N S)(hB:Below w.heap.size w w'):FdB w' fdb vb pb mb N S:=h.upd(Upd.of_below(F:=fun _=> False)hB)(fun _ _ h=> h)
theorem FdB.slot(h:FdB w fdb vb pb mb N S) {i:Int} {b d:Nat}(hi:S.pr i=some b)(hd:d < 8):w.cell? ⟨b,d,none⟩=some(ptb(S.sl b d)):=((h.t i b hi).rd d).trans(slC_at _ hd)
end
def FX [Inhabited CapT](w0:World)(O:Nat→Prop)(fdb vb tb fb sb pb mb:Nat)(ns:NSt)(c N:Nat)(S:FS)(w:World):Prop:=
 ∃lo,VV w vb tb ns lo c∧Below w0.heap.size w0 w∧(∀k,O k→w0.heap.size≤k∧k < w.heap.size)∧(∀r k,lo r=some k→O k)∧lo(.st .frm)=some fb∧lo(.st .sto)=some sb∧
  FdB w fdb vb pb mb N S∧∀k,Ow fdb mb S k→O k∧(∀r,lo r≠some k)∧k≠vb∧k≠0
def FP [Inhabited CapT](w0:World)(O:Nat→Prop)(fdb vb tb fb sb pb mb:Nat)(ns:NSt)(c N:Nat)(S:FS)(w:World)(v:Value)(e:Ending)(w' :World):Prop:=
 e= .returned v∧Upd O w w' ∧∃O',FX w0 O' fdb vb tb fb sb pb mb ns c N S w' ∧∀k,O' k→O k∨w.heap.size≤k
section
variable {w0 w w' :World} {O O' :Nat→Prop} {fdb vb tb fb sb pb mb:Nat} {ns ns' :NSt} {c c' N N' :Nat} {S S' :FS} {lo lo' :Lo}
theorem FX.dv [Inhabited CapT](h:FX w0 O fdb vb tb fb sb pb mb ns c N S w):DV w0 vb tb fb sb ns c w:=by
 obtain⟨lo,h1,h2,h3,h4,h5,h6,_⟩:=h
 exact⟨lo,h1,h2,fun r k hk=> (h3 k(h4 r k hk)).1,h5,h6⟩
theorem FX.fd [Inhabited CapT](h:FX w0 O fdb vb tb fb sb pb mb ns c N S w):FdB w fdb vb pb mb N S:=by
 obtain⟨lo,_,_,_,_,_,_,h7,_⟩:=h
 exact h7
theorem FX.bel [Inhabited CapT](h:FX w0 O fdb vb tb fb sb pb mb ns c N S w):Below w0.heap.size w0 w:=by
 obtain⟨lo,_,h2,_⟩:=h
 exact h2
theorem FX.rng [Inhabited CapT](h:FX w0 O fdb vb tb fb sb pb mb ns c N S w):∀k,O k→w0.heap.size≤k∧k < w.heap.size:=by
 obtain⟨lo,_,_,h3,_⟩:=h
 exact h3
theorem FX.below [Inhabited CapT](h:FX w0 O fdb vb tb fb sb pb mb ns c N S w)(hB:Below w.heap.size w w'):FX w0 O fdb vb tb fb sb pb mb ns c N S w' :=by
 obtain⟨lo,h1,h2,h3,h4,h5,h6,h7,h8⟩:=h
 exact⟨lo,h1.below hB,h2.trans(hB.mono h2.size),fun k hk=> ⟨(h3 k hk).1,Nat.lt_of_lt_of_le(h3 k hk).2 hB.size⟩,h4,h5,h6,h7.below hB,h8⟩
theorem FX.le [Inhabited CapT](h:FX w0 O fdb vb tb fb sb pb mb ns c N S w)(hc:c≤c'):FX w0 O fdb vb tb fb sb pb mb ns c' N S w:=by
 obtain⟨lo,h1,h2⟩:=h
 exact⟨lo,h1.le hc,h2⟩
theorem FX.far [Inhabited CapT](h:FX w0 O fdb vb tb fb sb pb mb ns c N S w) {g:Nat}(hg:w.heap.size≤g):¬O g:=fun hk=> by have:=(h.rng g hk).2;omega
theorem FP.same [Inhabited CapT] {v:Value}(h:FX w0 O fdb vb tb fb sb pb mb ns c N S w)(hB:Below w.heap.size w w'):FP w0 O fdb vb tb fb sb pb mb ns c N S w v(.returned v)w' :=
 ⟨rfl,Upd.of_below hB,O,h.below hB,fun k hk=> .inl hk⟩
theorem FP.ahead [Inhabited CapT] {v:Value} {e:Ending} {w1:World}(hB:Below w.heap.size w w1)(h:FP w0 O fdb vb tb fb sb pb mb ns c N S w1 v e w'):FP w0 O fdb vb tb fb sb pb mb ns c N S w v e w' :=by
 obtain⟨h1,h2,O',h3,h4⟩:=h
 exact⟨h1,(Upd.of_below hB).trans h2(fun _ _ h=> h),O',h3,fun k hk=> (h4 k hk).imp id(fun h=> Nat.le_trans hB.size h)⟩
theorem FX.step [Inhabited CapT](h1:VV w vb tb ns lo c)(h2:Below w0.heap.size w0 w)(h3:∀k,O k→w0.heap.size≤k∧k < w.heap.size)(h4:∀r k,lo r=some k→O k)(h5:lo(.st .frm)=some fb)(h6:lo(.st .sto)=some sb)(h7:FdB w fdb vb pb mb N S)
  (h8:∀k,Ow fdb mb S k→O k∧(∀r,lo r≠some k)∧k≠vb∧k≠0)(hV:VV w' vb tb ns' lo' c')(hF:TFr lo lo' w w')(v:Value):FP w0 O fdb vb tb fb sb pb mb ns' c' N S w v(.returned v)w' :=by
 have hu:Upd O w w' :=hF.1.mono(fun k _⟨r,hr⟩=> h4 r k hr)
 have hs:=hF.1.size
 refine⟨rfl,hu,fun k=> O k∨(w.heap.size≤k∧k < w'.heap.size),⟨lo',hV,h2.trans(hu.below h2.size(fun k hk=> (h3 k hk).1)),fun k hk=> ?_,fun r k hr=> ?_,hF.2.2.2.trans h5,hF.2.2.1.trans h6,h7.upd hF.1(fun k hk⟨r,hr⟩=> (h8 k hk).2.1 r hr),fun k hk=> ⟨.inl(h8 k hk).1,fun r hr=> ?_,(h8 k hk).2.2⟩⟩,fun k hk=> hk.imp id(·.1)⟩
 ·rcases hk with hk | hk
  ·exact⟨(h3 k hk).1,Nat.lt_of_lt_of_le(h3 k hk).2 hs⟩
  ·exact⟨Nat.le_trans h2.size hk.1,hk.2⟩
 ·rcases hF.2.1 r k hr with⟨q,hq⟩ | hq
  ·exact .inl(h4 q k hq)
  ·exact .inr⟨hq,hV.lts.2.1 r k hr⟩
 ·rcases hF.2.1 r k hr with⟨q,hq⟩ | hq
  ·exact(h8 k hk).2.1 q hq
  ·have:=h7.lt hk
   omega
theorem FX.own [Inhabited CapT](h:FX w0 O fdb vb tb fb sb pb mb ns c N S w)(hu:Upd(Ow fdb mb S)w w')(hB:FdB w' fdb vb pb mb N' S')(hO:∀k,Ow fdb mb S' k→Ow fdb mb S k∨w.heap.size≤k):Upd O w w' ∧FX w0(fun k=> O k∨(w.heap.size≤k∧Ow fdb mb S' k))fdb vb tb fb sb pb mb ns c N' S' w' :=by
 obtain⟨lo,h1,h2,h3,h4,h5,h6,h7,h8⟩:=h
 obtain⟨l1,l2,l3⟩:=h1.lts
 have hu2:Upd O w w' :=hu.mono(fun k _ hk=> (h8 k hk).1)
 refine⟨hu2,lo,h1.upd hu(fun hk=> (h8 _ hk).2.2.1 rfl)(fun r k hr hk=> (h8 _ hk).2.1 r hr)(fun hk=> (h8 _ hk).2.2.2 rfl),h2.trans(hu2.below h2.size(fun k hk=> (h3 k hk).1)),fun k hk=> ?_,fun r k hr=> .inl(h4 r k hr),h5,h6,hB,fun k hk=> ?_⟩
 ·rcases hk with hk | hk
  ·exact⟨(h3 k hk).1,Nat.lt_of_lt_of_le(h3 k hk).2 hu.size⟩
  ·exact⟨Nat.le_trans h2.size hk.1,hB.lt hk.2⟩
 ·rcases hO k hk with ho | ho
  ·exact⟨.inl(h8 k ho).1,(h8 k ho).2⟩
  ·exact⟨.inr⟨ho,hk⟩,fun r hr=> by have:=l2 r k hr;omega,by omega,by omega⟩
theorem v_open [Inhabited CapT](h:FX w0 O fdb vb tb fb sb pb mb ns c N S w)(hc:c≤9000)(l:Txt)(hl:l.length≤100000)(n a r:Int)(ns' :NSt)(hr:openF ns l n=(a,r,ns'))(s:ByteArray)(hs:s=B l):
  Calls Tryz.prog 79 #[.pointer(some⟨vb,0,none⟩),.string s,.int .i64 n]w(FP w0 O fdb vb tb fb sb pb mb ns' (c+3)N S w(.tuple #[.int .i64 a,.int .i64 r])):=by
 subst hs
 obtain⟨lo,h1,h2,h3,h4,h5,h6,h7,h8⟩:=h
 refine(Open_is h1 hc l hl n a r _ hr).mono ?_
 rintro e w' ⟨rfl,lo',g1,g2⟩
 exact FX.step h1 h2 h3 h4 h5 h6 h7 h8 g1 g2 _
theorem v_nodes [Inhabited CapT](h:FX w0 O fdb vb tb fb sb pb mb ns c N S w):Calls Tryz.prog 30 #[.pointer(some⟨vb,0,none⟩)]w fun e w' => e= .returned(.pointer(some⟨tb,0,none⟩))∧w=w' :=d_nodes h.dv
theorem v_store [Inhabited CapT](h:FX w0 O fdb vb tb fb sb pb mb ns c N S w):Calls Tryz.prog 141 #[.pointer(some⟨vb,0,none⟩)]w fun e w' => e= .returned(.pointer(some⟨sb,0,none⟩))∧w=w' :=d_store h.dv
theorem v_size [Inhabited CapT](h:FX w0 O fdb vb tb fb sb pb mb ns c N S w)(id:Int)(hw:(Lit.int .i64 id).wf=true)(r1 r2:Int)(hr:sizeV(filesOf ns)id=(r1,r2)):Calls Tryz.prog 142 #[.pointer(some⟨sb,0,none⟩),.int .i64 id]w fun e w' => e= .returned(.tuple #[.int .i64 r1,.int .i64 r2])∧w=w' :=d_size h.dv id hw r1 r2 hr
theorem v_cl [Inhabited CapT](h:FX w0 O fdb vb tb fb sb pb mb ns c N S w)(hc:c≤9000)(id:Int)(r:Int)(ns' :NSt)(hr:closeF ns id=(r,ns')):
  Calls Tryz.prog 82 #[.pointer(some⟨tb,0,none⟩),.int .i64 id]w(FP w0 O fdb vb tb fb sb pb mb ns' (c+1)N S w(.int .i64 r)):=by
 obtain⟨lo,h1,h2,h3,h4,h5,h6,h7,h8⟩:=h
 have hiv:=closeF_iv h1.2 id
 rw [hr]at hiv
 refine(close_f h1.1.2.1 h1.2(by omega)id r _ hr).mono ?_
 rintro e w' ⟨rfl,lo',hT,hF⟩
 exact FX.step h1 h2 h3 h4 h5 h6 h7 h8⟨(h1.1.step hT hF).le(by omega),hiv⟩hF _
def FRead(w:World)(ys:List Int)(er:Int)(e:Ending)(w' :World):Prop:=∃a cp b,e= .returned(.tuple #[.slice a ys.length cp,.int .i64 er])∧RowV w' 5(.slice a ys.length cp)(ucells ys)b∧(∀g,b=some g→w.heap.size≤g)∧Below w.heap.size w w'
theorem v_read [Inhabited CapT](h:FX w0 O fdb vb tb fb sb pb mb ns c N S w)(id:Int)(hw:(Lit.int .i64 id).wf=true)(off n:Int)(hoff:off≤9223372036854775807)(hn:n≤9223372036854775807)(ys:List Int)(er:Int)(hr:readV(filesOf ns)id off n=(ys,er)):
  Calls Tryz.prog 189 #[.pointer(some⟨sb,0,none⟩),.int .i64 id,.int .i64 off,.int .i64 n]w(FRead w ys er):=by
 obtain⟨lo,h1,h2,h3,h4,h5,h6,h7,h8⟩:=h
 refine(s_read h1.1.2.1.sto sb h6 id hw off n hoff hn ys er hr).mono ?_
 rintro e w' ⟨v,b,rfl,k1,k2,hB⟩
 obtain⟨a,cp,rfl,-,-⟩:=k1.slice
 rw [show(ucells ys).length=ys.length from List.length_map _]at*
 exact⟨a,cp,b,rfl,k1,k2,hB⟩
def SrcF(O:Nat→Prop)(w:World)(v:Value)(b:List Int):Prop:=∃a c,v= .slice a b.length c∧b.length≤c∧(0 < b.length→∃g q,a=some⟨g,q,none⟩∧RdV w(some⟨g,q,none⟩)(ucells b)∧¬O g∧g < w.heap.size)
theorem v_write [Inhabited CapT](h:FX w0 O fdb vb tb fb sb pb mb ns c N S w)(id:Int)(hw:(Lit.int .i64 id).wf=true)(off:Int)(b:List Int)(hb6:b.length≤1000000)(v:Value)(hv:SrcF O w v b)(r:Int)(ns' :NSt)(hr:wrF ns capN id off b=(r,ns')):
  Calls Tryz.prog 143 #[.pointer(some⟨sb,0,none⟩),.int .i64 id,.int .i64 off,v]w(FP w0 O fdb vb tb fb sb pb mb ns' c N S w(.int .i64 r)):=by
 obtain⟨lo,h1,h2,h3,h4,h5,h6,h7,h8⟩:=h
 obtain⟨g1,g2⟩:=wrF_is ns capN id off b
 rw [hr]at g1 g2
 have hsrc:SrcB w(soOf lo)v b:=by
  obtain⟨a,cc,rfl,k1,k2⟩:=hv
  refine⟨a,cc,rfl,k1,fun hp=> ?_⟩
  obtain⟨g,q,rfl,k3,k4,k5⟩:=k2 hp
  exact⟨g,q,rfl,k3,fun r k hk e=> k4(e▸h4 _ _ hk),k5⟩
 refine(s_write h1.1.2.1.sto sb h6 id hw off b hb6 v hsrc r _ g1).mono ?_
 rintro e w' ⟨rfl,so,hS,hF,hs1,hs2⟩
 have hT:=h1.1.2.1.store hS hF hs1 g2.cond.1 g2.cond.2
 have hTF:TFr lo(loSt lo so)w w' :=by
  refine⟨hF.1.mono(fun k _⟨q,hq⟩=> ⟨.st q,hq⟩),fun r k hk=> ?_,hs1,hs2⟩
  rcases loSt_old hk with⟨q,rfl,e⟩ | ⟨e,_⟩
  ·rcases hF.2 q k e with⟨q',e⟩ | e
   ·exact Or.inl⟨.st q',e⟩
   ·exact Or.inr e
  ·exact Or.inl⟨r,e⟩
 exact FX.step h1 h2 h3 h4 h5 h6 h7 h8⟨h1.1.step hT hTF,g2.iv h1.2⟩hTF _
end
end Go.Proofs.YtjpjafajploiaaaGreatDoor
