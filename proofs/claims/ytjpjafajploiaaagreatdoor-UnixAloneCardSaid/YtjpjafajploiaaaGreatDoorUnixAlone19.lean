/-
  Descriptors: process, get, Start, free.
-/
import Derived.Test.YtjpjafajploiaaaGreatDoorUnixAlone18
import Derived.Test.YtjpjafajploiaaaGreatDoorUnixAlone03
import Derived.Test.YtjpjafajploiaaaGreatDoorUnixAlone02
import Derived.Test.YtjpjafajploiaaaGreatDoorUnixAlone10
set_option linter.unusedSimpArgs false
set_option linter.unusedVariables false
namespace Go.Proofs.YtjpjafajploiaaaGreatDoor
open Go.RowKit Own RegJ Two
open Go.Lib hiding intOf
theorem zero_tab(w:World):(zeroValue 132).run Tryz.prog w= .ok(.pointer none)w:=by kernel_rfl
theorem dn(w:World)(q:Nat):Below w.heap.size w(w.drewN q):=((Upd.refl(fun _=> False)w).drewN q).below(Nat.le_refl _)(fun _ h=> h.elim)
def procR(S:FS)(pid:Int):Int:=match S.pr pid with | some _=> 0 | none=> 4
section
variable {w w' :World} {fdb vb pb mb N:Nat} {S:FS}
theorem FdB.look(h:FdB w fdb vb pb mb N S)(pid:Int)(hw:(Lit.int .i64 pid).wf=true):(Instr.lookup 152(.map(some mb))(.int .i64 pid)false).run Tryz.prog w= .ok(ptb(S.pr pid))w:=by
 obtain⟨n,s,hm,_⟩:=h.m
 have hl:=hm.look Tryz.underlying3 Tryz.underlying152(zero_tab w)pid hw
 rw [hl]
 cases S.pr pid <;> rfl
set_option maxRecDepth 100000 in
theorem k_proc(h:FdB w fdb vb pb mb N S)(pid:Int)(hw:(Lit.int .i64 pid).wf=true)(p:Option Nat)(hp:S.pr pid=p)(r:Int)(hr:procR S pid=r):
  Calls Tryz.prog 67 #[.pointer(some⟨fdb,0,none⟩),.int .i64 pid]w fun e w' => e= .returned(.tuple #[ptb p,.int .i64 r])∧w=w' :=by
 have hl:=h.look pid hw
 have c2:=h.f.rd 2
 unfold procR at hr
 rw [hp]at hl hr
 clear h hp hw
 cases p with
 | none=>
  obtain rfl:4=r:=hr
  simp only [ptb,Option.map]at hl ⊢
  go_enter Tryz.func67,Tryz.ntmps67
  go_wp2_with(fail)
  go_ret2
  exact⟨rfl,rfl⟩
 | some b=>
  obtain rfl:0=r:=hr
  simp only [ptb,Option.map]at hl ⊢
  go_enter Tryz.func67,Tryz.ntmps67
  go_wp2_with(fail)
  go_ret2
  exact⟨rfl,rfl⟩
set_option maxRecDepth 100000 in
theorem k_get(h:FdB w fdb vb pb mb N S)(pid:Int)(hw:(Lit.int .i64 pid).wf=true)(b:Nat)(hb:S.pr pid=some b)(d x:Nat)(hd:d < 8)(hx:S.sl b d=some x):
  Calls Tryz.prog 80 #[.pointer(some⟨fdb,0,none⟩),.int .i64 pid,.int .i64 d]w fun e w' => e= .returned(.tuple #[.pointer(some⟨x,0,none⟩),.int .i64 0])∧w=w' :=by
 have hp:=k_proc h pid hw(some b)hb 0(by unfold procR;rw [hb])
 have c0:w.cell? ⟨b,d,none⟩=some(.pointer(some⟨x,0,none⟩)):=by rw [h.slot hb hd,hx];rfl
 have d1:decide((d:Int) < 0)=false:=decide_eq_false(by omega)
 have d2:decide((d:Int)≥8)=false:=by simp;omega
 have i1:(d:Int) < 8:=by omega
 have i2:(0:Int)≤d:=by omega
 clear h hb hx
 simp only [ptb,Option.map]at hp
 go_enter Tryz.func80,Tryz.ntmps80
 go_wp2_with(go_at_call 67;refine hp.mono ?_;rintro e w1⟨rfl,rfl⟩)
 go_ret2
 exact⟨rfl,rfl⟩
set_option maxRecDepth 100000 in
theorem k_getno(h:FdB w fdb vb pb mb N S)(pid:Int)(hw:(Lit.int .i64 pid).wf=true)(b:Nat)(hb:S.pr pid=some b)(d:Nat)(hd:d < 8)(hx:S.sl b d=none):
  Calls Tryz.prog 80 #[.pointer(some⟨fdb,0,none⟩),.int .i64 pid,.int .i64 d]w fun e w' => e= .returned(.tuple #[.pointer none,.int .i64 8])∧w=w' :=by
 have hp:=k_proc h pid hw(some b)hb 0(by unfold procR;rw [hb])
 have c0:w.cell? ⟨b,d,none⟩=some(.pointer none):=by rw [h.slot hb hd,hx];rfl
 have d1:decide((d:Int) < 0)=false:=decide_eq_false(by omega)
 have d2:decide((d:Int)≥8)=false:=by simp;omega
 have i1:(d:Int) < 8:=by omega
 have i2:(0:Int)≤d:=by omega
 clear h hb hx
 simp only [ptb,Option.map]at hp
 go_enter Tryz.func80,Tryz.ntmps80
 go_wp2_with(go_at_call 67;refine hp.mono ?_;rintro e w1⟨rfl,rfl⟩)
 go_ret2
 exact⟨rfl,rfl⟩
def freeL(f:Nat→Option Nat):Nat→List Int
 | 0=> []
 | i+1=> freeL f i++(if(f i).isNone then [(i:Int)]else [])
theorem freeL_len(f:Nat→Option Nat):∀i,(freeL f i).length≤i
 | 0=> Nat.le_refl _
 | i+1=> by
  have:=freeL_len f i
  unfold freeL
  rw [List.length_append]
  split <;> simp <;> omega
theorem freeL_least(f:Nat→Option Nat)(d:Nat)(hd:f d=none)(hl:∀k,k < d→f k≠none):∀i,d < i→∃r,freeL f i=(d:Int)::r:=by
 have h0:∀i,i≤d→freeL f i= []:=by
  intro i
  induction i with
  | zero=> intro _;rfl
  | succ i ih=>
   intro h
   unfold freeL
   rw [ih(by omega)]
   have:=hl i(by omega)
   cases hf:f i with
   | none=> exact absurd hf this
   | some _=> rfl
 intro i
 induction i with
 | zero=> intro h;omega
 | succ i ih=>
  intro h
  unfold freeL
  by_cases hi:d < i
  ·obtain⟨r,hr⟩:=ih hi
   rw [hr]
   exact⟨_,rfl⟩
  ·obtain rfl:d=i:=by omega
   rw [h0 d(Nat.le_refl _),hd]
   exact⟨[],rfl⟩
theorem freeL_none(f:Nat→Option Nat)(hl:∀k,k < 8→f k≠none):∀i,i≤8→freeL f i= []
 | 0,_=> rfl
 | i+1,h=> by
  unfold freeL
  rw [freeL_none f hl i(by omega)]
  cases hf:f i with
  | none=> exact absurd hf(hl i(by omega))
  | some _=> rfl
def FreeP(w:World)(ys:List Int)(e:Ending)(w' :World):Prop:=∃a c b,e= .returned(.tuple #[.slice a ys.length c,.int .i64 0])∧RowV w' 3(.slice a ys.length c)(icells ys)b∧(∀g,b=some g→w.heap.size≤g)∧Below w.heap.size w w'
set_option maxRecDepth 100000 in
set_option maxHeartbeats 2000000 in
theorem k_free(h:FdB w fdb vb pb mb N S)(pid:Int)(hw:(Lit.int .i64 pid).wf=true)(b:Nat)(hb:S.pr pid=some b)(n:Nat)(v:Value)(r:Int)(P:Ending→World→Prop)
  (hyes:n≤(freeL(S.sl b)8).length→∀e w',FreeP w(freeL(S.sl b)8)e w' →P e w')
  (hno:(freeL(S.sl b)8).length < n→∀w',Below w.heap.size w w' →P(.returned(.tuple #[.slice none 0 0,.int .i64 14]))w'):
  Calls Tryz.prog 78 #[.pointer(some⟨fdb,0,none⟩),.int .i64 pid,.int .i64 n]w P:=by
 have hp:=k_proc h pid hw(some b)hb 0(by unfold procR;rw [hb])
 have hs:=fun d hd=> h.slot hb(d:=d)hd
 have hlt:=(h.t pid b hb).lt
 have HE:=Lib.hid(And.intro hs(And.intro hlt(And.intro hyes hno)))
 have HL:=Lib.hid(freeL_len(S.sl b))
 clear h hb hs hlt hyes hno
 simp only [ptb,Option.map]at hp
 go_enter Tryz.func78,Tryz.ntmps78
 go_wp2_with(go_at_call 67;refine hp.mono ?_;rintro e w1⟨rfl,rfl⟩)
 go_loopw [10,23](fun v10 ix wr=> ∃i:Nat,i≤8∧ix= .int .i64 i∧∃a m c,v10= .slice a m c∧Hid(∃g,RowV wr 3(.slice a m c)(icells(freeL(S.sl b)i))g∧(∀k,g=some k→w.heap.size≤k)∧Below w.heap.size w wr))(fun _ ix _=> 8 - (intOf ix).toNat)
 case atStart=> exact⟨0,Nat.zero_le _,rfl,none,0,0,rfl,Lib.hid⟨none,.inl⟨rfl,rfl,rfl⟩,fun k hk=> (by cases hk),Below.refl _ _⟩⟩
 case round=>
  obtain⟨i,hi,rfl,a,m,c,rfl,H⟩:=hrel
  obtain⟨gr,hR,hgr,hBl⟩:=H.out
  have hm:m=(freeL(S.sl b)i).length:=by
   obtain⟨a',c',hv,_⟩:=hR.slice
   simp only [Value.slice.injEq,List.length_map]at hv
   exact hv.2.1
  have hml:=HL.out i
  by_cases hil:i < 8
  ·have d1:decide((i:Int) < 8)=true:=by simp;omega
   have i1:(i:Int) < 8:=by omega
   have i2:(0:Int)≤i:=by omega
   have c0:wr.cell? ⟨b,i,none⟩=some(ptb(S.sl b i)):=(hBl.cell(p:=⟨b,i,none⟩)HE.out.2.1).trans(HE.out.1 i hil)
   cases hx:S.sl b i with
   | some x=>
    have HX:=Lib.hid(show freeL(S.sl b)(i+1)=freeL(S.sl b)i by show freeL(S.sl b)i++(if(S.sl b i).isNone then [(i:Int)]else [])=_;rw [hx];simp)
    rw [hx]at c0
    simp only [ptb,Option.map]at c0
    clear hx hR hgr hBl hm
    go_wp2_with(fail)
    go_quiet(fail)
    go_wp2_with(fail)
    go_roundw
    case rel=> exact⟨i+1,by omega,by go_num,a,m,c,rfl,Lib.hid(by rw [HX.out];obtain⟨g,h1,h2,h3⟩:=H.out;exact⟨g,h1.below(dn _ _),h2,h3.trans(((dn _ _)).mono h3.size)⟩)⟩
    case measure=> simp [intOf];omega
   | none=>
    have HX:=Lib.hid(show freeL(S.sl b)(i+1)=freeL(S.sl b)i++ [(i:Int)]by show freeL(S.sl b)i++(if(S.sl b i).isNone then [(i:Int)]else [])=_;rw [hx];simp)
    rw [hx]at c0
    simp only [ptb,Option.map]at c0
    have HK:=Lib.hid(fun q=> hR.below((dn wr q).trans((Below.refl _ _).alloc(by simp)(.cells #[.int .i64(i:Int)]3))))
    have HM:=Lib.hid(And.intro hgr(And.intro hBl hm))
    clear hx hR hgr hBl hm
    go_wp2_with(fail)
    go_quiet(fail)
    go_wp2_with(at_builtin;refine wp_appV rfl _ _ 59 3(.int .i64 0)8(by kernel_rfl)rfl(by decide)Tryz.underlying59 rfl(.slice a m c)(icells(freeL(S.sl b)i))gr rfl(HK.out _)(some⟨wr.heap.size,0,none⟩)1 1 [.int .i64 i]rfl rfl(fun _=> ⟨_,rfl,new_cell(wr.drewN _)(.int .i64 i)3⟩)(fun u hu=> by(simp at hu;subst hu;rfl))(by simp;omega) ?_;intro v' w4 row' hI hrow' hu4;obtain⟨a2,c2,rfl,-,-⟩:=hI.slice;have H4:=Lib.hid(And.intro hI(And.intro hrow' hu4));clear hI hrow' hu4)
    go_roundw
    case rel=>
     refine⟨i+1,by omega,by go_num,a2,_,c2,rfl,Lib.hid ?_⟩
     rw [HX.out,show icells(freeL(S.sl b)i++ [(i:Int)])=icells(freeL(S.sl b)i)++ [Value.int .i64 i]by simp [icells]]
     have hB5:=HM.out.2.1.trans((dn wr nq).mono HM.out.2.1.size)
     refine⟨row',by rw [show(freeL(S.sl b)i).length+1=(icells(freeL(S.sl b)i)++ [Value.int .i64 i]).length by simp];exact H4.out.1,fun k hk=> ?_,?_⟩
     ·rcases H4.out.2.1 k hk with h1 | h1
      ·exact HM.out.1 k h1
      ·have h2:=HM.out.2.1.size
       simp at h1
       omega
     ·have h6:=(hB5.alloc hB5.size(.cells #[.int .i64(i:Int)]3))
      exact h6.trans(H4.out.2.2.below h6.size(fun k hk=> HM.out.1 k hk))
    case measure=> simp [intOf];omega
  ·have hi8:i=8:=by omega
   have d1:decide((i:Int) < 8)=false:=by simp;omega
   have d0:decide(i < 8)=false:=by simp;omega
   rw [hi8]at hm hR
   by_cases hn:n≤m
   ·have d2:decide((m:Int) < (n:Int))=false:=by simp;omega
    have d3:decide(m < n)=false:=by simp;omega
    have HF:=Lib.hid(And.intro(HE.out.2.2.1(hm▸hn))(And.intro hR(And.intro hBl(And.intro hm hgr))))
    clear hR hgr hBl hn hi8 hm hil hi
    go_wp2_with(fail)
    show P(.returned(.tuple #[.slice a m c,.int .i64 0]))wr
    refine HF.out.1 _ _⟨a,c,gr,?_,?_,HF.out.2.2.2.2,HF.out.2.2.1⟩
    ·rw [←HF.out.2.2.2.1]
    ·rw [←HF.out.2.2.2.1];exact HF.out.2.1
   ·have d2:decide((m:Int) < (n:Int))=true:=by simp;omega
    have d3:(m:Int) < (n:Int):=by omega
    have HF:=Lib.hid(And.intro(HE.out.2.2.2(by omega))hBl)
    clear hR hgr hBl hn hi8 hm hil hi
    go_wp2_with(fail)
    show P(.returned(.tuple #[.slice none 0 0,.int .i64 14]))wr
    exact HF.out.1 _ HF.out.2
end
def FS.start(S:FS)(pid:Int)(b:Nat):FS:=⟨fun i=> if i=pid then some b else S.pr i,upN S.sl b(fun _=> none),S.th⟩
theorem MapI.ne_blk {P:Program} {k:TypeId} {w:World} {b n s:Nat} {m:Int→Option Value}(h:MapI w P k b n s m) {g:Nat} {cs:Array Value} {T:TypeId}(hB:Blk w g cs T):g≠b:=by
 obtain⟨D,⟨es,clock,hb,_⟩,_⟩:=h
 intro e
 subst e
 unfold Blk at hB
 rw [hB]at hb
 cases hb
theorem FdB.start {w w1 w2:World} {fdb vb pb mb N:Nat} {S:FS}(h:FdB w fdb vb pb mb N S)(pid:Int)(hp:S.pr pid=none)(hB:Below w.heap.size w w1)(b:Nat)(ht:Blk w1 b(slC fun _=> none)164)(hb:w.heap.size≤b)(n s:Nat)
  (hm:MapI w2 Tryz.prog 3 mb(n+1)s(mput(fun i=> (S.pr i).map fun b=> .pointer(some⟨b,0,none⟩))pid(.pointer(some⟨b,0,none⟩))))(hn:n≤N)(hu:Upd(fun k=> k=mb)w1 w2):FdB w2 fdb vb pb mb(N+1)(S.start pid b):=by
 obtain⟨n0,s0,hm0,_⟩:=h.m
 have hmb:=hm0.lt
 have h1:=h.below hB
 have keep:∀g cs T,Blk w g cs T→Blk w2 g cs T:=fun g cs T hg=> Blk.upd hu(Blk.below hB hg hg.lt)(hm0.ne_blk hg)
 have old:∀i b',S.pr i=some b' →b' ≠b:=fun i b' hi=> by have:=(h.t i b' hi).lt;omega
 refine⟨keep _ _ _ h.f,⟨n+1,s,?_,by omega⟩,fun i b' hi=> ?_,fun x t hx=> keep _ _ _(h.x x t hx),fun i b' hi d x hd hx=> ?_,fun i j b' hi hj=> ?_⟩
 ·have e:(mput(fun i=> (S.pr i).map fun b=> (.pointer(some⟨b,0,none⟩):Value))pid(.pointer(some⟨b,0,none⟩)))=(fun i=> ((S.start pid b).pr i).map fun b=> .pointer(some⟨b,0,none⟩)):=by
   funext i
   unfold mput FS.start
   simp only
   split <;> rfl
  rw [←e];exact hm
 ·unfold FS.start at hi ⊢
  simp only at hi ⊢
  split at hi
  ·cases hi
   rw [upN_eq]
   exact Blk.upd hu ht(by omega)
  ·rw [upN_ne _ _(old i b' hi)]
   exact keep _ _ _(h.t i b' hi)
 ·unfold FS.start at hi hx ⊢
  simp only at hi hx ⊢
  split at hi
  ·cases hi
   rw [upN_eq]at hx
   cases hx
  ·rw [upN_ne _ _(old i b' hi)]at hx
   exact h.r i b' hi d x hd hx
 ·unfold FS.start at hi hj
  simp only at hi hj
  split at hi
  ·cases hi
   split at hj
   ·rename_i e1 e2;rw [e1,e2]
   ·exact absurd rfl(old j _ hj)
  ·split at hj
   ·cases hj;exact absurd rfl(old i _ hi)
   ·exact h.j i j b' hi hj
section
variable {w0 w w' :World} {O:Nat→Prop} {fdb vb tb fb sb pb mb:Nat} {ns:NSt} {c N:Nat} {S:FS}
set_option maxRecDepth 100000 in
theorem k_start [Inhabited CapT](h:FX w0 O fdb vb tb fb sb pb mb ns c N S w)(hN:N≤100000)(pid:Int)(hw:(Lit.int .i64 pid).wf=true)(h0:0≤pid)(hp:S.pr pid=none):
  Calls Tryz.prog 39 #[.pointer(some⟨fdb,0,none⟩),.int .i64 pid]w fun e w' => ∃b,w.heap.size≤b∧FP w0 O fdb vb tb fb sb pb mb ns c(N+1)(S.start pid b)w(.int .i64 0)e w' :=by
 have hf:=h.fd
 have hl:=hf.look pid hw
 rw [hp]at hl
 simp only [ptb,Option.map]at hl
 have c2:=hf.f.rd 2
 have d1:decide(pid < 0)=false:=decide_eq_false(by omega)
 obtain⟨n,s,hm,hn⟩:=hf.m
 have hal:Below w.heap.size w(w.alloc(.cells(slC fun _=> none)164)):=(Below.refl _ _).alloc(Nat.le_refl _)_
 have hm1:MapI(w.alloc(.cells(slC fun _=> none)164))Tryz.prog 3 mb n s(fun i=> (S.pr i).map fun b=> .pointer(some⟨b,0,none⟩)):=hm.upd(Upd.of_below(F:=fun _=> False)hal)(fun h=> h)
 have key:∀w2,MapI w2 Tryz.prog 3 mb(n+1)(if((S.pr pid).map fun b=> (.pointer(some⟨b,0,none⟩):Value)).isSome then s else s+1)(mput(fun i=> (S.pr i).map fun b=> .pointer(some⟨b,0,none⟩))pid(.pointer(some⟨w.heap.size,0,none⟩)))→Upd(fun k=> k=mb)(w.alloc(.cells(slC fun _=> none)164))w2→FP w0 O fdb vb tb fb sb pb mb ns c(N+1)(S.start pid w.heap.size)w(.int .i64 0)(.returned(.int .i64 0))w2:=by
  intro w2 hm2 hu2
  have hB2:=hf.start pid hp hal w.heap.size(Blk.new w _ _)(Nat.le_refl _)n _ hm2 hn hu2
  have hu:Upd(Ow fdb mb S)w w2:=(Upd.of_below(F:=Ow fdb mb S)hal).trans hu2(fun i _ hi=> .inr(.inl hi))
  obtain⟨k1,k2⟩:=h.own hu hB2(fun k hk=> by
   rcases hk with rfl | rfl | ⟨i,hi⟩ | hx
   ·exact .inl(.inl rfl)
   ·exact .inl(.inr(.inl rfl))
   ·unfold FS.start at hi
    simp only at hi
    split at hi
    ·cases hi;exact .inr(Nat.le_refl _)
    ·exact .inl(.inr(.inr(.inl⟨i,hi⟩)))
   ·exact .inl(.inr(.inr(.inr hx))))
  exact⟨rfl,k1,_,k2,fun k hk=> hk.imp id(·.1)⟩
 have HK:=Lib.hid(And.intro key(And.intro hm1(And.intro hn hw)))
 clear h hf hm hn key hm1 hal hp
 go_enter Tryz.func39,Tryz.ntmps39
 go_wp2_with(refine wp_mapput _ rfl(.tmp 22)(.tmp 23)(.tmp 25)152 rfl 3 132 Tryz.underlying3 Tryz.underlying152 mb n s _ rfl HK.out.2.1(by have:=HK.out.2.2.1;unfold maxLen;omega)pid HK.out.2.2.2 _ rfl rfl ?_;intro w2 hm2 hu2;have H2:=Lib.hid(HK.out.1 w2 hm2 hu2);clear hm2 hu2)
 go_ret
 exact⟨w.heap.size,Nat.le_refl _,H2.out⟩
end
end Go.Proofs.YtjpjafajploiaaaGreatDoor
namespace Go.Proofs.YtjpjafajploiaaaGreatDoor
open Go.RowKit Own RegJ
def edgeB(md:Region.Mode)(ops:Array Oper)(j i:Nat):Bool:=match ops[j]? with
 | some o=> o.after.any fun e=> Region.binds md e && e.on==i
 | none=> false
def routeB(md:Region.Mode)(ops:Array Oper):Nat→List Nat→Bool
 | _,[]=> true
 | j,i::r=> edgeB md ops j i && routeB md ops i r
theorem path_up {md:Region.Mode} {ops:Array Oper} {f:Nat→Bool}(h:RegF.Closed md ops f):∀(l:List Nat)(j:Nat),routeB md ops j l=true→f j=true→∀i∈l,f i=true
 | [],_,_,_,i,hi=> by cases hi
 | k::r,j,hp,hf,i,hi=> by
  simp only [routeB,Bool.and_eq_true]at hp
  have hk:f k=true:=by
   have he:=hp.1
   unfold edgeB at he
   split at he
   ·rename_i o ho;exact h.step j k ho he hf
   ·cases he
  rw [List.mem_cons]at hi
  rcases hi with rfl | hi
  ·exact hk
  ·exact path_up h r k hp.2 hk i hi
theorem path_no {md:Region.Mode} {ops:Array Oper} {f:Nat→Bool}(h:RegF.Closed md ops f) {j k:Nat}(l:List Nat)(hp:routeB md ops j l=true)(hk:l.contains k=true)(hf:f k=false):f j=false:=by
 cases hj:f j with
 | false=> rfl
 | true=> rw [path_up h l j hp hj k(by simpa using hk)]at hf;cases hf
def Stg(W WA WC WS:World)(a c s:Bool)(w:World):Prop:=w=if s then WS else if c then WC else if a then WA else W
def KJ(A C S:Nat)(md:Region.Mode)(ops:Array Oper)(W WA WC WS:World)(f:Nat→Bool)(w:World):Prop:=RegF.Closed md ops f∧Stg W WA WC WS(f A)(f C)(f S)w
section
variable {A C S k:Nat} {md:Region.Mode} {ops:Array Oper} {W WA WC WS w:World} {f:Nat→Bool} {o:Oper}
theorem KJ.start(md:Region.Mode)(ops:Array Oper)(A C S:Nat)(hw:w=W):KJ A C S md ops W WA WC WS(fun _=> false)w:=⟨fun k o ho h=> (by cases h),hw⟩
theorem KJ.other(h:KJ A C S md ops W WA WC WS f w)(ho:ops[k]? =some o)(hf:Up md k o f)(h1:k≠A)(h2:k≠C)(h3:k≠S):KJ A C S md ops W WA WC WS(fset f k)w:=by
 refine⟨RegF.Closed.fset ho⟨hf,h.1⟩,?_⟩
 rw [fset_ne h1,fset_ne h2,fset_ne h3];exact h.2
theorem KJ.atA(h:KJ A C S md ops W WA WC WS f w)(hA:f A=false)(hC:f C=false)(hS:f S=false):w=W:=by have:=h.2;rw [hA,hC,hS]at this;exact this
theorem KJ.atC(h:KJ A C S md ops W WA WC WS f w)(hA:f A=true)(hC:f C=false)(hS:f S=false):w=WA:=by have:=h.2;rw [hA,hC,hS]at this;exact this
theorem KJ.fin(h:KJ A C S md ops W WA WC WS f w)(hS:f S=true):w=WS:=by have:=h.2;rw [hS]at this;exact this
theorem KJ.goA(h:KJ A C S md ops W WA WC WS f w)(ho:ops[A]? =some o)(hf:Up md A o f)(hC:f C=false)(hS:f S=false)(h1:A≠C)(h2:A≠S):KJ A C S md ops W WA WC WS(fset f A)WA:=by
 refine⟨RegF.Closed.fset ho⟨hf,h.1⟩,?_⟩
 rw [fset_eq,fset_ne h1,fset_ne h2,hC,hS];rfl
theorem KJ.goS(h:KJ A C S md ops W WA WC WS f w)(ho:ops[S]? =some o)(hf:Up md S o f):KJ A C S md ops W WA WC WS(fset f S)WS:=by
 refine⟨RegF.Closed.fset ho⟨hf,h.1⟩,?_⟩
 rw [fset_eq];rfl
theorem KJ.pre {F:World→Prop}(h:KJ A C S md ops W WA WC WS f w)(hS:f S=false)(h1:F W)(h2:F WA)(h3:F WC):F w:=by
 have:=h.2
 rw [hS]at this
 unfold Stg at this
 rw [this]
 cases f C <;> cases f A <;> assumption
end
theorem region_K {P:Program} {id:Nat} {Q:Exit→Act→World→Prop} {a:Act} {w:World} {l:List Oper}(A C S:Nat)(W WA WC WS:World)(hW:w.drew=W)(hm:P.follows .mixedOrders=true)(hB:Region.lexB .any l.toArray=true)
  (h:wpJ P .any l.toArray(KJ A C S .any l.toArray W WA WC WS)a.tmps.size(fun s a' => ∀w',KJ A C S .any l.toArray W WA WC WS(flags s)w' →Q .normal a' w')0 l(Array.replicate l.length false)a):(Code.region id l.toArray true).wp P Q a w:=
 region_J(KJ A C S .any l.toArray W WA WC WS)hm hB(KJ.start _ _ _ _ _ hW)h
theorem KJ.pre2 {A S:Nat} {md:Region.Mode} {ops:Array Oper} {W WA WC WS w:World} {f:Nat→Bool} {F:World→Prop}(h:KJ A S S md ops W WA WC WS f w)(hS:f S=false)(h1:F W)(h2:F WA):F w:=by
 have:=h.2
 rw [hS]at this
 unfold Stg at this
 rw [this]
 cases f A <;> assumption
def SJ(S:Nat)(md:Region.Mode)(ops:Array Oper)(W WS:World)(f:Nat→Bool)(w:World):Prop:=RegF.Closed md ops f∧w=if f S then WS else W
section
variable {S k:Nat} {md:Region.Mode} {ops:Array Oper} {W WS w:World} {f:Nat→Bool} {o:Oper}
theorem SJ.other(h:SJ S md ops W WS f w)(ho:ops[k]? =some o)(hf:Up md k o f)(h3:k≠S):SJ S md ops W WS(fset f k)w:=by
 refine⟨RegF.Closed.fset ho⟨hf,h.1⟩,?_⟩
 rw [fset_ne h3];exact h.2
theorem SJ.atS(h:SJ S md ops W WS f w)(hS:f S=false):w=W:=by have:=h.2;rw [hS]at this;exact this
theorem SJ.fin(h:SJ S md ops W WS f w)(hS:f S=true):w=WS:=by have:=h.2;rw [hS]at this;exact this
theorem SJ.goS(h:SJ S md ops W WS f w)(ho:ops[S]? =some o)(hf:Up md S o f):SJ S md ops W WS(fset f S)WS:=by
 refine⟨RegF.Closed.fset ho⟨hf,h.1⟩,?_⟩
 rw [fset_eq];rfl
end
theorem region_S {P:Program} {id:Nat} {Q:Exit→Act→World→Prop} {a:Act} {w:World} {l:List Oper}(S:Nat)(W WS:World)(hW:w.drew=W)(hm:P.follows .mixedOrders=true)(hB:Region.lexB .any l.toArray=true)
  (h:wpJ P .any l.toArray(SJ S .any l.toArray W WS)a.tmps.size(fun s a' => ∀w',SJ S .any l.toArray W WS(flags s)w' →Q .normal a' w')0 l(Array.replicate l.length false)a):(Code.region id l.toArray true).wp P Q a w:=
 region_J(SJ S .any l.toArray W WS)hm hB⟨fun k o ho h=> (by cases h),hW⟩h
def CJ(C:Nat)(md:Region.Mode)(ops:Array Oper)(W:World)(Q:World→Prop)(f:Nat→Bool)(w:World):Prop:=RegF.Closed md ops f∧if f C then Q w else w=W
section
variable {C k:Nat} {md:Region.Mode} {ops:Array Oper} {W w w' :World} {Q:World→Prop} {f:Nat→Bool} {o:Oper}
theorem CJ.other(h:CJ C md ops W Q f w)(ho:ops[k]? =some o)(hf:Up md k o f)(h3:k≠C):CJ C md ops W Q(fset f k)w:=by
 refine⟨RegF.Closed.fset ho⟨hf,h.1⟩,?_⟩
 rw [fset_ne h3];exact h.2
theorem CJ.atC(h:CJ C md ops W Q f w)(hC:f C=false):w=W:=by have:=h.2;rw [hC]at this;exact this
theorem CJ.fin(h:CJ C md ops W Q f w)(hC:f C=true):Q w:=by have:=h.2;rw [hC]at this;exact this
theorem CJ.goC(h:CJ C md ops W Q f w)(ho:ops[C]? =some o)(hf:Up md C o f)(hq:Q w'):CJ C md ops W Q(fset f C)w' :=by
 refine⟨RegF.Closed.fset ho⟨hf,h.1⟩,?_⟩
 rw [fset_eq];exact hq
end
theorem region_C {P:Program} {id:Nat} {Q' :Exit→Act→World→Prop} {a:Act} {w:World} {l:List Oper}(C:Nat)(W:World)(Q:World→Prop)(hW:w.drew=W)(hm:P.follows .mixedOrders=true)(hB:Region.lexB .any l.toArray=true)
  (h:wpJ P .any l.toArray(CJ C .any l.toArray W Q)a.tmps.size(fun s a' => ∀w',CJ C .any l.toArray W Q(flags s)w' →Q' .normal a' w')0 l(Array.replicate l.length false)a):(Code.region id l.toArray true).wp P Q' a w:=
 region_J(CJ C .any l.toArray W Q)hm hB⟨fun k o ho h=> (by cases h),hW⟩h
def ChJ(N A C L:Nat)(md:Region.Mode)(ops:Array Oper)(W W1 WA WC:World)(R:World→Prop)(f:Nat→Bool)(w:World):Prop:=
 RegF.Closed md ops f∧(f L=true→R w)∧(f L=false→w=if f C=true then WC else if f A=true then WA else if f N=true then W1 else W)
section
variable {N A C L k:Nat} {md:Region.Mode} {ops:Array Oper} {W W1 WA WC w:World} {R:World→Prop} {f:Nat→Bool} {o:Oper}
theorem ChJ.other(h:ChJ N A C L md ops W W1 WA WC R f w)(ho:ops[k]? =some o)(hf:Up md k o f)(h1:k≠N)(h2:k≠A)(h3:k≠C)(h4:k≠L):ChJ N A C L md ops W W1 WA WC R(fset f k)w:=by
 refine⟨RegF.Closed.fset ho⟨hf,h.1⟩,?_⟩
 rw [fset_ne h1,fset_ne h2,fset_ne h3,fset_ne h4];exact h.2
theorem ChJ.fin(h:ChJ N A C L md ops W W1 WA WC R f w)(hL:f L=true):R w:=h.2.1 hL
theorem ChJ.pre {F:World→Prop}(h:ChJ N A C L md ops W W1 WA WC R f w)(hL:f L=false)(h1:F W)(h2:F W1)(h3:F WA)(h4:F WC):F w:=by
 have:=h.2.2 hL
 rw [this]
 cases f C <;> cases f A <;> cases f N <;> first | exact h1 | exact h2 | exact h3 | exact h4
end
end Go.Proofs.YtjpjafajploiaaaGreatDoor
