/-
  Descriptors with pipes: both made; Start, Copy, Close, Used, Leave beside pipes.
-/
import Derived.Test.YtjpjafajploiaaaGreatDoorUnixAlone29
import Derived.Test.YtjpjafajploiaaaGreatDoorUnixAlone28
import Derived.Test.YtjpjafajploiaaaGreatDoorUnixAlone21
import Derived.Test.YtjpjafajploiaaaGreatDoorUnixAlone22
set_option linter.unusedSimpArgs false
set_option linter.unusedVariables false
namespace Go.Proofs.YtjpjafajploiaaaGreatDoor
open Go.RowKit Own RegJ Two
open Go.Lib hiding intOf
section
variable {cap:Nat} {w0 w w1 w2 w' :World} {O O1:Nat→Prop} {fdb vb tb fb sb pb mb:Nat} {ns ns' :NSt} {c c' N N' M M' :Nat} {S S' :FS} {ps ps' :PS} {po:PRl→Option Nat} {fo:Nat→Nat}
theorem ex_start(h:EX cap w0 O fdb vb tb fb sb pb mb ns c N M S ps w)(hN:N≤100000)(pid:Int)(hw:(Lit.int .i64 pid).wf=true)(h0:0≤pid)(hp:S.pr pid=none):
  Calls Tryz.prog 39 #[.pointer(some⟨fdb,0,none⟩),.int .i64 pid]w fun e w' => ∃b,w.heap.size≤b∧EP cap w0 O fdb vb tb fb sb pb mb ns c(N+1)M(S.start pid b)ps w(.int .i64 0)e w' :=by
 obtain⟨po,fo,O1,h1,h2,h3,h4,h5,h6⟩:=h
 letI C:Inhabited CapT:=capP cap ps fo
 refine(k_start h1 hN pid hw h0 hp).mono ?_
 rintro e w' ⟨b,hb,hq⟩
 exact⟨b,hb,EX.lift h2 h3 h4 h5 h6 hq⟩
theorem ex_copy(h:EX cap w0 O fdb vb tb fb sb pb mb ns c N M S ps w)(hN:N≤100000)(pid q:Int)(hw:(Lit.int .i64 pid).wf=true)(hw2:(Lit.int .i64 q).wf=true)(h0:0≤q)(b:Nat)(hb:S.pr pid=some b)(hto:S.pr q=none)(hfew:Few S 100000):
  Calls Tryz.prog 56 #[.pointer(some⟨fdb,0,none⟩),.int .i64 pid,.int .i64 q]w fun e w' => ∃b2,w.heap.size≤b2∧EP cap w0 O fdb vb tb fb sb pb mb ns c(N+1)M((S.twin q b b2).bumps(S.sl b)8)ps w(.int .i64 0)e w' :=by
 obtain⟨po,fo,O1,h1,h2,h3,h4,h5,h6⟩:=h
 letI C:Inhabited CapT:=capP cap ps fo
 refine(k_copy h1 hN pid q hw hw2 h0 b hb hto hfew).mono ?_
 rintro e w' ⟨b,hb,hq⟩
 exact⟨b,hb,EX.lift h2 h3 h4 h5 h6 hq⟩
def FS.drop(S:FS)(pid:Int):FS:=⟨fun i=> if i=pid then none else S.pr i,S.sl,S.th⟩
theorem FdB.drop(h:FdB w fdb vb pb mb N S)(pid:Int) {n s:Nat}(hm:MapI w' Tryz.prog 3 mb n s(mdel(fun i=> (S.pr i).map fun b=> .pointer(some⟨b,0,none⟩))pid))(hn:n≤N)(hu:Upd(fun k=> k=mb)w w')(hne:∀k cs T,Blk w k cs T→¬k=mb):FdB w' fdb vb pb mb N(S.drop pid):=by
 have hs:∀i b,(S.drop pid).pr i=some b→S.pr i=some b:=fun i b hi=> by
  unfold FS.drop at hi
  simp only at hi
  split at hi
  ·cases hi
  ·exact hi
 refine⟨Blk.upd hu h.f(hne _ _ _ h.f),⟨n,s,?_,hn⟩,fun i b hi=> Blk.upd hu(h.t i b(hs i b hi))(hne _ _ _(h.t i b(hs i b hi))),fun b t ht=> Blk.upd hu(h.x b t ht)(hne _ _ _(h.x b t ht)),fun i b hi=> h.r i b(hs i b hi),fun i j b hi hj=> h.j i j b(hs i b hi)(hs j b hj)⟩
 have e:(fun i=> ((S.drop pid).pr i).map fun b=> Value.pointer(some⟨b,0,none⟩))=mdel(fun i=> (S.pr i).map fun b=> .pointer(some⟨b,0,none⟩))pid:=by
  funext i
  unfold mdel FS.drop
  simp only
  split <;> rfl
 rw [e];exact hm
theorem MapI.blk {P:Program} {k:TypeId} {b n s:Nat} {m:Int→Option Value}(h:MapI w P k b n s m) {cs:Array Value} {T:TypeId} {j:Nat}(hb:Blk w j cs T):¬j=b:=by
 rintro rfl
 obtain⟨D,⟨es,clock,hh,_⟩,_⟩:=h
 unfold Blk at hb
 rw [hb]at hh
 cases hh
set_option maxRecDepth 100000 in
set_option maxHeartbeats 2000000 in
end
theorem slabnew_is(fb:Nat)(w:World):Calls Tryz.prog 36 #[.pointer(some⟨fb,0,none⟩)]w fun e w' => e= .returned(.pointer(some⟨w.heap.size+1,0,none⟩))∧w' =(w.alloc(.map #[]0)).alloc(.cells #[takeV fb,giveV fb,.map(some w.heap.size)]162):=by
 have hmm:= @run_makeMap Tryz.prog
 go_enter Tryz.func36,Tryz.ntmps36
 go_wp2_with(fail)
 go_ret
 exact⟨by simp,rfl⟩
theorem pipenew_is(kb:Nat)(w:World):Calls Tryz.prog 35 #[.pointer(some⟨kb,0,none⟩)]w fun e w' => e= .returned(.pointer(some⟨w.heap.size,0,none⟩))∧w' =w.alloc(.cells #[.pointer(some⟨kb,0,none⟩),.pointer none,.pointer none,.pointer none,.pointer none]158):=by
 go_enter Tryz.func35,Tryz.ntmps35
 go_wp2_with(fail)
 go_ret
 exact⟨rfl,rfl⟩
end Go.Proofs.YtjpjafajploiaaaGreatDoor
/-
 Both,with the program's pipes known.
-/
namespace Go.Proofs.YtjpjafajploiaaaGreatDoor
open Go.RowKit Own RegJ Two
open Go.Lib hiding intOf
def ps00:PS:=fun _=> none
def po00(s:Nat):PRl→Option Nat:=fun r=> match r with | .pp=> some(s+2) | .sl=> some(s+1) | .mp=> some s | _=> none
theorem PpI.new {w w' :World} {fb s:Nat}(hm:MapI w Tryz.prog 3 s 0 0(fun _=> none))(hsl:Blk w(s+1) #[takeV fb,giveV fb,.map(some s)]162)(hpp:Blk w(s+2) #[.pointer(some⟨s+1,0,none⟩),.pointer none,.pointer none,.pointer none,.pointer none]158):PpI w(po00 s)(fun _=> 0)ps00 fb 0:=by
 refine⟨fun r r' k h1 h2=> ?_,fun r k h1=> ?_,⟨s+2,s+1,s,0,0,rfl,rfl,rfl,hpp,hsl,?_,Nat.le_refl _,Nat.le_refl _⟩,fun i _=> rfl,fun _ _=> rfl,(fun i p hp=> by cases hp),(fun i j p q hp=> by cases hp),(fun i p hp=> by cases hp)⟩
 ·cases r <;> cases r' <;> simp [po00]at h1 h2 ⊢ <;> omega
 ·have a:=hpp.lt
  cases r <;> simp [po00]at h1 <;> omega
 ·have e:shM ps00(fun _=> 0)(po00 s)=fun _=> none:=by
   funext f
   unfold shM
   rw [atFr_no(fun j p hj hp=> by cases hp)]
   rfl
  rw [e];exact hm
end Go.Proofs.YtjpjafajploiaaaGreatDoor
namespace Go.Proofs.YtjpjafajploiaaaGreatDoor
open Go.RowKit Own RegJ Two
open Go.Lib hiding intOf
def z00:Z:=⟨fun _=> none,fun _=> ⟨false,false,0,0,false,0⟩,0,ns0,ps00⟩
structure RZ(S:FS)(z:Z)(φ:Nat→Nat):Prop where
 p0:∀pid,(S.pr pid).isSome=(z.pr pid).isSome
 p1:∀pid b f,S.pr pid=some b→z.pr pid=some f→∀d,d < 8→S.sl b d=(f d).map φ
 t1:∀k,k < z.nx→S.th(φ k)=some(z.th k)
 t2:∀x t,S.th x=some t→∃k,k < z.nx∧x=φ k
 inj:∀j k,j < z.nx→k < z.nx→φ j=φ k→j=k
 rg:∀pid f,z.pr pid=some f→∀d k,f d=some k→k < z.nx∧d < 8
 jp:∀i j b,S.pr i=some b→S.pr j=some b→i=j
section
variable {S:FS} {z z' :Z} {φ:Nat→Nat} {pid:Int} {b d:Nat} {f:Nat→Option Nat}
theorem RZ.none' (h:RZ S z φ)(hp:z.pr pid=none):S.pr pid=none:=by
 have:=h.p0 pid
 rw [hp]at this
 cases hs:S.pr pid with
 | none=> rfl
 | some b=> rw [hs]at this;cases this
theorem RZ.some' (h:RZ S z φ)(hp:z.pr pid=some f):∃b,S.pr pid=some b∧∀d,d < 8→S.sl b d=(f d).map φ:=by
 have:=h.p0 pid
 rw [hp]at this
 cases hs:S.pr pid with
 | none=> rw [hs]at this;cases this
 | some b=> exact⟨b,rfl,h.p1 pid b f hs hp⟩
theorem RZ.ns(h:RZ S z φ)(h1:z'.pr=z.pr)(h2:z'.th=z.th)(h3:z'.nx=z.nx):RZ S z' φ:=by
 obtain⟨a,b,c,d,e,f,g⟩:=h
 refine⟨?_,?_,?_,?_,?_,?_,g⟩
 ·rw [h1];exact a
 ·rw [h1];exact b
 ·rw [h2,h3];exact c
 ·rw [h3];exact d
 ·rw [h3];exact e
 ·rw [h1,h3];exact f
theorem putp_eq(z:Z)(pid:Int)(x:Option(Nat→Option Nat)):(z.putp pid x).pr pid=x:=if_pos rfl
theorem putp_ne(z:Z) {pid i:Int}(x:Option(Nat→Option Nat))(h:i≠pid):(z.putp pid x).pr i=z.pr i:=if_neg h
theorem RZ.setsl(h:RZ S z φ)(hb:S.pr pid=some b)(hf:z.pr pid=some f)(hd:d < 8)(y:Option Nat)(hy:∀k,y=some k→k < z.nx):RZ(S.setsl b d(y.map φ))(z.putp pid(some(upN f d y)))φ:=by
 refine⟨fun i=> ?_,fun i c g hi hg e he=> ?_,h.t1,h.t2,h.inj,fun i g hg e k hk=> ?_,h.jp⟩
 ·by_cases e:i=pid
  ·subst e;rw [putp_eq];show(S.pr i).isSome=_;rw [hb];rfl
  ·rw [putp_ne _ _ e];exact h.p0 i
 ·by_cases e' :i=pid
  ·subst e'
   rw [putp_eq]at hg
   cases hg
   obtain rfl:b=c:=by rw [show(S.setsl b d(y.map φ)).pr i=S.pr i from rfl,hb]at hi;exact Option.some.inj hi
   show upN S.sl b(upN(S.sl b)d(y.map φ))b e=_
   rw [upN_eq]
   by_cases e2:e=d
   ·subst e2;rw [upN_eq,upN_eq]
   ·rw [upN_ne _ _ e2,upN_ne _ _ e2];exact h.p1 i b f hb hf e he
  ·rw [putp_ne _ _ e']at hg
   have hcb:c≠b:=fun e3=> e' (h.jp i pid c hi(by rw [e3];exact hb))
   show upN S.sl b(upN(S.sl b)d(y.map φ))c e=_
   rw [upN_ne _ _ hcb]
   exact h.p1 i c g hi hg e he
 ·by_cases e' :i=pid
  ·subst e'
   rw [putp_eq]at hg
   cases hg
   by_cases e2:e=d
   ·subst e2;rw [upN_eq]at hk;exact⟨hy k hk,hd⟩
   ·rw [upN_ne _ _ e2]at hk;exact h.rg i f hf e k hk
  ·rw [putp_ne _ _ e']at hg;exact h.rg i g hg e k hk
theorem RZ.setth(h:RZ S z φ) {k:Nat}(hk:k < z.nx)(t:Th):RZ(S.setth(φ k)t)(z.putt k t)φ:=by
 refine⟨h.p0,h.p1,fun j hj=> ?_,fun x u hx=> ?_,h.inj,h.rg,h.jp⟩
 ·show upN S.th(φ k)(some t)(φ j)=some(upN z.th k t j)
  by_cases e:j=k
  ·subst e;rw [upN_eq,upN_eq]
  ·rw [upN_ne _ _ e,upN_ne _ _(fun e2=> e(h.inj j k hj hk e2))];exact h.t1 j hj
 ·by_cases e:x=φ k
  ·exact⟨k,hk,e⟩
  ·exact h.t2 x u(by rw [←hx];exact(upN_ne _ _ e).symm)
theorem RZ.start(h:RZ S z φ)(hp:z.pr pid=none)(hb:∀i c,S.pr i=some c→c≠b):RZ(S.start pid b)(z.putp pid(some fun _=> none))φ:=by
 have hcase:∀i,(S.start pid b).pr i=if i=pid then some b else S.pr i:=fun i=> rfl
 refine⟨fun i=> ?_,fun i c g hi hg e he=> ?_,h.t1,h.t2,h.inj,fun i g hg e k hk=> ?_,fun i j c hi hj=> ?_⟩
 ·rw [hcase]
  by_cases e:i=pid
  ·subst e;rw [if_pos rfl,putp_eq];rfl
  ·rw [if_neg e,putp_ne _ _ e];exact h.p0 i
 ·rw [hcase]at hi
  by_cases e' :i=pid
  ·subst e'
   rw [if_pos rfl]at hi
   rw [putp_eq]at hg
   cases hi;cases hg
   show upN S.sl b(fun _=> none)b e=none
   rw [upN_eq]
  ·rw [if_neg e']at hi
   rw [putp_ne _ _ e']at hg
   show upN S.sl b(fun _=> none)c e=_
   rw [upN_ne _ _(hb i c hi)]
   exact h.p1 i c g hi hg e he
 ·by_cases e' :i=pid
  ·subst e';rw [putp_eq]at hg;cases hg;cases hk
  ·rw [putp_ne _ _ e']at hg;exact h.rg i g hg e k hk
 ·rw [hcase]at hi hj
  by_cases e1:i=pid <;> by_cases e2:j=pid
  ·rw [e1,e2]
  ·rw [if_pos e1]at hi;rw [if_neg e2]at hj;cases hi;exact absurd rfl(hb j _ hj)
  ·rw [if_neg e1]at hi;rw [if_pos e2]at hj;cases hj;exact absurd rfl(hb i _ hi)
  ·rw [if_neg e1]at hi;rw [if_neg e2]at hj;exact h.jp i j c hi hj
theorem RZ.name(h:RZ S z φ)(hb:S.pr pid=some b)(hf:z.pr pid=some f)(hd:d < 8) {x:Nat}(hx:∀y t,S.th y=some t→y≠x)(t:Th):RZ(S.put b d x t)(z.name pid f d t)(upN φ z.nx x):=by
 have hne:∀k,k < z.nx→upN φ z.nx x k=φ k:=fun k hk=> upN_ne _ _(by omega)
 have hpx:∀k,k < z.nx→φ k≠x:=fun k hk=> hx _ _(h.t1 k hk)
 have hpr:∀i,(z.name pid f d t).pr i=if i=pid then some(upN f d(some z.nx))else z.pr i:=fun _=> rfl
 refine⟨fun i=> ?_,fun i c g hi hg e he=> ?_,fun k hk=> ?_,fun y u hy=> ?_,fun j k hj hk he=> ?_,fun i g hg e k hk=> ?_,h.jp⟩
 ·rw [hpr]
  by_cases e:i=pid
  ·subst e;rw [if_pos rfl];show(S.pr i).isSome=_;rw [hb];rfl
  ·rw [if_neg e];exact h.p0 i
 ·rw [hpr]at hg
  have hi' :S.pr i=some c:=hi
  show upN S.sl b(upN(S.sl b)d(some x))c e=_
  by_cases e' :i=pid
  ·subst e'
   rw [if_pos rfl]at hg
   cases hg
   obtain rfl:b=c:=by rw [hb]at hi';exact Option.some.inj hi'
   rw [upN_eq]
   by_cases e2:e=d
   ·subst e2;rw [upN_eq,upN_eq];show some x=some(upN φ z.nx x z.nx);rw [upN_eq]
   ·rw [upN_ne _ _ e2,upN_ne _ _ e2,h.p1 i b f hb hf e he]
    cases hfe:f e with
    | none=> rfl
    | some k=> exact congrArg some(hne k(h.rg i f hf e k hfe).1).symm
  ·rw [if_neg e']at hg
   rw [upN_ne _ _(fun e3=> e' (h.jp i pid c hi' (by rw [e3];exact hb))),h.p1 i c g hi' hg e he]
   cases hfe:g e with
   | none=> rfl
   | some k=> exact congrArg some(hne k(h.rg i g hg e k hfe).1).symm
 ·have hk' :k < z.nx+1:=hk
  show upN S.th x(some t)(upN φ z.nx x k)=some(upN z.th z.nx t k)
  by_cases e:k=z.nx
  ·subst e;rw [upN_eq,upN_eq,upN_eq]
  ·rw [hne k(by omega),upN_ne _ _(hpx k(by omega)),upN_ne _ _ e];exact h.t1 k(by omega)
 ·by_cases e:y=x
  ·exact⟨z.nx,Nat.lt_succ_self _,by rw [e,upN_eq]⟩
  ·obtain⟨k,hk,he⟩:=h.t2 y u(by rw [←hy];exact(upN_ne _ _ e).symm)
   exact⟨k,Nat.lt_succ_of_lt hk,by rw [hne k hk,he]⟩
 ·have hj' :j < z.nx+1:=hj
  have hk' :k < z.nx+1:=hk
  by_cases e1:j=z.nx <;> by_cases e2:k=z.nx
  ·rw [e1,e2]
  ·rw [e1,upN_eq,hne k(by omega)]at he;exact absurd he.symm(hpx k(by omega))
  ·rw [e2,upN_eq,hne j(by omega)]at he;exact absurd he(hpx j(by omega))
  ·rw [hne j(by omega),hne k(by omega)]at he;exact h.inj j k(by omega)(by omega)he
 ·rw [hpr]at hg
  show k < z.nx+1∧e < 8
  by_cases e' :i=pid
  ·subst e'
   rw [if_pos rfl]at hg
   cases hg
   by_cases e2:e=d
   ·subst e2;rw [upN_eq]at hk;cases hk;exact⟨Nat.lt_succ_self _,hd⟩
   ·rw [upN_ne _ _ e2]at hk;have:=h.rg i f hf e k hk;omega
  ·rw [if_neg e']at hg;have:=h.rg i g hg e k hk;omega
theorem RZ.drop(h:RZ S z φ)(pid:Int):RZ(S.drop pid)(z.putp pid none)φ:=by
 have hcase:∀i,(S.drop pid).pr i=if i=pid then none else S.pr i:=fun i=> rfl
 refine⟨fun i=> ?_,fun i c g hi hg e he=> ?_,h.t1,h.t2,h.inj,fun i g hg e k hk=> ?_,fun i j c hi hj=> ?_⟩
 ·rw [hcase]
  by_cases e:i=pid
  ·subst e;rw [if_pos rfl,putp_eq];rfl
  ·rw [if_neg e,putp_ne _ _ e];exact h.p0 i
 ·rw [hcase]at hi
  by_cases e' :i=pid
  ·rw [if_pos e']at hi;cases hi
  ·rw [if_neg e']at hi;rw [putp_ne _ _ e']at hg;exact h.p1 i c g hi hg e he
 ·by_cases e' :i=pid
  ·subst e';rw [putp_eq]at hg;cases hg
  ·rw [putp_ne _ _ e']at hg;exact h.rg i g hg e k hk
 ·rw [hcase]at hi hj
  by_cases e1:i=pid
  ·rw [if_pos e1]at hi;cases hi
  ·by_cases e2:j=pid
   ·rw [if_pos e2]at hj;cases hj
   ·rw [if_neg e1]at hi;rw [if_neg e2]at hj;exact h.jp i j c hi hj
theorem RZ.bump(h:RZ S z φ) {k:Nat}(hk:k < z.nx):RZ(S.bump(φ k))(z.putt k {z.th k with nm:=(z.th k).nm+1})φ:=by
 unfold FS.bump
 rw [h.t1 k hk]
 exact h.setth hk _
theorem RZ.bumps(h:RZ S z φ)(g:Nat→Option Nat)(hg:∀d k,f d=some k→k < z.nx)(hgf:∀d,d < 8→g d=(f d).map φ):∀i,i≤8→RZ(S.bumps g i) {z with th:=bumpZ z.th f i}φ
 | 0,_=> h.ns rfl rfl rfl
 | i+1,hi=> by
  have ih:=RZ.bumps h g hg hgf i(by omega)
  unfold FS.bumps bumpZ
  rw [hgf i(by omega)]
  cases hf:f i with
  | none=> exact ih
  | some k=> exact ih.bump(hg i k hf)
theorem RZ.copy(h:RZ S z φ) {q:Int} {b2:Nat}(hb:S.pr pid=some b)(hf:z.pr pid=some f)(hq:z.pr q=none)(hb2:∀i c,S.pr i=some c→c≠b2):RZ((S.twin q b b2).bumps(S.sl b)8) {z.putp q(some f)with th:=bumpZ z.th f 8}φ:=by
 have hcase:∀i,(S.twin q b b2).pr i=if i=q then some b2 else S.pr i:=fun i=> rfl
 have hpq:pid≠q:=fun e=> by rw [e]at hf;rw [hf]at hq;cases hq
 have h1:RZ(S.twin q b b2)(z.putp q(some f))φ:=by
  refine⟨fun i=> ?_,fun i c g hi hg e he=> ?_,h.t1,h.t2,h.inj,fun i g hg e k hk=> ?_,fun i j c hi hj=> ?_⟩
  ·rw [hcase]
   by_cases e:i=q
   ·subst e;rw [if_pos rfl,putp_eq];rfl
   ·rw [if_neg e,putp_ne _ _ e];exact h.p0 i
  ·rw [hcase]at hi
   show upN S.sl b2(S.sl b)c e=_
   by_cases e' :i=q
   ·subst e'
    rw [if_pos rfl]at hi
    rw [putp_eq]at hg
    cases hi;cases hg
    rw [upN_eq]
    exact h.p1 pid b f hb hf e he
   ·rw [if_neg e']at hi
    rw [putp_ne _ _ e']at hg
    rw [upN_ne _ _(hb2 i c hi)]
    exact h.p1 i c g hi hg e he
  ·by_cases e' :i=q
   ·subst e';rw [putp_eq]at hg;cases hg;exact h.rg pid f hf e k hk
   ·rw [putp_ne _ _ e']at hg;exact h.rg i g hg e k hk
  ·rw [hcase]at hi hj
   by_cases e1:i=q <;> by_cases e2:j=q
   ·rw [e1,e2]
   ·rw [if_pos e1]at hi;rw [if_neg e2]at hj;cases hi;exact absurd rfl(hb2 j _ hj)
   ·rw [if_neg e1]at hi;rw [if_pos e2]at hj;cases hj;exact absurd rfl(hb2 i _ hi)
   ·rw [if_neg e1]at hi;rw [if_neg e2]at hj;exact h.jp i j c hi hj
 exact h1.bumps(S.sl b)(fun d k hk=> (h.rg pid f hf d k hk).1)(fun d hd=> h.p1 pid b f hb hf d hd)8(Nat.le_refl _)
end
structure BZ(K:Int)(z:Z):Prop where
 nm:∀k,k < z.nx→ -K≤(z.th k).nm∧(z.th k).nm≤K
 pl:∀k,k < z.nx→0≤(z.th k).pl∧(z.th k).pl≤9223372036854775807
 id:∀k,k < z.nx→0≤(z.th k).id∧(z.th k).id≤15
 ps:∀i p,z.ps i=some p→0≤p.rd∧p.rd≤1∧0≤p.wt∧p.wt≤1
 wr:∀k,k < z.nx→(z.th k).wr=true→(z.th k).pp=true
section
variable {K K' :Int} {z z' :Z}
theorem BZ.le(h:BZ K z)(hK:K≤K'):BZ K' z:=⟨fun k hk=> by have:=h.nm k hk;omega,h.pl,h.id,h.ps,h.wr⟩
theorem BZ.wf(h:BZ K z) {k:Nat}(hk:k < z.nx):(Lit.int .i64(z.th k).id).wf=true:=by
 have:=h.id k hk
 simp [Lit.wf,IntKind.min,IntKind.max,IntKind.signed,IntKind.bits]
 omega
theorem BZ.ns(h:BZ K z)(h2:z'.th=z.th)(h3:z'.nx=z.nx)(h4:z'.ps=z.ps):BZ K z' :=by
 obtain⟨a,b,c,d,e⟩:=h
 refine⟨?_,?_,?_,?_,?_⟩
 ·rw [h2,h3];exact a
 ·rw [h2,h3];exact b
 ·rw [h2,h3];exact c
 ·rw [h4];exact d
 ·rw [h2,h3];exact e
theorem BZ.pipes(h:BZ K z)(ps:PS)(hp:∀i p,ps i=some p→0≤p.rd∧p.rd≤1∧0≤p.wt∧p.wt≤1):BZ K {z with ps:=ps}:=⟨h.nm,h.pl,h.id,hp,h.wr⟩
theorem BZ.putt(h:BZ K z)(k:Nat)(t:Th)(h1: -K≤t.nm∧t.nm≤K)(h2:0≤t.pl∧t.pl≤9223372036854775807)(h3:0≤t.id∧t.id≤15)(h4:t.wr=true→t.pp=true):BZ K(z.putt k t):=by
 have key:∀(Q:Th→Prop),Q t→∀j,Q(z.th j)→Q((z.putt k t).th j):=fun Q hQ j hj=> by
  show Q(upN z.th k t j)
  unfold upN
  split
  ·exact hQ
  ·exact hj
 exact⟨fun j hj=> key(fun t=> -K≤t.nm∧t.nm≤K)h1 j(h.nm j hj),fun j hj=> key(fun t=> 0≤t.pl∧t.pl≤9223372036854775807)h2 j(h.pl j hj),fun j hj=> key(fun t=> 0≤t.id∧t.id≤15)h3 j(h.id j hj),h.ps,fun j hj=> key(fun t=> t.wr=true→t.pp=true)h4 j(h.wr j hj)⟩
theorem BZ.name(h:BZ K z)(pid:Int)(f:Nat→Option Nat)(d:Nat)(t:Th)(h1: -K≤t.nm∧t.nm≤K)(h2:0≤t.pl∧t.pl≤9223372036854775807)(h3:0≤t.id∧t.id≤15)(h4:t.wr=true→t.pp=true):BZ K(z.name pid f d t):=by
 have key:∀(Q:Th→Prop),Q t→(∀j,j < z.nx→Q(z.th j))→∀j,j < (z.name pid f d t).nx→Q((z.name pid f d t).th j):=fun Q hQ hj j hl=> by
  have hl' :j < z.nx+1:=hl
  show Q(upN z.th z.nx t j)
  by_cases e:j=z.nx
  ·rw [e,upN_eq];exact hQ
  ·rw [upN_ne _ _ e];exact hj j(by omega)
 exact⟨key(fun t=> -K≤t.nm∧t.nm≤K)h1 h.nm,key(fun t=> 0≤t.pl∧t.pl≤9223372036854775807)h2 h.pl,key(fun t=> 0≤t.id∧t.id≤15)h3 h.id,h.ps,key(fun t=> t.wr=true→t.pp=true)h4 h.wr⟩
theorem BZ.nmk(h:BZ K z) {k:Nat}(hk:k < z.nx)(n:Int)(hn: -K≤n∧n≤K):BZ K(z.putt k {z.th k with nm:=n}):=h.putt k _ hn(h.pl k hk)(h.id k hk)(h.wr k hk)
theorem BZ.plk(h:BZ K z) {k:Nat}(hk:k < z.nx)(p:Int)(hp:0≤p∧p≤9223372036854775807):BZ K(z.putt k {z.th k with pl:=p}):=h.putt k _(h.nm k hk)hp(h.id k hk)(h.wr k hk)
theorem BZ.bumps(h:BZ K z)(f:Nat→Option Nat)(hf:∀d k,f d=some k→k < z.nx):∀i:Nat,BZ(K+i) {z with th:=bumpZ z.th f i}
 | 0=> (h.le(by simp)).ns rfl rfl rfl
 | i+1=> by
  have ih:=BZ.bumps h f hf i
  have ih2:BZ(K+(i+1:Nat)) {z with th:=bumpZ z.th f i}:=ih.le(by push_cast;omega)
  show BZ(K+(i+1:Nat))⟨z.pr,bumpZ z.th f(i+1),z.nx,z.ns,z.ps⟩
  unfold bumpZ
  cases hfi:f i with
  | none=> exact ih2
  | some k=>
   have h1:=ih.nm k(hf i k hfi)
   have h2: -(K+i)≤(bumpZ z.th f i k).nm∧(bumpZ z.th f i k).nm≤K+i:=h1
   exact ih2.nmk(k:=k)(hf i k hfi)((bumpZ z.th f i k).nm+1)(by push_cast;omega)
theorem psPut_rw {ps:PS} {i:Nat} {x:Option Pi}(h:∀i p,ps i=some p→0≤p.rd∧p.rd≤1∧0≤p.wt∧p.wt≤1)(hx:∀p,x=some p→0≤p.rd∧p.rd≤1∧0≤p.wt∧p.wt≤1):∀j p,psPut ps i x j=some p→0≤p.rd∧p.rd≤1∧0≤p.wt∧p.wt≤1:=by
 intro j p hp
 by_cases e:j=i
 ·subst e;rw [psPut_eq]at hp;exact hx p hp
 ·rw [psPut_ne _ _ e]at hp;exact h j p hp
theorem psAt_rw {ps:PS} {id:Int} {p:Pi}(h:∀i p,ps i=some p→0≤p.rd∧p.rd≤1∧0≤p.wt∧p.wt≤1)(hp:psAt ps id=some p):0≤p.rd∧p.rd≤1∧0≤p.wt∧p.wt≤1:=by
 obtain⟨i,-,hi⟩:=psAt_some hp
 exact h i p hi
theorem pclose_rw {ps:PS}(h:∀i p,ps i=some p→0≤p.rd∧p.rd≤1∧0≤p.wt∧p.wt≤1)(id:Int)(wr:Bool):∀i p,(pcloseF ps id wr).2 i=some p→0≤p.rd∧p.rd≤1∧0≤p.wt∧p.wt≤1:=by
 unfold pcloseF
 cases hat:psAt ps id with
 | none=> exact h
 | some q=>
  have hq:=psAt_rw h hat
  cases wr
  ·simp only [Bool.false_eq_true,if_false]
   split
   ·exact h
   ·rename_i hne
    split
    ·exact psPut_rw h(fun p hp=> by cases hp)
    ·exact psPut_rw h(fun p hp=> by cases hp;simp only;omega)
  ·simp only [if_true]
   split
   ·exact h
   ·rename_i hne
    split
    ·exact psPut_rw h(fun p hp=> by cases hp)
    ·exact psPut_rw h(fun p hp=> by cases hp;simp only;omega)
theorem pread_rw {ps:PS}(h:∀i p,ps i=some p→0≤p.rd∧p.rd≤1∧0≤p.wt∧p.wt≤1)(id n:Int):∀i p,(preadF ps id n).2.2 i=some p→0≤p.rd∧p.rd≤1∧0≤p.wt∧p.wt≤1:=by
 unfold preadF
 cases hat:psAt ps id with
 | none=> exact h
 | some q=>
  have hq:=psAt_rw h hat
  simp only
  repeat' split
  all_goals first | exact h | exact psPut_rw h(fun p hp=> by cases hp;exact hq)
theorem pwrite_rw {ps:PS}(h:∀i p,ps i=some p→0≤p.rd∧p.rd≤1∧0≤p.wt∧p.wt≤1)(id:Int)(b:List Int):∀i p,(pwriteF ps id b).2 i=some p→0≤p.rd∧p.rd≤1∧0≤p.wt∧p.wt≤1:=by
 unfold pwriteF
 cases hat:psAt ps id with
 | none=> exact h
 | some q=>
  have hq:=psAt_rw h hat
  simp only
  repeat' split
  all_goals first | exact h | exact psPut_rw h(fun p hp=> by cases hp;exact hq)
theorem pmake_rw {ps:PS}(h:∀i p,ps i=some p→0≤p.rd∧p.rd≤1∧0≤p.wt∧p.wt≤1)(n:Nat):(∀i p,(pmakeF n ps).2.2 i=some p→0≤p.rd∧p.rd≤1∧0≤p.wt∧p.wt≤1)∧0≤(pmakeF n ps).1∧(pmakeF n ps).1≤15:=by
 unfold pmakeF
 cases hf:pfreeF ps with
 | none=> exact⟨h,by simp,by simp⟩
 | some i=>
  have hi:=(pfreeF_some hf).1
  simp only
  split
  ·exact⟨h,by simp,by simp⟩
  ·exact⟨psPut_rw h(fun p hp=> by cases hp;simp),by simp,by simp;omega⟩
end
end Go.Proofs.YtjpjafajploiaaaGreatDoor
