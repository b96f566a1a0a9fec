/-
  Bytes are bytes, names short: kept by each act.
-/
import Derived.Test.YtjpjafajploiaaaGreatDoorUnixAlone46
set_option linter.unusedSimpArgs false
set_option linter.unusedVariables false
namespace Go.Proofs.YtjpjafajploiaaaGreatDoor
open Go.RowKit Own RegJ Two
open Go.Lib hiding intOf
def NdOk(nd:Nd):Prop:=(∀y∈nd.bs,0≤y∧y < 256)∧∀x∈nd.es,x.1.length≤1000
def AN(ns:NSt):Prop:=∀i nd,ns i=some nd→NdOk nd
theorem an_put {ns:NSt}(h:AN ns)(i:Nat)(x:Option Nd)(hx:∀nd,x=some nd→NdOk nd):AN(nsPut ns i x):=by
 intro j nd hj
 by_cases e:j=i
 ·subst e;rw [put_eq]at hj;exact hx nd hj
 ·rw [put_ne _ _ _ e]at hj;exact h j nd hj
theorem an_same {ns:NSt}(h:AN ns) {i:Nat} {nd nd' :Nd}(hi:ns i=some nd)(hb:nd'.bs=nd.bs)(he:nd'.es=nd.es):AN(nsPut ns i(some nd')):=
 an_put h i _(fun x hx=> by cases hx;unfold NdOk;rw [hb,he];exact h i nd hi)
theorem an_dec {ns:NSt}(h:AN ns)(m:Nat):AN(decL ns m):=by
 unfold decL
 cases hm:ns m with
 | none=> exact h
 | some k=> exact an_same h hm rfl rfl
theorem goneL_an {f:Nat}(ih:∀ns i,AN ns→AN(gone f ns i)):∀(es:List En)(s:NSt),AN s→AN(goneL f es s)
 | [],s,h=> h
 | e::es,s,h=> by
  rw [goneL_cons]
  split
  ·exact goneL_an ih es _(ih _ _(an_dec h _))
  ·exact goneL_an ih es s h
theorem gone_an:∀(f:Nat)(ns:NSt)(i:Nat),AN ns→AN(gone f ns i)
 | 0,ns,_,h=> h
 | f+1,ns,i,h=> by
  cases hn:ns i with
  | none=> rw [gone_none hn];exact h
  | some nd=>
   by_cases hs:i=0∨0 < nd.links∨0 < nd.opens
   ·rw [gone_stay hn hs];exact h
   ·rw [gone_go hn hs]
    exact goneL_an(gone_an f)nd.es _(an_put h _ _(fun nd hn=> by cases hn))
section
variable {ns:NSt}
theorem nsEnt_an(h:AN ns) {i:Nat} {nd:Nd}(hi:ns i=some nd)(es:List En)(hes:∀x∈es,x.1.length≤1000)(id:Int):AN(nsEnt ns i nd es id):=by
 unfold nsEnt
 have h1:AN(nsPut ns i(some(setEs nd es))):=an_put h i _(fun x hx=> by cases hx;exact⟨(h i nd hi).1,hes⟩)
 cases hm:nsPut ns i(some(setEs nd es))id.toNat with
 | none=> exact h1
 | some m=> exact an_same h1 hm rfl rfl
theorem entF_an(h:AN ns) {i:Nat} {nd:Nd}(hi:ns i=some nd)(nm:Txt)(hnm:nm.length≤1000)(id:Int):AN(entF ns i nd nm id).2:=by
 unfold entF
 split
 ·refine nsEnt_an h hi _(fun x hx=> ?_)_
  unfold insE at hx
  rcases List.mem_append.1 hx with hx | hx
  ·exact(h i nd hi).2 x(List.mem_of_mem_take hx)
  ·rcases List.mem_cons.1 hx with hx | hx
   ·rw [hx];exact hnm
   ·exact(h i nd hi).2 x(List.mem_of_mem_drop hx)
 ·exact h
theorem parN_len(l:Txt):(parN l).length≤1000:=by
 by_cases h:parE l=0
 ·by_cases h1:splitE l=0
  ·by_cases h2:splitL l= []
   ·unfold parE at h;rw [if_pos h1,if_pos h2]at h;cases h
   ·have:=(name_ok(par_back h1 h2).2.2.2).2.2;omega
  ·unfold parE at h;rw [if_neg h1]at h;exact absurd h h1
 ·unfold parN;rw [if_neg h];exact Nat.zero_le _
theorem atPar_an(h:AN ns)(l:Txt)(k:Int→Txt→Int×NSt)(hk:∀d nm,nm.length≤1000→AN(k d nm).2):AN(atPar ns l k).2:=by
 unfold atPar
 split
 ·exact hk _ _(parN_len l)
 ·exact h
theorem linkF_an(h:AN ns)(s t:Txt):AN(linkF ns s t).2:=by
 unfold linkF
 split
 ·exact h
 ·split
  ·exact h
  ·refine atPar_an h t _ fun d nm hnm=> ?_
   unfold linkE
   cases hd:dirAt ns d with
   | none=> exact h
   | some nd=>
    obtain⟨i,rfl,hi,-⟩:=dirAt_some hd
    exact entF_an h hi _ hnm _
theorem closeF_an(h:AN ns)(id:Int):AN(closeF ns id).2:=by
 unfold closeF
 cases hn:ndAt ns id with
 | none=> exact h
 | some nd=>
  simp only
  split
  ·obtain⟨i,rfl,hi⟩:=ndAt_some hn
   exact gone_an _ _ _(an_same h hi rfl rfl)
  ·exact h
theorem madeF_an(h:AN ns)(d:Int)(nm:Txt)(hnm:nm.length≤1000)(isD:Bool):AN(madeF ns d nm isD).2.2:=by
 unfold madeF
 cases hd:dirAt ns d with
 | none=> exact h
 | some nd=>
  simp only
  cases hf:freeF ns with
  | none=> exact h
  | some i=>
   obtain⟨h16,hn⟩:=freeF_some hf
   obtain⟨k,rfl,hk,-⟩:=dirAt_some hd
   have h1:AN(nsPut ns i(some⟨isD,0,1,[],[]⟩)):=an_put h i _(fun x hx=> by cases hx;exact⟨(fun y hy=> by cases hy),(fun y hy=> by cases hy)⟩)
   have hki:k≠i:=fun e=> by rw [e,hn]at hk;cases hk
   have h2:=entF_an h1(show nsPut ns i(some⟨isD,0,1,[],[]⟩)k=some nd by rw [put_ne _ _ _ hki];exact hk)nm hnm i
   simp only
   split
   ·exact h2
   ·exact closeF_an h2 _
theorem mkdirF_an(h:AN ns)(d:Int)(nm:Txt)(hnm:nm.length≤1000):AN(mkdirF ns d nm).2:=by
 unfold mkdirF
 split
 ·exact h
 ·split
  ·exact h
  ·split
   ·exact closeF_an(madeF_an h _ _ hnm _)_
   ·exact madeF_an h _ _ hnm _
theorem rmvF_an(h:AN ns)(d:Int)(nm:Txt):AN(rmvF ns d nm).2:=by
 unfold rmvF
 cases hd:dirAt ns d with
 | none=> exact h
 | some nd=>
  simp only
  obtain⟨k,rfl,hk,-⟩:=dirAt_some hd
  split
  ·exact h
  ·split
   ·split
    ·split
     ·exact h
     ·refine gone_an _ _ _(an_dec(an_put h k _(fun x hx=> ?_))_)
      cases hx
      refine⟨(h k nd hk).1,fun y hy=> ?_⟩
      have hy' :y∈nd.es.eraseIdx(plc nd.es nm)∨y∈nd.es:=by
       first
        | exact .inr(List.mem_of_mem_eraseIdx hy)
        | (simp only [setEs,delE]at hy;rcases List.mem_append.1 hy with hy | hy;exact .inr(List.mem_of_mem_take hy);exact .inr(List.mem_of_mem_drop hy))
      exact hy'.elim(fun hy=> (h k nd hk).2 y(List.mem_of_mem_eraseIdx hy))(fun hy=> (h k nd hk).2 y hy)
    ·exact h
   ·exact h
theorem remF_an(h:AN ns)(d:Int)(nm:Txt)(isD:Bool)(o:Int):AN(remF ns d nm isD o).2:=by
 unfold remF
 split
 ·exact h
 ·split
  ·exact h
  ·exact rmvF_an h _ _
theorem openF_an(h:AN ns)(l:Txt)(n:Int):AN(openF ns l n).2.2:=by
 unfold openF
 split
 ·exact h
 ·split
  ·unfold newF
   split
   ·exact madeF_an h _ _(parN_len l)_
   ·exact h
  ·split
   ·exact h
   ·cases hn:ndAt ns(walkR ns l).1 with
    | none=> exact h
    | some nd=>
     simp only
     split
     ·exact h
     ·obtain⟨i,e,hi⟩:=ndAt_some hn
      rw [e]
      refine an_put h i _(fun x hx=> ?_)
      cases hx
      obtain⟨g1,g2⟩:=h i nd hi
      split
      ·exact⟨(fun y hy=> by cases hy),g2⟩
      ·exact⟨g1,g2⟩
theorem writeB_by {bs b:List Int}(h1:∀y∈bs,0≤y∧y < 256)(h2:∀y∈b,0≤y∧y < 256)(o:Nat):∀y∈writeB bs o b,0≤y∧y < 256:=by
 have he:∀e,∀y∈extB bs e,0≤y∧y < 256:=fun e y hy=> by
  unfold extB at hy
  rcases List.mem_append.1 hy with hy | hy
  ·exact h1 y hy
  ·rw [(List.mem_replicate.1 hy).2];omega
 intro y hy
 unfold writeB spl at hy
 rcases List.mem_append.1 hy with hy | hy
 ·rcases List.mem_append.1 hy with hy | hy
  ·exact he _ y(List.mem_of_mem_take hy)
  ·exact h2 y hy
 ·exact he _ y(List.mem_of_mem_drop hy)
theorem wrF_an(h:AN ns)(F:Nat)(id off:Int)(b:List Int)(hb:∀y∈b,0≤y∧y < 256):AN(wrF ns F id off b).2:=by
 unfold wrF
 cases hn:ndAt ns id with
 | none=> exact h
 | some nd=>
  obtain⟨i,rfl,hi⟩:=ndAt_some hn
  simp only
  repeat' split
  all_goals first | exact h | exact an_put h _ _(fun x hx=> by cases hx;exact⟨writeB_by(h i nd hi).1 hb _,(h i nd hi).2⟩)
end
section
variable {z:Z} {m:PrM}
theorem BY.of(h1:AN z.ns)(h2:∀i p,z.ps i=some p→∀y∈p.dt,0≤y∧y < 256):BY z:=⟨h1,h2⟩
theorem BY.an(h:BY z):AN z.ns:=h.bs
theorem BY.sames {z' :Z}(h:BY z)(h1:z'.ns=z.ns)(h2:z'.ps=z.ps):BY z' :=⟨by rw [h1];exact h.bs,by rw [h2];exact h.pp⟩
theorem BY.setns {z' :Z}(h:BY z)(h1:AN z'.ns)(h2:z'.ps=z.ps):BY z' :=⟨h1,by rw [h2];exact h.pp⟩
theorem psPut_by {ps:PS}(h:∀i p,ps i=some p→∀y∈p.dt,0≤y∧y < 256)(i:Nat)(x:Option Pi)(hx:∀p,x=some p→∀y∈p.dt,0≤y∧y < 256):∀j p,psPut ps i x j=some p→∀y∈p.dt,0≤y∧y < 256:=by
 intro j p hp
 by_cases e:j=i
 ·subst e;rw [psPut_eq]at hp;exact hx p hp
 ·rw [psPut_ne _ _ e]at hp;exact h j p hp
theorem pclose_by {ps:PS}(h:∀i p,ps i=some p→∀y∈p.dt,0≤y∧y < 256)(id:Int)(wr:Bool):∀j p,(pcloseF ps id wr).2 j=some p→∀y∈p.dt,0≤y∧y < 256:=by
 unfold pcloseF
 cases hat:psAt ps id with
 | none=> exact h
 | some q=>
  obtain⟨i,-,hi⟩:=psAt_some hat
  cases wr
  all_goals
   simp only [Bool.false_eq_true,if_false,if_true]
   split
   ·exact h
   ·split
    ·exact psPut_by h _ _(fun p hp=> by cases hp)
    ·exact psPut_by h _ _(fun p hp=> by cases hp;exact h i q hi)
theorem pread_by {ps:PS}(h:∀i p,ps i=some p→∀y∈p.dt,0≤y∧y < 256)(id n:Int):∀j p,(preadF ps id n).2.2 j=some p→∀y∈p.dt,0≤y∧y < 256:=by
 unfold preadF
 cases hat:psAt ps id with
 | none=> exact h
 | some q=>
  obtain⟨i,-,hi⟩:=psAt_some hat
  simp only
  repeat' split
  all_goals first | exact h | exact psPut_by h _ _(fun p hp=> by cases hp;exact fun y hy=> h i q hi y(List.mem_of_mem_drop hy))
theorem pwrite_by {ps:PS}(h:∀i p,ps i=some p→∀y∈p.dt,0≤y∧y < 256)(id:Int)(b:List Int)(hb:∀y∈b,0≤y∧y < 256):∀j p,(pwriteF ps id b).2 j=some p→∀y∈p.dt,0≤y∧y < 256:=by
 unfold pwriteF
 cases hat:psAt ps id with
 | none=> exact h
 | some q=>
  obtain⟨i,-,hi⟩:=psAt_some hat
  simp only
  repeat' split
  all_goals first | exact h | exact psPut_by h _ _(fun p hp=> by cases hp;exact fun y hy=> (List.mem_append.1 hy).elim(h i q hi y)(hb y))
theorem pmake_by {ps:PS}(h:∀i p,ps i=some p→∀y∈p.dt,0≤y∧y < 256)(n:Nat):∀j p,(pmakeF n ps).2.2 j=some p→∀y∈p.dt,0≤y∧y < 256:=by
 unfold pmakeF
 cases pfreeF ps with
 | none=> exact h
 | some i=>
  simp only
  split
  ·exact h
  ·exact psPut_by h _ _(fun p hp=> by cases hp;exact fun y hy=> by cases hy)
theorem dropT_by(h:BY z)(k:Nat):BY(dropT z k):=by
 unfold dropT
 split
 ·exact h.sames rfl rfl
 ·split
  ·exact⟨h.bs,pclose_by h.pp _ _⟩
  ·exact h.setns(closeF_an h.an _)rfl
theorem dropZ_by(h:BY z)(pid:Int)(f:Nat→Option Nat)(d k:Nat):BY(dropZ z pid f d k):=by
 unfold dropZ
 exact dropT_by(z:=z.putp pid(some(upN f d none)))(h.sames rfl rfl)k
theorem ite_by {α:Type} {P:α→Prop} {c:Prop} [Decidable c] {a b:α}(h1:P a)(h2:P b):P(if c then a else b):=by
 split
 ·exact h1
 ·exact h2
theorem on_by {α:Type} {P:α→Prop}(z:Z)(pid d:Int)(bad:Int→α)(kk:(Nat→Option Nat)→Nat→α)(h1:∀e,P(bad e))(h2:∀f k,P(kk f k)):P(z.on pid d bad kk):=by
 unfold Z.on
 cases z.pr pid with
 | none=> exact h1 4
 | some f=>
  simp only
  cases fdZ f d with
  | none=> exact h1 8
  | some k=> exact h2 f k
theorem closeZ_by(h:BY z)(pid d:Int):BY(closeZ z pid d).2:=
 on_by(P:=fun r:Int×Z=> BY r.2)z pid d _ _(fun e=> h)(fun f k=> dropZ_by h pid f _ k)
theorem leaveN_by(h:BY z)(pid:Int):∀i,BY(leaveN z pid i)
 | 0=> h
 | i+1=> by
  have ih:=leaveN_by h pid i
  unfold leaveN
  split
  ·exact ih
  ·split
   ·exact ih
   ·exact dropZ_by ih pid _ _ _
theorem leaveZ_by(h:BY z)(pid:Int):BY(leaveZ z pid).2:=by
 unfold leaveZ
 split
 ·exact h
 ·exact(leaveN_by h pid 8).sames rfl rfl
theorem startZ_by(h:BY z)(pid:Int):BY(startZ z pid).2:=by
 unfold startZ
 repeat' split
 all_goals exact h.sames rfl rfl
theorem copyZ_by(h:BY z)(p q:Int):BY(copyZ z p q).2:=by
 unfold copyZ
 repeat' split
 all_goals exact h.sames rfl rfl
theorem openZ_by(h:BY z)(pid:Int)(l:Txt)(n:Int):BY(openZ z pid l n).2.2:=by
 unfold openZ
 repeat' split
 all_goals first | exact h | exact h.setns(openF_an h.an _ _)rfl
theorem pipeZ_by(h:BY z)(cap:Nat)(pid:Int):BY(pipeZ cap z pid).2.2:=by
 unfold pipeZ
 repeat' split
 all_goals first | exact h | exact⟨h.bs,pmake_by h.pp _⟩
theorem dupZ_by(h:BY z)(pid d:Int):BY(dupZ z pid d).2.2:=
 on_by(P:=fun r:Int×Int×Z=> BY r.2.2)z pid d _ _(fun e=> h)(fun f k=> by split <;> exact h.sames rfl rfl)
theorem seekZ_by(h:BY z)(pid d off:Int):BY(seekZ z pid d off).2:=
 on_by(P:=fun r:Int×Z=> BY r.2)z pid d _ _(fun e=> h)(fun f k=> by split <;> exact h.sames rfl rfl)
theorem readZ_keep(h:BY z)(pid d n:Int):BY(readZ z pid d n).2.2:=
 on_by(P:=fun r:List Int×Int×Z=> BY r.2.2)z pid d _ _(fun e=> h)(fun f k=> by
  split
  ·exact h
  ·split
   ·exact⟨h.bs,pread_by h.pp _ _⟩
   ·exact h.sames rfl rfl)
theorem writeZ_by(h:BY z)(cap:Nat)(pid d:Int)(b:List Int)(hb:∀y∈b,0≤y∧y < 256):BY(writeZ cap z pid d b).2.2:=
 on_by(P:=fun r:Int×Int×Z=> BY r.2.2)z pid d _ _(fun e=> h)(fun f k=> by
  repeat' split
  all_goals first | exact h | exact⟨h.bs,pwrite_by h.pp _ _ hb⟩ | exact h.setns(wrF_an h.an _ _ _ _ hb)rfl)
theorem u8s_by(s:ByteArray):∀y∈u8s s,0≤y∧y < 256:=by
 intro y hy
 obtain⟨c,-,rfl⟩:=List.mem_map.1 hy
 have:=c.toNat_lt
 omega
theorem udoZ_by(h:BY z)(cap:Nat)(pid sys a b:Int)(s t:ByteArray):BY(udoZ cap z m pid sys a b s t).2.1:=by
 unfold udoZ
 refine ite_by(P:=fun r:UR×Z×PrM=> BY r.2.1)h(ite_by(P:=fun r:UR×Z×PrM=> BY r.2.1)h ?_)
 unfold udoK
 refine ite_by(P:=fun r:UR×Z×PrM=> BY r.2.1)(openZ_by h _ _ _) ?_
 refine ite_by(P:=fun r:UR×Z×PrM=> BY r.2.1)(closeZ_by h _ _) ?_
 refine ite_by(P:=fun r:UR×Z×PrM=> BY r.2.1)(readZ_keep h _ _ _) ?_
 refine ite_by(P:=fun r:UR×Z×PrM=> BY r.2.1)(writeZ_by h _ _ _ _(u8s_by s)) ?_
 refine ite_by(P:=fun r:UR×Z×PrM=> BY r.2.1)(seekZ_by h _ _ _) ?_
 refine ite_by(P:=fun r:UR×Z×PrM=> BY r.2.1)(dupZ_by h _ _) ?_
 refine ite_by(P:=fun r:UR×Z×PrM=> BY r.2.1)(h.setns(linkF_an h.an _ _)rfl) ?_
 refine ite_by(P:=fun r:UR×Z×PrM=> BY r.2.1)(h.setns(atPar_an h.an _ _(fun d nm _=> remF_an h.an _ _ _ _))rfl) ?_
 refine ite_by(P:=fun r:UR×Z×PrM=> BY r.2.1)(h.setns(atPar_an h.an _ _(fun d nm hn=> mkdirF_an h.an _ _ hn))rfl) ?_
 refine ite_by(P:=fun r:UR×Z×PrM=> BY r.2.1)(h.setns(atPar_an h.an _ _(fun d nm _=> remF_an h.an _ _ _ _))rfl) ?_
 refine ite_by(P:=fun r:UR×Z×PrM=> BY r.2.1)(pipeZ_by h _ _) ?_
 refine ite_by(P:=fun r:UR×Z×PrM=> BY r.2.1)h(ite_by(P:=fun r:UR×Z×PrM=> BY r.2.1)h(ite_by(P:=fun r:UR×Z×PrM=> BY r.2.1)h(ite_by(P:=fun r:UR×Z×PrM=> BY r.2.1)h h)))
theorem startU_by(h:BY z)(pid:Int):BY(startU z m pid).2.1:=by
 unfold startU
 split
 ·exact startZ_by h _
 ·exact h
theorem forkU_by(h:BY z)(pid q:Int):BY(forkU z m pid q).2.1:=by
 unfold forkU
 split
 ·exact h
 ·split
  ·exact copyZ_by h _ _
  ·exact h
theorem exitU_by(h:BY z)(pid code:Int):BY(exitU z m pid code).2.1:=by
 unfold exitU
 split
 ·exact leaveZ_by h _
 ·exact h
theorem by00:BY z00:=⟨(fun i nd hi=> by
  unfold z00 ns0 at hi
  simp only at hi
  split at hi
  ·cases hi;exact⟨(fun y hy=> by cases hy),(fun y hy=> by cases hy)⟩
  ·cases hi),(fun i p hp=> by cases hp)⟩
end
end Go.Proofs.YtjpjafajploiaaaGreatDoor
