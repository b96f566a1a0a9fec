/-
  Bytes are bytes, names short: kept by each act.
-/
import Derived.Test.YtjpjafajploiaaaGreatDoorUnixAlone46
import Derived.Test.YtjpjafajploiaaaGreatDoorUnixAlone28
set_option linter.unusedSimpArgs false
set_option linter.unusedVariables false
namespace Go.Proofs.YtjpjafajploiaaaGreatDoor
open Go.RowKit Own RegJ Two
open Go.Lib hiding intOf
def NdOk (nd:Nd):Prop:=(∀y∈nd.bs,0≤y∧y < 256)∧∀x∈nd.es,x.1.length≤1000
def AN (ns:NSt):Prop:=∀i nd,ns i=some nd→NdOk nd
theorem an_put {ns:NSt} (h:AN ns) (i:Nat) (x:Option Nd) (hx:∀nd,x=some nd→NdOk nd):AN (nsPut ns i x):=by
 intro j nd hj
 by_cases e:j=i
 ·subst e;rw [put_eq] at hj;exact hx nd hj
 ·rw [put_ne _ _ _ e] at hj;exact h j nd hj
theorem an_same {ns:NSt} (h:AN ns) {i:Nat} {nd nd' :Nd} (hi:ns i=some nd) (hb:nd'.bs=nd.bs) (he:nd'.es=nd.es):AN (nsPut ns i (some nd')):=
 an_put h i _ (fun x hx=> by cases hx;unfold NdOk;rw [hb,he];exact h i nd hi)
theorem an_dec {ns:NSt} (h:AN ns) (m:Nat):AN (decL ns m):=by
 unfold decL
 cases hm:ns m with
 | none=> exact h
 | some k=> exact an_same h hm rfl rfl
theorem goneL_an {f:Nat} (ih:∀ns i,AN ns→AN (gone f ns i)):∀(es:List En) (s:NSt),AN s→AN (goneL f es s)
 | [],s,h=> h
 | e::es,s,h=> by
  rw [goneL_cons]
  split
  ·exact goneL_an ih es _ (ih _ _ (an_dec h _))
  ·exact goneL_an ih es s h
theorem gone_an:∀(f:Nat) (ns:NSt) (i:Nat),AN ns→AN (gone f ns i)
 | 0,ns,_,h=> h
 | f+1,ns,i,h=> by
  cases hn:ns i with
  | none=> rw [gone_none hn];exact h
  | some nd=>
   by_cases hs:i=0∨0 < nd.links∨0 < nd.opens
   ·rw [gone_stay hn hs];exact h
   ·rw [gone_go hn hs]
    exact goneL_an (gone_an f) nd.es _ (an_put h _ _ (fun nd hn=> by cases hn))
section
variable {ns:NSt}
theorem nsEnt_an (h:AN ns) {i:Nat} {nd:Nd} (hi:ns i=some nd) (es:List En) (hes:∀x∈es,x.1.length≤1000) (id:Int):AN (nsEnt ns i nd es id):=by
 unfold nsEnt
 have h1:AN (nsPut ns i (some (setEs nd es))):=an_put h i _ (fun x hx=> by cases hx;exact ⟨(h i nd hi).1,hes⟩)
 cases hm:nsPut ns i (some (setEs nd es)) id.toNat with
 | none=> exact h1
 | some m=> exact an_same h1 hm rfl rfl
theorem entF_an (h:AN ns) {i:Nat} {nd:Nd} (hi:ns i=some nd) (nm:Txt) (hnm:nm.length≤1000) (id:Int):AN (entF ns i nd nm id).2:=by
 unfold entF
 split
 ·refine nsEnt_an h hi _ (fun x hx=> ?_) _
  unfold insE at hx
  rcases List.mem_append.1 hx with hx | hx
  ·exact (h i nd hi).2 x (List.mem_of_mem_take hx)
  ·rcases List.mem_cons.1 hx with hx | hx
   ·rw [hx];exact hnm
   ·exact (h i nd hi).2 x (List.mem_of_mem_drop hx)
 ·exact h
theorem parN_len (l:Txt):(parN l).length≤1000:=by
 by_cases h:parE l=0
 ·by_cases h1:splitE l=0
  ·by_cases h2:splitL l= []
   ·unfold parE at h;rw [if_pos h1,if_pos h2] at h;cases h
   ·have:=(name_ok (par_back h1 h2).2.2.2).2.2;omega
  ·unfold parE at h;rw [if_neg h1] at h;exact absurd h h1
 ·unfold parN;rw [if_neg h];exact Nat.zero_le _
theorem atPar_an (h:AN ns) (l:Txt) (k:Int→Txt→Int×NSt) (hk:∀d nm,nm.length≤1000→AN (k d nm).2):AN (atPar ns l k).2:=by
 unfold atPar
 split
 ·exact hk _ _ (parN_len l)
 ·exact h
theorem linkF_an (h:AN ns) (s t:Txt):AN (linkF ns s t).2:=by
 unfold linkF
 split
 ·exact h
 ·split
  ·exact h
  ·refine atPar_an h t _ fun d nm hnm=> ?_
   unfold linkE
   cases hd:dirAt ns d with
   | none=> exact h
   | some nd=>
    obtain ⟨i,rfl,hi,-⟩:=dirAt_some hd
    exact entF_an h hi _ hnm _
theorem closeF_an (h:AN ns) (id:Int):AN (closeF ns id).2:=by
 unfold closeF
 cases hn:ndAt ns id with
 | none=> exact h
 | some nd=>
  simp only
  split
  ·obtain ⟨i,rfl,hi⟩:=ndAt_some hn
   exact gone_an _ _ _ (an_same h hi rfl rfl)
  ·exact h
theorem madeF_an (h:AN ns) (d:Int) (nm:Txt) (hnm:nm.length≤1000) (isD:Bool):AN (madeF ns d nm isD).2.2:=by
 unfold madeF
 cases hd:dirAt ns d with
 | none=> exact h
 | some nd=>
  simp only
  cases hf:freeF ns with
  | none=> exact h
  | some i=>
   obtain ⟨h16,hn⟩:=freeF_some hf
   obtain ⟨k,rfl,hk,-⟩:=dirAt_some hd
   have h1:AN (nsPut ns i (some ⟨isD,0,1,[],[]⟩)):=an_put h i _ (fun x hx=> by cases hx;exact ⟨(fun y hy=> by cases hy),(fun y hy=> by cases hy)⟩)
   have hki:k≠i:=fun e=> by rw [e,hn] at hk;cases hk
   have h2:=entF_an h1 (show nsPut ns i (some ⟨isD,0,1,[],[]⟩) k=some nd by rw [put_ne _ _ _ hki];exact hk) nm hnm i
   simp only
   split
   ·exact h2
   ·exact closeF_an h2 _
theorem mkdirF_an (h:AN ns) (d:Int) (nm:Txt) (hnm:nm.length≤1000):AN (mkdirF ns d nm).2:=by
 unfold mkdirF
 split
 ·exact h
 ·split
  ·exact h
  ·split
   ·exact closeF_an (madeF_an h _ _ hnm _) _
   ·exact madeF_an h _ _ hnm _
theorem rmvF_an (h:AN ns) (d:Int) (nm:Txt):AN (rmvF ns d nm).2:=by
 unfold rmvF
 cases hd:dirAt ns d with
 | none=> exact h
 | some nd=>
  simp only
  obtain ⟨k,rfl,hk,-⟩:=dirAt_some hd
  split
  ·exact h
  ·split
   ·split
    ·split
     ·exact h
     ·refine gone_an _ _ _ (an_dec (an_put h k _ (fun x hx=> ?_)) _)
      cases hx
      refine ⟨(h k nd hk).1,fun y hy=> ?_⟩
      have hy' :y∈nd.es.eraseIdx (plc nd.es nm)∨y∈nd.es:=by
       first
        | exact .inr (List.mem_of_mem_eraseIdx hy)
        | (simp only [setEs,delE] at hy;rcases List.mem_append.1 hy with hy | hy;exact .inr (List.mem_of_mem_take hy);exact .inr (List.mem_of_mem_drop hy))
      exact hy'.elim (fun hy=> (h k nd hk).2 y (List.mem_of_mem_eraseIdx hy)) (fun hy=> (h k nd hk).2 y hy)
    ·exact h
   ·exact h
theorem remF_an (h:AN ns) (d:Int) (nm:Txt) (isD:Bool) (o:Int):AN (remF ns d nm isD o).2:=by
 unfold remF
 split
 ·exact h
 ·split
  ·exact h
  ·exact rmvF_an h _ _
theorem openF_an (h:AN ns) (l:Txt) (n:Int):AN (openF ns l n).2.2:=by
 unfold openF
 split
 ·exact h
 ·split
  ·unfold newF
   split
   ·exact madeF_an h _ _ (parN_len l) _
   ·exact h
  ·split
   ·exact h
   ·cases hn:ndAt ns (walkR ns l).1 with
    | none=> exact h
    | some nd=>
     simp only
     split
     ·exact h
     ·obtain ⟨i,e,hi⟩:=ndAt_some hn
      rw [e]
      refine an_put h i _ (fun x hx=> ?_)
      cases hx
      obtain ⟨g1,g2⟩:=h i nd hi
      split
      ·exact ⟨(fun y hy=> by cases hy),g2⟩
      ·exact ⟨g1,g2⟩
theorem writeB_by {bs b:List Int} (h1:∀y∈bs,0≤y∧y < 256) (h2:∀y∈b,0≤y∧y < 256) (o:Nat):∀y∈writeB bs o b,0≤y∧y < 256:=by
 have he:∀e,∀y∈extB bs e,0≤y∧y < 256:=fun e y hy=> by
  unfold extB at hy
  rcases List.mem_append.1 hy with hy | hy
  ·exact h1 y hy
  ·rw [(List.mem_replicate.1 hy).2];omega
 intro y hy
 unfold writeB spl at hy
 rcases List.mem_append.1 hy with hy | hy
 ·rcases List.mem_append.1 hy with hy | hy
  ·exact he _ y (List.mem_of_mem_take hy)
  ·exact h2 y hy
 ·exact he _ y (List.mem_of_mem_drop hy)
theorem wrF_an (h:AN ns) (F:Nat) (id off:Int) (b:List Int) (hb:∀y∈b,0≤y∧y < 256):AN (wrF ns F id off b).2:=by
 unfold wrF
 cases hn:ndAt ns id with
 | none=> exact h
 | some nd=>
  obtain ⟨i,rfl,hi⟩:=ndAt_some hn
  simp only
  repeat' split
  all_goals first | exact h | exact an_put h _ _ (fun x hx=> by cases hx;exact ⟨writeB_by (h i nd hi).1 hb _,(h i nd hi).2⟩)
end
section
variable {z:Z} {m:PrM}
theorem BY.of (h1:AN z.ns) (h2:∀i p,z.ps i=some p→∀y∈p.dt,0≤y∧y < 256):BY z:=⟨h1,h2⟩
theorem BY.an (h:BY z):AN z.ns:=h.bs
theorem BY.sames {z' :Z} (h:BY z) (h1:z'.ns=z.ns) (h2:z'.ps=z.ps):BY z' :=⟨by rw [h1];exact h.bs,by rw [h2];exact h.pp⟩
theorem BY.setns {z' :Z} (h:BY z) (h1:AN z'.ns) (h2:z'.ps=z.ps):BY z' :=⟨h1,by rw [h2];exact h.pp⟩
theorem psPut_by {ps:PS} (h:∀i p,ps i=some p→∀y∈p.dt,0≤y∧y < 256) (i:Nat) (x:Option Pi) (hx:∀p,x=some p→∀y∈p.dt,0≤y∧y < 256):∀j p,psPut ps i x j=some p→∀y∈p.dt,0≤y∧y < 256:=by
 intro j p hp
 by_cases e:j=i
 ·subst e;rw [psPut_eq] at hp;exact hx p hp
 ·rw [psPut_ne _ _ e] at hp;exact h j p hp
theorem pclose_by {ps:PS} (h:∀i p,ps i=some p→∀y∈p.dt,0≤y∧y < 256) (id:Int) (wr:Bool):∀j p,(pcloseF ps id wr).2 j=some p→∀y∈p.dt,0≤y∧y < 256:=by
 unfold pcloseF
 cases hat:psAt ps id with
 | none=> exact h
 | some q=>
  obtain ⟨i,-,hi⟩:=psAt_some hat
  cases wr
  all_goals
   simp only [Bool.false_eq_true,if_false,if_true]
   split
   ·exact h
   ·split
    ·exact psPut_by h _ _ (fun p hp=> by cases hp)
    ·exact psPut_by h _ _ (fun p hp=> by cases hp;exact h i q hi)
theorem pread_by {ps:PS} (h:∀i p,ps i=some p→∀y∈p.dt,0≤y∧y < 256) (id n:Int):∀j p,(preadF ps id n).2.2 j=some p→∀y∈p.dt,0≤y∧y < 256:=by
 unfold preadF
 cases hat:psAt ps id with
 | none=> exact h
 | some q=>
  obtain ⟨i,-,hi⟩:=psAt_some hat
  simp only
  repeat' split
  all_goals first | exact h | exact psPut_by h _ _ (fun p hp=> by cases hp;exact fun y hy=> h i q hi y (List.mem_of_mem_drop hy))
theorem pwrite_by {ps:PS} (h:∀i p,ps i=some p→∀y∈p.dt,0≤y∧y < 256) (id:Int) (b:List Int) (hb:∀y∈b,0≤y∧y < 256):∀j p,(pwriteF ps id b).2 j=some p→∀y∈p.dt,0≤y∧y < 256:=by
 unfold pwriteF
 cases hat:psAt ps id with
 | none=> exact h
 | some q=>
  obtain ⟨i,-,hi⟩:=psAt_some hat
  simp only
  repeat' split
  all_goals first | exact h | exact psPut_by h _ _ (fun p hp=> by cases hp;exact fun y hy=> (List.mem_append.1 hy).elim (h i q hi y) (hb y))
theorem pmake_by {ps:PS} (h:∀i p,ps i=some p→∀y∈p.dt,0≤y∧y < 256) (n:Nat):∀j p,(pmakeF n ps).2.2 j=some p→∀y∈p.dt,0≤y∧y < 256:=by
 unfold pmakeF
 cases pfreeF ps with
 | none=> exact h
 | some i=>
  simp only
  split
  ·exact h
  ·exact psPut_by h _ _ (fun p hp=> by cases hp;exact fun y hy=> by cases hy)
theorem dropT_by (h:BY z) (k:Nat):BY (dropT z k):=by
 unfold dropT
 split
 ·exact h.sames rfl rfl
 ·split
  ·exact ⟨h.bs,pclose_by h.pp _ _⟩
  ·exact h.setns (closeF_an h.an _) rfl
theorem dropZ_by (h:BY z) (pid:Int) (f:Nat→Option Nat) (d k:Nat):BY (dropZ z pid f d k):=by
 unfold dropZ
 exact dropT_by (z:=z.putp pid (some (upN f d none))) (h.sames rfl rfl) k
theorem ite_by {α:Type} {P:α→Prop} {c:Prop} [Decidable c] {a b:α} (h1:P a) (h2:P b):P (if c then a else b):=by
 split
 ·exact h1
 ·exact h2
theorem on_by {α:Type} {P:α→Prop} (z:Z) (pid d:Int) (bad:Int→α) (kk:(Nat→Option Nat)→Nat→α) (h1:∀e,P (bad e)) (h2:∀f k,P (kk f k)):P (z.on pid d bad kk):=by
 unfold Z.on
 cases z.pr pid with
 | none=> exact h1 4
 | some f=>
  simp only
  cases fdZ f d with
  | none=> exact h1 8
  | some k=> exact h2 f k
theorem closeZ_by (h:BY z) (pid d:Int):BY (closeZ z pid d).2:=
 on_by (P:=fun r:Int×Z=> BY r.2) z pid d _ _ (fun e=> h) (fun f k=> dropZ_by h pid f _ k)
theorem leaveN_by (h:BY z) (pid:Int):∀i,BY (leaveN z pid i)
 | 0=> h
 | i+1=> by
  have ih:=leaveN_by h pid i
  unfold leaveN
  split
  ·exact ih
  ·split
   ·exact ih
   ·exact dropZ_by ih pid _ _ _
theorem leaveZ_by (h:BY z) (pid:Int):BY (leaveZ z pid).2:=by
 unfold leaveZ
 split
 ·exact h
 ·exact (leaveN_by h pid 8).sames rfl rfl
theorem startZ_by (h:BY z) (pid:Int):BY (startZ z pid).2:=by
 unfold startZ
 repeat' split
 all_goals exact h.sames rfl rfl
theorem copyZ_by (h:BY z) (p q:Int):BY (copyZ z p q).2:=by
 unfold copyZ
 repeat' split
 all_goals exact h.sames rfl rfl
theorem openZ_by (h:BY z) (pid:Int) (l:Txt) (n:Int):BY (openZ z pid l n).2.2:=by
 unfold openZ
 repeat' split
 all_goals first | exact h | exact h.setns (openF_an h.an _ _) rfl
theorem pipeZ_by (h:BY z) (cap:Nat) (pid:Int):BY (pipeZ cap z pid).2.2:=by
 unfold pipeZ
 repeat' split
 all_goals first | exact h | exact ⟨h.bs,pmake_by h.pp _⟩
theorem dupZ_by (h:BY z) (pid d:Int):BY (dupZ z pid d).2.2:=
 on_by (P:=fun r:Int×Int×Z=> BY r.2.2) z pid d _ _ (fun e=> h) (fun f k=> by split <;> exact h.sames rfl rfl)
theorem seekZ_by (h:BY z) (pid d off:Int):BY (seekZ z pid d off).2:=
 on_by (P:=fun r:Int×Z=> BY r.2) z pid d _ _ (fun e=> h) (fun f k=> by split <;> exact h.sames rfl rfl)
theorem readZ_keep (h:BY z) (pid d n:Int):BY (readZ z pid d n).2.2:=
 on_by (P:=fun r:List Int×Int×Z=> BY r.2.2) z pid d _ _ (fun e=> h) (fun f k=> by
  split
  ·exact h
  ·split
   ·exact ⟨h.bs,pread_by h.pp _ _⟩
   ·exact h.sames rfl rfl)
theorem writeZ_by (h:BY z) (cap:Nat) (pid d:Int) (b:List Int) (hb:∀y∈b,0≤y∧y < 256):BY (writeZ cap z pid d b).2.2:=
 on_by (P:=fun r:Int×Int×Z=> BY r.2.2) z pid d _ _ (fun e=> h) (fun f k=> by
  repeat' split
  all_goals first | exact h | exact ⟨h.bs,pwrite_by h.pp _ _ hb⟩ | exact h.setns (wrF_an h.an _ _ _ _ hb) rfl)
theorem u8s_by (s:ByteArray):∀y∈u8s s,0≤y∧y < 256:=by
 intro y hy
 obtain ⟨c,-,rfl⟩:=List.mem_map.1 hy
 have:=c.toNat_lt
 omega
theorem udoZ_by (h:BY z) (cap:Nat) (pid sys a b:Int) (s t:ByteArray):BY (udoZ cap z m pid sys a b s t).2.1:=by
 unfold udoZ
 refine ite_by (P:=fun r:UR×Z×PrM=> BY r.2.1) h (ite_by (P:=fun r:UR×Z×PrM=> BY r.2.1) h ?_)
 unfold udoK
 refine ite_by (P:=fun r:UR×Z×PrM=> BY r.2.1) (openZ_by h _ _ _) ?_
 refine ite_by (P:=fun r:UR×Z×PrM=> BY r.2.1) (closeZ_by h _ _) ?_
 refine ite_by (P:=fun r:UR×Z×PrM=> BY r.2.1) (readZ_keep h _ _ _) ?_
 refine ite_by (P:=fun r:UR×Z×PrM=> BY r.2.1) (writeZ_by h _ _ _ _ (u8s_by s)) ?_
 refine ite_by (P:=fun r:UR×Z×PrM=> BY r.2.1) (seekZ_by h _ _ _) ?_
 refine ite_by (P:=fun r:UR×Z×PrM=> BY r.2.1) (dupZ_by h _ _) ?_
 refine ite_by (P:=fun r:UR×Z×PrM=> BY r.2.1) (h.setns (linkF_an h.an _ _) rfl) ?_
 refine ite_by (P:=fun r:UR×Z×PrM=> BY r.2.1) (h.setns (atPar_an h.an _ _ (fun d nm _=> remF_an h.an _ _ _ _)) rfl) ?_
 refine ite_by (P:=fun r:UR×Z×PrM=> BY r.2.1) (h.setns (atPar_an h.an _ _ (fun d nm hn=> mkdirF_an h.an _ _ hn)) rfl) ?_
 refine ite_by (P:=fun r:UR×Z×PrM=> BY r.2.1) (h.setns (atPar_an h.an _ _ (fun d nm _=> remF_an h.an _ _ _ _)) rfl) ?_
 refine ite_by (P:=fun r:UR×Z×PrM=> BY r.2.1) (pipeZ_by h _ _) ?_
 refine ite_by (P:=fun r:UR×Z×PrM=> BY r.2.1) h (ite_by (P:=fun r:UR×Z×PrM=> BY r.2.1) h (ite_by (P:=fun r:UR×Z×PrM=> BY r.2.1) h (ite_by (P:=fun r:UR×Z×PrM=> BY r.2.1) h h)))
theorem startU_by (h:BY z) (pid:Int):BY (startU z m pid).2.1:=by
 unfold startU
 split
 ·exact startZ_by h _
 ·exact h
theorem forkU_by (h:BY z) (pid q:Int):BY (forkU z m pid q).2.1:=by
 unfold forkU
 split
 ·exact h
 ·split
  ·exact copyZ_by h _ _
  ·exact h
theorem exitU_by (h:BY z) (pid code:Int):BY (exitU z m pid code).2.1:=by
 unfold exitU
 split
 ·exact leaveZ_by h _
 ·exact h
theorem by00:BY z00:=⟨(fun i nd hi=> by
  unfold z00 ns0 at hi
  simp only at hi
  split at hi
  ·cases hi;exact ⟨(fun y hy=> by cases hy),(fun y hy=> by cases hy)⟩
  ·cases hi),(fun i p hp=> by cases hp)⟩
end
end Go.Proofs.YtjpjafajploiaaaGreatDoor
namespace Go.Proofs.YtjpjafajploiaaaGreatDoor
open Go.RowKit Own RegJ Two
open Go.Lib hiding intOf
abbrev mineT:Txt:= [109,105,110,101]
abbrev pathM:Txt:= [47,109,105,110,101]
structure MN (ns:NSt) (bs:List Int):Prop where
 one:ns 1=some ⟨false,1,1,[],bs⟩
 rt:∃nd,ns 0=some nd∧nd.dir=true
 ent:∀i nd,ns i=some nd→∀x∈nd.es,(x.2=1→i=0∧x.1=mineT)∧1≤x.2
section
variable {ns:NSt} {bs:List Int}
theorem fnd_mem {es:List En} {nm:Txt} {k:Int} (h:fndE es nm=some k):(nm,k)∈es:=by
 unfold fndE at h
 rw [Option.map_eq_some_iff] at h
 obtain ⟨y,hy,rfl⟩:=h
 have h1:=List.mem_of_find?_eq_some hy
 have h2:=List.find?_some hy
 have h3:y.1=nm:=by simpa using h2
 rw [←h3];exact h1
theorem find_step (h:MN ns bs) {d:Int} {x:Txt} (h0:(findR ns d x).2=0):1≤(findR ns d x).1∧((findR ns d x).1=1→d=0∧x=mineT):=by
 unfold findR at*
 cases hd:dirAt ns d with
 | none=> rw [hd] at h0;simp at h0
 | some nd=>
  rw [hd] at h0
  simp only at h0 ⊢
  obtain ⟨i,rfl,hi,-⟩:=dirAt_some hd
  cases hf:fndE nd.es x with
  | none=> rw [hf] at h0;simp at h0
  | some k=>
   have:=h.ent i nd hi _ (fnd_mem hf)
   simp only
   exact ⟨this.2,fun e=> ⟨by have:=(this.1 e).1;omega,(this.1 e).2⟩⟩
theorem walk_zero (h:MN ns bs):∀(r:List Txt) (d:Int),walkL ns d r=(0,0)→d=0∧r= []
 | [],d,hw=> by unfold walkL at hw;cases hw;exact ⟨rfl,rfl⟩
 | x::r,d,hw=> by
  unfold walkL at hw
  by_cases h0:(findR ns d x).2=0
  ·rw [if_pos h0] at hw
   have:=(walk_zero h r _ hw).1
   have:=(find_step h h0).1
   omega
  ·rw [if_neg h0] at hw;exact absurd (congrArg Prod.snd hw) h0
theorem walk_one (h:MN ns bs):∀(r:List Txt) (d:Int),walkL ns d r=(1,0)→(d=1∧r= [])∨(d=0∧r= [mineT])
 | [],d,hw=> by unfold walkL at hw;cases hw;exact .inl ⟨rfl,rfl⟩
 | x::r,d,hw=> by
  unfold walkL at hw
  by_cases h0:(findR ns d x).2=0
  ·rw [if_pos h0] at hw
   obtain ⟨g1,g2⟩:=find_step h h0
   rcases walk_one h r _ hw with ⟨e1,e2⟩ | ⟨e1,e2⟩
   ·obtain ⟨e3,e4⟩:=g2 e1
    exact .inr ⟨e3,by rw [e2,e4]⟩
   ·omega
  ·rw [if_neg h0] at hw;exact absurd (congrArg Prod.snd hw) h0
theorem path_mine {l:Txt} (h:splitE l=0) (hs:splitL l= [mineT]):l=pathM:=by
 have:=(split_join h).1
 rw [hs] at this
 exact this.symm
theorem walkR_one (h:MN ns bs) {l:Txt} (hl:l≠pathM) {a:Int} (hw:walkR ns l=(a,0)):a≠1:=by
 rintro rfl
 unfold walkR at hw
 by_cases h0:splitE l=0
 ·rw [if_pos h0] at hw
  rcases walk_one h _ _ hw with ⟨e,-⟩ | ⟨-,e⟩
  ·cases e
  ·exact hl (path_mine h0 e)
 ·rw [if_neg h0] at hw;cases hw
theorem par_mine (h:MN ns bs) {l:Txt} (hl:l≠pathM) (h0:parEr ns l=0):¬(parDi ns l=0∧parN l=mineT):=by
 rintro ⟨e1,e2⟩
 unfold parEr at h0
 by_cases hp:parE l=0
 ·rw [if_pos hp] at h0
  have hw:walkR ns (parD l)=(0,0):=Prod.ext e1 h0
  have hs:splitE l=0:=by
   unfold parE at hp
   by_cases hs:splitE l=0
   ·exact hs
   ·rw [if_neg hs] at hp;exact absurd hp hs
  have hne:splitL l≠ []:=by
   intro e
   unfold parE at hp
   rw [if_pos hs,if_pos e] at hp;cases hp
  obtain ⟨-,g2,g3,-⟩:=par_back hs hne
  unfold walkR at hw
  rw [if_pos g2] at hw
  have:=(walk_zero h _ _ hw).2
  rw [this,e2] at g3
  exact hl (path_mine hs g3.symm)
 ·rw [if_neg hp] at h0;exact hp h0
theorem mn_put (h:MN ns bs) {i:Nat} (h1:i≠1) (x:Option Nd) (h0:i=0→∃nd,x=some nd∧nd.dir=true) (hx:∀nd,x=some nd→∀y∈nd.es,(y.2=1→i=0∧y.1=mineT)∧1≤y.2):MN (nsPut ns i x) bs:=by
 refine ⟨by rw [put_ne _ _ _ (fun e=> h1 e.symm)];exact h.one,?_,fun j nd hj=> ?_⟩
 ·by_cases e:i=0
  ·obtain ⟨nd,rfl,hd⟩:=h0 e
   subst e
   exact ⟨nd,put_eq _ _ _,hd⟩
  ·rw [put_ne _ _ _ (fun h=> e h.symm)];exact h.rt
 ·by_cases e:j=i
  ·subst e;rw [put_eq] at hj;exact hx nd hj
  ·rw [put_ne _ _ _ e] at hj;exact h.ent j nd hj
theorem mn_same (h:MN ns bs) {i:Nat} (h1:i≠1) {nd nd' :Nd} (hi:ns i=some nd) (hd:nd'.dir=nd.dir) (he:nd'.es=nd.es):MN (nsPut ns i (some nd')) bs:=
 mn_put h h1 _ (fun e=> by
  subst e
  obtain ⟨n0,g1,g2⟩:=h.rt
  rw [hi] at g1;cases g1
  exact ⟨_,rfl,hd.trans g2⟩) (fun x hx=> by cases hx;rw [he];exact h.ent i nd hi)
theorem mn_dec (h:MN ns bs) {m:Nat} (h1:m≠1):MN (decL ns m) bs:=by
 unfold decL
 cases hm:ns m with
 | none=> exact h
 | some k=> exact mn_same h h1 hm rfl rfl
theorem goneL_mn {f:Nat} (ih:∀ns i,MN ns bs→i≠1→MN (gone f ns i) bs):∀(es:List En) (s:NSt),(∀x∈es,x.2≠1∧1≤x.2)→MN s bs→MN (goneL f es s) bs
 | [],s,_,h=> h
 | e::es,s,he,h=> by
  have h1:=he e (List.mem_cons_self ..)
  have hne:e.2.toNat≠1:=by omega
  rw [goneL_cons]
  split
  ·exact goneL_mn ih es _ (fun x hx=> he x (List.mem_cons_of_mem _ hx)) (ih _ _ (mn_dec h hne) hne)
  ·exact goneL_mn ih es s (fun x hx=> he x (List.mem_cons_of_mem _ hx)) h
theorem gone_mn:∀(f:Nat) (ns:NSt) (i:Nat),MN ns bs→i≠1→MN (gone f ns i) bs
 | 0,ns,_,h,_=> h
 | f+1,ns,i,h,h1=> by
  cases hn:ns i with
  | none=> rw [gone_none hn];exact h
  | some nd=>
   by_cases hs:i=0∨0 < nd.links∨0 < nd.opens
   ·rw [gone_stay hn hs];exact h
   ·rw [gone_go hn hs]
    have hi0:i≠0:=fun e=> hs (.inl e)
    exact goneL_mn (gone_mn f) nd.es _ (fun x hx=> ⟨fun e=> hi0 ((h.ent i nd hn x hx).1 e).1,(h.ent i nd hn x hx).2⟩) (mn_put h h1 _ (fun e=> absurd e hi0) (fun nd hn=> by cases hn))
theorem dir_ne (h:MN ns bs) {i:Nat} {nd:Nd} (hi:ns i=some nd) (hd:nd.dir=true):i≠1:=by
 rintro rfl
 rw [h.one] at hi
 cases hi
 cases hd
theorem entF_mn (h:MN ns bs) {i:Nat} {nd:Nd} (hi:ns i=some nd) (hd:nd.dir=true) (nm:Txt) (id:Int) (h1:id≠1):MN (entF ns i nd nm id).2 bs:=by
 unfold entF
 split
 ·rename_i hr
  have hid:id≠0∧ndAt ns id≠none:=by
   unfold entR at hr
   split at hr
   ·exact absurd hr ‹_›
   ·split at hr
    ·cases hr
    ·rename_i hn;exact ⟨fun e=> hn (.inl e),fun e=> hn (.inr e)⟩
  have hid1:1≤id:=by
   obtain ⟨n,hn⟩:=Option.ne_none_iff_exists'.1 hid.2
   obtain ⟨k,rfl,-⟩:=ndAt_some hn
   have:=hid.1
   omega
  have hne:id.toNat≠1:=by omega
  have hput:MN (nsPut ns i (some (setEs nd (insE nd.es (plc nd.es nm) (nm,id))))) bs:=by
   refine mn_put h (dir_ne h hi hd) _ (fun e=> ⟨_,rfl,hd⟩) (fun x hx=> ?_)
   cases hx
   intro y hy
   have hy' :y∈nd.es∨y=(nm,id):=by
    simp only [setEs,insE] at hy
    rcases List.mem_append.1 hy with hy | hy
    ·exact .inl (List.mem_of_mem_take hy)
    ·rcases List.mem_cons.1 hy with hy | hy
     ·exact .inr hy
     ·exact .inl (List.mem_of_mem_drop hy)
   rcases hy' with hy | rfl
   ·exact h.ent i nd hi y hy
   ·exact ⟨fun e=> absurd e h1,hid1⟩
  show MN (nsEnt ns i nd _ id) bs
  unfold nsEnt
  cases hm:nsPut ns i (some (setEs nd (insE nd.es (plc nd.es nm) (nm,id)))) id.toNat with
  | none=> exact hput
  | some m=> exact mn_same hput hne hm rfl rfl
 ·exact h
theorem closeF_mn (h:MN ns bs) {id:Int} (h1:id≠1):MN (closeF ns id).2 bs:=by
 unfold closeF
 cases hn:ndAt ns id with
 | none=> exact h
 | some nd=>
  simp only
  split
  ·obtain ⟨i,rfl,hi⟩:=ndAt_some hn
   have hne:i≠1:=by omega
   exact gone_mn _ _ _ (mn_same h (by simpa using hne) hi rfl rfl) (by simpa using hne)
  ·exact h
theorem madeF_mn (h:MN ns bs) (d:Int) (nm:Txt) (isD:Bool):MN (madeF ns d nm isD).2.2 bs∧(madeF ns d nm isD).1≠1:=by
 unfold madeF
 cases hd:dirAt ns d with
 | none=> exact ⟨h,(show (0:Int)≠1 by decide)⟩
 | some nd=>
  simp only
  cases hf:freeF ns with
  | none=> exact ⟨h,(show (0:Int)≠1 by decide)⟩
  | some i=>
   obtain ⟨h16,hn⟩:=freeF_some hf
   obtain ⟨k,rfl,hk,hdir⟩:=dirAt_some hd
   have hi1:i≠1:=fun e=> by rw [e,h.one] at hn;cases hn
   have hi0:i≠0:=fun e=> by obtain ⟨n0,g1,-⟩:=h.rt;rw [e,g1] at hn;cases hn
   have h1:MN (nsPut ns i (some ⟨isD,0,1,[],[]⟩)) bs:=mn_put h hi1 _ (fun e=> absurd e hi0) (fun x hx=> by cases hx;intro y hy;cases hy)
   have hki:k≠i:=fun e=> by rw [e,hn] at hk;cases hk
   have h2:=entF_mn h1 (show nsPut ns i (some ⟨isD,0,1,[],[]⟩) k=some nd by rw [put_ne _ _ _ hki];exact hk) hdir nm i (by omega)
   simp only
   split
   ·exact ⟨h2,by simp only;omega⟩
   ·exact ⟨closeF_mn h2 (by omega),(show (0:Int)≠1 by decide)⟩
theorem mkdirF_mn (h:MN ns bs) (d:Int) (nm:Txt):MN (mkdirF ns d nm).2 bs:=by
 unfold mkdirF
 split
 ·exact h
 ·split
  ·exact h
  ·split
   ·exact closeF_mn (madeF_mn h _ _ _).1 (madeF_mn h _ _ _).2
   ·exact (madeF_mn h _ _ _).1
theorem rmvF_mn (h:MN ns bs) (d:Int) (nm:Txt) (hne:¬(d=0∧nm=mineT)):MN (rmvF ns d nm).2 bs:=by
 unfold rmvF
 cases hd:dirAt ns d with
 | none=> exact h
 | some nd=>
  simp only
  obtain ⟨k,rfl,hk,hdir⟩:=dirAt_some hd
  split
  ·exact h
  ·rename_i x hx
   split
   ·rename_i hnm
    have hmem:=List.mem_of_getElem? hx
    have hex:=h.ent k nd hk x hmem
    have hx1:x.2≠1:=fun e=> hne ⟨by have:=(hex.1 e).1;omega,by rw [←hnm];exact (hex.1 e).2⟩
    have hxn:x.2.toNat≠1:=by have:=hex.2;omega
    split
    ·split
     ·exact h
     ·refine gone_mn _ _ _ (mn_dec (mn_put h (dir_ne h hk hdir) (some (setEs nd (delE nd.es (plc nd.es nm)))) (fun e=> ⟨setEs nd (delE nd.es (plc nd.es nm)),rfl,hdir⟩) (fun y hy=> ?_)) hxn) hxn
      cases hy
      intro v hv
      have hv' :v∈nd.es:=by
       simp only [setEs,delE] at hv
       rcases List.mem_append.1 hv with hv | hv
       ·exact List.mem_of_mem_take hv
       ·exact List.mem_of_mem_drop hv
      exact h.ent k nd hk v hv'
    ·exact h
   ·exact h
theorem remF_mn (h:MN ns bs) (d:Int) (nm:Txt) (isD:Bool) (o:Int) (hne:¬(d=0∧nm=mineT)):MN (remF ns d nm isD o).2 bs:=by
 unfold remF
 split
 ·exact h
 ·split
  ·exact h
  ·exact rmvF_mn h _ _ hne
theorem atPar_mn (h:MN ns bs) {l:Txt} (hl:l≠pathM) (k:Int→Txt→Int×NSt) (hk:∀d nm,¬(d=0∧nm=mineT)→MN (k d nm).2 bs):MN (atPar ns l k).2 bs:=by
 unfold atPar
 split
 ·rename_i h0;exact hk _ _ (par_mine h hl h0)
 ·exact h
theorem linkF_mn (h:MN ns bs) {s t:Txt} (hs:s≠pathM) (ht:t≠pathM):MN (linkF ns s t).2 bs:=by
 unfold linkF
 split
 ·exact h
 ·rename_i h0
  have hw:walkR ns s=((walkR ns s).1,0):=Prod.ext rfl (by simpa using h0)
  have h1:=walkR_one h hs hw
  split
  ·exact h
  ·refine atPar_mn h ht _ fun d nm _=> ?_
   unfold linkE
   cases hd:dirAt ns d with
   | none=> exact h
   | some nd=>
    obtain ⟨i,rfl,hi,hdir⟩:=dirAt_some hd
    exact entF_mn h hi hdir _ _ h1
theorem openF_mn (h:MN ns bs) {l:Txt} (hl:l≠pathM) (n:Int):MN (openF ns l n).2.2 bs∧(openF ns l n).1≠1:=by
 unfold openF
 split
 ·exact ⟨h,(show (0:Int)≠1 by decide)⟩
 ·split
  ·unfold newF
   split
   ·exact madeF_mn h _ _ _
   ·exact ⟨h,(show (0:Int)≠1 by decide)⟩
  ·split
   ·exact ⟨h,(show (0:Int)≠1 by decide)⟩
   ·rename_i h0
    have hw:walkR ns l=((walkR ns l).1,0):=Prod.ext rfl (by simpa using h0)
    have h1:=walkR_one h hl hw
    cases hn:ndAt ns (walkR ns l).1 with
    | none=> exact ⟨h,(show (0:Int)≠1 by decide)⟩
    | some nd=>
     simp only
     split
     ·exact ⟨h,(show (0:Int)≠1 by decide)⟩
     ·obtain ⟨i,e,hi⟩:=ndAt_some hn
      refine ⟨?_,h1⟩
      rw [e] at h1 ⊢
      refine mn_same h (fun e=> h1 (by simp at e;rw [e];rfl)) hi ?_ ?_
      ·split <;> rfl
      ·split <;> rfl
theorem wrF_mn (h:MN ns bs) (F:Nat) {id:Int} (h1:id≠1) (off:Int) (b:List Int):MN (wrF ns F id off b).2 bs:=by
 unfold wrF
 cases hn:ndAt ns id with
 | none=> exact h
 | some nd=>
  obtain ⟨i,rfl,hi⟩:=ndAt_some hn
  have hne:i≠1:=by omega
  simp only
  repeat' split
  all_goals first | exact h | exact mn_same h (by simpa using hne) hi rfl rfl
end
end Go.Proofs.YtjpjafajploiaaaGreatDoor
namespace Go.Proofs.YtjpjafajploiaaaGreatDoor
open Go.RowKit Own RegJ Two
open Go.Lib hiding intOf
structure AP (m:PrM):Prop where
 me:∃x,m 500=some x∧x.pa= -1∧x.de=false
 ng:∀i x,m i=some x→i≠ -1
structure AL (z:Z) (bs:List Int):Prop where
 mn:MN z.ns bs
 pr:∃f,z.pr 500=some f∧f 0=some 0
 fo:∀pid f d k,pid≠500→z.pr pid=some f→f d=some k→k≠0
 th:∃pl,z.th 0=⟨false,false,1,pl,false,1⟩
 nx:0 < z.nx
 ot:∀k,k≠0→(z.th k).pp=false→(z.th k).id≠1
section
variable {z:Z} {bs:List Int} {m:PrM}
theorem al_putp (h:AL z bs) {pid:Int} (hp:pid≠500) (x:Option (Nat→Option Nat)) (hx:∀f,x=some f→∀d k,f d=some k→k≠0):AL (z.putp pid x) bs:=by
 refine ⟨h.mn,?_,fun q f d k hq hf hk=> ?_,h.th,h.nx,h.ot⟩
 ·rw [putp_ne _ _ (fun e=> hp e.symm)];exact h.pr
 ·by_cases e:q=pid
  ·subst e;rw [putp_eq] at hf;exact hx f hf d k hk
  ·rw [putp_ne _ _ e] at hf;exact h.fo q f d k hq hf hk
theorem al_putt (h:AL z bs) {k:Nat} (hk:k≠0) (t:Th) (ht:t.pp=false→t.id≠1):AL (z.putt k t) bs:=by
 refine ⟨h.mn,h.pr,h.fo,?_,h.nx,fun j hj=> ?_⟩
 ·obtain ⟨pl,hp⟩:=h.th
  exact ⟨pl,(upN_ne _ _ (fun e=> hk e.symm)).trans hp⟩
 ·show (upN z.th k t j).pp=false→(upN z.th k t j).id≠1
  by_cases e:j=k
  ·rw [e,upN_eq];exact ht
  ·rw [upN_ne _ _ e];exact h.ot j hj
theorem al_name (h:AL z bs) {pid:Int} (hp:pid≠500) {f:Nat→Option Nat} (hf:∀d k,f d=some k→k≠0) (d:Nat) (t:Th) (ht:t.pp=false→t.id≠1):AL (z.name pid f d t) bs:=by
 have hnx:=h.nx
 refine ⟨h.mn,?_,fun q g e k hq hg hk=> ?_,?_,Nat.succ_pos _,fun j hj=> ?_⟩
 ·show ∃g,(if (500:Int)=pid then some (upN f d (some z.nx)) else z.pr 500)=some g∧g 0=some 0
  rw [if_neg (fun e=> hp e.symm)];exact h.pr
 ·have hg' :(if q=pid then some (upN f d (some z.nx)) else z.pr q)=some g:=hg
  by_cases e1:q=pid
  ·rw [if_pos e1] at hg'
   cases hg'
   by_cases e2:e=d
   ·subst e2;rw [upN_eq] at hk;cases hk;omega
   ·rw [upN_ne _ _ e2] at hk;exact hf e k hk
  ·rw [if_neg e1] at hg';exact h.fo q g e k hq hg' hk
 ·obtain ⟨pl,hpl⟩:=h.th
  exact ⟨pl,(upN_ne _ _ (by omega)).trans hpl⟩
 ·show (upN z.th z.nx t j).pp=false→(upN z.th z.nx t j).id≠1
  by_cases e:j=z.nx
  ·rw [e,upN_eq];exact ht
  ·rw [upN_ne _ _ e];exact h.ot j hj
theorem al_ns (h:AL z bs) {ns:NSt} (hm:MN ns bs):AL {z with ns:=ns} bs:=⟨hm,h.pr,h.fo,h.th,h.nx,h.ot⟩
theorem al_ps (h:AL z bs) (ps:PS):AL {z with ps:=ps} bs:=⟨h.mn,h.pr,h.fo,h.th,h.nx,h.ot⟩
theorem al_drop (h:AL z bs) {k:Nat} (hk:k≠0):AL (dropT z k) bs:=by
 unfold dropT
 have h1:=al_putt h hk {z.th k with nm:=(z.th k).nm - 1} (h.ot k hk)
 split
 ·exact h1
 ·split
  ·exact al_ps h1 _
  ·rename_i hp
   exact al_ns h1 (closeF_mn h.mn (h.ot k hk (by simpa using hp)))
theorem al_on {α:Type} {P:α→Prop} (h:AL z bs) {pid:Int} (hp:pid≠500) (d:Int) (bad:Int→α) (kk:(Nat→Option Nat)→Nat→α) (h1:∀e,P (bad e)) (h2:∀f k,z.pr pid=some f→(∀d k,f d=some k→k≠0)→k≠0→P (kk f k)):P (z.on pid d bad kk):=by
 unfold Z.on
 cases hf:z.pr pid with
 | none=> exact h1 4
 | some f=>
  simp only
  have hfo:=fun d k hk=> h.fo pid f d k hp hf hk
  cases hfd:fdZ f d with
  | none=> exact h1 8
  | some k=>
   refine h2 f k hf hfo ?_
   unfold fdZ at hfd
   split at hfd
   ·exact hfo _ k hfd
   ·cases hfd
theorem up_none {f:Nat→Option Nat} (hf:∀d k,f d=some k→k≠0) (d:Nat):∀e k,upN f d none e=some k→k≠0:=fun e k hk=> by
 by_cases e2:e=d
 ·subst e2;rw [upN_eq] at hk;cases hk
 ·rw [upN_ne _ _ e2] at hk;exact hf e k hk
theorem up_some {f:Nat→Option Nat} (hf:∀d k,f d=some k→k≠0) (d:Nat) {j:Nat} (hj:j≠0):∀e k,upN f d (some j) e=some k→k≠0:=fun e k hk=> by
 by_cases e2:e=d
 ·subst e2;rw [upN_eq] at hk;cases hk;exact hj
 ·rw [upN_ne _ _ e2] at hk;exact hf e k hk
theorem al_dropZ (h:AL z bs) {pid:Int} (hp:pid≠500) {f:Nat→Option Nat} (hf:∀d k,f d=some k→k≠0) (d:Nat) {k:Nat} (hk:k≠0):AL (dropZ z pid f d k) bs:=by
 unfold dropZ
 exact al_drop (z:=z.putp pid (some (upN f d none))) (al_putp h hp _ (fun g hg=> by cases hg;exact up_none hf d)) hk
theorem al_close (h:AL z bs) {pid:Int} (hp:pid≠500) (d:Int):AL (closeZ z pid d).2 bs:=
 al_on (P:=fun r:Int×Z=> AL r.2 bs) h hp d _ _ (fun e=> h) (fun f k _ hf hk=> al_dropZ h hp hf _ hk)
theorem al_dup (h:AL z bs) {pid:Int} (hp:pid≠500) (d:Int):AL (dupZ z pid d).2.2 bs:=
 al_on (P:=fun r:Int×Int×Z=> AL r.2.2 bs) h hp d _ _ (fun e=> h) (fun f k _ hf hk=> by
  split
  ·exact h
  ·exact al_putt (z:=z.putp pid _) (al_putp h hp _ (fun g hg=> by cases hg;exact up_some hf _ hk)) hk _ (h.ot k hk))
theorem al_seek (h:AL z bs) {pid:Int} (hp:pid≠500) (d off:Int):AL (seekZ z pid d off).2 bs:=
 al_on (P:=fun r:Int×Z=> AL r.2 bs) h hp d _ _ (fun e=> h) (fun f k _ hf hk=> by
  split
  ·exact h
  ·exact al_putt h hk _ (h.ot k hk))
theorem al_read (h:AL z bs) {pid:Int} (hp:pid≠500) (d n:Int):AL (readZ z pid d n).2.2 bs:=
 al_on (P:=fun r:List Int×Int×Z=> AL r.2.2 bs) h hp d _ _ (fun e=> h) (fun f k _ hf hk=> by
  split
  ·exact h
  ·split
   ·exact al_ps h _
   ·exact al_putt h hk _ (h.ot k hk))
theorem al_write (h:AL z bs) (cap:Nat) {pid:Int} (hp:pid≠500) (d:Int) (b:List Int):AL (writeZ cap z pid d b).2.2 bs:=
 al_on (P:=fun r:Int×Int×Z=> AL r.2.2 bs) h hp d _ _ (fun e=> h) (fun f k _ hf hk=> by
  by_cases h1:(z.th k).pp=true
  ·rw [if_pos h1]
   repeat' split
   all_goals first | exact h | exact al_ps h _
  ·rw [if_neg h1]
   have hid:=h.ot k hk (by simpa using h1)
   have hw:=wrF_mn h.mn (cap - psN z.ps 4) hid (atZ z.ns (z.th k)) b
   split
   ·exact al_putt (z:= {z with ns:=_}) (al_ns h hw) hk _ (h.ot k hk)
   ·exact al_ns h hw)
theorem al_open (h:AL z bs) {pid:Int} (hp:pid≠500) {l:Txt} (hl:l≠pathM) (n:Int):AL (openZ z pid l n).2.2 bs:=by
 obtain ⟨h1,h2⟩:=openF_mn h.mn hl n
 unfold openZ
 cases hf:z.pr pid with
 | none=> exact h
 | some f=>
  simp only
  split
  ·exact h
  ·split
   ·exact al_name (z:= {z with ns:=_}) (al_ns h h1) hp (fun d k hk=> h.fo pid f d k hp hf hk) _ _ (fun _=> h2)
   ·exact al_ns h h1
theorem al_pipe (h:AL z bs) (cap:Nat) {pid:Int} (hp:pid≠500):AL (pipeZ cap z pid).2.2 bs:=by
 have hnx:=h.nx
 unfold pipeZ
 cases hf:z.pr pid with
 | none=> exact h
 | some f=>
  simp only
  have hfo:=fun d k hk=> h.fo pid f d k hp hf hk
  split
  ·split
   ·exact al_name (al_name (z:= {z with ps:=_}) (al_ps h _) hp hfo _ _ (fun e=> by cases e)) hp (up_some hfo _ (by omega)) _ _ (fun e=> by cases e)
   ·exact al_ps h _
  ·exact h
theorem al_start (h:AL z bs) {pid:Int} (hp:pid≠500):AL (startZ z pid).2 bs:=by
 unfold startZ
 split
 ·exact h
 ·split
  ·exact h
  ·exact al_putp h hp _ (fun f hf d k hk=> by cases hf;cases hk)
theorem bump_other {th:Nat→Th} {f:Nat→Option Nat} (hf:∀d k,f d=some k→k≠0):∀i,bumpZ th f i 0=th 0∧∀k,(bumpZ th f i k).pp=(th k).pp∧(bumpZ th f i k).id=(th k).id
 | 0=> ⟨rfl,fun _=> ⟨rfl,rfl⟩⟩
 | i+1=> by
  obtain ⟨h1,h2⟩:=bump_other hf i
  unfold bumpZ
  cases hfi:f i with
  | none=> exact ⟨h1,h2⟩
  | some x=>
   have hx:=hf i x hfi
   refine ⟨(upN_ne _ _ (fun e=> hx e.symm)).trans h1,fun k=> ?_⟩
   show (upN (bumpZ th f i) x _ k).pp=_∧(upN (bumpZ th f i) x _ k).id=_
   by_cases e:k=x
   ·rw [e,upN_eq];exact h2 x
   ·rw [upN_ne _ _ e];exact h2 k
theorem al_copy (h:AL z bs) {p q:Int} (hp:p≠500) (hq:q≠500):AL (copyZ z p q).2 bs:=by
 unfold copyZ
 cases hf:z.pr p with
 | none=> exact h
 | some f=>
  simp only
  have hfo:=fun d k hk=> h.fo p f d k hp hf hk
  split
  ·exact h
  ·split
   ·exact h
   ·have h1:=al_putp h hq (some f) (fun g hg=> by cases hg;exact hfo)
    obtain ⟨b1,b2⟩:=bump_other (th:=z.th) hfo 8
    obtain ⟨pl,hpl⟩:=h.th
    exact ⟨h1.mn,h1.pr,h1.fo,⟨pl,b1.trans hpl⟩,h1.nx,fun k hk hpp=> by
     have hpp' :(bumpZ z.th f 8 k).pp=false:=hpp
     show (bumpZ z.th f 8 k).id≠1
     rw [(b2 k).2]
     rw [(b2 k).1] at hpp'
     exact h.ot k hk hpp'⟩
theorem al_leaveN (h:AL z bs) {pid:Int} (hp:pid≠500):∀i,AL (leaveN z pid i) bs
 | 0=> h
 | i+1=> by
  have ih:=al_leaveN h hp i
  unfold leaveN
  cases hf:(leaveN z pid i).pr pid with
  | none=> exact ih
  | some f=>
   simp only
   have hfo:=fun d k hk=> ih.fo pid f d k hp hf hk
   cases hfi:f i with
   | none=> exact ih
   | some k=> exact al_dropZ ih hp hfo i (hfo i k hfi)
theorem al_leave (h:AL z bs) {pid:Int} (hp:pid≠500):AL (leaveZ z pid).2 bs:=by
 unfold leaveZ
 split
 ·exact h
 ·exact al_putp (al_leaveN h hp 8) hp _ (fun f hf=> by cases hf)
theorem kidsOf_mem {pid c:Int} (h:c∈kidsOf m pid):∃x,m c=some x∧x.pa=pid:=by
 unfold kidsOf at h
 split at h
 ·rename_i hex;exact (hex.choose_spec.2 c).1 h
 ·cases h
theorem ap_put (h:AP m) {c:Int} (h5:c≠500) (hc:c≠ -1) (x:Option Pr):AP (prPut m c x):=by
 refine ⟨?_,fun i y hy=> ?_⟩
 ·rw [show prPut m c x 500=m 500 from if_neg (fun e=> h5 e.symm)];exact h.me
 ·unfold prPut at hy
  split at hy
  ·rename_i e;rw [e];exact hc
  ·exact h.ng i y hy
theorem ap_leave (h:AP m) {c:Int} (h5:c≠500):AP (leaveP m c):=by
 unfold leaveP
 cases hc:m c with
 | none=> exact h
 | some x=>
  simp only
  split
  ·exact ap_put h h5 (h.ng c x hc) _
  ·exact ap_put h h5 (h.ng c x hc) _
theorem ap_leaves:∀(l:List Int) (m:PrM),AP m→(∀c∈l,c≠500)→AP (l.foldl leaveP m)
 | [],m,h,_=> h
 | c::r,m,h,hl=> ap_leaves r _ (ap_leave h (hl c (List.mem_cons_self ..))) (fun x hx=> hl x (List.mem_cons_of_mem _ hx))
theorem kid_ne (h:AP m) {pid:Int} (hp:aliveF m pid=true) {c:Int} (hc:c∈kidsOf m pid):c≠500:=by
 rintro rfl
 obtain ⟨x,hx,hpa⟩:=kidsOf_mem hc
 obtain ⟨y,hy,hya,-⟩:=h.me
 rw [hx] at hy;cases hy
 obtain ⟨w,hw,-⟩:=alive_some hp
 exact h.ng pid w hw (by rw [←hpa,hya])
theorem ap_start (h:AP m) {pid:Int} (hp:pid≠500) (pa:Int):AP (startP m pid pa).2:=by
 unfold startP
 split
 ·exact h
 ·rename_i h0
  split
  ·exact h
  ·split
   ·exact h
   ·exact ap_put h hp (by omega) _
theorem ap_exit (h:AP m) {pid:Int} (hp:pid≠500) (code:Int):AP (exitP m pid code).2:=by
 unfold exitP
 split
 ·exact h
 ·rename_i ha
  have ha' :aliveF m pid=true:=by simpa using ha
  split
  ·exact h
  ·have h1:=ap_leaves (kidsOf m pid) m h (fun c hc=> kid_ne h ha' hc)
   obtain ⟨w,hw,-⟩:=alive_some ha'
   have hn:=h.ng pid w hw
   show AP (exitM _ pid code)
   unfold exitM
   split
   ·exact h1
   ·split
    ·exact ap_put h1 hp hn _
    ·exact ap_put h1 hp hn _
theorem ap_child (h:AP m) (pid:Int):AP (childP m pid).2.2.2:=by
 unfold childP
 split
 ·exact h
 ·rename_i ha
  have ha' :aliveF m pid=true:=by simpa using ha
  split
  ·exact h
  ·split
   ·exact h
   ·rename_i i hi
    obtain ⟨hlt,-,-⟩:=List.findIdx?_eq_some_iff_getElem.1 hi
    have hmem:(kidsOf m pid).getD i 0∈kidsOf m pid:=by
     rw [List.getD_eq_getElem?_getD,List.getElem?_eq_getElem hlt];exact List.getElem_mem hlt
    obtain ⟨x,hx,-⟩:=kidsOf_mem hmem
    exact ap_put h (kid_ne h ha' hmem) (h.ng _ x hx) _
structure AU (z:Z) (m:PrM) (bs:List Int):Prop where
 al:AL z bs
 ap:AP m
theorem au_start (h:AU z m bs) {pid:Int} (hp:pid≠500):AU (startU z m pid).2.1 (startU z m pid).2.2 bs:=by
 unfold startU
 split
 ·exact ⟨al_start h.al hp,ap_start h.ap hp _⟩
 ·exact ⟨h.al,ap_start h.ap hp _⟩
theorem au_fork (h:AU z m bs) {pid q:Int} (hp:pid≠500) (hq:q≠500):AU (forkU z m pid q).2.1 (forkU z m pid q).2.2 bs:=by
 unfold forkU
 split
 ·exact h
 ·split
  ·exact ⟨al_copy h.al hp hq,ap_start h.ap hq _⟩
  ·exact ⟨h.al,ap_start h.ap hq _⟩
theorem au_exit (h:AU z m bs) {pid:Int} (hp:pid≠500) (code:Int):AU (exitU z m pid code).2.1 (exitU z m pid code).2.2 bs:=by
 unfold exitU
 split
 ·exact ⟨al_leave h.al hp,ap_exit h.ap hp _⟩
 ·exact ⟨h.al,ap_exit h.ap hp _⟩
theorem au_do (h:AU z m bs) (cap:Nat) {pid:Int} (hp:pid≠500) (sys a b:Int) (s t:ByteArray) (hs:tx s≠pathM) (ht:tx t≠pathM):AU (udoZ cap z m pid sys a b s t).2.1 (udoZ cap z m pid sys a b s t).2.2 bs:=by
 have hz:∀z',AL z' bs→AU z' m bs:=fun z' hz=> ⟨hz,h.ap⟩
 unfold udoZ
 refine ite_by (P:=fun r:UR×Z×PrM=> AU r.2.1 r.2.2 bs) h (ite_by (P:=fun r:UR×Z×PrM=> AU r.2.1 r.2.2 bs) h ?_)
 unfold udoK
 refine ite_by (P:=fun r:UR×Z×PrM=> AU r.2.1 r.2.2 bs) (hz _ (al_open h.al hp hs _)) ?_
 refine ite_by (P:=fun r:UR×Z×PrM=> AU r.2.1 r.2.2 bs) (hz _ (al_close h.al hp _)) ?_
 refine ite_by (P:=fun r:UR×Z×PrM=> AU r.2.1 r.2.2 bs) (hz _ (al_read h.al hp _ _)) ?_
 refine ite_by (P:=fun r:UR×Z×PrM=> AU r.2.1 r.2.2 bs) (hz _ (al_write h.al _ hp _ _)) ?_
 refine ite_by (P:=fun r:UR×Z×PrM=> AU r.2.1 r.2.2 bs) (hz _ (al_seek h.al hp _ _)) ?_
 refine ite_by (P:=fun r:UR×Z×PrM=> AU r.2.1 r.2.2 bs) (hz _ (al_dup h.al hp _)) ?_
 refine ite_by (P:=fun r:UR×Z×PrM=> AU r.2.1 r.2.2 bs) (hz _ (al_ns h.al (linkF_mn h.al.mn hs ht))) ?_
 refine ite_by (P:=fun r:UR×Z×PrM=> AU r.2.1 r.2.2 bs) (hz _ (al_ns h.al (atPar_mn h.al.mn hs _ (fun d nm hn=> remF_mn h.al.mn _ _ _ _ hn)))) ?_
 refine ite_by (P:=fun r:UR×Z×PrM=> AU r.2.1 r.2.2 bs) (hz _ (al_ns h.al (atPar_mn h.al.mn hs _ (fun d nm hn=> mkdirF_mn h.al.mn _ _)))) ?_
 refine ite_by (P:=fun r:UR×Z×PrM=> AU r.2.1 r.2.2 bs) (hz _ (al_ns h.al (atPar_mn h.al.mn hs _ (fun d nm hn=> remF_mn h.al.mn _ _ _ _ hn)))) ?_
 refine ite_by (P:=fun r:UR×Z×PrM=> AU r.2.1 r.2.2 bs) (hz _ (al_pipe h.al _ hp)) ?_
 refine ite_by (P:=fun r:UR×Z×PrM=> AU r.2.1 r.2.2 bs) h (ite_by (P:=fun r:UR×Z×PrM=> AU r.2.1 r.2.2 bs) h (ite_by (P:=fun r:UR×Z×PrM=> AU r.2.1 r.2.2 bs) ⟨h.al,ap_child h.ap _⟩ (ite_by (P:=fun r:UR×Z×PrM=> AU r.2.1 r.2.2 bs) h h)))
end
end Go.Proofs.YtjpjafajploiaaaGreatDoor
namespace Go.Proofs.YtjpjafajploiaaaGreatDoor
open Go.RowKit Own RegJ Two
open Go.Lib hiding intOf
def mA:PrM:=prPut (fun _=> none) 500 (some ⟨-1,0,false⟩)
def zA:Z:=z00.putp 500 (some fun _=> none)
theorem startA:startU z00 (fun _=> none) 500=(0,zA,mA):=by kernel_rfl
def zB:Z:=({zA with ns:=nsO mineT 1 []}:Z).name 500 (fun _=> none) 0 ⟨false,false,1,0,false,1⟩
def zC (b:List Int):Z:=({zB with ns:=nsO mineT 1 b}:Z).putt 0 ⟨false,false,1,0+(b.length:Int),false,1⟩
theorem mineE:nameE mineT=0:=by kernel_rfl
theorem openZ_A:openZ zA 500 pathM 1=(0,0,zB):=by
 have ho:openF zA.ns pathM 1=(1,0,nsO mineT 1 []):=o_new (x:=mineT) mineE 1 (by omega) (by kernel_rfl)
 unfold openZ
 rw [ho]
 simp only
 rw [show zA.pr 500=some (fun _=> none) from rfl]
 simp only
 rw [show freeL (fun _=> (none:Option Nat)) 8= [0,1,2,3,4,5,6,7] from rfl]
 simp only
 rw [if_pos trivial,flE1]
 rfl
theorem aliveA:aliveF mA 500=true:=by kernel_rfl
theorem openA:udoZ 64 zA mA 500 1 1 0 ⟨#[47,109,105,110,101]⟩ ⟨#[]⟩=((0,0,⟨#[]⟩),zB,mA):=by
 unfold udoZ
 rw [if_neg (by rw [aliveA];decide),if_neg (by rw [show mayB 1 1 0 ⟨#[47,109,105,110,101]⟩ ⟨#[]⟩=true from by kernel_rfl];decide)]
 show (nb (plR (openZ zA 500 pathM 1).1 (openZ zA 500 pathM 1).2.1),(openZ zA 500 pathM 1).2.2,mA)=_
 rw [openZ_A]
 rfl
theorem writeZ_A (b:List Int) (h:b.length≤512):writeZ 64 zB 500 0 b=((b.length:Int),0,zC b):=by
 have hw:wrF zB.ns 64 1 0 b=(0,nsO mineT 1 b):=o_writeE 64 (by omega) 1 b h
 have e:writeZ 64 zB 500 0 b=if (wrF zB.ns 64 1 0 b).1=0 then ((b.length:Int),0,({zB with ns:=(wrF zB.ns 64 1 0 b).2}:Z).putt 0 ⟨false,false,1,0+(b.length:Int),false,1⟩) else (0,(wrF zB.ns 64 1 0 b).1,{zB with ns:=(wrF zB.ns 64 1 0 b).2}):=rfl
 rw [e,hw,if_pos rfl]
 rfl
theorem u8s_len (s:ByteArray):(u8s s).length=s.size:=by unfold u8s;rw [List.length_map,Array.length_toList];rfl
theorem writeA (s:ByteArray) (h:s.size≤512):udoZ 64 zB mA 500 4 0 0 s ⟨#[]⟩=((0,(s.size:Int),⟨#[]⟩),zC (u8s s),mA):=by
 have hm:mayB 4 0 0 s ⟨#[]⟩=true:=by
  rw [mayB_4,show withinB 0 0 7=true from rfl,show emp ⟨#[]⟩=true from by kernel_rfl]
  simp;omega
 unfold udoZ
 rw [if_neg (by rw [aliveA];decide),if_neg (by rw [hm];decide)]
 show (nb (plR (writeZ 64 zB 500 0 (u8s s)).1 (writeZ 64 zB 500 0 (u8s s)).2.1),(writeZ 64 zB 500 0 (u8s s)).2.2,mA)=_
 rw [writeZ_A _ (by rw [u8s_len];exact h),u8s_len]
 rfl
theorem mnA (bs:List Int):MN (nsO mineT 1 bs) bs:=by
 refine ⟨rfl,⟨_,rfl,rfl⟩,fun i nd hi=> ?_⟩
 unfold nsO at hi
 split at hi
 ·rename_i h0
  cases hi
  intro x hx
  obtain rfl:x=(mineT,1):=by simpa using hx
  exact ⟨fun _=> ⟨h0,rfl⟩,Int.le_refl 1⟩
 ·split at hi
  ·cases hi;intro x hx;cases hx
  ·cases hi
theorem auC (bs:List Int):AU (zC bs) mA bs:=by
 refine ⟨⟨mnA bs,⟨_,rfl,rfl⟩,fun pid f d k hp hf hk=> ?_,⟨_,rfl⟩,Nat.lt_succ_self 0,fun k hk=> ?_⟩,⟨⟨⟨-1,0,false⟩,rfl,rfl,rfl⟩,fun i x hx=> ?_⟩⟩
 ·have h1:(if pid=500 then some (upN (fun _=> (none:Option Nat)) 0 (some 0)) else if pid=500 then some (fun _=> (none:Option Nat)) else none)=some f:=hf
  rw [if_neg hp,if_neg hp] at h1;cases h1
 ·intro _
  show (upN (upN z00.th 0 ⟨false,false,1,0,false,1⟩) 0 ⟨false,false,1,0+(bs.length:Int),false,1⟩ k).id≠1
  rw [upN_ne _ _ hk,upN_ne _ _ hk]
  exact (by decide:(0:Int)≠1)
 ·unfold mA prPut at hx
  split at hx
  ·omega
  ·cases hx
theorem byC (s:ByteArray):BY (zC (u8s s)):=by
 refine ⟨fun i nd hi=> ?_,fun i p hp=> by cases hp⟩
 have hi' :nsO mineT 1 (u8s s) i=some nd:=hi
 unfold nsO at hi'
 split at hi'
 ·cases hi'
  refine ⟨(fun y hy=> by cases hy),fun x hx=> ?_⟩
  obtain rfl:x=(mineT,1):=by simpa using hx
  exact (by decide:(4:Nat)≤1000)
 ·split at hi'
  ·cases hi';exact ⟨u8s_by s,(fun x hx=> by cases hx)⟩
  ·cases hi'
section
variable {z:Z} {bs:List Int} {m:PrM}
theorem AU.alive (h:AU z m bs):aliveF m 500=true:=by
 obtain ⟨x,h1,-,h2⟩:=h.ap.me
 unfold aliveF
 rw [h1]
 simp [h2]
theorem AU.on {α:Type} (h:AU z m bs) (bad:Int→α) (k:(Nat→Option Nat)→Nat→α):∃f,z.on 500 0 bad k=k f 0:=by
 obtain ⟨f,h1,h2⟩:=h.al.pr
 refine ⟨f,?_⟩
 unfold Z.on
 rw [h1]
 simp only
 rw [show fdZ f 0=some 0 from h2]
theorem seekA (h:AU z m bs):∃z',udoZ 64 z m 500 5 0 0 ⟨#[]⟩ ⟨#[]⟩=((0,0,⟨#[]⟩),z',m)∧AU z' m bs∧z'.th 0=⟨false,false,1,0,false,1⟩∧z'.ns=z.ns∧z'.ps=z.ps:=by
 obtain ⟨pl,ht⟩:=h.al.th
 have hs:seekZ z 500 0 0=(0,z.putt 0 {z.th 0 with pl:=0}):=by
  unfold seekZ
  obtain ⟨f,e⟩:=h.on (fun e=> (e,z)) (fun _ k=> if (z.th k).pp=true∨(0:Int) < 0 then (19,z) else (0,z.putt k {z.th k with pl:=0}))
  rw [e,if_neg (by rw [ht];simp)]
 refine ⟨z.putt 0 {z.th 0 with pl:=0},?_,⟨⟨h.al.mn,h.al.pr,h.al.fo,⟨0,?_⟩,h.al.nx,fun k hk=> ?_⟩,h.ap⟩,?_,rfl,rfl⟩
 ·unfold udoZ
  rw [if_neg (by rw [h.alive];decide),if_neg (by rw [show mayB 5 0 0 ⟨#[]⟩ ⟨#[]⟩=true from by kernel_rfl];decide)]
  show (nb (plR 0 (seekZ z 500 0 0).1),(seekZ z 500 0 0).2,m)=_
  rw [hs]
  rfl
 ·exact (upN_eq z.th 0 {z.th 0 with pl:=0}).trans (by rw [ht])
 ·show (upN z.th 0 {z.th 0 with pl:=0} k).pp=false→(upN z.th 0 {z.th 0 with pl:=0} k).id≠1
  rw [upN_ne _ _ hk]
  exact h.al.ot k hk
 ·exact (upN_eq z.th 0 {z.th 0 with pl:=0}).trans (by rw [ht])
theorem readA (h:AU z m bs) (ht:z.th 0=⟨false,false,1,0,false,1⟩) (hb:bs.length≤512):∃z',udoZ 64 z m 500 3 0 512 ⟨#[]⟩ ⟨#[]⟩=((0,(bs.length:Int),B (toU bs)),z',m):=by
 have hr:readV (filesOf z.ns) 1 0 512=(bs,0):=by
  unfold readV
  rw [show fsAt (filesOf z.ns) 1=some bs from by
   show filesOf z.ns 1=some bs
   unfold filesOf
   rw [h.al.mn.one]
   rfl]
  simp only
  rw [if_neg (by omega)]
  show ((bs.drop 0).take 512,(0:Int))=(bs,0)
  rw [List.drop_zero,List.take_of_length_le hb]
 have hs:∃z',readZ z 500 0 512=(bs,0,z'):=by
  unfold readZ
  obtain ⟨f,e⟩:=h.on (fun e=> (([]:List Int),e,z)) (fun _ k=> if (z.th k).wr=true then ([],8,z)
   else if (z.th k).pp=true then ((preadF z.ps (z.th k).id 512).1,(preadF z.ps (z.th k).id 512).2.1,{z with ps:=(preadF z.ps (z.th k).id 512).2.2})
   else ((readV (filesOf z.ns) (z.th k).id (z.th k).pl 512).1,(readV (filesOf z.ns) (z.th k).id (z.th k).pl 512).2,z.putt k {z.th k with pl:=(z.th k).pl+((readV (filesOf z.ns) (z.th k).id (z.th k).pl 512).1.length:Int)}))
  rw [e,if_neg (by rw [ht];simp),if_neg (by rw [ht];simp),ht]
  simp only
  rw [hr]
  exact ⟨_,rfl⟩
 obtain ⟨z',hz⟩:=hs
 refine ⟨z',?_⟩
 unfold udoZ
 rw [if_neg (by rw [h.alive];decide),if_neg (by rw [show mayB 3 0 512 ⟨#[]⟩ ⟨#[]⟩=true from by kernel_rfl];decide)]
 show ((if (readZ z 500 0 512).2.1=0 then (0,((readZ z 500 0 512).1.length:Int),B (toU (readZ z 500 0 512).1)) else ((readZ z 500 0 512).2.1,0,⟨#[]⟩)),(readZ z 500 0 512).2.2,m)=_
 rw [hz]
 rfl
end
theorem toU_u8s (s:ByteArray):B (toU (u8s s))=s:=by
 rw [show toU (u8s s)=tx s from ?_]
 ·exact (tx_B s).symm
 ·unfold toU u8s tx
  rw [List.map_map]
  exact List.map_id'' (fun c=> by simp) _
end Go.Proofs.YtjpjafajploiaaaGreatDoor
