/-
  Frames that others than files take and give back, beside a store, a table, a vfs of the call's own.
-/
import Derived.Test.YtjpjafajploiaaaGreatDoorUnixAlone22
set_option linter.unusedSimpArgs false
set_option linter.unusedVariables false
namespace Go.Proofs.YtjpjafajploiaaaGreatDoor
open Go.RowKit Own RegJ Two
open Go.Lib hiding intOf
abbrev capAs(n:Nat)(o:Nat→Prop):Inhabited CapT:=⟨⟨n,o⟩⟩
section
variable {w w' :World} {so:SRl→Option Nat} {fs:Sfs} {F N:Nat}
theorem St.take_done {C:Inhabited CapT} {f f' :Fs} {ls:Nat→List Int}(h:StI w so fs F N f ls) {sb mb fb bb kb n s:Nat}
  (ht:so .sto=some sb∧so .mp=some mb∧so .frm=some fb∧so .byt=some bb∧so .tkn=some kb∧Blk w sb #[.pointer(some⟨fb,0,none⟩),.map(some mb)]226∧MapI w Tryz.prog 3 mb n s(filM fs so)∧n≤N∧FrB w fb bb kb(so .fre)f)
  {i:Nat}(hT:Took f i f')(hF:FrB w' fb bb kb(so .fre)f')(hu:Upd(fun k=> k=fb∨k=bb∨k=kb)w w')(n' :Nat):
  @St(capAs n' (fun j=> othN j∨j=i))w' so fs(F - 1)N∧OFr so so w w' :=by
 obtain⟨inj,lt,top,file,far,apart,sum,oth⟩:=h
 obtain⟨t1,t2,t3,t4,t5,t6,t7,t8,t9⟩:=ht
 have hne:∀r k,so r=some k→r≠ .frm→r≠ .byt→r≠ .tkn→¬(k=fb∨k=bb∨k=kb):=fun r k hk e1 e2 e3 hh=> by
  rcases hh with hh | hh | hh
  ·exact e1(inj _ _ _ hk(by rw [hh];exact t3))
  ·exact e2(inj _ _ _ hk(by rw [hh];exact t4))
  ·exact e3(inj _ _ _ hk(by rw [hh];exact t5))
 have hL:TookL f [(i:Int)]f' :=(TookL.nil f).snoc hT
 have hsz:=hu.size
 have hnl:∀j bs,fs j=some bs→(i:Int)∉ls j:=fun j bs hj hm=> by
  obtain⟨_,_,_,_,_,k4⟩:=file j bs hj
  obtain⟨a,e,ha⟩:=k4.has _ hm
  obtain rfl:i=a:=by omega
  exact hT.was ha
 letI C2:Inhabited CapT:=capAs n' (fun j=> @othN C j∨j=i)
 refine⟨⟨f',ls,inj,fun r k hk=> Nat.lt_of_lt_of_le(lt r k hk)hsz,⟨sb,mb,fb,bb,kb,n,s,t1,t2,t3,t4,t5,Blk.upd hu t6(hne _ _ t1(by simp)(by simp)(by simp)),t7.upd hu(hne _ _ t2(by simp)(by simp)(by simp)),t8,hF⟩,fun j bs hj=> ?_,far,apart,?_,fun j hj=> ?_⟩,⟨hu.mono(fun k _ e=> ?_),fun r k hk=> .inl⟨r,hk⟩⟩⟩
 ·obtain⟨k,v,k1,k2,k3,k4⟩:=file j bs hj
  exact⟨k,v,k1,Blk.upd hu k2(hne _ _ k1(by simp)(by simp)(by simp)),k3.upd hu(fun g hg=> hne _ _ hg(by simp)(by simp)(by simp)),k4.took hL⟩
 ·have:=sum
  have:=hT.free
  omega
 ·have hj: @othN C j∨j=i:=hj
  rcases hj with hj | rfl
  ·obtain⟨o1,o2⟩:=oth j hj
   exact⟨(hT.oth j(fun e=> hT.was(e▸o1))).2 o1,o2⟩
  ·exact⟨hT.is,hnl⟩
 ·rcases e with e | e | e
  ·exact⟨.frm,by rw [e];exact t3⟩
  ·exact⟨.byt,by rw [e];exact t4⟩
  ·exact⟨.tkn,by rw [e];exact t5⟩
theorem St.top3 {C:Inhabited CapT} {f:Fs} {ls:Nat→List Int}(h:StI w so fs F N f ls) {fb:Nat}(hf:so .frm=some fb):∃sb mb bb kb n s,(so .sto=some sb∧so .mp=some mb∧so .frm=some fb∧so .byt=some bb∧so .tkn=some kb∧Blk w sb #[.pointer(some⟨fb,0,none⟩),.map(some mb)]226∧MapI w Tryz.prog 3 mb n s(filM fs so)∧n≤N∧FrB w fb bb kb(so .fre)f)∧fb≠bb∧fb≠kb∧bb≠kb∧∀g,so .fre=some g→g≠fb∧g≠bb∧g≠kb:=by
 obtain⟨sb,mb,fb',bb,kb,n,s,t1,t2,t3,t4,t5,t6,t7,t8,t9⟩:=h.top
 obtain rfl:fb=fb' :=by rw [hf]at t3;exact Option.some.inj t3
 refine⟨sb,mb,bb,kb,n,s,⟨t1,t2,t3,t4,t5,t6,t7,t8,t9⟩,fun e=> ?_,fun e=> ?_,fun e=> ?_,fun g hg=> ⟨fun e=> ?_,fun e=> ?_,fun e=> ?_⟩⟩
 ·have:=h.inj _ _ _ t3(e▸t4);cases this
 ·have:=h.inj _ _ _ t3(e▸t5);cases this
 ·have:=h.inj _ _ _ t4(e▸t5);cases this
 ·have:=h.inj _ _ _ hg(e▸t3);cases this
 ·have:=h.inj _ _ _ hg(e▸t4);cases this
 ·have:=h.inj _ _ _ hg(e▸t5);cases this
theorem St.take {C:Inhabited CapT}(h:St w so fs F N)(fb:Nat)(hf:so .frm=some fb)(hfree:usedN fs 16 < F)(n' :Nat):
  Calls Tryz.prog 75 #[.pointer(some⟨fb,0,none⟩)]w fun e w' => ∃i:Nat,e= .returned(.tuple #[.int .i64 i,.int .i64 0])∧i < 64∧¬othN i∧ @St(capAs n' (fun j=> othN j∨j=i))w' so fs(F - 1)N∧OFr so so w w' :=by
 obtain⟨f,ls,h⟩:=h
 obtain⟨sb,mb,bb,kb,n,s,ht,n1,n2,n3,n4⟩:=St.top3 h hf
 have t9:=ht.2.2.2.2.2.2.2.2
 have key:Calls Tryz.prog 75 #[.pointer(some⟨fb,0,none⟩)]w(TakeP w fb bb kb(so .fre)f):=by
  rcases List.eq_nil_or_concat f.fr with hx | ⟨l,x,hx⟩
  ·refine take_fresh t9 n1 n2 n3 n4 hx ?_
   have h1:=h.sum
   have h2:=t9.ok.fre
   unfold Fs.free at h1
   rw [hx]at h1
   simp only [List.length_nil]at h1
   omega
  ·exact take_back t9 n1 n2 n3 n4 l x(by rw [hx];simp)
 refine key.mono ?_
 rintro e w' ⟨i,f',rfl,hF,hT,hu⟩
 obtain⟨k1,k2⟩:=St.take_done h ht hT hF hu n'
 have:=hT.lt
 have:=t9.ok.n64
 exact⟨i,rfl,by omega,fun ho=> hT.was(h.oth i ho).1,k1,k2⟩
theorem FrB.none_free {fb bb kb:Nat} {row:Option Nat} {f:Fs}(h:FrB w fb bb kb row f)(h0:f.free=0):f.fr= []∧f.fresh=f.n:=by
 have h1:=h.ok.fre
 unfold Fs.free at h0
 exact⟨List.length_eq_zero_iff.1(by omega),by omega⟩
set_option maxRecDepth 100000 in
theorem take_none {fb bb kb:Nat} {row:Option Nat} {f:Fs}(h:FrB w fb bb kb row f)(h0:f.free=0):
  Calls Tryz.prog 75 #[.pointer(some⟨fb,0,none⟩)]w fun e w' => e= .returned(.tuple #[.int .i64 0,.int .i64 3])∧Below w.heap.size w w' :=by
 obtain⟨hx,hy⟩:=h.none_free h0
 obtain⟨v,k1,k2⟩:=h.top
 obtain⟨a,c,rfl,hc1,hc2⟩:=k2.len_int
 rw [hx,hy]at k1
 have c1:=k1.rd
 have d1:decide((f.n:Int) < f.n)=false:=by simp
 have HB:=Lib.hid(Below.refl w.heap.size w)
 clear h h0 hx hy k1 k2
 go_enter Tryz.func75,Tryz.ntmps75
 go_wp2_with(fail)
 go_quiet(fail)
 go_wp2_with(fail)
 go_ret2
 exact⟨rfl,dn _ _⟩
theorem St.takeno {C:Inhabited CapT}(h:St w so fs F N)(fb:Nat)(hf:so .frm=some fb)(hfree:F≤usedN fs 16):
  Calls Tryz.prog 75 #[.pointer(some⟨fb,0,none⟩)]w fun e w' => e= .returned(.tuple #[.int .i64 0,.int .i64 3])∧Below w.heap.size w w' :=by
 obtain⟨f,ls,h⟩:=h
 obtain⟨sb,mb,bb,kb,n,s,ht,n1,n2,n3,n4⟩:=St.top3 h hf
 have h1:=h.sum
 exact take_none ht.2.2.2.2.2.2.2.2(by omega)
theorem St.give_done {C:Inhabited CapT} {f f' :Fs} {ls:Nat→List Int}(h:StI w so fs F N f ls) {sb mb fb bb kb n s:Nat}
  (ht:so .sto=some sb∧so .mp=some mb∧so .frm=some fb∧so .byt=some bb∧so .tkn=some kb∧Blk w sb #[.pointer(some⟨fb,0,none⟩),.map(some mb)]226∧MapI w Tryz.prog 3 mb n s(filM fs so)∧n≤N∧FrB w fb bb kb(so .fre)f)
  {i:Nat}(ho:othN i)(hG:Gave f i f') {row' :Option Nat}(hF:FrB w' fb bb kb row' f')(hu:Upd(fun k=> k=fb∨k=kb∨so .fre=some k)w w')(hr:∀g,row' =some g→so .fre=some g∨w.heap.size≤g)(n' :Nat):
  @St(capAs n' (fun j=> othN j∧j≠i))w' (soFre so row')fs(F+1)N∧OFr so(soFre so row')w w' :=by
 obtain⟨inj,lt,top,file,far,apart,sum,oth⟩:=h
 obtain⟨t1,t2,t3,t4,t5,t6,t7,t8,t9⟩:=ht
 have hne:∀r k,so r=some k→r≠ .frm→r≠ .tkn→r≠ .fre→¬(k=fb∨k=kb∨so .fre=some k):=fun r k hk e1 e2 e3 hh=> by
  rcases hh with hh | hh | hh
  ·exact e1(inj _ _ _ hk(by rw [hh];exact t3))
  ·exact e2(inj _ _ _ hk(by rw [hh];exact t5))
  ·exact e3(inj _ _ _ hk hh)
 have hL:GaveL f [(i:Int)]f' :=(GaveL.nil f).snoc hG
 have hsz:=hu.size
 letI C2:Inhabited CapT:=capAs n' (fun j=> @othN C j∧j≠i)
 refine⟨⟨f',ls,soFre_inj(B:=w.heap.size)inj lt hr,fun r k hk=> ?_,⟨sb,mb,fb,bb,kb,n,s,t1,t2,t3,t4,t5,Blk.upd hu t6(hne _ _ t1(by simp)(by simp)(by simp)),?_,t8,hF⟩,fun j bs hj=> ?_,far,apart,?_,fun j hj=> ?_⟩,⟨hu.mono(fun k _ e=> ?_),fun r k hk=> ?_⟩⟩
 ·rcases soFre_old hk with⟨g,_⟩ | ⟨_,g⟩
  ·have:=lt r k g;omega
  ·exact hF.lts.2.2.2 k g
 ·rw [filM_fre]
  exact t7.upd hu(hne _ _ t2(by simp)(by simp)(by simp))
 ·obtain⟨k,v,k1,k2,k3,k4⟩:=file j bs hj
  exact⟨k,v,k1,Blk.upd hu k2(hne _ _ k1(by simp)(by simp)(by simp)),k3.upd hu(fun g hg=> hne _ _ hg(by simp)(by simp)(by simp)),k4.gave hL(fun x hx hx' => by rw [List.mem_singleton]at hx';subst hx';exact(oth i ho).2 j bs hj hx)⟩
 ·have:=sum
  have:=hG.free
  omega
 ·have hj: @othN C j∧j≠i:=hj
  obtain⟨o1,o2⟩:=oth j hj.1
  exact⟨(hG.oth j hj.2).2 o1,o2⟩
 ·rcases e with e | e | e
  ·exact⟨.frm,by rw [e];exact t3⟩
  ·exact⟨.tkn,by rw [e];exact t5⟩
  ·exact⟨.fre,e⟩
 ·rcases soFre_old hk with⟨g,_⟩ | ⟨_,g⟩
  ·exact .inl⟨r,g⟩
  ·exact(hr k g).imp(fun e=> ⟨.fre,e⟩)id
theorem St.give {C:Inhabited CapT}(h:St w so fs F N)(fb:Nat)(hf:so .frm=some fb)(i:Nat)(ho:othN i)(n' :Nat):
  Calls Tryz.prog 76 #[.pointer(some⟨fb,0,none⟩),.int .i64 i]w fun e w' => e= .returned(.int .i64 0)∧∃so',@St(capAs n' (fun j=> othN j∧j≠i))w' so' fs(F+1)N∧OFr so so' w w' ∧so' .sto=so .sto∧so' .frm=so .frm:=by
 obtain⟨f,ls,h⟩:=h
 obtain⟨sb,mb,bb,kb,n,s,ht,n1,n2,n3,n4⟩:=St.top3 h hf
 refine(give_is ht.2.2.2.2.2.2.2.2 n1 n2 n3 n4 i(h.oth i ho).1).mono ?_
 rintro e w' ⟨rfl,f',row',hF,hG,hu,hr⟩
 obtain⟨k1,k2⟩:=St.give_done h ht ho hG hF hu hr n'
 exact⟨rfl,_,k1,k2,rfl,rfl⟩
end
theorem TB.store2 {C1 C2:Inhabited CapT} {w w' :World} {tb:Nat} {ns:Nat→Option Nd} {lo:Lo} {N N' :Nat} {so:SRl→Option Nat}(h: @TB C1 w tb ns lo N)(hS: @St C2 w' so(filesOf ns)(@capN C2)N')(hF:OFr(soOf lo)so w w')(hs:so .sto=soOf lo .sto): @TB C2 w' tb ns(loSt lo so)N' :=by
 obtain⟨inj,lt,at',sto,tab,none',far,node⟩:=h
 have hoth:∀r k,lo r=some k→(∀q,r≠ .st q)→¬∃q,soOf lo q=some k:=fun r k hk h1⟨q,hq⟩=> h1 q(inj r(.st q)k hk hq)
 have hnew:∀q k,so q=some k→(∃q',lo(.st q')=some k)∨w.heap.size≤k:=fun q k hk=> hF.2 q k hk
 obtain⟨f,ls,hI⟩:=hS
 have hsz:=hF.1.size
 refine⟨fun r r' k h1 h2=> ?_,fun r k h1=> ?_,at',⟨f,ls,hI⟩,?_,fun j hj=> ?_,far,fun j nd hj=> ?_⟩
 ·rcases loSt_old h1 with⟨q,rfl,g1⟩ | ⟨g1,e1⟩
  ·rcases loSt_old h2 with⟨q',rfl,g2⟩ | ⟨g2,e2⟩
   ·rw [hI.inj q q' k g1 g2]
   ·rcases hnew q k g1 with⟨q',e⟩ | e
    ·exact absurd(inj _ _ _ g2 e)(e2 q')
    ·have:=lt _ _ g2;omega
  ·rcases loSt_old h2 with⟨q',rfl,g2⟩ | ⟨g2,e2⟩
   ·rcases hnew q' k g2 with⟨q,e⟩ | e
    ·exact absurd(inj _ _ _ g1 e)(e1 q)
    ·have:=lt _ _ g1;omega
   ·exact inj r r' k g1 g2
 ·rcases loSt_old h1 with⟨q,rfl,g1⟩ | ⟨g1,e1⟩
  ·exact hI.lt q k g1
  ·have:=lt r k g1;omega
 ·have e:tabCells(loSt lo so)=tabCells lo:=by
   unfold tabCells loSt
   simp only
   rw [hs];rfl
  rw [e]
  exact Blk.upd hF.1 tab(hoth _ _ at' (by simp))
 ·exact none' j hj
 ·obtain⟨k,v,k1,k2,k3,k4⟩:=node j nd hj
  exact⟨k,v,k1,Blk.upd hF.1 k2(hoth _ _ k1(by simp)),k3.upd hF.1(fun g hg=> hoth _ _ hg(by simp)),k4⟩
theorem lo_tfr {lo:Lo} {so:SRl→Option Nat} {w w' :World}(hF:OFr(soOf lo)so w w')(hs:so .sto=soOf lo .sto)(hf:so .frm=soOf lo .frm):TFr lo(loSt lo so)w w' :=by
 refine⟨hF.1.mono(fun k _⟨q,hq⟩=> ⟨.st q,hq⟩),fun r k hk=> ?_,hs,hf⟩
 rcases loSt_old hk with⟨q,rfl,e⟩ | ⟨e,_⟩
 ·rcases hF.2 q k e with⟨q',e⟩ | e
  ·exact .inl⟨.st q',e⟩
  ·exact .inr e
 ·exact .inl⟨r,e⟩
section
variable {w0 w w' :World} {O:Nat→Prop} {fdb vb tb fb sb pb mb:Nat} {ns:NSt} {c N:Nat} {S:FS}
theorem VV.store2 {C1 C2:Inhabited CapT} {lo:Lo} {so:SRl→Option Nat}(h: @VV C1 w vb tb ns lo c)(hS: @St C2 w' so(filesOf ns)(@capN C2)c)(hF:OFr(soOf lo)so w w')(hs:so .sto=soOf lo .sto)(hf:so .frm=soOf lo .frm): @VV C2 w' vb tb ns(loSt lo so)c:=by
 obtain⟨⟨⟨sp,h0,h1⟩,h2,h3,h4⟩,h5⟩:=h
 have hT:=lo_tfr hF hs hf
 refine⟨⟨⟨sp,hT.2.2.1.trans h0,Blk.upd hT.1 h1(fun⟨r,hr⟩=> h3 r hr)⟩,TB.store2 h2 hS hF hs,fun r hr=> ?_,h4.step hT⟩,h5⟩
 rcases hT.2.1 r vb hr with⟨r',h⟩ | h
 ·exact h3 r' h
 ·have:=h1.lt;omega
def FQ(C:Inhabited CapT)(w0:World)(O:Nat→Prop)(fdb vb tb fb sb pb mb:Nat)(ns:NSt)(c N:Nat)(S:FS)(w w' :World):Prop:=
 Upd O w w' ∧∃O',@FX C w0 O' fdb vb tb fb sb pb mb ns c N S w' ∧∀k,O' k→O k∨w.heap.size≤k
theorem FX.stepC {C1 C2:Inhabited CapT} {lo:Lo} {so:SRl→Option Nat}(h1: @VV C1 w vb tb ns lo c)(h2:Below w0.heap.size w0 w)(h3:∀k,O k→w0.heap.size≤k∧k < w.heap.size)(h4:∀r k,lo r=some k→O k)(h5:lo(.st .frm)=some fb)(h6:lo(.st .sto)=some sb)(h7:FdB w fdb vb pb mb N S)
  (h8:∀k,Ow fdb mb S k→O k∧(∀r,lo r≠some k)∧k≠vb∧k≠0)(k1: @St C2 w' so(filesOf ns)(@capN C2)c)(k2:OFr(soOf lo)so w w')(k3:so .sto=soOf lo .sto)(k4:so .frm=soOf lo .frm):FQ C2 w0 O fdb vb tb fb sb pb mb ns c N S w w' :=by
 have hV:=VV.store2 h1 k1 k2 k3 k4
 have hF:=lo_tfr k2 k3 k4
 have hu:Upd O w w' :=hF.1.mono(fun k _⟨r,hr⟩=> h4 r k hr)
 have hs:=hF.1.size
 refine⟨hu,fun k=> O k∨(w.heap.size≤k∧k < w'.heap.size),⟨loSt lo so,hV,h2.trans(hu.below h2.size(fun k hk=> (h3 k hk).1)),fun k hk=> ?_,fun r k hr=> ?_,hF.2.2.2.trans h5,hF.2.2.1.trans h6,h7.upd hF.1(fun k hk⟨r,hr⟩=> (h8 k hk).2.1 r hr),fun k hk=> ⟨.inl(h8 k hk).1,fun r hr=> ?_,(h8 k hk).2.2⟩⟩,fun k hk=> hk.imp id(·.1)⟩
 ·rcases hk with hk | hk
  ·exact⟨(h3 k hk).1,Nat.lt_of_lt_of_le(h3 k hk).2 hs⟩
  ·exact⟨Nat.le_trans h2.size hk.1,hk.2⟩
 ·rcases hF.2.1 r k hr with⟨q,hq⟩ | hq
  ·exact .inl(h4 q k hq)
  ·exact .inr⟨hq,hV.lts.2.1 r k hr⟩
 ·rcases hF.2.1 r k hr with⟨q,hq⟩ | hq
  ·exact(h8 k hk).2.1 q hq
  ·have:=h7.lt hk
   omega
theorem x_take {C:Inhabited CapT}(h:FX w0 O fdb vb tb fb sb pb mb ns c N S w)(hfree:usedN(filesOf ns)16 < capN):
  Calls Tryz.prog 75 #[.pointer(some⟨fb,0,none⟩)]w fun e w' => ∃i:Nat,e= .returned(.tuple #[.int .i64 i,.int .i64 0])∧i < 64∧¬othN i∧FQ(capAs(capN - 1)(fun j=> othN j∨j=i))w0 O fdb vb tb fb sb pb mb ns c N S w w' :=by
 obtain⟨lo,h1,h2,h3,h4,h5,h6,h7,h8⟩:=h
 refine(St.take h1.1.2.1.sto fb h5 hfree(capN - 1)).mono ?_
 rintro e w' ⟨i,rfl,k1,k2,k3,k4⟩
 exact⟨i,rfl,k1,k2,FX.stepC(C2:=capAs(capN - 1)(fun j=> othN j∨j=i))h1 h2 h3 h4 h5 h6 h7 h8 k3 k4 rfl rfl⟩
theorem x_takeno {C:Inhabited CapT}(h:FX w0 O fdb vb tb fb sb pb mb ns c N S w)(hfree:capN≤usedN(filesOf ns)16):
  Calls Tryz.prog 75 #[.pointer(some⟨fb,0,none⟩)]w fun e w' => e= .returned(.tuple #[.int .i64 0,.int .i64 3])∧Below w.heap.size w w' :=by
 obtain⟨lo,h1,h2,h3,h4,h5,h6,h7,h8⟩:=h
 exact St.takeno h1.1.2.1.sto fb h5 hfree
theorem x_give {C:Inhabited CapT}(h:FX w0 O fdb vb tb fb sb pb mb ns c N S w)(i:Nat)(ho:othN i):
  Calls Tryz.prog 76 #[.pointer(some⟨fb,0,none⟩),.int .i64 i]w fun e w' => e= .returned(.int .i64 0)∧FQ(capAs(capN+1)(fun j=> othN j∧j≠i))w0 O fdb vb tb fb sb pb mb ns c N S w w' :=by
 obtain⟨lo,h1,h2,h3,h4,h5,h6,h7,h8⟩:=h
 refine(St.give h1.1.2.1.sto fb h5 i ho(capN+1)).mono ?_
 rintro e w' ⟨rfl,so',k1,k2,k3,k4⟩
 exact⟨rfl,FX.stepC(C2:=capAs(capN+1)(fun j=> othN j∧j≠i))h1 h2 h3 h4 h5 h6 h7 h8 k1 k2 k3 k4⟩
theorem FX.rng' {C:Inhabited CapT}(h:FX w0 O fdb vb tb fb sb pb mb ns c N S w):∀k,O k→w0.heap.size≤k∧k < w.heap.size:=h.rng
theorem FX.bel' {C:Inhabited CapT}(h:FX w0 O fdb vb tb fb sb pb mb ns c N S w):Below w0.heap.size w0 w:=h.bel
theorem FX.fd' {C:Inhabited CapT}(h:FX w0 O fdb vb tb fb sb pb mb ns c N S w):FdB w fdb vb pb mb N S:=h.fd
theorem FX.below' {C:Inhabited CapT}(h:FX w0 O fdb vb tb fb sb pb mb ns c N S w)(hB:Below w.heap.size w w'):FX w0 O fdb vb tb fb sb pb mb ns c N S w' :=h.below hB
theorem FX.le' {C:Inhabited CapT} {c' :Nat}(h:FX w0 O fdb vb tb fb sb pb mb ns c N S w)(hc:c≤c'):FX w0 O fdb vb tb fb sb pb mb ns c' N S w:=h.le hc
end
end Go.Proofs.YtjpjafajploiaaaGreatDoor
