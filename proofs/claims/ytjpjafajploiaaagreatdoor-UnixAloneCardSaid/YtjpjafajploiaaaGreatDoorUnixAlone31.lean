/-
  Frames that others than files take and give back, beside a store, a table, a vfs of the call's own.
-/
import Derived.Test.YtjpjafajploiaaaGreatDoorUnixAlone28
import Derived.Test.YtjpjafajploiaaaGreatDoorUnixAlone24
import Derived.Test.YtjpjafajploiaaaGreatDoorUnixAlone29
import Derived.Test.YtjpjafajploiaaaGreatDoorUnixAlone30
set_option linter.unusedSimpArgs false
set_option linter.unusedVariables false
namespace Go.Proofs.YtjpjafajploiaaaGreatDoor
open Go.RowKit Own RegJ Two
open Go.Lib hiding intOf
abbrev capAs (n:Nat) (o:Nat→Prop):Inhabited CapT:=⟨⟨n,o⟩⟩
section
variable {w w' :World} {so:SRl→Option Nat} {fs:Sfs} {F N:Nat}
theorem St.take_done {C:Inhabited CapT} {f f' :Fs} {ls:Nat→List Int} (h:StI w so fs F N f ls) {sb mb fb bb kb n s:Nat}
  (ht:so .sto=some sb∧so .mp=some mb∧so .frm=some fb∧so .byt=some bb∧so .tkn=some kb∧Blk w sb #[.pointer (some ⟨fb,0,none⟩),.map (some mb)] 226∧MapI w Tryz.prog 3 mb n s (filM fs so)∧n≤N∧FrB w fb bb kb (so .fre) f)
  {i:Nat} (hT:Took f i f') (hF:FrB w' fb bb kb (so .fre) f') (hu:Upd (fun k=> k=fb∨k=bb∨k=kb) w w') (n' :Nat):
  @St (capAs n' (fun j=> othN j∨j=i)) w' so fs (F - 1) N∧OFr so so w w' :=by
 obtain ⟨inj,lt,top,file,far,apart,sum,oth⟩:=h
 obtain ⟨t1,t2,t3,t4,t5,t6,t7,t8,t9⟩:=ht
 have hne:∀r k,so r=some k→r≠ .frm→r≠ .byt→r≠ .tkn→¬(k=fb∨k=bb∨k=kb):=fun r k hk e1 e2 e3 hh=> by
  rcases hh with hh | hh | hh
  ·exact e1 (inj _ _ _ hk (by rw [hh];exact t3))
  ·exact e2 (inj _ _ _ hk (by rw [hh];exact t4))
  ·exact e3 (inj _ _ _ hk (by rw [hh];exact t5))
 have hL:TookL f [(i:Int)] f' :=(TookL.nil f).snoc hT
 have hsz:=hu.size
 have hnl:∀j bs,fs j=some bs→(i:Int)∉ls j:=fun j bs hj hm=> by
  obtain ⟨_,_,_,_,_,k4⟩:=file j bs hj
  obtain ⟨a,e,ha⟩:=k4.has _ hm
  obtain rfl:i=a:=by omega
  exact hT.was ha
 letI C2:Inhabited CapT:=capAs n' (fun j=> @othN C j∨j=i)
 refine ⟨⟨f',ls,inj,fun r k hk=> Nat.lt_of_lt_of_le (lt r k hk) hsz,⟨sb,mb,fb,bb,kb,n,s,t1,t2,t3,t4,t5,Blk.upd hu t6 (hne _ _ t1 (by simp) (by simp) (by simp)),t7.upd hu (hne _ _ t2 (by simp) (by simp) (by simp)),t8,hF⟩,fun j bs hj=> ?_,far,apart,?_,fun j hj=> ?_⟩,⟨hu.mono (fun k _ e=> ?_),fun r k hk=> .inl ⟨r,hk⟩⟩⟩
 ·obtain ⟨k,v,k1,k2,k3,k4⟩:=file j bs hj
  exact ⟨k,v,k1,Blk.upd hu k2 (hne _ _ k1 (by simp) (by simp) (by simp)),k3.upd hu (fun g hg=> hne _ _ hg (by simp) (by simp) (by simp)),k4.took hL⟩
 ·have:=sum
  have:=hT.free
  omega
 ·have hj: @othN C j∨j=i:=hj
  rcases hj with hj | rfl
  ·obtain ⟨o1,o2⟩:=oth j hj
   exact ⟨(hT.oth j (fun e=> hT.was (e▸o1))).2 o1,o2⟩
  ·exact ⟨hT.is,hnl⟩
 ·rcases e with e | e | e
  ·exact ⟨.frm,by rw [e];exact t3⟩
  ·exact ⟨.byt,by rw [e];exact t4⟩
  ·exact ⟨.tkn,by rw [e];exact t5⟩
theorem St.top3 {C:Inhabited CapT} {f:Fs} {ls:Nat→List Int} (h:StI w so fs F N f ls) {fb:Nat} (hf:so .frm=some fb):∃sb mb bb kb n s,(so .sto=some sb∧so .mp=some mb∧so .frm=some fb∧so .byt=some bb∧so .tkn=some kb∧Blk w sb #[.pointer (some ⟨fb,0,none⟩),.map (some mb)] 226∧MapI w Tryz.prog 3 mb n s (filM fs so)∧n≤N∧FrB w fb bb kb (so .fre) f)∧fb≠bb∧fb≠kb∧bb≠kb∧∀g,so .fre=some g→g≠fb∧g≠bb∧g≠kb:=by
 obtain ⟨sb,mb,fb',bb,kb,n,s,t1,t2,t3,t4,t5,t6,t7,t8,t9⟩:=h.top
 obtain rfl:fb=fb' :=by rw [hf] at t3;exact Option.some.inj t3
 refine ⟨sb,mb,bb,kb,n,s,⟨t1,t2,t3,t4,t5,t6,t7,t8,t9⟩,fun e=> ?_,fun e=> ?_,fun e=> ?_,fun g hg=> ⟨fun e=> ?_,fun e=> ?_,fun e=> ?_⟩⟩
 ·have:=h.inj _ _ _ t3 (e▸t4);cases this
 ·have:=h.inj _ _ _ t3 (e▸t5);cases this
 ·have:=h.inj _ _ _ t4 (e▸t5);cases this
 ·have:=h.inj _ _ _ hg (e▸t3);cases this
 ·have:=h.inj _ _ _ hg (e▸t4);cases this
 ·have:=h.inj _ _ _ hg (e▸t5);cases this
theorem St.take {C:Inhabited CapT} (h:St w so fs F N) (fb:Nat) (hf:so .frm=some fb) (hfree:usedN fs 16 < F) (n' :Nat):
  Calls Tryz.prog 75 #[.pointer (some ⟨fb,0,none⟩)] w fun e w' => ∃i:Nat,e= .returned (.tuple #[.int .i64 i,.int .i64 0])∧i < 64∧¬othN i∧ @St (capAs n' (fun j=> othN j∨j=i)) w' so fs (F - 1) N∧OFr so so w w' :=by
 obtain ⟨f,ls,h⟩:=h
 obtain ⟨sb,mb,bb,kb,n,s,ht,n1,n2,n3,n4⟩:=St.top3 h hf
 have t9:=ht.2.2.2.2.2.2.2.2
 have key:Calls Tryz.prog 75 #[.pointer (some ⟨fb,0,none⟩)] w (TakeP w fb bb kb (so .fre) f):=by
  rcases List.eq_nil_or_concat f.fr with hx | ⟨l,x,hx⟩
  ·refine take_fresh t9 n1 n2 n3 n4 hx ?_
   have h1:=h.sum
   have h2:=t9.ok.fre
   unfold Fs.free at h1
   rw [hx] at h1
   simp only [List.length_nil] at h1
   omega
  ·exact take_back t9 n1 n2 n3 n4 l x (by rw [hx];simp)
 refine key.mono ?_
 rintro e w' ⟨i,f',rfl,hF,hT,hu⟩
 obtain ⟨k1,k2⟩:=St.take_done h ht hT hF hu n'
 have:=hT.lt
 have:=t9.ok.n64
 exact ⟨i,rfl,by omega,fun ho=> hT.was (h.oth i ho).1,k1,k2⟩
theorem FrB.none_free {fb bb kb:Nat} {row:Option Nat} {f:Fs} (h:FrB w fb bb kb row f) (h0:f.free=0):f.fr= []∧f.fresh=f.n:=by
 have h1:=h.ok.fre
 unfold Fs.free at h0
 exact ⟨List.length_eq_zero_iff.1 (by omega),by omega⟩
set_option maxRecDepth 100000 in
theorem take_none {fb bb kb:Nat} {row:Option Nat} {f:Fs} (h:FrB w fb bb kb row f) (h0:f.free=0):
  Calls Tryz.prog 75 #[.pointer (some ⟨fb,0,none⟩)] w fun e w' => e= .returned (.tuple #[.int .i64 0,.int .i64 3])∧Below w.heap.size w w' :=by
 obtain ⟨hx,hy⟩:=h.none_free h0
 obtain ⟨v,k1,k2⟩:=h.top
 obtain ⟨a,c,rfl,hc1,hc2⟩:=k2.len_int
 rw [hx,hy] at k1
 have c1:=k1.rd
 have d1:decide ((f.n:Int) < f.n)=false:=by simp
 have HB:=Lib.hid (Below.refl w.heap.size w)
 clear h h0 hx hy k1 k2
 go_enter Tryz.func75,Tryz.ntmps75
 go_wp2_with (fail)
 go_quiet (fail)
 go_wp2_with (fail)
 go_ret2
 exact ⟨rfl,dn _ _⟩
theorem St.takeno {C:Inhabited CapT} (h:St w so fs F N) (fb:Nat) (hf:so .frm=some fb) (hfree:F≤usedN fs 16):
  Calls Tryz.prog 75 #[.pointer (some ⟨fb,0,none⟩)] w fun e w' => e= .returned (.tuple #[.int .i64 0,.int .i64 3])∧Below w.heap.size w w' :=by
 obtain ⟨f,ls,h⟩:=h
 obtain ⟨sb,mb,bb,kb,n,s,ht,n1,n2,n3,n4⟩:=St.top3 h hf
 have h1:=h.sum
 exact take_none ht.2.2.2.2.2.2.2.2 (by omega)
theorem St.give_done {C:Inhabited CapT} {f f' :Fs} {ls:Nat→List Int} (h:StI w so fs F N f ls) {sb mb fb bb kb n s:Nat}
  (ht:so .sto=some sb∧so .mp=some mb∧so .frm=some fb∧so .byt=some bb∧so .tkn=some kb∧Blk w sb #[.pointer (some ⟨fb,0,none⟩),.map (some mb)] 226∧MapI w Tryz.prog 3 mb n s (filM fs so)∧n≤N∧FrB w fb bb kb (so .fre) f)
  {i:Nat} (ho:othN i) (hG:Gave f i f') {row' :Option Nat} (hF:FrB w' fb bb kb row' f') (hu:Upd (fun k=> k=fb∨k=kb∨so .fre=some k) w w') (hr:∀g,row' =some g→so .fre=some g∨w.heap.size≤g) (n' :Nat):
  @St (capAs n' (fun j=> othN j∧j≠i)) w' (soFre so row') fs (F+1) N∧OFr so (soFre so row') w w' :=by
 obtain ⟨inj,lt,top,file,far,apart,sum,oth⟩:=h
 obtain ⟨t1,t2,t3,t4,t5,t6,t7,t8,t9⟩:=ht
 have hne:∀r k,so r=some k→r≠ .frm→r≠ .tkn→r≠ .fre→¬(k=fb∨k=kb∨so .fre=some k):=fun r k hk e1 e2 e3 hh=> by
  rcases hh with hh | hh | hh
  ·exact e1 (inj _ _ _ hk (by rw [hh];exact t3))
  ·exact e2 (inj _ _ _ hk (by rw [hh];exact t5))
  ·exact e3 (inj _ _ _ hk hh)
 have hL:GaveL f [(i:Int)] f' :=(GaveL.nil f).snoc hG
 have hsz:=hu.size
 letI C2:Inhabited CapT:=capAs n' (fun j=> @othN C j∧j≠i)
 refine ⟨⟨f',ls,soFre_inj (B:=w.heap.size) inj lt hr,fun r k hk=> ?_,⟨sb,mb,fb,bb,kb,n,s,t1,t2,t3,t4,t5,Blk.upd hu t6 (hne _ _ t1 (by simp) (by simp) (by simp)),?_,t8,hF⟩,fun j bs hj=> ?_,far,apart,?_,fun j hj=> ?_⟩,⟨hu.mono (fun k _ e=> ?_),fun r k hk=> ?_⟩⟩
 ·rcases soFre_old hk with ⟨g,_⟩ | ⟨_,g⟩
  ·have:=lt r k g;omega
  ·exact hF.lts.2.2.2 k g
 ·rw [filM_fre]
  exact t7.upd hu (hne _ _ t2 (by simp) (by simp) (by simp))
 ·obtain ⟨k,v,k1,k2,k3,k4⟩:=file j bs hj
  exact ⟨k,v,k1,Blk.upd hu k2 (hne _ _ k1 (by simp) (by simp) (by simp)),k3.upd hu (fun g hg=> hne _ _ hg (by simp) (by simp) (by simp)),k4.gave hL (fun x hx hx' => by rw [List.mem_singleton] at hx';subst hx';exact (oth i ho).2 j bs hj hx)⟩
 ·have:=sum
  have:=hG.free
  omega
 ·have hj: @othN C j∧j≠i:=hj
  obtain ⟨o1,o2⟩:=oth j hj.1
  exact ⟨(hG.oth j hj.2).2 o1,o2⟩
 ·rcases e with e | e | e
  ·exact ⟨.frm,by rw [e];exact t3⟩
  ·exact ⟨.tkn,by rw [e];exact t5⟩
  ·exact ⟨.fre,e⟩
 ·rcases soFre_old hk with ⟨g,_⟩ | ⟨_,g⟩
  ·exact .inl ⟨r,g⟩
  ·exact (hr k g).imp (fun e=> ⟨.fre,e⟩) id
theorem St.give {C:Inhabited CapT} (h:St w so fs F N) (fb:Nat) (hf:so .frm=some fb) (i:Nat) (ho:othN i) (n' :Nat):
  Calls Tryz.prog 76 #[.pointer (some ⟨fb,0,none⟩),.int .i64 i] w fun e w' => e= .returned (.int .i64 0)∧∃so',@St (capAs n' (fun j=> othN j∧j≠i)) w' so' fs (F+1) N∧OFr so so' w w' ∧so' .sto=so .sto∧so' .frm=so .frm:=by
 obtain ⟨f,ls,h⟩:=h
 obtain ⟨sb,mb,bb,kb,n,s,ht,n1,n2,n3,n4⟩:=St.top3 h hf
 refine (give_is ht.2.2.2.2.2.2.2.2 n1 n2 n3 n4 i (h.oth i ho).1).mono ?_
 rintro e w' ⟨rfl,f',row',hF,hG,hu,hr⟩
 obtain ⟨k1,k2⟩:=St.give_done h ht ho hG hF hu hr n'
 exact ⟨rfl,_,k1,k2,rfl,rfl⟩
end
theorem TB.store2 {C1 C2:Inhabited CapT} {w w' :World} {tb:Nat} {ns:Nat→Option Nd} {lo:Lo} {N N' :Nat} {so:SRl→Option Nat} (h: @TB C1 w tb ns lo N) (hS: @St C2 w' so (filesOf ns) (@capN C2) N') (hF:OFr (soOf lo) so w w') (hs:so .sto=soOf lo .sto): @TB C2 w' tb ns (loSt lo so) N' :=by
 obtain ⟨inj,lt,at',sto,tab,none',far,node⟩:=h
 have hoth:∀r k,lo r=some k→(∀q,r≠ .st q)→¬∃q,soOf lo q=some k:=fun r k hk h1 ⟨q,hq⟩=> h1 q (inj r (.st q) k hk hq)
 have hnew:∀q k,so q=some k→(∃q',lo (.st q')=some k)∨w.heap.size≤k:=fun q k hk=> hF.2 q k hk
 obtain ⟨f,ls,hI⟩:=hS
 have hsz:=hF.1.size
 refine ⟨fun r r' k h1 h2=> ?_,fun r k h1=> ?_,at',⟨f,ls,hI⟩,?_,fun j hj=> ?_,far,fun j nd hj=> ?_⟩
 ·rcases loSt_old h1 with ⟨q,rfl,g1⟩ | ⟨g1,e1⟩
  ·rcases loSt_old h2 with ⟨q',rfl,g2⟩ | ⟨g2,e2⟩
   ·rw [hI.inj q q' k g1 g2]
   ·rcases hnew q k g1 with ⟨q',e⟩ | e
    ·exact absurd (inj _ _ _ g2 e) (e2 q')
    ·have:=lt _ _ g2;omega
  ·rcases loSt_old h2 with ⟨q',rfl,g2⟩ | ⟨g2,e2⟩
   ·rcases hnew q' k g2 with ⟨q,e⟩ | e
    ·exact absurd (inj _ _ _ g1 e) (e1 q)
    ·have:=lt _ _ g1;omega
   ·exact inj r r' k g1 g2
 ·rcases loSt_old h1 with ⟨q,rfl,g1⟩ | ⟨g1,e1⟩
  ·exact hI.lt q k g1
  ·have:=lt r k g1;omega
 ·have e:tabCells (loSt lo so)=tabCells lo:=by
   unfold tabCells loSt
   simp only
   rw [hs];rfl
  rw [e]
  exact Blk.upd hF.1 tab (hoth _ _ at' (by simp))
 ·exact none' j hj
 ·obtain ⟨k,v,k1,k2,k3,k4⟩:=node j nd hj
  exact ⟨k,v,k1,Blk.upd hF.1 k2 (hoth _ _ k1 (by simp)),k3.upd hF.1 (fun g hg=> hoth _ _ hg (by simp)),k4⟩
theorem lo_tfr {lo:Lo} {so:SRl→Option Nat} {w w' :World} (hF:OFr (soOf lo) so w w') (hs:so .sto=soOf lo .sto) (hf:so .frm=soOf lo .frm):TFr lo (loSt lo so) w w' :=by
 refine ⟨hF.1.mono (fun k _ ⟨q,hq⟩=> ⟨.st q,hq⟩),fun r k hk=> ?_,hs,hf⟩
 rcases loSt_old hk with ⟨q,rfl,e⟩ | ⟨e,_⟩
 ·rcases hF.2 q k e with ⟨q',e⟩ | e
  ·exact .inl ⟨.st q',e⟩
  ·exact .inr e
 ·exact .inl ⟨r,e⟩
section
variable {w0 w w' :World} {O:Nat→Prop} {fdb vb tb fb sb pb mb:Nat} {ns:NSt} {c N:Nat} {S:FS}
theorem VV.store2 {C1 C2:Inhabited CapT} {lo:Lo} {so:SRl→Option Nat} (h: @VV C1 w vb tb ns lo c) (hS: @St C2 w' so (filesOf ns) (@capN C2) c) (hF:OFr (soOf lo) so w w') (hs:so .sto=soOf lo .sto) (hf:so .frm=soOf lo .frm): @VV C2 w' vb tb ns (loSt lo so) c:=by
 obtain ⟨⟨⟨sp,h0,h1⟩,h2,h3,h4⟩,h5⟩:=h
 have hT:=lo_tfr hF hs hf
 refine ⟨⟨⟨sp,hT.2.2.1.trans h0,Blk.upd hT.1 h1 (fun ⟨r,hr⟩=> h3 r hr)⟩,TB.store2 h2 hS hF hs,fun r hr=> ?_,h4.step hT⟩,h5⟩
 rcases hT.2.1 r vb hr with ⟨r',h⟩ | h
 ·exact h3 r' h
 ·have:=h1.lt;omega
def FQ (C:Inhabited CapT) (w0:World) (O:Nat→Prop) (fdb vb tb fb sb pb mb:Nat) (ns:NSt) (c N:Nat) (S:FS) (w w' :World):Prop:=
 Upd O w w' ∧∃O',@FX C w0 O' fdb vb tb fb sb pb mb ns c N S w' ∧∀k,O' k→O k∨w.heap.size≤k
theorem FX.stepC {C1 C2:Inhabited CapT} {lo:Lo} {so:SRl→Option Nat} (h1: @VV C1 w vb tb ns lo c) (h2:Below w0.heap.size w0 w) (h3:∀k,O k→w0.heap.size≤k∧k < w.heap.size) (h4:∀r k,lo r=some k→O k) (h5:lo (.st .frm)=some fb) (h6:lo (.st .sto)=some sb) (h7:FdB w fdb vb pb mb N S)
  (h8:∀k,Ow fdb mb S k→O k∧(∀r,lo r≠some k)∧k≠vb∧k≠0) (k1: @St C2 w' so (filesOf ns) (@capN C2) c) (k2:OFr (soOf lo) so w w') (k3:so .sto=soOf lo .sto) (k4:so .frm=soOf lo .frm):FQ C2 w0 O fdb vb tb fb sb pb mb ns c N S w w' :=by
 have hV:=VV.store2 h1 k1 k2 k3 k4
 have hF:=lo_tfr k2 k3 k4
 have hu:Upd O w w' :=hF.1.mono (fun k _ ⟨r,hr⟩=> h4 r k hr)
 have hs:=hF.1.size
 refine ⟨hu,fun k=> O k∨(w.heap.size≤k∧k < w'.heap.size),⟨loSt lo so,hV,h2.trans (hu.below h2.size (fun k hk=> (h3 k hk).1)),fun k hk=> ?_,fun r k hr=> ?_,hF.2.2.2.trans h5,hF.2.2.1.trans h6,h7.upd hF.1 (fun k hk ⟨r,hr⟩=> (h8 k hk).2.1 r hr),fun k hk=> ⟨.inl (h8 k hk).1,fun r hr=> ?_,(h8 k hk).2.2⟩⟩,fun k hk=> hk.imp id (·.1)⟩
 ·rcases hk with hk | hk
  ·exact ⟨(h3 k hk).1,Nat.lt_of_lt_of_le (h3 k hk).2 hs⟩
  ·exact ⟨Nat.le_trans h2.size hk.1,hk.2⟩
 ·rcases hF.2.1 r k hr with ⟨q,hq⟩ | hq
  ·exact .inl (h4 q k hq)
  ·exact .inr ⟨hq,hV.lts.2.1 r k hr⟩
 ·rcases hF.2.1 r k hr with ⟨q,hq⟩ | hq
  ·exact (h8 k hk).2.1 q hq
  ·have:=h7.lt hk
   omega
theorem x_take {C:Inhabited CapT} (h:FX w0 O fdb vb tb fb sb pb mb ns c N S w) (hfree:usedN (filesOf ns) 16 < capN):
  Calls Tryz.prog 75 #[.pointer (some ⟨fb,0,none⟩)] w fun e w' => ∃i:Nat,e= .returned (.tuple #[.int .i64 i,.int .i64 0])∧i < 64∧¬othN i∧FQ (capAs (capN - 1) (fun j=> othN j∨j=i)) w0 O fdb vb tb fb sb pb mb ns c N S w w' :=by
 obtain ⟨lo,h1,h2,h3,h4,h5,h6,h7,h8⟩:=h
 refine (St.take h1.1.2.1.sto fb h5 hfree (capN - 1)).mono ?_
 rintro e w' ⟨i,rfl,k1,k2,k3,k4⟩
 exact ⟨i,rfl,k1,k2,FX.stepC (C2:=capAs (capN - 1) (fun j=> othN j∨j=i)) h1 h2 h3 h4 h5 h6 h7 h8 k3 k4 rfl rfl⟩
theorem x_takeno {C:Inhabited CapT} (h:FX w0 O fdb vb tb fb sb pb mb ns c N S w) (hfree:capN≤usedN (filesOf ns) 16):
  Calls Tryz.prog 75 #[.pointer (some ⟨fb,0,none⟩)] w fun e w' => e= .returned (.tuple #[.int .i64 0,.int .i64 3])∧Below w.heap.size w w' :=by
 obtain ⟨lo,h1,h2,h3,h4,h5,h6,h7,h8⟩:=h
 exact St.takeno h1.1.2.1.sto fb h5 hfree
theorem x_give {C:Inhabited CapT} (h:FX w0 O fdb vb tb fb sb pb mb ns c N S w) (i:Nat) (ho:othN i):
  Calls Tryz.prog 76 #[.pointer (some ⟨fb,0,none⟩),.int .i64 i] w fun e w' => e= .returned (.int .i64 0)∧FQ (capAs (capN+1) (fun j=> othN j∧j≠i)) w0 O fdb vb tb fb sb pb mb ns c N S w w' :=by
 obtain ⟨lo,h1,h2,h3,h4,h5,h6,h7,h8⟩:=h
 refine (St.give h1.1.2.1.sto fb h5 i ho (capN+1)).mono ?_
 rintro e w' ⟨rfl,so',k1,k2,k3,k4⟩
 exact ⟨rfl,FX.stepC (C2:=capAs (capN+1) (fun j=> othN j∧j≠i)) h1 h2 h3 h4 h5 h6 h7 h8 k1 k2 k3 k4⟩
theorem FX.rng' {C:Inhabited CapT} (h:FX w0 O fdb vb tb fb sb pb mb ns c N S w):∀k,O k→w0.heap.size≤k∧k < w.heap.size:=h.rng
theorem FX.bel' {C:Inhabited CapT} (h:FX w0 O fdb vb tb fb sb pb mb ns c N S w):Below w0.heap.size w0 w:=h.bel
theorem FX.fd' {C:Inhabited CapT} (h:FX w0 O fdb vb tb fb sb pb mb ns c N S w):FdB w fdb vb pb mb N S:=h.fd
theorem FX.below' {C:Inhabited CapT} (h:FX w0 O fdb vb tb fb sb pb mb ns c N S w) (hB:Below w.heap.size w w'):FX w0 O fdb vb tb fb sb pb mb ns c N S w' :=h.below hB
theorem FX.le' {C:Inhabited CapT} {c' :Nat} (h:FX w0 O fdb vb tb fb sb pb mb ns c N S w) (hc:c≤c'):FX w0 O fdb vb tb fb sb pb mb ns c' N S w:=h.le hc
end
end Go.Proofs.YtjpjafajploiaaaGreatDoor
namespace Go.Proofs.YtjpjafajploiaaaGreatDoor
open Go.RowKit Own RegJ Two
open Go.Lib hiding intOf
section
variable {w0 w w1 w2 w' :World} {O O1:Nat→Prop} {fdb vb tb fb sb pb mb:Nat} {ns ns' :NSt} {c N N' :Nat} {S S' :FS}
set_option maxRecDepth 100000 in
set_option maxHeartbeats 2000000 in
theorem k_openerr [Inhabited CapT] (h:FX w0 O fdb vb tb fb sb pb mb ns c N S w) (hc:c≤9000) (pid:Int) (hw:(Lit.int .i64 pid).wf=true) (b:Nat) (hb:S.pr pid=some b) (d:Nat) (hd:d < 8) (hn:S.sl b d=none) (hl:∀k,k < d→S.sl b k≠none)
  (l:Txt) (hll:l.length≤100000) (n a r:Int) (hr:openF ns l n=(a,r,ns')) (h0:r≠0) (s:ByteArray) (hs:s=B l):
  Calls Tryz.prog 42 #[.pointer (some ⟨fdb,0,none⟩),.int .i64 pid,.string s,.int .i64 n] w (FP w0 O fdb vb tb fb sb pb mb ns' (c+3) N S w (.tuple #[.int .i64 0,.int .i64 r])):=by
 obtain ⟨fr,hfr⟩:=freeL_least (S.sl b) d hn hl 8 hd
 have hfree:=k_free h.fd pid hw b hb 1 (.int .i64 0) 0 (fun e w' => FreeP w ((d:Int)::fr) e w') (fun _ e w' hp=> by rw [hfr] at hp;exact hp) (fun hlt=> by rw [hfr] at hlt;simp at hlt)
 obtain ⟨m,hm⟩:∃m,fr.length+1=m:=⟨_,rfl⟩
 have c0:∀w1,Below w.heap.size w w1→w1.cell? ⟨fdb,0,none⟩=some (.pointer (some ⟨vb,0,none⟩)):=fun w1 hB=> (h.fd.below hB).f.rd 0
 have hop:=fun w1 (hB:Below w.heap.size w w1)=> v_open (h.below hB) hc l hll n a r ns' hr s hs
 have d1:(r==0)=false:=by simpa using h0
 have d2:(r !=0)=true:=by simpa using h0
 clear h hb hw hn hl hr hs hfr h0
 go_enter Tryz.func42,Tryz.ntmps42
 go_wp2_with (first
  | (go_at_call 78;refine hfree.mono ?_;rintro e w1 ⟨a,cp,gr,rfl,hR,hgO,hB1⟩;have c1:=c0 w1 hB1;rw [show ((d:Int)::fr).length=m from by rw [←hm];rfl] at hR ⊢;have ho:=hop w1 hB1;have H1:=Lib.hid hB1;clear hfree hop c0 hR hB1 hgO)
  | (go_at_call 79;refine ho.mono ?_;rintro e w2 ⟨rfl,hU2,O2,hD2,hO2⟩;have H2:=Lib.hid (And.intro hU2 (And.intro hD2 hO2));clear hU2 hD2 hO2 ho c1))
 go_ret2
 obtain ⟨hU2,hD2,hO2⟩:=H2.out
 exact ⟨rfl,(Upd.of_below (F:=O) H1.out).trans hU2 (fun _ _ h=> h),_,hD2,fun k hk=> (hO2 k hk).imp (fun h=> h) (fun h=> Nat.le_trans H1.out.size h)⟩
end
end Go.Proofs.YtjpjafajploiaaaGreatDoor
namespace Go.Proofs.YtjpjafajploiaaaGreatDoor
open Go.RowKit Own RegJ Two
open Go.Lib hiding intOf
section
variable {w0 w w1 w2 w' :World} {O O1:Nat→Prop} {fdb vb tb fb sb pb mb:Nat} {ns ns' :NSt} {c N N' :Nat} {S S' :FS}
set_option maxRecDepth 100000 in
set_option maxHeartbeats 4000000 in
theorem kf_writeerr [Inhabited CapT] {ns2:NSt} (h:FX w0 O fdb vb tb fb sb pb mb ns c N S w) (x:Nat) (t:Th) (ht:S.th x=some t) (hid:(Lit.int .i64 t.id).wf=true) (bs:List Int) (m cp:Nat) (a:Option Addr) (hm:bs.length=m) (hm6:m≤100000) (hv:SrcF O w (.slice a m cp) bs)
  (p:Int) (hp0:0≤p) (hp:(t.en=false∧t.pl=p)∨(t.en=true∧∃e,sizeV (filesOf ns) t.id=(p,e))) (r:Int) (hr:wrF ns capN t.id p bs=(r,ns2)) (hr0:r≠0):
  Calls Tryz.prog 84 #[.pointer (some ⟨fdb,0,none⟩),.pointer (some ⟨x,0,none⟩),.slice a m cp] w (FP w0 O fdb vb tb fb sb pb mb ns2 c N S w (.int .i64 r)):=by
 have hB:=h.fd.x x t ht
 have HE:=Lib.hid (And.intro h (And.intro hid (And.intro (show bs.length≤1000000 by omega) (And.intro hv (And.intro hr ht)))))
 have dr1:(r==0)=false:=by simpa using hr0
 have dr2:(r !=0)=true:=by simpa using hr0
 clear hr0
 rcases hp with ⟨hen,hpl⟩ | ⟨hen,er,hsv⟩
 ·have c3:w.cell? ⟨x,3,none⟩=some (.int .i64 p):=by rw [←hpl];exact hB.rd 3
  have c4:w.cell? ⟨x,4,none⟩=some (.bool false):=by rw [←hen];exact hB.rd 4
  clear h hB ht hid hv hr hen hpl
  go_enter Tryz.func84,Tryz.ntmps84
  go_upto_region 4 with (fail)
  clear c3 c4
  have hBX:Below w.heap.size w w:=(Below.refl _ _)
  have hDX:=HE.out.1.below hBX
  have hDd:=hDX.below (dn w 1)
  have hBd:Below w.heap.size w (w.drewN 1):=hBX.trans ((dn w 1).mono hBX.size)
  have hst:Calls Tryz.prog 141 #[.pointer (some ⟨vb,0,none⟩)] w.drew fun e w' => e= .returned (.pointer (some ⟨sb,0,none⟩))∧w.drew=w' :=v_store hDd
  have hwr:Calls Tryz.prog 143 #[.pointer (some ⟨sb,0,none⟩),.int .i64 t.id,.int .i64 p,.slice a m cp] w.drew fun e w9=> e= .returned (.int .i64 r)∧(Upd O w w9∧∃O9,FX w0 O9 fdb vb tb fb sb pb mb ns2 c N S w9∧∀k,O9 k→O k∨w.heap.size≤k):=(v_write hDd t.id HE.out.2.1 p bs HE.out.2.2.1 _ (HE.out.2.2.2.1.below hBd) r ns2 HE.out.2.2.2.2.1).mono (fun e w9 hh=> FP.ahead hBd hh)
  have hF0:(fun u=> u.cell? ⟨fdb,0,none⟩=some (.pointer (some ⟨vb,0,none⟩))∧u.cell? ⟨x,2,none⟩=some (.int .i64 t.id)) w.drew:=⟨hDd.fd.f.rd 0,(hDd.fd.x x t HE.out.2.2.2.2.2).rd 2⟩
  have HQ:=Lib.hid (And.intro hF0 (And.intro hst hwr))
  clear hBX hDX hDd hBd hst hwr hF0
  refine region_C 11 w.drew (fun w9=> (Upd O w w9∧∃O9,FX w0 O9 fdb vb tb fb sb pb mb ns2 c N S w9∧∀k,O9 k→O k∨w.heap.size≤k)) rfl (by kernel_rfl) (by kernel_rfl) ?_
  iterate 3
   apply wpJ_op rfl (by rfl)
   ·intro f w1 hf hJ Q1 hQ
    simp only [nrm] at hQ
    go_wp2_with (go_at_call 141;refine k1.mono ?_;rintro e w8 ⟨rfl,rfl⟩)
    exact hQ _ _ rfl (hJ.other rfl hf (by decide))
   simp only [nrm]
  apply wpJ_op rfl (by rfl)
  ·intro f w1 hf hJ Q1 hQ
   have hC:f 11=false:=path_no hJ.1 [4,3] (by kernel_rfl) (by decide) hf.1
   rw [hJ.atC hC]
   have hF:=HQ.out.1
   have k0:=hF.1
   simp only [nrm] at hQ
   go_wp2_with (go_at_call 141;refine k1.mono ?_;rintro e w8 ⟨rfl,rfl⟩)
   exact hQ _ _ rfl (by have h9:=hJ.other rfl hf (by decide);rwa [hJ.atC hC] at h9)
  simp only [nrm]
  apply wpJ_op rfl (by rfl)
  ·intro f w1 hf hJ Q1 hQ
   have hC:f 11=false:=path_no hJ.1 [4] (by kernel_rfl) (by decide) hf.1
   rw [hJ.atC hC]
   have hF:=HQ.out.1
   have k1:=HQ.out.2.1
   simp only [nrm] at hQ
   go_wp2_with (go_at_call 141;refine k1.mono ?_;rintro e w8 ⟨rfl,rfl⟩)
   exact hQ _ _ rfl (by have h9:=hJ.other rfl hf (by decide);rwa [hJ.atC hC] at h9)
  iterate 3
   simp only [nrm]
   apply wpJ_op rfl (by rfl)
   ·intro f w1 hf hJ Q1 hQ
    simp only [nrm] at hQ
    go_wp2_with (go_at_call 141;refine k1.mono ?_;rintro e w8 ⟨rfl,rfl⟩)
    exact hQ _ _ rfl (hJ.other rfl hf (by decide))
  simp only [nrm]
  apply wpJ_op rfl (by rfl)
  ·intro f w1 hf hJ Q1 hQ
   have hC:f 11=false:=path_no hJ.1 [8] (by kernel_rfl) (by decide) hf.1
   rw [hJ.atC hC]
   have hF:=HQ.out.1
   have k2:=hF.2
   simp only [nrm] at hQ
   go_wp2_with (go_at_call 141;refine k1.mono ?_;rintro e w8 ⟨rfl,rfl⟩)
   exact hQ _ _ rfl (by have h9:=hJ.other rfl hf (by decide);rwa [hJ.atC hC] at h9)
  iterate 2
   simp only [nrm]
   apply wpJ_op rfl (by rfl)
   ·intro f w1 hf hJ Q1 hQ
    simp only [nrm] at hQ
    go_wp2_with (go_at_call 141;refine k1.mono ?_;rintro e w8 ⟨rfl,rfl⟩)
    exact hQ _ _ rfl (hJ.other rfl hf (by decide))
  simp only [nrm]
  apply wpJ_op rfl (by rfl)
  ·intro f w1 hf hJ Q1 hQ
   rw [hJ.atC hf.1]
   simp only [nrm] at hQ
   go_wp2_with (have kw:=HQ.out.2.2;go_at_call 143;refine kw.mono ?_;rintro e w8 ⟨rfl,hq⟩)
   exact hQ _ _ rfl (hJ.goC rfl hf hq)
  simp only [nrm]
  apply wpJ_op rfl (by rfl)
  ·intro f w1 hf hJ Q1 hQ
   simp only [nrm] at hQ
   go_wp2_with (go_at_call 141;refine k1.mono ?_;rintro e w8 ⟨rfl,rfl⟩)
   exact hQ _ _ rfl (hJ.other rfl hf (by decide))
  simp only [nrm]
  refine wpJ_nil ?_
  intro w9 hJ9
  have hq9:=hJ9.fin rfl
  clear hJ9
  obtain ⟨hU9,O9,hD9,hO9⟩:=hq9
  have HF:=Lib.hid (show FP w0 O fdb vb tb fb sb pb mb ns2 c N S w (.int .i64 r) (.returned (.int .i64 r)) w9 from ⟨rfl,hU9,O9,hD9,hO9⟩)
  clear hU9 hD9 hO9 HQ
  go_wp2_with (fail)
  go_ret
  exact HF.out
 ·have c3:w.cell? ⟨x,3,none⟩=some (.int .i64 t.pl):=hB.rd 3
  have c4:w.cell? ⟨x,4,none⟩=some (.bool true):=by rw [←hen];exact hB.rd 4
  have hDd:=h.below (dn w 1)
  have hst:Calls Tryz.prog 141 #[.pointer (some ⟨vb,0,none⟩)] w.drew fun e w' => e= .returned (.pointer (some ⟨sb,0,none⟩))∧w.drew=w' :=v_store hDd
  have hsz:Calls Tryz.prog 142 #[.pointer (some ⟨sb,0,none⟩),.int .i64 t.id] w.drew fun e w' => e= .returned (.tuple #[.int .i64 p,.int .i64 er])∧w.drew=w' :=v_size hDd t.id hid p er hsv
  have k0:w.drew.cell? ⟨fdb,0,none⟩=some (.pointer (some ⟨vb,0,none⟩)):=hDd.fd.f.rd 0
  have k2:w.drew.cell? ⟨x,2,none⟩=some (.int .i64 t.id):=(hDd.fd.x x t ht).rd 2
  clear h hB ht hid hv hr hen hsv hDd
  go_enter Tryz.func84,Tryz.ntmps84
  go_upto_region 3 with (fail)
  refine region_J (fun _ w1=> w1=w.drew) (by kernel_rfl) (by kernel_rfl) rfl ?_
  iterate 14
   apply wpJ_op rfl (by rfl)
   ·intro f w1 hf hJ Q1 hQ
    subst hJ
    simp only [nrm] at hQ
    go_wp2_with (first | (go_at_call 141;refine hst.mono ?_;rintro e w8 ⟨rfl,rfl⟩) | (go_at_call 142;refine hsz.mono ?_;rintro e w8 ⟨rfl,rfl⟩))
    exact hQ _ _ rfl rfl
   simp only [nrm]
  refine wpJ_nil ?_
  intro w9 hJ9
  subst hJ9
  clear c3 c4 k0 k2 hst hsz
  have hdb:=Lib.hid (show Below w.heap.size w w.drew from dn w 1)
  generalize w.drew=wq at*
  go_upto_region 4 with (fail)
  have hBX:Below w.heap.size w wq:=hdb.out
  have hDX:=HE.out.1.below hBX
  have hDd:=hDX.below (dn wq 1)
  have hBd:Below w.heap.size w (wq.drewN 1):=hBX.trans ((dn wq 1).mono hBX.size)
  have hst:Calls Tryz.prog 141 #[.pointer (some ⟨vb,0,none⟩)] wq.drew fun e w' => e= .returned (.pointer (some ⟨sb,0,none⟩))∧wq.drew=w' :=v_store hDd
  have hwr:Calls Tryz.prog 143 #[.pointer (some ⟨sb,0,none⟩),.int .i64 t.id,.int .i64 p,.slice a m cp] wq.drew fun e w9=> e= .returned (.int .i64 r)∧(Upd O w w9∧∃O9,FX w0 O9 fdb vb tb fb sb pb mb ns2 c N S w9∧∀k,O9 k→O k∨w.heap.size≤k):=(v_write hDd t.id HE.out.2.1 p bs HE.out.2.2.1 _ (HE.out.2.2.2.1.below hBd) r ns2 HE.out.2.2.2.2.1).mono (fun e w9 hh=> FP.ahead hBd hh)
  have hF0:(fun u=> u.cell? ⟨fdb,0,none⟩=some (.pointer (some ⟨vb,0,none⟩))∧u.cell? ⟨x,2,none⟩=some (.int .i64 t.id)) wq.drew:=⟨hDd.fd.f.rd 0,(hDd.fd.x x t HE.out.2.2.2.2.2).rd 2⟩
  have HQ:=Lib.hid (And.intro hF0 (And.intro hst hwr))
  clear hBX hDX hDd hBd hst hwr hF0
  refine region_C 11 wq.drew (fun w9=> (Upd O w w9∧∃O9,FX w0 O9 fdb vb tb fb sb pb mb ns2 c N S w9∧∀k,O9 k→O k∨w.heap.size≤k)) rfl (by kernel_rfl) (by kernel_rfl) ?_
  iterate 3
   apply wpJ_op rfl (by rfl)
   ·intro f w1 hf hJ Q1 hQ
    simp only [nrm] at hQ
    go_wp2_with (go_at_call 141;refine k1.mono ?_;rintro e w8 ⟨rfl,rfl⟩)
    exact hQ _ _ rfl (hJ.other rfl hf (by decide))
   simp only [nrm]
  apply wpJ_op rfl (by rfl)
  ·intro f w1 hf hJ Q1 hQ
   have hC:f 11=false:=path_no hJ.1 [4,3] (by kernel_rfl) (by decide) hf.1
   rw [hJ.atC hC]
   have hF:=HQ.out.1
   have k0:=hF.1
   simp only [nrm] at hQ
   go_wp2_with (go_at_call 141;refine k1.mono ?_;rintro e w8 ⟨rfl,rfl⟩)
   exact hQ _ _ rfl (by have h9:=hJ.other rfl hf (by decide);rwa [hJ.atC hC] at h9)
  simp only [nrm]
  apply wpJ_op rfl (by rfl)
  ·intro f w1 hf hJ Q1 hQ
   have hC:f 11=false:=path_no hJ.1 [4] (by kernel_rfl) (by decide) hf.1
   rw [hJ.atC hC]
   have hF:=HQ.out.1
   have k1:=HQ.out.2.1
   simp only [nrm] at hQ
   go_wp2_with (go_at_call 141;refine k1.mono ?_;rintro e w8 ⟨rfl,rfl⟩)
   exact hQ _ _ rfl (by have h9:=hJ.other rfl hf (by decide);rwa [hJ.atC hC] at h9)
  iterate 3
   simp only [nrm]
   apply wpJ_op rfl (by rfl)
   ·intro f w1 hf hJ Q1 hQ
    simp only [nrm] at hQ
    go_wp2_with (go_at_call 141;refine k1.mono ?_;rintro e w8 ⟨rfl,rfl⟩)
    exact hQ _ _ rfl (hJ.other rfl hf (by decide))
  simp only [nrm]
  apply wpJ_op rfl (by rfl)
  ·intro f w1 hf hJ Q1 hQ
   have hC:f 11=false:=path_no hJ.1 [8] (by kernel_rfl) (by decide) hf.1
   rw [hJ.atC hC]
   have hF:=HQ.out.1
   have k2:=hF.2
   simp only [nrm] at hQ
   go_wp2_with (go_at_call 141;refine k1.mono ?_;rintro e w8 ⟨rfl,rfl⟩)
   exact hQ _ _ rfl (by have h9:=hJ.other rfl hf (by decide);rwa [hJ.atC hC] at h9)
  iterate 2
   simp only [nrm]
   apply wpJ_op rfl (by rfl)
   ·intro f w1 hf hJ Q1 hQ
    simp only [nrm] at hQ
    go_wp2_with (go_at_call 141;refine k1.mono ?_;rintro e w8 ⟨rfl,rfl⟩)
    exact hQ _ _ rfl (hJ.other rfl hf (by decide))
  simp only [nrm]
  apply wpJ_op rfl (by rfl)
  ·intro f w1 hf hJ Q1 hQ
   rw [hJ.atC hf.1]
   simp only [nrm] at hQ
   go_wp2_with (have kw:=HQ.out.2.2;go_at_call 143;refine kw.mono ?_;rintro e w8 ⟨rfl,hq⟩)
   exact hQ _ _ rfl (hJ.goC rfl hf hq)
  simp only [nrm]
  apply wpJ_op rfl (by rfl)
  ·intro f w1 hf hJ Q1 hQ
   simp only [nrm] at hQ
   go_wp2_with (go_at_call 141;refine k1.mono ?_;rintro e w8 ⟨rfl,rfl⟩)
   exact hQ _ _ rfl (hJ.other rfl hf (by decide))
  simp only [nrm]
  refine wpJ_nil ?_
  intro w9 hJ9
  have hq9:=hJ9.fin rfl
  clear hJ9
  obtain ⟨hU9,O9,hD9,hO9⟩:=hq9
  have HF:=Lib.hid (show FP w0 O fdb vb tb fb sb pb mb ns2 c N S w (.int .i64 r) (.returned (.int .i64 r)) w9 from ⟨rfl,hU9,O9,hD9,hO9⟩)
  clear hU9 hD9 hO9 HQ
  go_wp2_with (fail)
  go_ret
  exact HF.out
set_option maxRecDepth 100000 in
set_option maxHeartbeats 2000000 in
theorem k_writeerr [Inhabited CapT] {ns2:NSt} (h:FX w0 O fdb vb tb fb sb pb mb ns c N S w) (pid:Int) (hw:(Lit.int .i64 pid).wf=true) (b:Nat) (hb:S.pr pid=some b) (d x:Nat) (hd:d < 8) (hx:S.sl b d=some x) (t:Th) (ht:S.th x=some t) (hpp:t.pp=false) (hid:(Lit.int .i64 t.id).wf=true) (bs:List Int) (m cp:Nat) (a:Option Addr) (hm:bs.length=m) (hm6:m≤100000) (hv:SrcF O w (.slice a m cp) bs)
  (p:Int) (hp0:0≤p) (hp:(t.en=false∧t.pl=p)∨(t.en=true∧∃e,sizeV (filesOf ns) t.id=(p,e))) (r:Int) (hr:wrF ns capN t.id p bs=(r,ns2)) (hr0:r≠0):
  Calls Tryz.prog 45 #[.pointer (some ⟨fdb,0,none⟩),.int .i64 pid,.int .i64 d,.slice a m cp] w (FP w0 O fdb vb tb fb sb pb mb ns2 c N S w (.tuple #[.int .i64 0,.int .i64 r])):=by
 have hg:=k_get h.fd pid hw b hb d x hd hx
 have hB:=h.fd.x x t ht
 have c0:w.cell? ⟨x,0,none⟩=some (.bool false):=by rw [←hpp];exact hB.rd 0
 have hfw:=kf_writeerr h x t ht hid bs m cp a hm hm6 hv p hp0 hp r hr hr0
 have dr1:(r==0)=false:=by simpa using hr0
 have dr2:(r !=0)=true:=by simpa using hr0
 clear hr0 h hB ht hb hx hpp hid hv hr hp hp0
 go_enter Tryz.func45,Tryz.ntmps45
 go_wp2_with (first
  | (go_at_call 80;refine hg.mono ?_;rintro e w1 ⟨rfl,rfl⟩)
  | (go_at_call 84;refine hfw.mono ?_;rintro e w2 ⟨rfl,hq⟩;have HF:=Lib.hid hq;clear hq hfw))
 go_ret2
 exact ⟨rfl,HF.out⟩
end
end Go.Proofs.YtjpjafajploiaaaGreatDoor
namespace Go.Proofs.YtjpjafajploiaaaGreatDoor
open Go.RowKit Own RegJ Two
open Go.Lib hiding intOf
structure UX [Inhabited CapT] (w0:World) (O:Nat→Prop) (fdb vb tb fb sb pb mb:Nat) (ns:NSt) (c N:Nat) (S:FS) (syb qb qm M:Nat) (m:PrM) (w:World):Prop where
 fx:FX w0 O fdb vb tb fb sb pb mb ns c N S w
 sy:Blk w syb #[.pointer (some ⟨fb,0,none⟩),.pointer (some ⟨vb,0,none⟩),.pointer (some ⟨fdb,0,none⟩),.pointer (some ⟨qb,0,none⟩)] 83
 pr:PrB w qb qm M m
 lo:w0.heap.size≤syb∧w0.heap.size≤qb∧w0.heap.size≤qm
 no:¬O syb∧¬O qb∧¬O qm
 ne:syb≠qm∧vb≠qm
 mc:0 < w0.heap.size
theorem FX.beside' {C:Inhabited CapT} {w0 w w' :World} {O:Nat→Prop} {fdb vb tb fb sb pb mb:Nat} {ns:NSt} {c N:Nat} {S:FS} {F:Nat→Prop} (h:FX w0 O fdb vb tb fb sb pb mb ns c N S w) (hmc:0 < w0.heap.size) (hu:Upd F w w') (hF:∀k,F k→w0.heap.size≤k∧¬O k∧k≠vb):FX w0 O fdb vb tb fb sb pb mb ns c N S w' :=by
 obtain ⟨lo,h1,h2,h3,h4,h5,h6,h7,h8⟩:=h
 exact ⟨lo,h1.upd hu (fun hk=> (hF _ hk).2.2 rfl) (fun r k hr hk=> (hF k hk).2.1 (h4 r k hr)) (fun hk=> by have:=(hF _ hk).1;omega),h2.trans (hu.below h2.size (fun k hk=> (hF k hk).1)),fun k hk=> ⟨(h3 k hk).1,Nat.lt_of_lt_of_le (h3 k hk).2 hu.size⟩,h4,h5,h6,h7.upd hu (fun k hk hf=> (hF k hf).2.1 (h8 k hk).1),h8⟩
section
variable {w0 w w' :World} {O O' :Nat→Prop} {fdb vb tb fb sb pb mb:Nat} {ns ns' :NSt} {c c' N N' :Nat} {S S' :FS} {syb qb qm M M' :Nat} {m m' :PrM}
theorem UX.below [Inhabited CapT] (h:UX w0 O fdb vb tb fb sb pb mb ns c N S syb qb qm M m w) (hB:Below w.heap.size w w'):UX w0 O fdb vb tb fb sb pb mb ns c N S syb qb qm M m w' :=
 ⟨h.fx.below hB,Blk.below hB h.sy h.sy.lt,h.pr.below hB,h.lo,h.no,h.ne,h.mc⟩
theorem UX.step [Inhabited CapT] (h:UX w0 O fdb vb tb fb sb pb mb ns c N S syb qb qm M m w) (hU:Upd O w w') (hX:FX w0 O' fdb vb tb fb sb pb mb ns' c' N' S' w') (hO:∀k,O' k→O k∨w.heap.size≤k):UX w0 O' fdb vb tb fb sb pb mb ns' c' N' S' syb qb qm M m w' :=by
 obtain ⟨l1,l2⟩:=h.pr.lt
 have l3:=h.sy.lt
 have hn:=h.no
 refine ⟨hX,Blk.upd hU h.sy hn.1,h.pr.upd hU hn.2.1 hn.2.2,h.lo,⟨fun hk=> ?_,fun hk=> ?_,fun hk=> ?_⟩,h.ne,h.mc⟩
 ·rcases hO _ hk with hk | hk
  ·exact hn.1 hk
  ·omega
 ·rcases hO _ hk with hk | hk
  ·exact hn.2.1 hk
  ·omega
 ·rcases hO _ hk with hk | hk
  ·exact hn.2.2 hk
  ·omega
theorem UX.proc [Inhabited CapT] (h:UX w0 O fdb vb tb fb sb pb mb ns c N S syb qb qm M m w) (hP:PrB w' qb qm M' m') (hu:Upd (fun k=> k=qm) w w'):UX w0 O fdb vb tb fb sb pb mb ns c N S syb qb qm M' m' w' :=
 ⟨h.fx.beside' h.mc hu (fun k hk=> by subst hk;exact ⟨h.lo.2.2,h.no.2.2,fun e=> h.ne.2 e.symm⟩),Blk.upd hu h.sy h.ne.1,hP,h.lo,h.no,h.ne,h.mc⟩
def UP [Inhabited CapT] (w0:World) (O:Nat→Prop) (fdb vb tb fb sb pb mb:Nat) (ns:NSt) (c N:Nat) (S:FS) (syb qb qm M:Nat) (m:PrM) (w:World) (v:Value) (e:Ending) (w' :World):Prop:=
 e= .returned v∧Upd (fun k=> O k∨k=qm) w w' ∧∃O',UX w0 O' fdb vb tb fb sb pb mb ns c N S syb qb qm M m w' ∧∀k,O' k→O k∨w.heap.size≤k
end
theorem v_newN [Inhabited CapT] {w w1 W:World} (n:Nat) (hn:1≤n) (hm:MC w) (hc:capI=capV n) (fb bb kb:Nat) (hF:FrB w1 fb bb kb none (fs0 n)) (hB:Below w.heap.size w w1) (g1:w.heap.size≤fb) (g2:w.heap.size≤bb) (g3:w.heap.size≤kb) (n1:fb≠bb) (n2:fb≠kb) (n3:bb≠kb) (hW:Below w1.heap.size w1 W):
  Calls Tryz.prog 33 #[.pointer (some ⟨fb,0,none⟩)] W (VnP w.heap.size fb W):=
 vnew_is fb bb kb n W (hF.below hW) n1 n2 n3 hn hc (hm.below (hB.trans (hW.mono hB.size))) w.heap.size g1 g2 g3 (hB.trans (hW.mono hB.size)).size hm.lt
def UNewP [Inhabited CapT] (w:World) (e:Ending) (w' :World):Prop:=∃syb fdb vb tb fb sb pb mb qb qm O,e= .returned (.tuple #[.pointer (some ⟨syb,0,none⟩),.int .i64 0])∧UX w O fdb vb tb fb sb pb mb ns0 0 0 fs00 syb qb qm 0 (fun _=> none) w'
set_option maxRecDepth 100000 in
set_option maxHeartbeats 2000000 in
theorem unew_is [Inhabited CapT] (n:Nat) (h1:1≤n) (h64:n≤64) (w:World) (hm:MC w) (hc:capI=capV n):Calls Tryz.prog 10 #[.int .i64 n] w (UNewP w):=by
 have hfn:Calls Tryz.prog 32 #[.int .i64 n] w (FNewP w n):=fnew_is n h1 h64 w
 have HM:=Lib.hid (And.intro hm (And.intro hc h1))
 clear hm hc h1 h64
 go_enter Tryz.func10,Tryz.ntmps10
 go_wp2_with (first
  | (go_at_call 32;(with_reducible refine hfn.mono ?_);rintro e w1 ⟨fb,bb,kb,rfl,hFr,hB,g1,g2,g3,g4,g5,g6⟩;have hvn:=fun W (hW:Below w1.heap.size w1 W)=> v_newN n HM.out.2.2 HM.out.1 HM.out.2.1 fb bb kb hFr hB g1 g2 g3 g4 g5 g6 hW;have H1:=Lib.hid hB;clear hB hFr g1 g2 g3 g4 g5 g6 hfn)
  | (go_at_call 33;refine (hvn _ (Below.refl _ _)).mono ?_;rintro e w4 ⟨vb,tb,lo,rfl,hV,hB',hb,hf⟩;have H4:=Lib.hid (And.intro hV (And.intro hB' (And.intro hb hf)));clear hV hB' hb hf hvn;have hs:=slabnew_any fb w4)
  | (go_at_call 36;refine hs.mono ?_;rintro e w5 ⟨⟨k5,rfl⟩,hB⟩;have H5:=Lib.hid hB;clear hB hs;have hp:=pipenew_any k5 w5)
  | (go_at_call 35;refine hp.mono ?_;rintro e w6 ⟨⟨k6,rfl⟩,hB⟩;have H6:=Lib.hid (H5.out.trans (hB.mono H5.out.size));clear hB hp;have hd:=fdnew_is vb k6 w6)
  | (go_at_call 34;refine hd.mono ?_;rintro e w7 ⟨fdb,mb,rfl,hB,h1,h2,hF⟩;have H7:=Lib.hid (And.intro hB (And.intro h1 (And.intro h2 hF)));clear hB h1 h2 hF hd;have hq:=procnew_is w7)
  | (go_at_call 37;refine hq.mono ?_;rintro e w8 ⟨qb,qm,rfl,hB,h1,h2,hF⟩;have H8:=Lib.hid (And.intro hB (And.intro h1 (And.intro h2 hF)));clear hB h1 h2 hF hq))
 go_returns
 obtain ⟨hV,hB4,hb,hf⟩:=H4.out
 obtain ⟨hB7,h1,h2,hF⟩:=H7.out
 obtain ⟨hB8,q1,q2,hQ⟩:=H8.out
 have hB6:=H6.out
 have hB47:Below w4.heap.size w4 w7:=hB6.trans (hB7.mono hB6.size)
 have hB17:Below w1.heap.size w1 w7:=hB4.trans (hB47.mono hB4.size)
 have hB07:Below w.heap.size w w7:=H1.out.trans (hB17.mono H1.out.size)
 obtain ⟨sb,hs,_⟩:=hV.1.cell0
 obtain ⟨l1,l2,l3⟩:=hV.lts
 have hV7:=hV.below hB47
 have z1:=H1.out.size
 have z4:=hB4.size
 have z6:=hB6.size
 have z47:=hB47.size
 have z7:=hB07.size
 have zm:=HM.out.1.lt
 obtain ⟨lq1,lq2⟩:=hQ.lt
 have hX:FX w (fun k=> w.heap.size≤k∧k < w7.heap.size) fdb vb tb fb sb k6 mb ns0 0 0 fs00 w7:=by
  refine ⟨lo,hV7,hB07,fun k hk=> hk,fun r k hk=> ⟨hb r k hk,?_⟩,hf,hs,hF,fun k hk=> ?_⟩
  ·have:=l2 r k hk;omega
  ·have hk2:w6.heap.size≤k:=by
    rcases hk with rfl | rfl | ⟨i,hi⟩ | hx
    ·exact h1
    ·exact h2
    ·cases hi
    ·cases hx
   have hk3:=hF.lt hk
   exact ⟨⟨by omega,hk3⟩,fun r hr=> by have:=l2 r k hr;omega,by omega,by omega⟩
 have hal:Below w8.heap.size w8 (w8.alloc (.cells #[.pointer (some ⟨fb,0,none⟩),.pointer (some ⟨vb,0,none⟩),.pointer (some ⟨fdb,0,none⟩),.pointer (some ⟨qb,0,none⟩)] 83)):=(Below.refl _ _).alloc (Nat.le_refl _) _
 have z8:=hB8.size
 refine ⟨w8.heap.size,fdb,vb,tb,fb,sb,k6,mb,qb,qm,_,rfl,hX.below (hB8.trans (hal.mono hB8.size)),Blk.new w8 _ _,hQ.below hal,⟨by omega,by omega,by omega⟩,⟨fun hk=> by have:=hk.2;omega,fun hk=> by have:=hk.2;omega,fun hk=> by have:=hk.2;omega⟩,⟨by omega,by omega⟩,by omega⟩
section
variable {w0 w w' :World} {O O' :Nat→Prop} {fdb vb tb fb sb pb mb:Nat} {ns ns' :NSt} {c c' N N' :Nat} {S S' :FS} {syb qb qm M M' :Nat} {m m' :PrM}
set_option maxRecDepth 100000 in
theorem ustart_is [Inhabited CapT] (h:UX w0 O fdb vb tb fb sb pb mb ns c N S syb qb qm M m w) (hN:N≤100000) (hM:M≤10000) (pid:Int) (hw:(Lit.int .i64 pid).wf=true) (h0:0≤pid) (hp:m pid=none) (hs:S.pr pid=none):
  Calls Tryz.prog 11 #[.pointer (some ⟨syb,0,none⟩),.int .i64 pid] w fun e w' => ∃b,w.heap.size≤b∧UP w0 O fdb vb tb fb sb pb mb ns c (N+1) (S.start pid b) syb qb qm (M+1) (prPut m pid (some ⟨-1,0,false⟩)) w (.int .i64 0) e w' :=by
 have hps:=pstart_one h.pr hM pid hw h0 hp
 have c3:=h.sy.rd 3
 have H:=Lib.hid (And.intro h (And.intro hN (And.intro hw (And.intro h0 hs))))
 clear h hN hw h0 hs hp
 go_enter Tryz.func11,Tryz.ntmps11
 go_wp2_with (first
  | (go_at_call 38;refine hps.mono ?_;rintro e w1 ⟨rfl,hP,hu⟩;have h1:=H.out.1.proc hP hu;have c2:=h1.sy.rd 2;have hks:=k_start h1.fx H.out.2.1 pid H.out.2.2.1 H.out.2.2.2.1 H.out.2.2.2.2;have H1:=Lib.hid (And.intro h1 hu);clear hps c3 h1 hP hu)
  | (go_at_call 39;refine hks.mono ?_;rintro e w2 ⟨b,hb,rfl,hU,O2,hD,hO⟩;have H2:=Lib.hid (And.intro hb (And.intro hU (And.intro hD hO)));clear hks hb hU hD hO c2))
 go_ret
 obtain ⟨h1,hu⟩:=H1.out
 obtain ⟨hb,hU,hD,hO⟩:=H2.out
 have hz:=hu.size
 exact ⟨b,by omega,rfl,(hu.mono (fun k _ hk=> .inr hk)).trans hU (fun k _ hk=> .inl hk),O2,h1.step hU hD hO,fun k hk=> (hO k hk).imp (fun h=> h) (fun h=> by omega)⟩
end
end Go.Proofs.YtjpjafajploiaaaGreatDoor
