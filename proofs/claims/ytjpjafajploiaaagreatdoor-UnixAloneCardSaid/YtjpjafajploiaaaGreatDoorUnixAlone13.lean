/-
  The store: Write.
-/
import Derived.Test.YtjpjafajploiaaaGreatDoorUnixAlone12
import Derived.Test.YtjpjafajploiaaaGreatDoorUnixAlone02
set_option linter.unusedSimpArgs false
set_option linter.unusedVariables false
namespace Go.Proofs.YtjpjafajploiaaaGreatDoor
open Go.RowKit Own RegJ
open Go.Lib
section
variable {w w' :World} {so:SRl→Option Nat} {fs:Sfs} {F N:Nat} {f:Fs} {ls:Nat→List Int}
theorem take_any {fb bb kb:Nat} {row:Option Nat} (h:FrB w fb bb kb row f) (hn1:fb≠bb) (hn2:fb≠kb) (hn3:bb≠kb) (hr:∀g,row=some g→g≠fb∧g≠bb∧g≠kb) (hf:0 < f.free):
  Calls Tryz.prog 75 #[.pointer (some ⟨fb,0,none⟩)] w (TakeP w fb bb kb row f):=by
 by_cases hx:f.fr= []
 ·refine take_fresh h hn1 hn2 hn3 hr hx ?_
  unfold Fs.free at hf
  rw [hx] at hf
  have:([]:List Int).length=0:=rfl
  omega
 ·exact take_back h hn1 hn2 hn3 hr _ _ (List.dropLast_concat_getLast hx).symm
def writeR (fs:Sfs) (F:Nat) (id off:Int) (b:List Int):Int×Sfs:=match fsAt fs id with
 | none=> (4,fs)
 | some bs=> if off < 0 then (19,fs) else if b.length=0 then (0,fs) else if 512 < b.length∨512 - (b.length:Int) < off then (15,fs)
  else if F+(bs.length+63) / 64 < usedN fs 16+(max bs.length (off.toNat+b.length)+63) / 64 then (15,fs)
  else (0,fsPut fs id.toNat (some (writeB bs off.toNat b)))
def GrowR (w0:World) (so:SRl→Option Nat) (f:Fs) (l:List Int) (i kf L fb bb kb cs bc:Nat) (cv bv:Value) (m:Nat) (wr:World):Prop:=∃f' news v row,FrB wr fb bb kb (so .fre) f' ∧TookL f news f' ∧news.length=m∧Blk wr kf #[.int .i64 L,v] 298∧RowV wr 3 v (icells (l++news)) row∧(∀k,row=some k→so (.fls i)=some k∨w0.heap.size≤k)∧Upd (fun k=> k=fb∨k=bb∨k=kb∨k=kf∨so (.fls i)=some k) w0 wr∧Blk wr cs #[cv] 141∧Blk wr bc #[bv] 22
theorem new_cell (w:World) (v:Value) (T:TypeId):∀(j:Nat) (u:Value),([v]:List Value)[j]? =some u→(w.alloc (.cells #[v] T)).cell? ((⟨w.heap.size,0,none⟩:Addr).add j)=some u:=fun j u hj=> by
 match j,hj with
 | 0,hj=>
  simp at hj;subst hj
  rw [add_off]
  exact (Blk.new w #[v] T).cell rfl
set_option maxRecDepth 100000 in
set_option maxHeartbeats 2000000 in
theorem s_write_yes [Inhabited CapT] (h:StI w so fs F N f ls) (sb:Nat) (hs:so .sto=some sb) (i:Nat) (bs:List Int) (hi:fs i=some bs) (o:Nat) (b:List Int) (g q c:Nat) (hb1:1≤b.length) (hob:o+b.length≤512) (hc:b.length≤c) (hrd:RdV w (some ⟨g,q,none⟩) (ucells b)) (hfar:∀r k,so r=some k→k≠g) (hgl:g < w.heap.size)
  (hen:¬(F+(bs.length+63) / 64 < usedN fs 16+(max bs.length (o+b.length)+63) / 64)):
  Calls Tryz.prog 143 #[.pointer (some ⟨sb,0,none⟩),.int .i64 i,.int .i64 o,.slice (some ⟨g,q,none⟩) b.length c] w (StP w so (fsPut fs i (some (writeB bs o b))) F N (.int .i64 0)):=by
 have h16:=h.i16 hi
 have hB0:Below w.heap.size w ((w.alloc (.cells #[.pointer (some ⟨sb,0,none⟩)] 141)).alloc (.cells #[.slice (some ⟨g,q,none⟩) b.length c] 22)):=((Below.refl _ _).alloc (Nat.le_refl _) _).alloc (by simp) _
 have hcs:=(Blk.new w #[.pointer (some ⟨sb,0,none⟩)] 141).alloc (.cells #[.slice (some ⟨g,q,none⟩) b.length c] 22)
 have hbc:=Blk.new' (w:=w.alloc (.cells #[.pointer (some ⟨sb,0,none⟩)] 141)) (cs:= #[.slice (some ⟨g,q,none⟩) b.length c]) (T:=22) (b:=w.heap.size+1) (by simp)
 have h1:=h.upd (Upd.of_below (F:=fun _=> False) hB0) (fun _ _ _ h=> h)
 have hrd1:=hrd.below hB0
 have hlt:=h.lt
 have hz1:((w.alloc (.cells #[.pointer (some ⟨sb,0,none⟩)] 141)).alloc (.cells #[.slice (some ⟨g,q,none⟩) b.length c] 22)).heap.size=w.heap.size+2:=by simp
 obtain ⟨n,hn⟩:∃n,b.length=n:=⟨_,rfl⟩
 rw [hn] at hcs hbc hb1 hob hc hB0 h1 hrd1 hz1
 rw [show (Value.slice (some ⟨g,q,none⟩) b.length c)=Value.slice (some ⟨g,q,none⟩) n c by rw [hn]]
 obtain ⟨L,hL⟩:∃L,bs.length=L:=⟨_,rfl⟩
 obtain ⟨E,hE⟩:∃E,max L (o+n)=E:=⟨_,rfl⟩
 obtain ⟨kf,v0,k1,k2,k3,k4⟩:=h1.file i bs hi
 obtain ⟨sb',mb,fb,bb,kb,nn,s,t1,t2,t3,t4,t5,t6,t7,t8,t9⟩:=h1.top
 obtain rfl:sb=sb' :=by rw [hs] at t1;exact Option.some.inj t1
 have hg:=sg_yes h1 sb hs i bs hi kf k1
 have hfr:=free_is t9
 obtain ⟨a0,c0,rfl,-,-⟩:=k3.len_int
 obtain ⟨l,hl⟩:∃l,(ls i).length=l:=⟨_,rfl⟩
 have hlL:l=(L+63) / 64:=by rw [←hl,←hL];exact k4.len
 have hsum:=h1.sum
 have hE5:E≤512∧L≤E:=by have:=k4.most;omega
 obtain ⟨M,hM⟩:∃M,M=(E+63) / 64 - l:=⟨_,rfl⟩
 have hfree:M≤f.free:=by
  have h2:blks (fs i)=(L+63) / 64:=by rw [hi,←hL];rfl
  rw [hL,hn,hE] at hen
  have:blks (fs i)≤usedN fs 16:=by
   have:=usedN_put fs i none 16 h16
   have:blks none=0:=rfl
   omega
  omega
 have c1:=hcs.rd
 have c2:=hbc.rd
 have c3:=k2.rd
 have c4:=t6.rd
 rw [hL] at c3
 rw [hl] at c3
 have H:=Lib.hid (And.intro h1 (And.intro hi (And.intro k1 (And.intro k2 (And.intro k3 (And.intro k4 (And.intro t9 (And.intro t3 (And.intro t4 (And.intro t5 (And.intro t6 t1)))))))))))
 have HB:=Lib.hid (And.intro hB0 (And.intro hcs (And.intro hbc (And.intro hrd1 (And.intro hlt hz1)))))
 have HL:=Lib.hid (And.intro hn (And.intro hL (And.intro hl (And.intro hs (And.intro hfar hgl)))))
 have HE:=Lib.hid hE
 have hM8:M≤8:=by omega
 clear h h1 hi k1 k2 k3 k4 t1 t2 t3 t4 t5 t6 t7 t8 t9 hB0 hcs hbc hrd1 hlt hrd hn hL hl hs hfar hen hgl hz1 hsum h16
 go_enter Tryz.func143,Tryz.ntmps143
 go_upto_region 1 with (fail)
 generalize (w.alloc (.cells #[.pointer (some ⟨sb,0,none⟩)] 141)).alloc (.cells #[.slice (some ⟨g,q,none⟩) n c] 22)=w2 at*
 have d1:decide ((o:Int) < 0)=false:=by simp
 have d2:((n:Int)==0)=false:=by simp;omega
 have d2n:(n==0)=false:=by simp;omega
 have d3:decide ((n:Int) > 512)=false:=by simp;omega
 have d4:decide ((o:Int) > 512 - n)=false:=by simp;omega
 go_upto_region 10 with (go_at_call 186;refine hg.mono ?_;rintro e w' ⟨rfl,rfl⟩)
 have hcase:(L < E∧o+n=E)∨(E=L∧o+n≤L):=by have:=HE.out;omega
 have e8:((E:Int)+64 - 1) / 64 - l=(M:Nat):=by omega
 have d5:decide ((M:Int) > f.free)=false:=by simp;omega
 have d5n:decide (M > f.free)=false:=by simp;omega
 have HFR:=Lib.hid (fun w' (hu:Upd (fun _=> False) w2 w')=> free_is (H.out.2.2.2.2.2.2.1.upd hu (fun h=> h) (fun h=> h) (fun h=> h) (fun _ _ h=> h)))
 have HC:=Lib.hid hcase
 have HM:=Lib.hid (And.intro hM (And.intro hlL (And.intro hE5 hfree)))
 clear hcase hM hlL hfr hfree
 have hEi:(E:Int)≤512:=by omega
 have hl8:l≤512:=by have:=HM.out;omega
 have hmain:(L < E∧(o:Int)+n=(E:Nat))∨((L:Int)=(E:Nat)∧o+n≤E):=by have:=HC.out;omega
 rcases hmain with ⟨e5,e7⟩ | ⟨e5,e7⟩
 all_goals
  go_quiet (fail)
  have hu3:=(Upd.refl (fun _=> False) w2).drewN nq
  have hfr:=HFR.out _ hu3
  go_upto_region 14 with (go_at_call 59;(with_reducible refine hfr.mono ?_);rintro e w3 ⟨rfl,hB⟩;have hu4:=hu3.trans (Upd.of_below (F:=fun _=> False) hB) (fun _ _ h=> h);clear hfr hB)
  clear e5 e7 hu3
  obtain ⟨h1,hi,k1,k2,k3,k4,t9,t3,t4,t5,t6,t1⟩:=H.out
  have h3:=h1.upd hu4 (fun _ _ _ h=> h)
  have k2' :=Blk.upd hu4 k2 (fun h=> h)
  have k3' :=k3.upd hu4 (fun _ _ h=> h)
  have t9' :=t9.upd hu4 (fun h=> h) (fun h=> h) (fun h=> h) (fun _ _ h=> h)
  have t6' :=Blk.upd hu4 t6 (fun h=> h)
  have hcs' :=Blk.upd hu4 HB.out.2.1 (fun h=> h)
  have hbc' :=Blk.upd hu4 HB.out.2.2.1 (fun h=> h)
  have hrd' :=HB.out.2.2.2.1.upd hu4 (fun _ _ h=> h)
  rw [HL.out.2.1] at k2'
  have hz3:=hu4.size
  clear c1 c2 c3 c4
  have c1:=hcs'.rd
  have c2:=hbc'.rd
  have c3:=k2'.rd
  have c4:=t6'.rd
  have hgrow0:GrowR w3 so f (ls i) i kf L fb bb kb w.heap.size (w.heap.size+1) (.pointer (some ⟨sb,0,none⟩)) (.slice (some ⟨g,q,none⟩) n c) 0 w3:=⟨f,[],_,so (.fls i),t9',TookL.nil f,rfl,k2',by rw [List.append_nil];exact k3',fun k hk=> Or.inl hk,Upd.refl _ _,hcs',hbc'⟩
  have h3lt:=h3.lt
  have H3:=Lib.hid (And.intro h3 (And.intro t6' (And.intro hrd' (And.intro hgrow0 (And.intro hu4 h3lt)))))
  have HI:=Lib.hid (And.intro h3.inj (And.intro k1 (And.intro t3 (And.intro t4 (And.intro t5 t1)))))
  clear h1 hi k1 k2 k3 k4 t9 t3 t4 t5 t6 t1 h3 k2' k3' t9' t6' hcs' hbc' hrd' hgrow0 hu4 h3lt
  go_wp2_with (fail)
  go_loopw [77] (fun v77 wr=> ∃m:Nat,m≤M∧v77= .int .i64 m∧GrowR w3 so f (ls i) i kf L fb bb kb w.heap.size (w.heap.size+1) (.pointer (some ⟨sb,0,none⟩)) (.slice (some ⟨g,q,none⟩) n c) m wr) (fun v77 _=> M - (intOf v77).toNat)
  case atStart=> exact ⟨0,Nat.zero_le _,rfl,H3.out.2.2.2.1⟩
  case round=>
   obtain ⟨m,hm,rfl,hR⟩:=hrel
   have HR:=Lib.hid hR
   clear hR
   by_cases hlt:m < M
   ·obtain ⟨f1,news,v1,row,r1,r2,r3,r4,r5,r6,r7,r8,r9⟩:=HR.out
    obtain ⟨inj,k1,t3,t4,t5,t1⟩:=HI.out
    have h3lt:=H3.out.2.2.2.2.2
    obtain ⟨Ln,hLn⟩:∃Ln,(ls i++news).length=Ln:=⟨_,rfl⟩
    obtain ⟨a1,cc1,rfl,-,-⟩:=r5.len_int
    have hfr0:∀k,row=some k→k≠fb∧k≠bb∧k≠kb∧k≠kf:=fun k hk=> by
     have l1:=h3lt _ _ t3
     have l2:=h3lt _ _ t4
     have l3:=h3lt _ _ t5
     have l4:=h3lt _ _ k1
     rcases r6 k hk with e | e
     ·refine ⟨fun e2=> ?_,fun e2=> ?_,fun e2=> ?_,fun e2=> ?_⟩
      ·have:=inj _ _ _ e (e2▸t3);cases this
      ·have:=inj _ _ _ e (e2▸t4);cases this
      ·have:=inj _ _ _ e (e2▸t5);cases this
      ·have:=inj _ _ _ e (e2▸k1);cases this
     ·omega
    have htk:=take_any r1 (fun e=> by have:=inj _ _ _ t3 (e▸t4);cases this) (fun e=> by have:=inj _ _ _ t3 (e▸t5);cases this) (fun e=> by have:=inj _ _ _ t4 (e▸t5);cases this) (fun g' hg=> ⟨(fun e=> by have:=inj _ _ _ hg (e▸t3);cases this),(fun e=> by have:=inj _ _ _ hg (e▸t4);cases this),(fun e=> by have:=inj _ _ _ hg (e▸t5);cases this)⟩) (by have:=r2.free;have:=HM.out;omega)
    have hkne:¬(kf=fb∨kf=bb∨kf=kb):=fun e=> by
     rcases e with e | e | e
     ·have:=inj _ _ _ k1 (e▸t3);cases this
     ·have:=inj _ _ _ k1 (e▸t4);cases this
     ·have:=inj _ _ _ k1 (e▸t5);cases this
    have hln8:(icells (ls i++news)).length+1≤1000000:=by
     have:=HL.out.2.2.1
     simp [r3];have:=HM.out;omega
    rw [hLn] at r5 r4
    have d6:decide ((m:Int) < (M:Int))=true:=by simp;omega
    have d6n:decide (m < M)=true:=by simpa using hlt
    have HK:=Lib.hid (And.intro r1 (And.intro r2 (And.intro r3 (And.intro r4 (And.intro r5 (And.intro r6 (And.intro r7 (And.intro r8 r9))))))))
    have HF0:=Lib.hid (And.intro hfr0 (And.intro hkne (And.intro hln8 hLn)))
    clear r1 r2 r3 r4 r5 r6 r7 r8 r9 inj k1 t3 t4 t5 t1 h3lt hfr0 hkne hln8 hLn
    go_wp2_with (first
     | (go_at_call 75;(with_reducible refine htk.mono ?_);rintro e w4 ⟨j,f2,rfl,g1,g2,g3⟩;have hk4:=Blk.upd g3 HK.out.2.2.2.1 HF0.out.2.1;have c5:=hk4.rd;have hv4:=HK.out.2.2.2.2.1.upd g3 (fun g' hg' e=> by (have:=HF0.out.1 g' hg';omega));have H4:=Lib.hid (And.intro g1 (And.intro g2 (And.intro g3 (And.intro hk4 hv4))));clear htk g1 g2 g3 hk4 hv4)
     | (at_builtin;refine wp_appV rfl (.tmp 88) (.tmp 90) 59 3 (.int .i64 0) 8 (by kernel_rfl) rfl (by decide) Tryz.underlying59 rfl (.slice a1 Ln cc1) (icells (ls i++news)) row rfl (H4.out.2.2.2.2.upd ((Upd.refl (fun _=> False) _).alloc _) (fun _ _ h=> h)) (some ⟨w4.heap.size,0,none⟩) 1 1 [.int .i64 j] rfl rfl (fun _=> ⟨_,rfl,new_cell w4 (.int .i64 j) 3⟩) (fun u hu=> by (simp at hu;subst hu;rfl)) HF0.out.2.2.1 ?_;intro v' w5 row' hI hrow' hu5;have hln1:(icells (ls i++news)++ [Value.int .i64 (j:Int)]).length=Ln+1:=(by (have:=HF0.out.2.2.2;simp at this ⊢;omega));obtain ⟨a2,c2',hv',-,-⟩:=hI.slice;rw [hln1] at hv';subst hv';clear hln1;have hk5:=Blk.upd hu5 (H4.out.2.2.2.1.alloc _) (fun e=> (HF0.out.1 _ e).2.2.2 rfl);have c6:=hk5.rd;have f6:=hk5.nf;have H5:=Lib.hid (And.intro hI (And.intro hrow' (And.intro hu5 hk5)));clear hI hrow' hu5 hk5))
    go_roundw
    case rel=>
     obtain ⟨r1,r2,r3,r4,r5,r6,r7,r8,r9⟩:=HK.out
     obtain ⟨g1,g2,g3,hk4,hv4⟩:=H4.out
     obtain ⟨hI,hrow',hu5,hk5⟩:=H5.out
     obtain ⟨hfr0,hkne,hln8,hLn⟩:=HF0.out
     have hz4:=g3.size
     have hz5:=hu5.size
     have hz7:=r7.size
     simp at hz5
     have h3lt:=H3.out.2.2.2.2.2
     have l4:=h3lt _ _ HI.out.2.1
     have hz3' :w.heap.size+2≤w3.heap.size:=by have:=HB.out.2.2.2.2.2;omega
     have hrow2:∀k,row' =some k→row=some k∨w4.heap.size < k+1:=fun k hk=> by
      rcases hrow' k hk with e | e
      ·exact Or.inl e
      ·right;simp at e;omega
     have hr8:∀k,row=some k→k≠w.heap.size∧k≠w.heap.size+1:=fun k hk=> by
      rcases r6 k hk with e | e
      ·have:=HB.out.2.2.2.2.1 _ _ e;omega
      ·omega
     have hro:∀k,row=some k→w3.heap.size≤k∨so (.fls i)=some k:=fun k hk=> (r6 k hk).symm
     have e9:icells (ls i++news)++ [.int .i64 (j:Int)]=icells (ls i++(news++ [(j:Int)])):=by simp [icells]
     have l1:=h3lt _ _ HI.out.2.2.1
     have l2:=h3lt _ _ HI.out.2.2.2.1
     have l3:=h3lt _ _ HI.out.2.2.2.2.1
     have m1:=HB.out.2.2.2.2.1 _ _ HI.out.2.1
     have m2:=HB.out.2.2.2.2.1 _ _ HI.out.2.2.1
     have m3:=HB.out.2.2.2.2.1 _ _ HI.out.2.2.2.1
     have m4:=HB.out.2.2.2.2.1 _ _ HI.out.2.2.2.2.1
     have uz:Upd (fun k=> k=kf) w5 (w5.setCell ⟨kf,1,none⟩ (.slice a2 (Ln+1) c2')):=(Upd.refl (fun k=> k=kf) w5).setCell (p:=⟨kf,1,none⟩) (fun _=> rfl) _
     have uA:Upd (fun k=> row=some k∨k=kf) w4 (w5.setCell ⟨kf,1,none⟩ (.slice a2 (Ln+1) c2')):=(((Upd.refl (fun k=> row=some k∨k=kf) w4).alloc _).trans (hu5.mono (fun k _ e=> Or.inl e)) (fun _ _ e=> e)).trans uz (fun k _ e=> Or.inr e)
     have hne2:∀k,(k=fb∨k=bb∨k=kb)→¬(row=some k∨k=kf):=fun k hk e=> by
      rcases e with e | e
      ·have:=hfr0 k e;omega
      ·subst e;exact hkne hk
     refine ⟨m+1,by omega,by go_num,f2,news++ [(j:Int)],.slice a2 (Ln+1) c2',row',?_,r2.snoc g2,by simp [r3],(hk5.set 1 _).of (by simp),?_,?_,?_,?_,?_⟩
     ·exact g1.upd uA (hne2 _ (Or.inl rfl)) (hne2 _ (Or.inr (Or.inl rfl))) (hne2 _ (Or.inr (Or.inr rfl))) (fun g' hg' e=> by
       rcases e with e | e
       ·rcases hro g' e with e2 | e2
        ·have:=h3lt _ _ hg';omega
        ·have:=HI.out.1 _ _ _ hg' e2;cases this
       ·subst e;have:=HI.out.1 _ _ _ hg' HI.out.2.1;cases this)
     ·rw [←e9]
      refine hI.upd uz (fun g' hg' e=> ?_)
      rcases hrow2 g' hg' with e2 | e2
      ·exact (hfr0 g' e2).2.2.2 e
      ·omega
     ·intro k hk
      rcases hrow2 k hk with e | e
      ·exact r6 k e
      ·exact Or.inr (by omega)
     ·refine (r7.trans (g3.mono (fun k _ e=> ?_)) (fun _ _ e=> e)).trans uA (fun k hk e=> ?_)
      ·rcases e with e | e | e
       ·exact Or.inl e
       ·exact Or.inr (Or.inl e)
       ·exact Or.inr (Or.inr (Or.inl e))
      ·rcases e with e | e
       ·rcases r6 k e with e2 | e2
        ·exact Or.inr (Or.inr (Or.inr (Or.inr e2)))
        ·omega
       ·exact Or.inr (Or.inr (Or.inr (Or.inl e)))
     ·refine Blk.upd uA (Blk.upd g3 r8 (fun e=> by omega)) (fun e=> ?_)
      rcases e with e | e
      ·exact (hr8 _ e).1 rfl
      ·omega
     ·refine Blk.upd uA (Blk.upd g3 r9 (fun e=> by omega)) (fun e=> ?_)
      rcases e with e | e
      ·exact (hr8 _ e).2 rfl
      ·omega
    case measure=> simp [intOf] <;> omega
   ·have hmM:m=M:=by omega
    have d6:decide ((m:Int) < (M:Int))=false:=by simp;omega
    have d6n:decide (m < M)=false:=by simp;omega
    obtain ⟨f1,news,v1,row,r1,r2,r3,r4,r5,r6,r7,r8,r9⟩:=HR.out
    obtain ⟨inj,k1,t3,t4,t5,t1⟩:=HI.out
    obtain ⟨h3,t6',hrd',-,hu4,h3lt⟩:=H3.out
    obtain ⟨e1,e2,e3,e4,hfar,hgl⟩:=HL.out
    have hlt:=HB.out.2.2.2.2.1
    have hz1:=HB.out.2.2.2.2.2
    have hz3' :=hu4.size
    have hi:=H.out.2.1
    have m1:=hlt _ _ k1
    have uz:Upd (fun k=> k=kf) wr (wr.setCell ⟨kf,0,none⟩ (.int .i64 E)):=(Upd.refl (fun k=> k=kf) wr).setCell (p:=⟨kf,0,none⟩) (fun _=> rfl) _
    have hkz:=(r4.set 0 (.int .i64 E)).of (show _= #[Value.int .i64 E,v1] from by simp)
    have hrk:∀k,row=some k→k≠kf:=fun k hk e=> by
     rcases r6 k hk with e2 | e2
     ·have:=inj _ _ _ e2 (e▸k1);cases this
     ·have:=h3lt _ _ k1;omega
    have hkne:¬fb=kf∧¬bb=kf∧¬kb=kf:=⟨(fun e=> by have:=inj _ _ _ t3 (e▸k1);cases this),(fun e=> by have:=inj _ _ _ t4 (e▸k1);cases this),(fun e=> by have:=inj _ _ _ t5 (e▸k1);cases this)⟩
    have hfz:=r1.upd uz hkne.1 hkne.2.1 hkne.2.2 (fun g' hg' e=> by have:=inj _ _ _ hg' (e▸k1);cases this)
    have hrz:=r5.upd uz (fun g' hg' e=> hrk g' hg' e)
    have uw:Upd (fun k=> k=fb∨k=bb∨k=kb∨k=kf∨so (.fls i)=some k) w3 (wr.setCell ⟨kf,0,none⟩ (.int .i64 E)):=r7.trans uz (fun k _ e=> Or.inr (Or.inr (Or.inr (Or.inl e))))
    have hMn:=HM.out
    have hG:=grow_done h3 hi k1 t3 t4 t5 hfz r2 (e:=E) (by rw [e2];exact hMn.2.2.1.2) hMn.2.2.1.1 (by rw [r3,hmM,hMn.1,e3]) hkz hrz r6 uw
    have hgne:∀k,(k=fb∨k=bb∨k=kb∨k=kf∨so (.fls i)=some k)→k≠g:=fun k hk=> by
     rcases hk with e | e | e | e | e
     ·rw [e];exact hfar _ _ t3
     ·rw [e];exact hfar _ _ t4
     ·rw [e];exact hfar _ _ t5
     ·rw [e];exact hfar _ _ k1
     ·exact hfar _ _ e
    have hEl:(extB bs E).length=E:=extB_len (by rw [e2];exact hMn.2.2.1.2)
    have hoE:o+n≤E:=by have:=HE.out;omega
    have hWr:WrO (wr.setCell ⟨kf,0,none⟩ (.int .i64 E)) (soFls so i row) fs F N (fun j=> if j=i then ls i++news else ls j) i (extB bs E) b o w.heap.size (w.heap.size+1) g q c sb 0 (wr.setCell ⟨kf,0,none⟩ (.int .i64 E)):=by
     refine ⟨⟨f1,by rw [List.take_zero,spl_nil _ _ (by omega)];exact hG⟩,t1,Blk.upd uz r8 (fun e=> by omega),by rw [e1];exact Blk.upd uz r9 (fun e=> by omega),hrd'.upd uw (fun A hA e=> by cases hA;exact hgne _ e rfl),Upd.refl _ _,⟨by omega,by omega⟩,fun k hk=> ?_⟩
     have hk2:so .byt=some k:=hk
     have:=hlt _ _ hk2
     exact ⟨by omega,by omega,hfar _ _ hk2⟩
    have hpw:=pieces_write hWr kf (by simp [soFls,soPut,k1])
    rw [e1] at hpw
    have c7:=(Blk.upd uz r9 (fun e=> by omega)).rd
    have c8:=hkz.rd
    have c9:=r4.rd
    have f9:=r4.nf
    have c1' :=r8.rd
    have HZ:=Lib.hid (And.intro hi (And.intro uw (And.intro hz1 (And.intro hlt (And.intro hu4 (And.intro k1 (And.intro t3 (And.intro t4 (And.intro t5 (And.intro r6 (And.intro hz3' e2)))))))))))
    clear r1 r2 r3 r4 r5 r6 r7 r8 r9 inj k1 t3 t4 t5 t1 h3 t6' hrd' hu4 h3lt e1 e2 e3 e4 hfar hgl hlt hz1 hz3' hi m1 uz hkz hrk hkne hfz hrz uw hMn hG hgne hEl hoE hWr hmM c1 c2 c3 c4
    go_wp2_with (go_at_call 191;(with_reducible refine hpw.mono ?_);rintro e w6 ⟨rfl,hq⟩;have HQ:=Lib.hid hq;clear hq hpw)
    go_ret
    obtain ⟨hi,uw,hz1,hlt,hu4,k1,t3,t4,t5,r6,hz3',e2⟩:=HZ.out
    obtain ⟨f6,hS6⟩:=HQ.out.st
    have e1:=HL.out.1
    have e9:spl (extB bs E) o (b.take n)=writeB bs o b:=by
     rw [←e1,List.take_length]
     unfold writeB
     rw [e2,e1,HE.out]
    rw [e9] at hS6
    have uA:Upd (fun k=> ∃r,so r=some k) w w2:=Upd.of_below HB.out.1
    have uB:=uA.trans (hu4.mono (G:=fun k=> ∃r,so r=some k) (fun _ _ h=> h.elim)) (fun _ _ e=> e)
    have uC:=uB.trans (uw.mono (G:=fun k=> ∃r,so r=some k) (fun k _ e=> by
     rcases e with e | e | e | e | e
     ·exact ⟨.frm,by rw [e];exact t3⟩
     ·exact ⟨.byt,by rw [e];exact t4⟩
     ·exact ⟨.tkn,by rw [e];exact t5⟩
     ·exact ⟨.file i,by rw [e];exact k1⟩
     ·exact ⟨.fls i,e⟩)) (fun _ _ e=> e)
    have uD:=uC.trans (HQ.out.upd.mono (G:=fun k=> ∃r,so r=some k) (fun k _ e=> ⟨.byt,e⟩)) (fun _ _ e=> e)
    refine ⟨rfl,soFls so i row,⟨f6,_,hS6⟩,⟨uD,fun r k hk=> ?_⟩,rfl,rfl⟩
    rcases soFls_old hk with ⟨g1,_⟩ | ⟨_,g1⟩
    ·exact Or.inl ⟨r,g1⟩
    ·rcases r6 k g1 with e | e
     ·exact Or.inl ⟨.fls i,e⟩
     ·exact Or.inr (by omega)
def SrcB (w:World) (so:SRl→Option Nat) (v:Value) (b:List Int):Prop:=∃a c,v= .slice a b.length c∧b.length≤c∧(0 < b.length→∃g q,a=some ⟨g,q,none⟩∧RdV w (some ⟨g,q,none⟩) (ucells b)∧(∀r k,so r=some k→k≠g)∧g < w.heap.size)
theorem StP.same [Inhabited CapT] (h:St w so fs F N) (hB:Below w.heap.size w w') {v:Value}:StP w so fs F N v (.returned v) w' :=⟨rfl,so,h.below hB,OFr.of_below hB,rfl,rfl⟩
set_option maxRecDepth 100000 in
set_option maxHeartbeats 2000000 in
theorem s_write [Inhabited CapT] (h:St w so fs F N) (sb:Nat) (hs:so .sto=some sb) (id:Int) (hw:(Lit.int .i64 id).wf=true) (off:Int) (b:List Int) (hb6:b.length≤1000000) (v:Value) (hv:SrcB w so v b) (r:Int) (fs' :Sfs) (hr:writeR fs F id off b=(r,fs')):
  Calls Tryz.prog 143 #[.pointer (some ⟨sb,0,none⟩),.int .i64 id,.int .i64 off,v] w (StP w so fs' F N (.int .i64 r)):=by
 obtain ⟨a,c,rfl,hc,hrd⟩:=hv
 obtain ⟨n,hn⟩:∃n,b.length=n:=⟨_,rfl⟩
 have hB0:Below w.heap.size w ((w.alloc (.cells #[.pointer (some ⟨sb,0,none⟩)] 141)).alloc (.cells #[.slice a b.length c] 22)):=((Below.refl _ _).alloc (Nat.le_refl _) _).alloc (by simp) _
 have hcs:=(Blk.new w #[.pointer (some ⟨sb,0,none⟩)] 141).alloc (.cells #[.slice a b.length c] 22)
 have hbc:=Blk.new' (w:=w.alloc (.cells #[.pointer (some ⟨sb,0,none⟩)] 141)) (cs:= #[.slice a b.length c]) (T:=22) (b:=w.heap.size+1) (by simp)
 have hS0:=h
 unfold writeR at hr
 cases hi:fsAt fs id with
 | none=>
  rw [hi] at hr;cases hr
  have hg:=sg_no (h.below hB0) sb hs id hw hi
  rw [hn] at hcs hg hbc hB0 ⊢
  have c1:=hcs.rd
  have HB:=Lib.hid (And.intro hS0 hB0)
  clear h hi hs hw hB0 hcs hbc hS0 hrd hc hb6 hn
  go_enter Tryz.func143,Tryz.ntmps143
  go_wp2_with (go_at_call 186;refine hg.mono ?_;rintro e w' ⟨rfl,rfl⟩)
  go_returns
  exact StP.same HB.out.1 HB.out.2
 | some bs=>
  rw [hi] at hr
  simp only at hr
  obtain ⟨i,rfl,hi⟩:=fsAt_some hi
  obtain ⟨f,ls,h⟩:=h
  have h1:=h.upd (Upd.of_below (F:=fun _=> False) hB0) (fun _ _ _ h=> h)
  obtain ⟨kf,v0,k1,k2,k3,k4⟩:=h1.file i bs hi
  have hg:=sg_yes h1 sb hs i bs hi kf k1
  by_cases h0:off < 0
  ·rw [if_pos h0] at hr
   cases hr
   have d1:decide (off < 0)=true:=by simpa using h0
   rw [hn] at hcs hg hbc hB0 ⊢
   have c1:=hcs.rd
   have HB:=Lib.hid (And.intro hS0 hB0)
   clear h h1 hi hs hw hB0 hcs hbc hS0 hrd hc hb6 hn k1 k2 k3 k4 h0
   go_enter Tryz.func143,Tryz.ntmps143
   go_wp2_with (go_at_call 186;refine hg.mono ?_;rintro e w' ⟨rfl,rfl⟩)
   go_returns
   exact StP.same HB.out.1 HB.out.2
  ·rw [if_neg h0] at hr
   have d1:decide (off < 0)=false:=by simpa using h0
   by_cases hz:b.length=0
   ·rw [if_pos hz] at hr
    cases hr
    rw [hz] at hcs hg hbc hB0 ⊢
    have c1:=hcs.rd
    have c2:=hbc.rd
    have HB:=Lib.hid (And.intro hS0 hB0)
    clear h h1 hi hs hw hB0 hcs hbc hS0 hrd hc hb6 hn k1 k2 k3 k4 h0 hz
    go_enter Tryz.func143,Tryz.ntmps143
    go_wp2_with (go_at_call 186;refine hg.mono ?_;rintro e w' ⟨rfl,rfl⟩)
    go_returns
    exact StP.same HB.out.1 HB.out.2
   ·rw [if_neg hz] at hr
    by_cases hbig:512 < b.length∨512 - (b.length:Int) < off
    ·rw [if_pos hbig] at hr
     cases hr
     rw [hn] at hcs hg hbc hB0 hbig hz hb6 ⊢
     have c1:=hcs.rd
     have c2:=hbc.rd
     have d2:((n:Int)==0)=false:=by simp;omega
     have d2n:(n==0)=false:=by simp;omega
     have HB:=Lib.hid (And.intro hS0 hB0)
     by_cases hq:512 < n
     ·have d3:decide ((n:Int) > 512)=true:=by simp;omega
      have d3n:decide (n > 512)=true:=by simp;omega
      clear h h1 hi hs hw hB0 hcs hbc hS0 hrd hc hn k1 k2 k3 k4 h0 hz hbig
      go_enter Tryz.func143,Tryz.ntmps143
      go_wp2_with (go_at_call 186;refine hg.mono ?_;rintro e w' ⟨rfl,rfl⟩)
      go_returns
      exact StP.same HB.out.1 HB.out.2
     ·have d3:decide ((n:Int) > 512)=false:=by simp;omega
      have d3n:decide (n > 512)=false:=by simp;omega
      have d4:decide (off > 512 - (n:Int))=true:=by simp;omega
      have hn6:(n:Int)≤1000000:=by omega
      clear h h1 hi hs hw hB0 hcs hbc hS0 hrd hc hn k1 k2 k3 k4 h0 hz hbig
      go_enter Tryz.func143,Tryz.ntmps143
      go_wp2_with (go_at_call 186;refine hg.mono ?_;rintro e w' ⟨rfl,rfl⟩)
      go_returns
      exact StP.same HB.out.1 HB.out.2
    ·rw [if_neg hbig] at hr
     have hb1:1≤b.length:=by omega
     obtain ⟨g,q,rfl,hr1,hr2,hr3⟩:=hrd (by omega)
     obtain ⟨o,rfl⟩:=Int.eq_ofNat_of_zero_le (show 0≤off by omega)
     have hob:o+b.length≤512:=by omega
     simp only [Int.toNat_natCast] at hr
     by_cases hen:F+(bs.length+63) / 64 < usedN fs 16+(max bs.length (o+b.length)+63) / 64
     ·rw [if_pos hen] at hr
      cases hr
      obtain ⟨sb',mb,fb,bb,kb,nn,s,t1,t2,t3,t4,t5,t6,t7,t8,t9⟩:=h1.top
      obtain rfl:sb=sb' :=by rw [hs] at t1;exact Option.some.inj t1
      have h16:=h1.i16 hi
      obtain ⟨a0,c0,rfl,-,-⟩:=k3.len_int
      obtain ⟨L,hL⟩:∃L,bs.length=L:=⟨_,rfl⟩
      obtain ⟨E,hE⟩:∃E,max L (o+n)=E:=⟨_,rfl⟩
      obtain ⟨l,hl⟩:∃l,(ls i).length=l:=⟨_,rfl⟩
      have hlL:l=(L+63) / 64:=by rw [←hl,←hL];exact k4.len
      have hsum:=h1.sum
      have hE5:E≤512∧L≤E:=by have:=k4.most;omega
      obtain ⟨M,hM⟩:∃M,M=(E+63) / 64 - l:=⟨_,rfl⟩
      rw [hL,hn,hE] at hen
      have hfree:f.free < M:=by omega
      rw [hn] at hcs hg hbc hB0 hob hb1 k2 t6 t9 ⊢
      have HB:=Lib.hid (And.intro hS0 hB0)
      have c1:=hcs.rd
      have c2:=hbc.rd
      have c3:=k2.rd
      have c4:=t6.rd
      rw [hL] at c3
      rw [hl] at c3
      have d2:((n:Int)==0)=false:=by simp;omega
      have d2n:(n==0)=false:=by simp;omega
      have d3:decide ((n:Int) > 512)=false:=by simp;omega
      have d4:decide ((o:Int) > 512 - n)=false:=by simp;omega
      have e8:((E:Int)+64 - 1) / 64 - l=(M:Nat):=by omega
      have d5:decide ((M:Int) > f.free)=true:=by simp;omega
      have d5n:decide (M > f.free)=true:=by simp;omega
      have hmain:(L < E∧(o:Int)+n=(E:Nat))∨((L:Int)=(E:Nat)∧o+n≤E):=by omega
      have hEi:(E:Int)≤512:=by omega
      have hl8:l≤512:=by omega
      have hfree8:f.free≤600:=by omega
      have H9:=Lib.hid t9
      clear h h1 hi hs hw hB0 hcs hbc hS0 hrd hc hn k1 k2 k3 k4 h0 hz hbig t1 t2 t3 t4 t5 t6 t7 t8 t9 hr1 hr2 hr3 hen hL hE hl hlL hsum hM hfree h16 hE5 hb6
      go_enter Tryz.func143,Tryz.ntmps143
      go_upto_region 1 with (fail)
      generalize (w.alloc (.cells #[.pointer (some ⟨sb,0,none⟩)] 141)).alloc (.cells #[.slice (some ⟨g,q,none⟩) n c] 22)=w2 at*
      go_upto_region 10 with (go_at_call 186;refine hg.mono ?_;rintro e w' ⟨rfl,rfl⟩)
      rcases hmain with ⟨e5,e7⟩ | ⟨e5,e7⟩
      all_goals
       go_quiet (fail)
       have hu3:=(Upd.refl (fun _=> False) w2).drewN nq
       have hfr:=free_is (H9.out.upd hu3 (fun h=> h) (fun h=> h) (fun h=> h) (fun _ _ h=> h))
       go_wp2_with (go_at_call 59;(with_reducible refine hfr.mono ?_);rintro e w3 ⟨rfl,hB⟩;have hu4:=hu3.trans (Upd.of_below (F:=fun _=> False) hB) (fun _ _ h=> h);clear hfr hB)
       go_returns
       exact StP.same HB.out.1 (HB.out.2.trans (hu4.below HB.out.2.size (fun _ h=> h.elim)))
     ·rw [if_neg hen] at hr
      cases hr
      exact s_write_yes h sb hs i bs hi o b g q c hb1 hob hc hr1 hr2 hr3 hen
end
end Go.Proofs.YtjpjafajploiaaaGreatDoor
namespace Go.Proofs.YtjpjafajploiaaaGreatDoor
open Go.RowKit Own RegJ
open Go.Lib
def fs0 (n:Nat):Fs:=⟨n,List.replicate n 0,[],0,List.replicate (64*n) 0⟩
theorem fs0_ok {n:Nat} (h:n≤64):(fs0 n).Ok:=by
 refine ⟨h,by simp [fs0],by simp [fs0],Nat.zero_le _,(fun x hx=> by cases hx),List.nodup_nil,fun i _=> ?_⟩
 simp only [fs0,List.getD_eq_getElem?_getD,List.getElem?_replicate]
 split <;> rfl
theorem make_of' (t e:TypeId) (z:Value) (size bytes n:Nat) (ht:Tryz.prog.underlying t=some (.slice e)) (hi:(Tryz.prog.info? e).map (fun i=> (i.zero,i.size,i.bytes))=some (some z,size,bytes)) (hb:bytes*n≤281474976710656) (hn:n≤1000) (w:World):
  (Instr.makeSlice t (.int .i64 n) (.int .i64 n)).run Tryz.prog w= .ok (.slice (some ⟨w.heap.size,0,none⟩) n n) (w.alloc (.cells (madeCells z.cells (n*size)) e)):=by
 obtain ⟨i,hi1,h1,h2,h3⟩:=info_parts hi
 have h:=run_make (P:=Tryz.prog) w t e i z ht hi1 h1 .i64 .i64 n n (by omega) (by omega) (by rw [h3,←Int.natCast_mul];omega) (by omega)
 simp only [Int.toNat_natCast,h2] at h
 exact h
theorem made_same (z:Array Value) (v:Value) (hz:0 < z.size) (h:∀(i:Nat) (hi:i < z.size),z[i]=v) (m:Nat):madeCells z m=(List.replicate m v).toArray:=by
 unfold madeCells
 apply Array.ext
 ·simp
 ·intro i h1 h2
  simp only [Array.getElem_map,Array.getElem_range,List.getElem_toArray,List.getElem_replicate]
  rw [getElem!_pos z _ (Nat.mod_lt _ hz)]
  exact h _ _
theorem made_u8 (n:Nat):madeCells (Value.agg ((List.range 64).map fun _=> Value.int .u8 0).toArray).cells (n*64)=(ucells (List.replicate (64*n) 0)).toArray:=by
 rw [made_same _ (.int .u8 0) (by simp [Value.cells]) (fun i hi=> by simp [Value.cells])]
 simp [ucells,Nat.mul_comm]
theorem made_int (n:Nat):madeCells (Value.int .i64 0).cells (n*1)=(icells (List.replicate n 0)).toArray:=by
 rw [made_same _ (.int .i64 0) (by simp [Value.cells]) (fun i hi=> by simp [Value.cells])]
 simp [icells]
def FNewP (w:World) (n:Nat) (e:Ending) (w' :World):Prop:=∃fb bb kb,e= .returned (.tuple #[.pointer (some ⟨fb,0,none⟩),.int .i64 0])∧FrB w' fb bb kb none (fs0 n)∧Below w.heap.size w w' ∧w.heap.size≤fb∧w.heap.size≤bb∧w.heap.size≤kb∧fb≠bb∧fb≠kb∧bb≠kb
theorem fnew_ab (n:Nat) (w:World) (hok:(fs0 n).Ok) (A B:Array Value) (hA:(ucells (List.replicate (64*n) 0)).toArray=A) (hB:(icells (List.replicate n 0)).toArray=B):
  FNewP w n (.returned (.tuple #[.pointer (some ⟨w.heap.size+1+1,0,none⟩),.int .i64 0])) (((w.alloc (.cells A 227)).alloc (.cells B 3)).alloc (.cells #[.slice (some ⟨w.heap.size,0,none⟩) n n,.slice (some ⟨w.heap.size+1,0,none⟩) n n,.slice none 0 0,.int .i64 0] 149)).drew:=by
 subst hA;subst hB
 exact ⟨_,w.heap.size,w.heap.size+1,rfl,⟨⟨_,(Blk.new' (by simp)).drew,Or.inl ⟨rfl,rfl,rfl⟩⟩,(((Blk.new _ _ _).alloc _).alloc _).drew,((Blk.new' (by simp)).alloc _).drew,hok⟩,((((Below.refl _ _).alloc (Nat.le_refl _) _).alloc (by simp) _).alloc (by simp;omega) _).drew,by omega,by omega,by omega,by omega,by omega,by omega⟩
theorem fnew_ba (n:Nat) (w:World) (hok:(fs0 n).Ok) (A B:Array Value) (hA:(ucells (List.replicate (64*n) 0)).toArray=A) (hB:(icells (List.replicate n 0)).toArray=B):
  FNewP w n (.returned (.tuple #[.pointer (some ⟨w.heap.size+1+1,0,none⟩),.int .i64 0])) (((w.alloc (.cells B 3)).alloc (.cells A 227)).alloc (.cells #[.slice (some ⟨w.heap.size+1,0,none⟩) n n,.slice (some ⟨w.heap.size,0,none⟩) n n,.slice none 0 0,.int .i64 0] 149)).drew:=by
 subst hA;subst hB
 exact ⟨_,w.heap.size+1,w.heap.size,rfl,⟨⟨_,(Blk.new' (by simp)).drew,Or.inl ⟨rfl,rfl,rfl⟩⟩,((Blk.new' (by simp)).alloc _).drew,(((Blk.new _ _ _).alloc _).alloc _).drew,hok⟩,((((Below.refl _ _).alloc (Nat.le_refl _) _).alloc (by simp) _).alloc (by simp;omega) _).drew,by omega,by omega,by omega,by omega,by omega,by omega⟩
set_option maxRecDepth 100000 in
theorem fnew_is (n:Nat) (h1:1≤n) (h64:n≤64) (w:World):Calls Tryz.prog 32 #[.int .i64 n] w (FNewP w n):=by
 have m1:=make_of' 147 227 (.agg ((List.range 64).map fun _=> Value.int .u8 0).toArray) 64 64 n Tryz.underlying147 (by kernel_rfl) (by omega) (by omega)
 have m2:=make_of' 59 3 (.int .i64 0) 1 8 n Tryz.underlying59 (by kernel_rfl) (by omega) (by omega)
 rw [made_u8] at m1
 rw [made_int] at m2
 have hok:=fs0_ok h64
 have d1:decide ((n:Int) < 1)=false:=by simp;omega
 have d2:decide ((n:Int) > 64)=false:=by simp;omega
 have d2n:decide (n > 64)=false:=by simp;omega
 have H:=Lib.hid hok
 obtain ⟨A,hA⟩:∃A,(ucells (List.replicate (64*n) 0)).toArray=A:=⟨_,rfl⟩
 obtain ⟨B,hB⟩:∃B,(icells (List.replicate n 0)).toArray=B:=⟨_,rfl⟩
 rw [hA] at m1
 rw [hB] at m2
 have HA:=Lib.hid (And.intro hA hB)
 clear hok h1 hA hB
 go_enter Tryz.func32,Tryz.ntmps32
 go_wp2
 go_region
 all_goals go_wp2
 all_goals go_returns
 all_goals first
  | exact fnew_ab n w H.out A B HA.out.1 HA.out.2
  | exact fnew_ba n w H.out A B HA.out.1 HA.out.2
def so0 (mb sb fb bb kb:Nat):SRl→Option Nat:=fun r=> match r with
 | .sto=> some sb
 | .mp=> some mb
 | .frm=> some fb
 | .byt=> some bb
 | .tkn=> some kb
 | _=> none
theorem used0:∀n,usedN (fun _=> none) n=0
 | 0=> rfl
 | n+1=> by unfold usedN;rw [used0 n];rfl
theorem st0 [Inhabited CapT] {w:World} {fb bb kb n:Nat} (h:FrB w fb bb kb none (fs0 n)) (h1:fb≠bb) (h2:fb≠kb) (h3:bb≠kb) (h1n:1≤n) (ho:∀i,¬othN i):St ((w.alloc (.map #[] 0)).alloc (.cells #[.pointer (some ⟨fb,0,none⟩),.map (some w.heap.size)] 226)) (so0 w.heap.size (w.heap.size+1) fb bb kb) (fun _=> none) n 0:=by
 have hl:=h.lts
 have hB:Below w.heap.size w ((w.alloc (.map #[] 0)).alloc (.cells #[.pointer (some ⟨fb,0,none⟩),.map (some w.heap.size)] 226)):=((Below.refl _ _).alloc (Nat.le_refl _) _).alloc (by simp) _
 refine ⟨fs0 n,fun _=> [],fun r r' k k1 k2=> ?_,fun r k k1=> ?_,⟨w.heap.size+1,w.heap.size,fb,bb,kb,0,0,rfl,rfl,rfl,rfl,rfl,Blk.new' (by simp),?_,Nat.le_refl _,h.below hB⟩,(fun i bs hi=> by cases hi),fun _ _=> rfl,(fun i j bs bs' x hi=> by cases hi),?_,fun i hi=> absurd hi (ho i)⟩
 ·cases r <;> cases r' <;> simp [so0] at k1 k2 <;> first | rfl | (exfalso;omega)
 ·cases r <;> simp [so0] at k1 ⊢ <;> omega
 ·have e:filM (fun _=> none) (so0 w.heap.size (w.heap.size+1) fb bb kb)=fun _=> none:=by
   funext j;unfold filM;split <;> rfl
  rw [e]
  exact (MapI.made w Tryz.prog 3).upd ((Upd.refl (fun _=> False) _).alloc _) (fun h=> h)
 ·rw [used0]
  simp [Fs.free,fs0]
end Go.Proofs.YtjpjafajploiaaaGreatDoor
namespace Go.Proofs.YtjpjafajploiaaaGreatDoor
open Go.RowKit Own RegC
open RegJ hiding Up
def nx (w w' :World) (O:Nat→Prop):Nat→Prop:=fun k=> (O k∨w.heap.size≤k)∧k < w'.heap.size
def inO (O:Nat→Prop) (b:Option Nat):Prop:=∀g,b=some g→O g
theorem RegJ.Blk.neT {w:World} {b b' :Nat} {cs cs' :Array Value} {T T' :TypeId} (h:Blk w b cs T) (h' :Blk w b' cs' T') (hT:T≠T'):b≠b' :=by
 rintro rfl
 unfold Blk at h h'
 rw [h] at h'
 simp only [Option.some.injEq,Obj.cells.injEq] at h'
 exact hT h'.2.1
structure FD (w:World) (O:Nat→Prop) (fb tb bb n:Nat) (tk:List Bool) (back:List Int) (fr:Nat):Prop where
 blk:∃vb bk,Blk w fb #[.slice (some ⟨tb,0,none⟩) n n,.slice (some ⟨bb,0,none⟩) n n,vb,.int .i64 fr] 123∧RowV w 3 vb (icells back) bk∧inO O bk
 tak:Blk w tb (tk.map Value.bool).toArray 4
 row:∃cs:Array Value,Blk w bb cs 22∧cs.size=n
 len:tk.length=n
 n64:n≤64
 frn:fr≤n
 bkn:back.length≤n
 bkr:∀x∈back,0≤x∧x < n
 of:O fb∧O tb∧O bb
section
variable {w w' :World} {O O' F:Nat→Prop} {fb tb bb n fr:Nat} {tk:List Bool} {back:List Int}
theorem FD.upd (h:FD w O fb tb bb n tk back fr) (hu:Upd F w w') (hF:∀k,O k→¬F k):FD w' O fb tb bb n tk back fr:=by
 obtain ⟨vb,bk,h1,h2,h3⟩:=h.blk
 obtain ⟨cs,h4,h5⟩:=h.row
 exact ⟨⟨vb,bk,Blk.upd hu h1 (hF _ h.of.1),h2.upd hu (fun g hg=> hF _ (h3 g hg)),h3⟩,Blk.upd hu h.tak (hF _ h.of.2.1),⟨cs,Blk.upd hu h4 (hF _ h.of.2.2),h5⟩,h.len,h.n64,h.frn,h.bkn,h.bkr,h.of⟩
theorem FD.ne (h:FD w O fb tb bb n tk back fr):fb≠tb∧fb≠bb∧tb≠bb:=by
 obtain ⟨vb,bk,h1,h2,h3⟩:=h.blk
 obtain ⟨cs,h4,h5⟩:=h.row
 exact ⟨h1.neT h.tak (by decide),h1.neT h4 (by decide),h.tak.neT h4 (by decide)⟩
end
end Go.Proofs.YtjpjafajploiaaaGreatDoor
