/-
  Pipes: Make.
-/
import Derived.Test.YtjpjafajploiaaaGreatDoorUnixAlone34
import Derived.Test.YtjpjafajploiaaaGreatDoorUnixAlone33
import Derived.Test.YtjpjafajploiaaaGreatDoorUnixAlone25
import Derived.Test.YtjpjafajploiaaaGreatDoorUnixAlone03
import Derived.ChangeKeysEq
set_option linter.unusedSimpArgs false
set_option linter.unusedVariables false
namespace Go.Proofs.YtjpjafajploiaaaGreatDoor
open Go.RowKit Own RegJ Two
open Go.Lib hiding intOf
def pmakeF (free:Nat) (ps:PS):Int×Int×PS:=match pfreeF ps with
 | none=> (0,3,ps)
 | some i=> if free=0 then (0,15,ps) else ((i:Int),0,psPut ps i (some ⟨[],1,1⟩))
theorem pfreeF_of {ps:PS} {r:Int} (h:pfreeI ps r):(match pfreeF ps with | some i=> (i:Int) | none=> -1)=r:=by
 unfold pfreeF
 rcases h with ⟨rfl,hno⟩ | ⟨i,rfl,hi,hn,hall⟩
 ·have:(List.range 4).find? (fun i=> (ps i).isNone)=none:=by
   rw [List.find?_eq_none]
   intro x hx
   rw [List.mem_range] at hx
   have:=hno x hx
   cases hp:ps x with
   | none=> exact absurd hp this
   | some _=> simp
  rw [this]
 ·have:(List.range 4).find? (fun i=> (ps i).isNone)=some i:=by
   have h4:i=0∨i=1∨i=2∨i=3:=by omega
   have hs:∀j,j < i→(ps j).isNone=false:=fun j hj=> by
    cases hp:ps j with
    | none=> exact absurd hp (hall j hj)
    | some _=> rfl
   rw [show List.range 4= [0,1,2,3] from rfl]
   rcases h4 with rfl | rfl | rfl | rfl
   ·simp [hn]
   ·simp [hn,hs 0 (by omega)]
   ·simp [hn,hs 0 (by omega),hs 1 (by omega)]
   ·simp [hn,hs 0 (by omega),hs 1 (by omega),hs 2 (by omega)]
  rw [this]
theorem pfreeF_some {ps:PS} {i:Nat} (h:pfreeF ps=some i):i < 4∧ps i=none:=by
 unfold pfreeF at h
 have h1:=List.find?_some h
 have h2:=List.mem_of_find?_eq_some h
 rw [List.mem_range] at h2
 exact ⟨h2,Option.isNone_iff_eq_none.1 h1⟩
section
variable {cap:Nat} {w0 w w1 w' :World} {O O1:Nat→Prop} {fdb vb tb fb sb pb mb:Nat} {ns:NSt} {c N M:Nat} {S:FS} {ps ps' :PS} {po:PRl→Option Nat} {fo:Nat→Nat}
theorem pp_indexv (h:PpI w po fo ps fb N) (hpb:po .pp=some pb) (r:Int) (hr:(match pfreeF ps with | some i=> (i:Int) | none=> -1)=r):Calls Tryz.prog 150 #[.slice (some ⟨pb,1,none⟩) 4 4,.pointer none] w fun e w' => e= .returned (.int .i64 r)∧Below w.heap.size w w' :=by
 refine (pp_index h hpb).mono ?_
 rintro e w' ⟨⟨r',rfl,hi⟩,hB⟩
 rw [pfreeF_of hi] at hr
 subst hr
 exact ⟨rfl,hB⟩
theorem capAs_eq {a b:Nat} {p q:Nat→Prop} (h:a=b) (hq:∀i,p i↔q i):capAs a p=capAs b q:=by
 rw [h,show p=q from funext fun i=> propext (hq i)]
theorem pOth_add {i f:Nat} (hni:ps i=none) (x:Nat):pOth (psPut ps i (some ⟨[],1,1⟩)) (foPut fo i f) x↔(pOth ps fo x∨x=f):=by
 constructor
 ·rintro ⟨j,q,hq,hf⟩
  by_cases e:j=i
  ·subst e;rw [foPut_eq] at hf;exact .inr hf.symm
  ·rw [psPut_ne _ _ e] at hq;rw [foPut_ne _ _ e] at hf;exact .inl ⟨j,q,hq,hf⟩
 ·rintro (⟨j,q,hq,hf⟩ | rfl)
  ·have e:j≠i:=fun e=> by rw [e,hni] at hq;cases hq
   exact ⟨j,q,by rw [psPut_ne _ _ e];exact hq,by rw [foPut_ne _ _ e];exact hf⟩
  ·exact ⟨i,_,psPut_eq _ _ _,foPut_eq _ _ _⟩
theorem pp_made {i sl mp:Nat} {w4 W6:World} (h1: @FX (capP cap ps fo) w0 O1 fdb vb tb fb sb pb mb ns c N S w) (h2:PpI w po fo ps fb M) (h3:po .pp=some pb) (h4:psN ps 4≤cap) (h5:∀r k,po r=some k→w0.heap.size≤k∧¬O1 k∧k≠vb) (h6:∀k,O k↔(O1 k∨∃r,po r=some k)) (t2:po .sl=some sl) (t3:po .mp=some mp) (hi4:i < 4) (hni:ps i=none) (hmc:0 < w0.heap.size)
  (hfree:¬cap - psN ps 4 - usedN (filesOf ns) 16=0) (hB:Below w.heap.size w w1) {f:Nat} (hS:SlTP (capP cap ps fo) w0 O1 fdb vb tb fb sb pb mb ns c N M S po fo ps mp w1 (.returned (.tuple #[.agg #[.int .i64 f,.int .i64 0,.int .i64 64],.int .i64 0])) w4) (hB6:Below w4.heap.size w4 W6):
  (W6.alloc (.cells #[.int .i64 f,.int .i64 0,.int .i64 64,.slice none 0 0,.int .i64 1,.int .i64 1] 234)).drew.cell? ⟨pb,1+i,none⟩=some (.pointer none)∧(W6.alloc (.cells #[.int .i64 f,.int .i64 0,.int .i64 64,.slice none 0 0,.int .i64 1,.int .i64 1] 234)).drew.frozen? ⟨pb,1+i,none⟩=false∧
  EP cap w0 O fdb vb tb fb sb pb mb ns c N (M+1) S (psPut ps i (some ⟨[],1,1⟩)) w (.tuple #[.int .i64 i,.int .i64 0]) (.returned (.tuple #[.int .i64 i,.int .i64 0])) ((W6.alloc (.cells #[.int .i64 f,.int .i64 0,.int .i64 64,.slice none 0 0,.int .i64 1,.int .i64 1] 234)).drew.setCell ⟨pb,1+i,none⟩ (.pointer (some ⟨W6.heap.size,0,none⟩))):=by
 rcases hS with ⟨hfr,f',t,u,n',s',nu,O2,G,w3,he,hf,hof,hX,hO2,hU,hP3,hUG,hG,⟨y1,y2,y3,y4,y5⟩,hM5,hn5,hs5,hBt,hMu,hnu⟩ | ⟨hge,_⟩
 case inr=> exact absurd (show cap - psN ps 4≤usedN (filesOf ns) 16 from hge) (by omega)
 obtain rfl:f=f' :=by have:(f:Int)=f' :=(by simpa using he);omega
 obtain ⟨pb',sl',mp',n,s,q1,q2,q3,q4,q5,q6,q7⟩:=hP3.top
 obtain rfl:pb=pb' :=by rw [h3] at q1;exact Option.some.inj q1
 obtain rfl:sl=sl' :=by rw [t2] at q2;exact Option.some.inj q2
 have hb4:Blk w4 pb (ppC po sl) 158:=Blk.upd hUG q4 (hG _ _ h3 (by simp))
 have hb6:=Blk.below hB6 hb4 hb4.lt
 have zA:(W6.alloc (.cells #[.int .i64 f,.int .i64 0,.int .i64 64,.slice none 0 0,.int .i64 1,.int .i64 1] 234)).heap.size=W6.heap.size+1:=by simp
 have hBA:Below W6.heap.size W6 (W6.alloc (.cells #[.int .i64 f,.int .i64 0,.int .i64 64,.slice none 0 0,.int .i64 1,.int .i64 1] 234)).drew:=((Below.refl _ _).alloc (Nat.le_refl _) _).trans ((dn _ 1).mono (by simp))
 have hbA:=Blk.below hBA hb6 hb6.lt
 have hkA:Blk (W6.alloc (.cells #[.int .i64 f,.int .i64 0,.int .i64 64,.slice none 0 0,.int .i64 1,.int .i64 1] 234)).drew W6.heap.size #[.int .i64 f,.int .i64 0,.int .i64 64,.slice none 0 0,.int .i64 1,.int .i64 1] 234:=(Blk.new W6 _ _).drew
 have hc1:(W6.alloc (.cells #[.int .i64 f,.int .i64 0,.int .i64 64,.slice none 0 0,.int .i64 1,.int .i64 1] 234)).drew.cell? ⟨pb,1+i,none⟩=some (.pointer none):=by
  have hn:=hP3.none' i hni
  rw [hbA.rd]
  have:i=0∨i=1∨i=2∨i=3:=by omega
  rcases this with rfl | rfl | rfl | rfl <;> simp [ppC,hn,ptr]
 have z1:=hB.size
 have z4:=hU.size
 have z6:=hB6.size
 have zb:=h2.lt _ _ h3
 have zm:=h2.lt _ _ t3
 have zv:=h1.vlt'
 have z0:=h1.bel'.size
 have zt:=hBt.lt
 have zu:=hMu.lt
 have hB4A:Below w4.heap.size w4 (W6.alloc (.cells #[.int .i64 f,.int .i64 0,.int .i64 64,.slice none 0 0,.int .i64 1,.int .i64 1] 234)).drew:=hB6.trans (hBA.mono z6)
 have zBA:=hBA.size
 have hst:=(Upd.refl (fun j=> j=pb) (W6.alloc (.cells #[.int .i64 f,.int .i64 0,.int .i64 64,.slice none 0 0,.int .i64 1,.int .i64 1] 234)).drew).setCell (p:=⟨pb,1+i,none⟩) (fun _=> rfl) (.pointer (some ⟨W6.heap.size,0,none⟩))
 generalize hWS:(W6.alloc (.cells #[.int .i64 f,.int .i64 0,.int .i64 64,.slice none 0 0,.int .i64 1,.int .i64 1] 234)).drew.setCell ⟨pb,1+i,none⟩ (.pointer (some ⟨W6.heap.size,0,none⟩))=WS at*
 have hbS:Blk WS pb ((ppC po sl).setIfInBounds (1+i) (.pointer (some ⟨W6.heap.size,0,none⟩))) 158:=by rw [←hWS];exact hbA.set (1+i) _
 have hkS:=Blk.upd hst hkA (by omega)
 have hpm:mp≠pb:=fun e=> by have:=h2.inj _ _ _ t3 (e▸h3);cases this
 have hU4S:Upd (fun j=> j=pb) w4 WS:=(Upd.of_below (F:=fun j=> j=pb) hB4A).trans hst (fun _ _ e=> e)
 have hnp:∀r b,po r=some b→b < w.heap.size:=fun r b hb=> h2.lt r b hb
 have hO2n:∀k,O2 k→k < w.heap.size→O1 k:=fun k hk hl=> (hO2 k hk).elim id (fun e=> by omega)
 have hP:=hP3.add (Nat.le_succ M) hi4 hni hf (fun j p hj e=> hof ⟨j,p,hj,e⟩) (k:=W6.heap.size) (t:=t) (u:=u) ⟨fun r b hb=> by have:=hnp r b hb;omega,by omega,by omega,y3⟩ h3 t2 t3 hbS
  (G:=fun j=> G j∨j=pb) ((hUG.mono (fun j _ e=> .inl e)).trans (hU4S.mono (fun j _ e=> .inr e)) (fun k _ e=> e)) (fun r j hj e1 e2 hh=> by
   rcases hh with hh | hh
   ·exact hG r j hj e2 hh
   ·exact e1 (h2.inj _ _ _ hj (by rw [hh];exact h3)))
  (hM5.upd hU4S hpm) ⟨hn5,hs5⟩ hkS (Blk.upd hU4S hBt (by omega)) (hMu.upd hU4S (by omega)) hnu
 have hXS:=hX.beside hmc hU4S (fun k e=> by
  subst e
  exact ⟨(h5 _ _ h3).1,fun ho=> (h5 _ _ h3).2.1 (hO2n _ ho zb),(h5 _ _ h3).2.2⟩)
 have hpsn:=psN_put ps i (some ⟨[],1,1⟩) 4 hi4
 rw [hni] at hpsn
 simp at hpsn
 have hC:capAs (@capN (capP cap ps fo) - 1) (fun j=> @othN (capP cap ps fo) j∨j=f)=capP cap (psPut ps i (some ⟨[],1,1⟩)) (foPut fo i f):=capAs_eq (show @capN (capP cap ps fo) - 1=cap - psN (psPut ps i (some ⟨[],1,1⟩)) 4 from by show cap - psN ps 4 - 1=_;omega) (fun x=> (pOth_add (fo:=fo) (f:=f) hni x).symm)
 rw [hC] at hXS
 have hO2l:∀k,O2 k→k < w4.heap.size:=fun k hk=> (hX.rng' k hk).2
 refine ⟨hc1,hbA.nf _,rfl,?_,fun k=> O2 k∨∃r,poAdd po i W6.heap.size t u r=some k,⟨_,_,O2,hXS,hP,h3,by omega,fun r k hr=> ?_,fun k=> Iff.rfl⟩,fun k hk=> ?_⟩
 ·have hu1:Upd O w w1:=Upd.of_below hB
  have hu2:Upd O w1 w4:=hU.mono (fun k _ e=> by
   rcases e with e | rfl
   ·exact (h6 k).2 (.inl e)
   ·exact (h6 _).2 (.inr ⟨_,t3⟩))
  have hu3:Upd O w4 WS:=hU4S.mono (fun k _ e=> by subst e;exact (h6 _).2 (.inr ⟨_,h3⟩))
  exact (hu1.trans hu2 (fun _ _ h=> h)).trans hu3 (fun _ _ h=> h)
 ·rcases poAdd_old hr with ⟨g,_⟩ | ⟨_,rfl⟩ | ⟨_,rfl⟩ | ⟨_,rfl⟩
  ·have:=hnp r k g
   exact ⟨(h5 r k g).1,fun ho=> (h5 r k g).2.1 (hO2n k ho this),(h5 r k g).2.2⟩
  ·exact ⟨by omega,fun ho=> by have:=hO2l _ ho;omega,by omega⟩
  ·exact ⟨by omega,y4,by omega⟩
  ·exact ⟨by omega,y5,by omega⟩
 ·rcases hk with hk | ⟨r,hr⟩
  ·exact (hO2 k hk).imp (fun e=> (h6 k).2 (.inl e)) (fun e=> by omega)
  ·rcases poAdd_old hr with ⟨g,_⟩ | ⟨_,rfl⟩ | ⟨_,rfl⟩ | ⟨_,rfl⟩
   ·exact .inl ((h6 k).2 (.inr ⟨r,g⟩))
   ·exact .inr (by omega)
   ·exact .inr (by omega)
   ·exact .inr (by omega)
set_option maxRecDepth 100000 in
set_option maxHeartbeats 4000000 in
theorem pp_make (h:EX cap w0 O fdb vb tb fb sb pb mb ns c N M S ps w) (hM:M≤10000) (hmc:0 < w0.heap.size) (r e:Int) (hr:pmakeF (cap - psN ps 4 - usedN (filesOf ns) 16) ps=(r,e,ps')):
  Calls Tryz.prog 93 #[.pointer (some ⟨pb,0,none⟩)] w (EP cap w0 O fdb vb tb fb sb pb mb ns c N (M+1) S ps' w (.tuple #[.int .i64 r,.int .i64 e])):=by
 have hE:=h.le (Nat.le_refl c) (Nat.le_succ M)
 obtain ⟨po,fo,O1,h1,h2,h3,h4,h5,h6⟩:=h
 have hix:=pp_indexv h2 h3
 unfold pmakeF at hr
 cases hp:pfreeF ps with
 | none=>
  rw [hp] at hr hix
  cases hr
  replace hix:=hix _ rfl
  have HE:=Lib.hid hE
  clear h1 h2 h3 h4 h5 h6 hp hE
  go_enter Tryz.func93,Tryz.ntmps93
  go_wp2_with (go_at_call 150;refine hix.mono ?_;rintro e w1 ⟨rfl,hB⟩;have HB:=Lib.hid hB;clear hB hix)
  go_ret2
  exact EP.same HE.out HB.out
 | some i=>
  rw [hp] at hr hix
  simp only at hr hix
  replace hix:=hix _ rfl
  obtain ⟨hi4,hni⟩:=pfreeF_some hp
  obtain ⟨pb',sl,mp,n,s,t1,t2,t3,t4,t5,t6,t7⟩:=h2.top
  obtain rfl:pb=pb' :=by rw [h3] at t1;exact Option.some.inj t1
  have ctop:∀W,Below w.heap.size w W→W.cell? ⟨pb,0,none⟩=some (.pointer (some ⟨sl,0,none⟩)):=fun W hB=> (Blk.below hB t4 t4.lt).rd 0
  have htk:=fun W (hB:Below w.heap.size w W)=> sl_take (h1.below' hB) (h2.below hB) hM sl mp t2 t3 h5 hmc
  have d1:decide ((i:Int) < 0)=false:=by simp
  have i1:(i:Int) < 4:=by omega
  have i2:(0:Int)≤i:=by omega
  have hcap: @capN (capP cap ps fo)=cap - psN ps 4:=rfl
  by_cases hfree:cap - psN ps 4 - usedN (filesOf ns) 16=0
  ·rw [if_pos hfree] at hr
   cases hr
   have htk2:∀W,Below w.heap.size w W→Calls Tryz.prog 151 #[.pointer (some ⟨sl,0,none⟩),.int .i64 64] W fun e w' => e= .returned (.tuple #[.agg #[.int .i64 0,.int .i64 0,.int .i64 0],.int .i64 3])∧Below W.heap.size W w' :=fun W hB=> (htk W hB).mono (fun e w' hh=> by
    rcases hh with ⟨hlt,_⟩ | ⟨_,h⟩
    ·rw [hcap] at hlt;omega
    ·exact h)
   have HE:=Lib.hid hE
   have HC:=Lib.hid ctop
   clear h1 h2 h3 h4 h5 h6 hp hE htk t1 t2 t3 t4 t5 t6 t7 hcap hfree ctop
   go_enter Tryz.func93,Tryz.ntmps93
   go_wp2_with (first
    | (go_at_call 150;refine hix.mono ?_;rintro e w1 ⟨rfl,hB⟩;have htk3:=htk2 _ hB;have c0:=HC.out _ hB;have HB:=Lib.hid hB;clear hB hix htk2)
    | (go_at_call 151;refine htk3.mono ?_;rintro e w2 ⟨rfl,hB2⟩;have HB2:=Lib.hid hB2;clear hB2 htk3 c0)
    | (refine wpList_store_row rfl 231 (.tmp 5) (.tmp 22) rfl w2.heap.size #[.int .i64 0,.int .i64 0,.int .i64 0] rfl rfl 231 #[.int .i64 0,.int .i64 0,.int .i64 0] (Blk.new w2 _ _) infoRef rfl (by simp [Value.oneCell']) ?_))
   go_ret2
   have b1:=HB.out.trans (HB2.out.mono HB.out.size)
   have b2:=(Below.refl w2.heap.size w2).alloc (Nat.le_refl _) (.cells #[.int .i64 0,.int .i64 0,.int .i64 0] 231)
   have b3:=b2.trans ((Upd.row (w2.alloc (.cells #[.int .i64 0,.int .i64 0,.int .i64 0] 231)) w2.heap.size #[.int .i64 0,.int .i64 0,.int .i64 0]).below b2.size (fun k e=> by subst e;exact Nat.le_refl _))
   exact EP.same HE.out (b1.trans (b3.mono b1.size))
  ·rw [if_neg hfree] at hr
   cases hr
   have HP:=Lib.hid (And.intro h1 (And.intro h2 (And.intro h3 (And.intro h4 (And.intro h5 (And.intro h6 (And.intro t2 (And.intro t3 (And.intro t4 (And.intro hi4 (And.intro hni (And.intro hM (And.intro hmc (And.intro hcap hfree))))))))))))))
   have HC:=Lib.hid ctop
   clear h1 h2 h3 h4 h5 h6 hp hE t1 t2 t3 t4 t5 t6 t7 hcap hfree ctop hM hmc hni hi4
   go_enter Tryz.func93,Tryz.ntmps93
   go_upto_region 6 with (go_at_call 150;refine hix.mono ?_;rintro e w1 ⟨rfl,hB⟩;have htk3:=htk _ hB;have c0:=HC.out _ hB;have HB:=Lib.hid hB;clear hB hix htk)
   have htk4:Calls Tryz.prog 151 #[.pointer (some ⟨sl,0,none⟩),.int .i64 64] w1 fun e w' => ∃f:Nat,e= .returned (.tuple #[.agg #[.int .i64 f,.int .i64 0,.int .i64 64],.int .i64 0])∧Hid (SlTP (capP cap ps fo) w0 O1 fdb vb tb fb sb pb mb ns c N M S po fo ps mp w1 e w'):=htk3.mono (fun e w' hh=> by
    have hh2:=hh
    rcases hh with ⟨_,f,t,u,n',s',nu,O2,G,w3,he,_⟩ | ⟨hge,_⟩
    ·exact ⟨f,he,Lib.hid hh2⟩
    ·have h1:=HP.out.2.2.2.2.2.2.2.2.2.2.2.2.2.1
     have h2:=HP.out.2.2.2.2.2.2.2.2.2.2.2.2.2.2
     rw [h1] at hge;omega)
   clear htk3
   go_upto_region 9 with (first
    | (go_at_call 151;refine htk4.mono ?_;rintro e w4 ⟨f,rfl,hS⟩;clear c0 htk4)
    | (refine wpList_store_row rfl 231 (.tmp 5) (.tmp 22) rfl w4.heap.size #[.int .i64 f,.int .i64 0,.int .i64 64] rfl rfl 231 #[.int .i64 0,.int .i64 0,.int .i64 0] (Blk.new w4 _ _) infoRef rfl (by simp [Value.oneCell']) ?_))
   have hB6:Below w4.heap.size w4 ((w4.alloc (.cells #[.int .i64 0,.int .i64 0,.int .i64 0] 231)).setRow w4.heap.size #[.int .i64 f,.int .i64 0,.int .i64 64]):=by
    have b2:=(Below.refl w4.heap.size w4).alloc (Nat.le_refl _) (.cells #[.int .i64 0,.int .i64 0,.int .i64 0] 231)
    exact b2.trans ((Upd.row (w4.alloc (.cells #[.int .i64 0,.int .i64 0,.int .i64 0] 231)) w4.heap.size #[.int .i64 f,.int .i64 0,.int .i64 64]).below b2.size (fun k e=> by subst e;exact Nat.le_refl _))
   have hr6:Blk ((w4.alloc (.cells #[.int .i64 0,.int .i64 0,.int .i64 0] 231)).setRow w4.heap.size #[.int .i64 f,.int .i64 0,.int .i64 64]) w4.heap.size #[.int .i64 f,.int .i64 0,.int .i64 64] 231:=Blk.row (Blk.new w4 _ _) _
   generalize (w4.alloc (.cells #[.int .i64 0,.int .i64 0,.int .i64 0] 231)).setRow w4.heap.size #[.int .i64 f,.int .i64 0,.int .i64 64]=W6 at hB6 hr6 ⊢
   obtain ⟨g1,g2,g3,g4,g5,g6,g7,g8,g9,g10,g11,g12,g13,g14,g15⟩:=HP.out
   obtain ⟨m1,m2,m3⟩:=pp_made g1 g2 g3 g4 g5 g6 g7 g8 g10 g11 g13 g15 HB.out hS.out hB6
   generalize w4.heap.size=rb at hr6 ⊢
   have hF0:(fun u=> u.cell? ⟨rb,0,none⟩=some (.int .i64 f)∧u.cell? ⟨rb,1,none⟩=some (.int .i64 0)∧u.cell? ⟨rb,2,none⟩=some (.int .i64 64)) W6.drew:=⟨hr6.rd 0,hr6.rd 1,hr6.rd 2⟩
   have hrA:=Blk.below (((Below.refl W6.heap.size W6).alloc (Nat.le_refl _) (.cells #[.int .i64 f,.int .i64 0,.int .i64 64,.slice none 0 0,.int .i64 1,.int .i64 1] 234)).trans ((dn _ 1).mono (by simp))) hr6 hr6.lt
   have hF1:(fun u=> u.cell? ⟨rb,0,none⟩=some (.int .i64 f)∧u.cell? ⟨rb,1,none⟩=some (.int .i64 0)∧u.cell? ⟨rb,2,none⟩=some (.int .i64 64)) (W6.alloc (.cells #[.int .i64 f,.int .i64 0,.int .i64 64,.slice none 0 0,.int .i64 1,.int .i64 1] 234)).drew:=⟨hrA.rd 0,hrA.rd 1,hrA.rd 2⟩
   have HQ:=Lib.hid (And.intro hF0 (And.intro hF1 (And.intro m1 (And.intro m2 m3))))
   clear hB6 hr6 g1 g2 g3 g4 g5 g6 g7 g8 g9 g10 g11 g12 g13 g14 g15 m1 m2 m3 hF0 hF1 hrA
   refine region_K 5 9 9 (W6.drew) ((W6.alloc (.cells #[.int .i64 f,.int .i64 0,.int .i64 64,.slice none 0 0,.int .i64 1,.int .i64 1] 234)).drew) ((W6.alloc (.cells #[.int .i64 f,.int .i64 0,.int .i64 64,.slice none 0 0,.int .i64 1,.int .i64 1] 234)).drew.setCell ⟨pb,1+i,none⟩ (.pointer (some ⟨W6.heap.size,0,none⟩))) ((W6.alloc (.cells #[.int .i64 f,.int .i64 0,.int .i64 64,.slice none 0 0,.int .i64 1,.int .i64 1] 234)).drew.setCell ⟨pb,1+i,none⟩ (.pointer (some ⟨W6.heap.size,0,none⟩))) rfl (by kernel_rfl) (by kernel_rfl) ?_
   iterate 2
    apply wpJ_op rfl (by rfl)
    ·intro fl w1 hf hJ Q1 hQ
     simp only [nrm] at hQ
     go_wp2_with (fail)
     exact hQ _ _ rfl (hJ.other rfl hf (by decide) (by decide) (by decide))
    simp only [nrm]
   apply wpJ_op rfl (by rfl)
   ·intro fl w1 hf hJ Q1 hQ
    have hS:fl 9=false:=path_no hJ.1 [5,4,2] (by kernel_rfl) (by decide) hf.1
    have hF:=KJ.pre2 (F:=(fun u=> u.cell? ⟨rb,0,none⟩=some (.int .i64 f)∧u.cell? ⟨rb,1,none⟩=some (.int .i64 0)∧u.cell? ⟨rb,2,none⟩=some (.int .i64 64))) hJ hS HQ.out.1 HQ.out.2.1
    have k0:=hF.1
    have k1:=hF.2.1
    have k2:=hF.2.2
    simp only [nrm] at hQ
    go_wp2_with (fail)
    exact hQ _ _ rfl (hJ.other rfl hf (by decide) (by decide) (by decide))
   iterate 2
    simp only [nrm]
    apply wpJ_op rfl (by rfl)
    ·intro fl w1 hf hJ Q1 hQ
     simp only [nrm] at hQ
     go_wp2_with (fail)
     exact hQ _ _ rfl (hJ.other rfl hf (by decide) (by decide) (by decide))
   simp only [nrm]
   apply wpJ_op rfl (by rfl)
   ·intro fl w1 hf hJ Q1 hQ
    have hS:fl 9=false:=path_no hJ.1 [5] (by kernel_rfl) (by decide) hf.1
    rw [hJ.atA hf.1 hS hS]
    simp only [nrm] at hQ
    go_wp2_with (fail)
    exact hQ _ _ rfl (hJ.goA rfl hf hS hS (by decide) (by decide))
   iterate 3
    simp only [nrm]
    apply wpJ_op rfl (by rfl)
    ·intro fl w1 hf hJ Q1 hQ
     simp only [nrm] at hQ
     go_wp2_with (fail)
     exact hQ _ _ rfl (hJ.other rfl hf (by decide) (by decide) (by decide))
   simp only [nrm]
   apply wpJ_op (v:=undef) rfl (by rfl)
   ·intro fl w1 hf hJ Q1 hQ
    have hA:fl 5=true:=up_dep hf 5 (by kernel_rfl)
    rw [hJ.atC hA hf.1 hf.1]
    have k3:=HQ.out.2.2.1
    have k4:=HQ.out.2.2.2.1
    simp only [nrm] at hQ
    go_wp2_with (fail)
    exact hQ _ _ rfl (hJ.goS rfl hf)
   simp only [nrm]
   refine wpJ_nil ?_
   intro w9 hJ9
   rw [hJ9.fin rfl]
   clear hJ9
   have k6:=HQ.out.2.2.2.2
   generalize ((W6.alloc (.cells #[.int .i64 f,.int .i64 0,.int .i64 64,.slice none 0 0,.int .i64 1,.int .i64 1] 234)).drew.setCell ⟨pb,1+i,none⟩ (.pointer (some ⟨W6.heap.size,0,none⟩)))=W9 at k6 ⊢
   have H6:=Lib.hid k6
   clear k6
   go_wp2_with (fail)
   go_ret2
   exact H6.out
end
end Go.Proofs.YtjpjafajploiaaaGreatDoor
/-
 The slab:a piece given back.
-/
namespace Go.Proofs.YtjpjafajploiaaaGreatDoor
open Go.RowKit Own RegJ Two
open Go.Lib hiding intOf
section
variable {w0 w w' :World} {O1:Nat→Prop} {fdb vb tb fb sb pb mb:Nat} {ns:NSt} {c N M:Nat} {S:FS} {po:PRl→Option Nat} {fo:Nat→Nat} {ps:PS}
def GvP (C:Inhabited CapT) (w0:World) (O1:Nat→Prop) (fdb vb tb fb sb pb mb:Nat) (ns:NSt) (c N M:Nat) (S:FS) (po:PRl→Option Nat) (fo:Nat→Nat) (ps:PS) (mp i:Nat) (w:World) (e:Ending) (w' :World):Prop:=
 e= .returned (.int .i64 0)∧∃(O2:Nat→Prop) (n' s' :Nat),@FX (capAs (@capN C+1) (fun j=> @othN C j∧j≠fo i)) w0 O2 fdb vb tb fb sb pb mb ns c N S w' ∧(∀k,O2 k→O1 k∨w.heap.size≤k)∧Upd (fun j=> O1 j∨j=mp∨po (.tk i)=some j) w w' ∧MapI w' Tryz.prog 3 mp n' s' (mdel (shM ps fo po) (fo i))∧n' ≤M∧s' ≤M
theorem wf64 (n:Nat) (h:n < 64):(Lit.int .i64 (n:Int)).wf=true:=by simp [Lit.wf,IntKind.min,IntKind.max,IntKind.signed,IntKind.bits];omega
set_option maxRecDepth 100000 in
set_option maxHeartbeats 4000000 in
theorem sl_give {C:Inhabited CapT} (h1:FX w0 O1 fdb vb tb fb sb pb mb ns c N S w) (h2:PpI w po fo ps fb M) (sl mp:Nat) (hsl:po .sl=some sl) (hmp:po .mp=some mp) (h5:∀r k,po r=some k→w0.heap.size≤k∧¬O1 k∧k≠vb) (hmc:0 < w0.heap.size) (i:Nat) (p:Pi) (hp:ps i=some p) (ho:othN (fo i)):
  Calls Tryz.prog 137 #[.pointer (some ⟨sl,0,none⟩),.agg #[.int .i64 (fo i),.int .i64 0,.int .i64 64]] w (GvP C w0 O1 fdb vb tb fb sb pb mb ns c N M S po fo ps mp i w):=by
 obtain ⟨pb',sl',mp',n,s,t1,t2,t3,t4,t5,t6,t7,t8⟩:=h2.top
 obtain rfl:sl=sl' :=by rw [hsl] at t2;exact Option.some.inj t2
 obtain rfl:mp=mp' :=by rw [hmp] at t3;exact Option.some.inj t3
 obtain ⟨k,v,t,u,nu,k1,k2,k3,k4,k5,k6,k7,k8,k9⟩:=h2.pipe i p hp
 have hal:=(Below.refl w.heap.size w).alloc (Nat.le_refl _) (.cells #[.int .i64 (fo i),.int .i64 0,.int .i64 64] 231)
 have hrb:=Blk.new w #[.int .i64 (fo i),.int .i64 0,.int .i64 64] 231
 have crb:=hrb.rd
 have hw64:=wf64 (fo i) (h2.f64 i p hp)
 have hhas:=has_yes (h2.below hal) hsl hp
 have HP:=Lib.hid (And.intro h1 (And.intro h2 (And.intro h5 (And.intro t2 (And.intro t3 (And.intro t5 (And.intro t6 (And.intro t7 (And.intro t8 (And.intro hmc (And.intro hp (And.intro ho (And.intro k5 (And.intro k6 (And.intro k7 (And.intro k8 hw64))))))))))))))))
 have HR:=Lib.hid (And.intro hal hrb)
 clear h1 h2 h5 t1 t2 t3 t4 t5 t6 t7 t8 hmc hp ho k1 k2 k3 k4 k5 k6 k7 k8 k9 hal hrb hsl hmp hw64
 go_enter Tryz.func137,Tryz.ntmps137
 go_upto_region 5 with (go_at_call 187;refine hhas.mono ?_;rintro e w1 ⟨rfl,hB1⟩;have H1:=Lib.hid hB1;clear hB1 hhas crb)
 obtain ⟨h1,h2,h5,t2,t3,t5,t6,t7,t8,hmc,hp,ho,k5,k6,k7,k8,hw64⟩:=HP.out
 have hB1:=H1.out
 have hB01:=HR.out.1.trans (hB1.mono HR.out.1.size)
 have c5:=(Blk.below hB01 t5 t5.lt).rd 2
 have cr:=(Blk.below hB1 HR.out.2 HR.out.2.lt).rd 0
 have c5:w1.cell? ⟨sl,2,none⟩=some (.map (some mp)):=c5
 have cr:w1.cell? ⟨w.heap.size,0,none⟩=some (.int .i64 (fo i)):=cr
 have l1:=fun q=> h2.sh_look t3 hp k5 (w1.drewN q) (hB01.trans ((dn w1 q).mono hB01.size))
 clear h1 h2 h5 t2 t3 t5 t6 t7 t8 hmc hp ho k5 k6 k7 k8 hw64 hB1 hB01
 go_quiet (fail)
 go_upto_region 6 with (fail)
 have hBA:Below w.heap.size w (w1.drewN nq):=by
  have a:=HR.out.1.trans (H1.out.mono HR.out.1.size)
  exact a.trans ((dn w1 nq).mono a.size)
 have hBR:Below (w.alloc (.cells #[.int .i64 (fo i),.int .i64 0,.int .i64 64] 231)).heap.size (w.alloc (.cells #[.int .i64 (fo i),.int .i64 0,.int .i64 64] 231)) (w1.drewN nq):=H1.out.trans ((dn w1 nq).mono H1.out.size)
 clear c5 cr l1 H1
 generalize w1.drewN nq=WA at hBA hBR ⊢
 have hrA:=Blk.below hBR HR.out.2 HR.out.2.lt
 have htA:=Blk.below hBA HP.out.2.2.2.2.2.2.2.2.2.2.2.2.2.1 HP.out.2.2.2.2.2.2.2.2.2.2.2.2.2.1.lt
 have hF0:(fun v=> v.cell? ⟨t,1,none⟩=some (.map (some u))∧v.cell? ⟨w.heap.size,1,none⟩=some (.int .i64 0)) WA.drew:=⟨htA.rd 1,hrA.rd 1⟩
 have hm0:MapI WA.drew Tryz.prog 3 u nu 1 tkM:=(HP.out.2.2.2.2.2.2.2.2.2.2.2.2.2.2.2.1.upd (Upd.of_below (F:=fun _=> False) hBA) (fun h=> h)).upd (Upd.of_below (F:=fun _=> False) (dn WA 1)) (fun h=> h)
 have HQ:=Lib.hid (And.intro hF0 hm0)
 have HA:=Lib.hid (And.intro hBA (And.intro hrA htA))
 clear hBA hBR hrA htA hF0 hm0
 refine region_C 6 WA.drew (fun w9=> (MapI w9 Tryz.prog 3 u nu (if (tkM 0).isSome then 1 - 1 else 1) (mdel tkM 0)∧Upd (fun j=> j=u) WA.drew w9)) rfl (by kernel_rfl) (by kernel_rfl) ?_
 iterate 3
  apply wpJ_op rfl (by rfl)
  ·intro fl w1 hf hJ Q1 hQ
   simp only [nrm] at hQ
   go_wp2_with (fail)
   exact hQ _ _ rfl (hJ.other rfl hf (by decide))
  simp only [nrm]
 apply wpJ_op rfl (by rfl)
 ·intro fl w1 hf hJ Q1 hQ
  have hC:fl 6=false:=path_no hJ.1 [3] (by kernel_rfl) (by decide) hf.1
  rw [hJ.atC hC]
  have hF:=HQ.out.1
  have k0:=hF.1
  simp only [nrm] at hQ
  go_wp2_with (fail)
  exact hQ _ _ rfl (by have h9:=hJ.other rfl hf (by decide);rwa [hJ.atC hC] at h9)
 simp only [nrm]
 apply wpJ_op rfl (by rfl)
 ·intro fl w1 hf hJ Q1 hQ
  simp only [nrm] at hQ
  go_wp2_with (fail)
  exact hQ _ _ rfl (hJ.other rfl hf (by decide))
 simp only [nrm]
 apply wpJ_op rfl (by rfl)
 ·intro fl w1 hf hJ Q1 hQ
  have hC:fl 6=false:=path_no hJ.1 [5] (by kernel_rfl) (by decide) hf.1
  rw [hJ.atC hC]
  have hF:=HQ.out.1
  have k1:=hF.2
  simp only [nrm] at hQ
  go_wp2_with (fail)
  exact hQ _ _ rfl (by have h9:=hJ.other rfl hf (by decide);rwa [hJ.atC hC] at h9)
 simp only [nrm]
 apply wpJ_op (v:=undef) rfl (by rfl)
 ·intro fl w1 hf hJ Q1 hQ
  rw [hJ.atC hf.1]
  simp only [nrm] at hQ
  go_wp2_with (at_delete;refine wp_mapdel _ rfl _ _ 301 3 rfl 3 Tryz.underlying3 Tryz.underlying301 u nu 1 tkM rfl HQ.out.2 0 (by decide) rfl ?_;intro w8 hM8 hu8;have hq:=And.intro hM8 hu8;clear hM8 hu8)
  exact hQ _ _ rfl (hJ.goC rfl hf hq)
 simp only [nrm]
 refine wpJ_nil ?_
 intro wB hJ9
 have hq9:=hJ9.fin rfl
 clear hJ9
 obtain ⟨hMB,huB⟩:=hq9
 obtain ⟨h1,h2,h5,t2,t3,t5,t6,t7,t8,hmc,hp,ho,k5,k6,k7,k8,hw64⟩:=HP.out
 obtain ⟨hBA,hrA,htA⟩:=HA.out
 have ltu:=h2.lt _ _ k7
 have ltt:=h2.lt _ _ k5
 have lts:=h2.lt _ _ t2
 have ltm:=h2.lt _ _ t3
 have ntu:¬t=u:=h2.sl_ne k5 k7 (by simp)
 have nsu:¬sl=u:=h2.sl_ne t2 k7 (by simp)
 have nmu:¬mp=u:=h2.sl_ne t3 k7 (by simp)
 have nsm:¬sl=mp:=h2.sl_ne t2 t3 (by simp)
 have zA:=hBA.size
 have zB:=huB.size
 have hMB0:MapI wB Tryz.prog 3 u nu 0 (mdel tkM 0):=hMB
 have htB:wB.cell? ⟨t,1,none⟩=some (.map (some u)):=(Blk.upd huB htA.drew ntu).rd 1
 have hsA:=Blk.below hBA t5 t5.lt
 have hsB:=Blk.upd huB hsA.drew nsu
 have hrB:=Blk.upd huB hrA.drew (fun e=> by omega)
 have hmpB:=(t6.upd (Upd.of_below (F:=fun _=> False) hBA) (fun h=> h)).upd ((Upd.of_below (F:=fun j=> j=u) (dn WA 1)).trans huB (fun _ _ h=> h)) nmu
 have hF0:(fun v=> v.cell? ⟨sl,2,none⟩=some (.map (some mp))∧v.cell? ⟨w.heap.size,0,none⟩=some (.int .i64 (fo i))) wB.drew:=⟨hsB.drew.rd 2,hrB.drew.rd 0⟩
 have hm0:MapI wB.drew Tryz.prog 3 mp n s (shM ps fo po):=hmpB.upd (Upd.of_below (F:=fun _=> False) (dn wB 1)) (fun h=> h)
 have HQ:=Lib.hid (And.intro hF0 (And.intro hm0 hw64))
 have HB:=Lib.hid (And.intro hMB0 (And.intro huB (And.intro hsB hrB)))
 clear hMB huB h1 h2 h5 t2 t3 t5 t6 t7 t8 hmc hp ho k5 k6 k7 k8 hw64 hBA hrA htA ltu ltt lts ltm ntu nsu nmu nsm zA zB hMB0 hsA hsB hrB hmpB hF0 hm0
 go_upto_region 8 with (at_len;refine wp_maplen _ rfl _ 301 rfl 3 3 Tryz.underlying301 u nu 0 (mdel tkM 0) rfl HB.out.1 ?_)
 refine region_C 6 wB.drew (fun w9=> (MapI w9 Tryz.prog 3 mp n (if (shM ps fo po (fo i)).isSome then s - 1 else s) (mdel (shM ps fo po) (fo i))∧Upd (fun j=> j=mp) wB.drew w9)) rfl (by kernel_rfl) (by kernel_rfl) ?_
 iterate 3
  apply wpJ_op rfl (by rfl)
  ·intro fl w1 hf hJ Q1 hQ
   simp only [nrm] at hQ
   go_wp2_with (fail)
   exact hQ _ _ rfl (hJ.other rfl hf (by decide))
  simp only [nrm]
 apply wpJ_op rfl (by rfl)
 ·intro fl w1 hf hJ Q1 hQ
  have hC:fl 6=false:=path_no hJ.1 [3] (by kernel_rfl) (by decide) hf.1
  rw [hJ.atC hC]
  have hF:=HQ.out.1
  have k0:=hF.1
  simp only [nrm] at hQ
  go_wp2_with (fail)
  exact hQ _ _ rfl (by have h9:=hJ.other rfl hf (by decide);rwa [hJ.atC hC] at h9)
 simp only [nrm]
 apply wpJ_op rfl (by rfl)
 ·intro fl w1 hf hJ Q1 hQ
  simp only [nrm] at hQ
  go_wp2_with (fail)
  exact hQ _ _ rfl (hJ.other rfl hf (by decide))
 simp only [nrm]
 apply wpJ_op rfl (by rfl)
 ·intro fl w1 hf hJ Q1 hQ
  have hC:fl 6=false:=path_no hJ.1 [5] (by kernel_rfl) (by decide) hf.1
  rw [hJ.atC hC]
  have hF:=HQ.out.1
  have k1:=hF.2
  simp only [nrm] at hQ
  go_wp2_with (fail)
  exact hQ _ _ rfl (by have h9:=hJ.other rfl hf (by decide);rwa [hJ.atC hC] at h9)
 simp only [nrm]
 apply wpJ_op (v:=undef) rfl (by rfl)
 ·intro fl w1 hf hJ Q1 hQ
  rw [hJ.atC hf.1]
  simp only [nrm] at hQ
  go_wp2_with (at_delete;refine wp_mapdel _ rfl _ _ 160 3 rfl 300 Tryz.underlying3 Tryz.underlying160 mp n s (shM ps fo po) rfl HQ.out.2.1 (fo i) HQ.out.2.2 rfl ?_;intro w8 hM8 hu8;have hq:=And.intro hM8 hu8;clear hM8 hu8)
  exact hQ _ _ rfl (hJ.goC rfl hf hq)
 simp only [nrm]
 refine wpJ_nil ?_
 intro wC hJ9
 have hq9:=hJ9.fin rfl
 clear hJ9
 obtain ⟨hMC,huC⟩:=hq9
 obtain ⟨h1,h2,h5,t2,t3,t5,t6,t7,t8,hmc,hp,ho,k5,k6,k7,k8,hw64⟩:=HP.out
 obtain ⟨hBA,hrA,htA⟩:=HA.out
 obtain ⟨hMB0,huB,hsB,hrB⟩:=HB.out
 have ltm:=h2.lt _ _ t3
 have ltu:=h2.lt _ _ k7
 have nsm:¬sl=mp:=h2.sl_ne t2 t3 (by simp)
 have zA:=hBA.size
 have zB:=huB.size
 have hsC:=Blk.upd huC hsB.drew nsm
 have hrC:=Blk.upd huC hrB.drew (fun e=> by omega)
 have hXA:=(h1.below' hBA).below' (dn WA 1)
 have hXB:=(hXA.beside hmc huB (fun k e=> by subst e;exact h5 _ _ k7)).below' (dn wB 1)
 have hXC:=(hXB.beside hmc huC (fun k e=> by subst e;exact h5 _ _ t3)).below' (dn wC 1)
 have hgv:=x_give hXC (fo i) ho
 have hF0:(fun v=> v.cell? ⟨sl,1,none⟩=some (.func (.func 76) #[.pointer (some ⟨fb,0,none⟩)] #[])∧v.cell? ⟨w.heap.size,0,none⟩=some (.int .i64 (fo i))) wC.drew:=⟨by have h:=hsC.drew.rd 1;unfold takeV giveV at h;exact h,hrC.drew.rd 0⟩
 have HQ:=Lib.hid (And.intro hF0 hgv)
 have HC:=Lib.hid (And.intro hMC huC)
 clear hMC huC h1 h2 h5 t2 t3 t5 t6 t7 t8 hmc hp ho k5 k6 k7 k8 hw64 hBA hrA htA hMB0 huB hsB hrB ltm ltu nsm zA zB hsC hrC hXA hXB hXC hgv hF0
 go_upto_region 9 with (fail)
 refine region_C 6 wC.drew (fun w9=> (FQ (capAs (@capN C+1) (fun j=> @othN C j∧j≠fo i)) w0 O1 fdb vb tb fb sb pb mb ns c N S wC.drew w9)) rfl (by kernel_rfl) (by kernel_rfl) ?_
 iterate 3
  apply wpJ_op rfl (by rfl)
  ·intro fl w1 hf hJ Q1 hQ
   simp only [nrm] at hQ
   go_wp2_with (fail)
   exact hQ _ _ rfl (hJ.other rfl hf (by decide))
  simp only [nrm]
 apply wpJ_op rfl (by rfl)
 ·intro fl w1 hf hJ Q1 hQ
  have hC:fl 6=false:=path_no hJ.1 [3] (by kernel_rfl) (by decide) hf.1
  rw [hJ.atC hC]
  have hF:=HQ.out.1
  have k0:=hF.1
  simp only [nrm] at hQ
  go_wp2_with (fail)
  exact hQ _ _ rfl (by have h9:=hJ.other rfl hf (by decide);rwa [hJ.atC hC] at h9)
 simp only [nrm]
 apply wpJ_op rfl (by rfl)
 ·intro fl w1 hf hJ Q1 hQ
  simp only [nrm] at hQ
  go_wp2_with (fail)
  exact hQ _ _ rfl (hJ.other rfl hf (by decide))
 simp only [nrm]
 apply wpJ_op rfl (by rfl)
 ·intro fl w1 hf hJ Q1 hQ
  have hC:fl 6=false:=path_no hJ.1 [5] (by kernel_rfl) (by decide) hf.1
  rw [hJ.atC hC]
  have hF:=HQ.out.1
  have k1:=hF.2
  simp only [nrm] at hQ
  go_wp2_with (fail)
  exact hQ _ _ rfl (by have h9:=hJ.other rfl hf (by decide);rwa [hJ.atC hC] at h9)
 simp only [nrm]
 apply wpJ_op rfl (by rfl)
 ·intro fl w1 hf hJ Q1 hQ
  rw [hJ.atC hf.1]
  simp only [nrm] at hQ
  go_wp2_with (have kw:=HQ.out.2;go_at_call 76;refine kw.mono ?_;rintro e w8 ⟨rfl,hq⟩)
  exact hQ _ _ rfl (hJ.goC rfl hf hq)
 simp only [nrm]
 refine wpJ_nil ?_
 intro wD hJ9
 have hq9:=hJ9.fin rfl
 clear hJ9
 have HD:=Lib.hid hq9
 clear hq9
 go_wp2_with (fail)
 go_ret
 obtain ⟨h1,h2,h5,t2,t3,t5,t6,t7,t8,hmc,hp,ho,k5,k6,k7,k8,hw64⟩:=HP.out
 obtain ⟨hBA,hrA,htA⟩:=HA.out
 obtain ⟨hMB0,huB,hsB,hrB⟩:=HB.out
 obtain ⟨hMC,huC⟩:=HC.out
 obtain ⟨huD,O2,hX,hO2⟩:=HD.out
 have zA:=hBA.size
 have zB:WA.heap.size≤wB.heap.size:=huB.size
 have zC:wB.heap.size≤wC.heap.size:=huC.size
 have zC2:wC.drew.heap.size=wC.heap.size:=rfl
 refine ⟨rfl,O2,n,_,hX,fun k hk=> (hO2 k hk).imp id (fun e=> by omega),?_,(hMC.upd (Upd.of_below (F:=fun _=> False) (dn wC 1)) (fun h=> h)).upd huD (h5 _ _ t3).2.1,t7,?_⟩
 ·have a1:Upd (fun j=> O1 j∨j=mp∨po (.tk i)=some j) w WA.drew:=Upd.of_below (hBA.trans ((dn WA 1).mono zA))
  have a2:Upd (fun j=> O1 j∨j=mp∨po (.tk i)=some j) WA.drew wB:=huB.mono (fun j _ e=> by subst e;exact .inr (.inr k7))
  have a3:Upd (fun j=> O1 j∨j=mp∨po (.tk i)=some j) wB wB.drew:=Upd.of_below (dn wB 1)
  have a4:Upd (fun j=> O1 j∨j=mp∨po (.tk i)=some j) wB.drew wC:=huC.mono (fun j _ e=> .inr (.inl e))
  have a5:Upd (fun j=> O1 j∨j=mp∨po (.tk i)=some j) wC wC.drew:=Upd.of_below (dn wC 1)
  have a6:Upd (fun j=> O1 j∨j=mp∨po (.tk i)=some j) wC.drew wD:=huD.mono (fun j _ e=> .inl e)
  exact ((((a1.trans a2 (fun _ _ h=> h)).trans a3 (fun _ _ h=> h)).trans a4 (fun _ _ h=> h)).trans a5 (fun _ _ h=> h)).trans a6 (fun _ _ h=> h)
 ·split <;> omega
end
end Go.Proofs.YtjpjafajploiaaaGreatDoor
/-
 Pipes:Close.
-/
namespace Go.Proofs.YtjpjafajploiaaaGreatDoor
open Go.RowKit Own RegJ Two
open Go.Lib hiding intOf
section
variable {cap:Nat} {w0 w w1 w' :World} {O O1:Nat→Prop} {fdb vb tb fb sb pb mb:Nat} {ns:NSt} {c N M:Nat} {S:FS} {ps ps' :PS} {po:PRl→Option Nat} {fo:Nat→Nat}
theorem pend_t (w:World):Calls Tryz.prog 136 #[.bool true] w fun e w' => e= .returned (.int .i64 1)∧w=w' :=by
 go_enter Tryz.func136,Tryz.ntmps136
 go_wp2_with (fail)
 go_ret
 exact ⟨rfl,rfl⟩
theorem pend_f (w:World):Calls Tryz.prog 136 #[.bool false] w fun e w' => e= .returned (.int .i64 0)∧w=w' :=by
 go_enter Tryz.func136,Tryz.ntmps136
 go_wp2_with (fail)
 go_ret
 exact ⟨rfl,rfl⟩
theorem und2:Tryz.prog.underlying 232=some (.array 2 3):=by kernel_rfl
theorem eq2 (x y:Int) (w:World):(binOp .eql 232 (.agg #[.int .i64 x,.int .i64 y]) (.agg #[.int .i64 0,.int .i64 0])).run Tryz.prog w= .ok (.bool ((x==0) && (y==0))) w:=by
 obtain ⟨i,hi⟩:∃i,Tryz.prog.info? 3=some i:=Option.isSome_iff_exists.1 (by kernel_rfl)
 have hc:Tryz.prog.cellsOf 3=1:=by kernel_rfl
 have p0:∀(a b:Int) w,(part 3 #[.int .i64 a,.int .i64 b] 0).run Tryz.prog w= .ok (.int .i64 a) w:=fun a b w=> by kernel_rfl
 have p1:∀(a b:Int) w,(part 3 #[.int .i64 a,.int .i64 b] 1).run Tryz.prog w= .ok (.int .i64 b) w:=fun a b w=> by kernel_rfl
 have he:∀(a b:Int) w,(Op.equalIn 9999 3 (.int .i64 a) (.int .i64 b)).run Tryz.prog w= .ok (a==b) w:=fun a b w=> run_equalIn_int w 9998 _ _ _ a b Tryz.underlying3
 rw [run_eql_struct,run_equalIn_array w 9999 _ _ und2 hi,hc]
 rw [show List.range 2= [0,1] from rfl]
 simp only [Op.eqItems,Sem.run_bind,Nat.zero_mul,Nat.one_mul,p0,p1,he,Result.andThen_ok]
 cases hx:(x==0) <;> cases hy:(y==0) <;> simp [p0,p1,he,hx,hy,Op.eqItems]
theorem pOth_del {i:Nat} {p:Pi} (ha:∀i j p q,ps i=some p→ps j=some q→fo i=fo j→i=j) (hp:ps i=some p) (x:Nat):pOth (psPut ps i none) fo x↔(pOth ps fo x∧x≠fo i):=by
 constructor
 ·rintro ⟨j,q,hq,hf⟩
  by_cases e:j=i
  ·subst e;rw [psPut_eq] at hq;cases hq
  ·rw [psPut_ne _ _ e] at hq
   exact ⟨⟨j,q,hq,hf⟩,fun h=> e (ha j i q p hq hp (by omega))⟩
 ·rintro ⟨⟨j,q,hq,hf⟩,hne⟩
  have e:j≠i:=fun e=> hne (by rw [←hf,e])
  exact ⟨j,q,by rw [psPut_ne _ _ e];exact hq,hf⟩
theorem psPut_two (ps:PS) (i:Nat) (x y:Option Pi):psPut (psPut ps i x) i y=psPut ps i y:=by
 funext j;unfold psPut;split <;> rfl
theorem pp_gone {i sl mp k:Nat} {p p' :Pi} {W6 W7:World} (h1: @FX (capP cap ps fo) w0 O1 fdb vb tb fb sb pb mb ns c N S w) (h2:PpI w po fo ps fb M) (h3:po .pp=some pb) (h4:psN ps 4≤cap) (h5:∀r k,po r=some k→w0.heap.size≤k∧¬O1 k∧k≠vb) (h6:∀k,O k↔(O1 k∨∃r,po r=some k)) (t2:po .sl=some sl) (t3:po .mp=some mp) (hp:ps i=some p) (hk:po (.pi i)=some k) (hmc:0 < w0.heap.size)
  (hU6:Upd (fun j=> j=k) w W6) (h26:PpI W6 (poRow po i (po (.row i))) fo (psPut ps i (some p')) fb M)
  (hG:GvP (capP cap ps fo) w0 O1 fdb vb tb fb sb pb mb ns c N M S (poRow po i (po (.row i))) fo (psPut ps i (some p')) mp i W6 (.returned (.int .i64 0)) W7):
  (∃v,W7.cell? ⟨pb,1+i,none⟩=some v)∧W7.frozen? ⟨pb,1+i,none⟩=false∧EP cap w0 O fdb vb tb fb sb pb mb ns c N M S (psPut ps i none) w (.int .i64 0) (.returned (.int .i64 0)) (W7.setCell ⟨pb,1+i,none⟩ (.pointer none)):=by
 have hi4:=h2.i4 hp
 obtain ⟨-,O2,n',s',hX,hO2,hU,hM,hn',hs'⟩:=hG
 have e1:∀r,poRow po i (po (.row i)) r=po r:=fun r=> by
  cases r <;> simp only [poRow]
  split
  ·rename_i e;rw [e]
  ·rfl
 have epo:poRow po i (po (.row i))=po:=funext e1
 rw [epo] at h26 hU hM
 have z6:=hU6.size
 have z7:=hU.size
 have hlt:∀r b,po r=some b→b < w.heap.size:=fun r b hb=> h2.lt r b hb
 have hU' :Upd (fun j=> O1 j∨j=mp∨po (.tk i)=some j∨j=k) w W7:=(hU6.mono (fun j _ e=> .inr (.inr (.inr e)))).trans (hU.mono (fun j _ e=> by
  rcases e with e | e | e
  ·exact .inl e
  ·exact .inr (.inl e)
  ·exact .inr (.inr (.inl e)))) (fun _ _ h=> h)
 obtain ⟨pb',sl',mp',n,s,q1,q2,q3,q4,q5,q6,q7⟩:=h26.top
 obtain rfl:pb=pb' :=by rw [h3] at q1;exact Option.some.inj q1
 obtain rfl:sl=sl' :=by rw [t2] at q2;exact Option.some.inj q2
 have hb7:Blk W7 pb (ppC po sl) 158:=Blk.upd hU q4 (fun e=> by
  rcases e with e | e | e
  ·exact (h5 _ _ h3).2.1 e
  ·exact h2.sl_ne h3 t3 (by simp) e
  ·exact h2.sl_ne h3 e (by simp) rfl)
 have hc:∃v,W7.cell? ⟨pb,1+i,none⟩=some v:=by
  have:i=0∨i=1∨i=2∨i=3:=by omega
  rcases this with rfl | rfl | rfl | rfl <;> exact ⟨_,hb7.rd _⟩
 have hst:=(Upd.refl (fun j=> j=pb) W7).setCell (p:=⟨pb,1+i,none⟩) (fun _=> rfl) (.pointer none)
 have hbS:Blk (W7.setCell ⟨pb,1+i,none⟩ (.pointer none)) pb ((ppC po sl).setIfInBounds (1+i) (.pointer none)) 158:=hb7.set (1+i) _
 have hP:=h26.del hi4 (psPut_eq ps i (some p')) h3 t2 t3 hbS (G:=fun j=> (O1 j∨j=mp∨po (.tk i)=some j)∨j=pb) ((hU.mono (fun j _ e=> .inl e)).trans (hst.mono (fun j _ e=> .inr e)) (fun _ _ h=> h)) (fun r j hj e1 e2 e3 e4 hh=> by
   rcases hh with (hh | hh | hh) | hh
   ·exact (h5 r j hj).2.1 hh
   ·exact e2 (h2.inj _ _ _ hj (by rw [hh];exact t3))
   ·exact e4 (h2.inj _ _ _ hj hh)
   ·exact e1 (h2.inj _ _ _ hj (by rw [hh];exact h3)))
  (hM.upd hst (fun e=> h2.sl_ne t3 h3 (by simp) e)) ⟨hn',hs'⟩
 rw [psPut_two] at hP
 have hO2n:∀j,O2 j→j < w.heap.size→O1 j:=fun j hj hl=> (hO2 j hj).elim id (fun e=> by omega)
 have hXS:=hX.beside hmc hst (fun j e=> by
  subst e
  exact ⟨(h5 _ _ h3).1,fun ho=> (h5 _ _ h3).2.1 (hO2n _ ho (hlt _ _ h3)),(h5 _ _ h3).2.2⟩)
 have hpsn:=psN_put ps i none 4 hi4
 rw [hp] at hpsn
 simp at hpsn
 have hC:capAs (@capN (capP cap ps fo)+1) (fun j=> @othN (capP cap ps fo) j∧j≠fo i)=capP cap (psPut ps i none) fo:=capAs_eq (show cap - psN ps 4+1=cap - psN (psPut ps i none) 4 by omega) (fun x=> (pOth_del (fo:=fo) h2.apart hp x).symm)
 rw [hC] at hXS
 refine ⟨hc,hb7.nf _,rfl,?_,fun j=> O2 j∨∃r,poDel po i r=some j,⟨_,_,O2,hXS,hP,h3,by omega,fun r j hr=> ?_,fun j=> Iff.rfl⟩,fun j hj=> ?_⟩
 ·exact (hU'.mono (fun j _ e=> by
   rcases e with e | e | e | e
   ·exact (h6 j).2 (.inl e)
   ·exact (h6 j).2 (.inr ⟨.mp,by rw [e];exact t3⟩)
   ·exact (h6 j).2 (.inr ⟨_,e⟩)
   ·exact (h6 j).2 (.inr ⟨.pi i,by rw [e];exact hk⟩))).trans (hst.mono (fun j _ e=> (h6 j).2 (.inr ⟨.pp,by rw [e];exact h3⟩))) (fun _ _ h=> h)
 ·have g:=(poDel_old hr).1
  exact ⟨(h5 r j g).1,fun ho=> (h5 r j g).2.1 (hO2n j ho (hlt r j g)),(h5 r j g).2.2⟩
 ·rcases hj with hj | ⟨r,hr⟩
  ·exact (hO2 j hj).imp (fun e=> (h6 j).2 (.inl e)) (fun e=> by omega)
  ·exact .inl ((h6 j).2 (.inr ⟨r,(poDel_old hr).1⟩))
set_option maxRecDepth 100000 in
set_option maxHeartbeats 4000000 in
theorem pp_close_true (h:EX cap w0 O fdb vb tb fb sb pb mb ns c N M S ps w) (hmc:0 < w0.heap.size) (id:Int) (hpos:∀i p,ps i=some p→0≤p.rd∧0≤p.wt∧p.rd≤100000∧p.wt≤100000) (r:Int) (hr:pcloseF ps id true=(r,ps')):
  Calls Tryz.prog 81 #[.pointer (some ⟨pb,0,none⟩),.int .i64 id,.bool true] w (EP cap w0 O fdb vb tb fb sb pb mb ns c N M S ps' w (.int .i64 r)):=by
 have hE:=h
 obtain ⟨po,fo,O1,h1,h2,h3,h4,h5,h6⟩:=h
 unfold pcloseF at hr
 cases hat:psAt ps id with
 | none=>
  rw [hat] at hr
  cases hr
  have hf:=pp_findn h2 h3 hat
  have HE:=Lib.hid hE
  clear h1 h2 h3 h4 h5 h6 hE hat
  go_enter Tryz.func81,Tryz.ntmps81
  go_wp2_with (go_at_call 135;refine hf.mono ?_;rintro e w1 ⟨rfl,rfl⟩)
  go_ret
  exact EP.same HE.out (Below.refl _ _)
 | some p=>
  rw [hat] at hr
  simp only [if_true,Bool.false_eq_true,if_false] at hr
  obtain ⟨i,rfl,hp⟩:=psAt_some hat
  obtain ⟨k,a,cp,hk,hB,hR,hl64,hrk⟩:=h2.the hp
  have hf:=pp_findy h2 h3 hp hk
  have c1:=hB.rd
  obtain ⟨L,hL⟩:∃L,p.dt.length=L:=⟨_,rfl⟩
  rw [hL] at c1
  by_cases e1:p.wt=0
  ·rw [if_pos e1] at hr
   cases hr
   have HE:=Lib.hid hE
   rw [e1] at c1
   clear h1 h2 h3 h4 h5 h6 hE hat hp hk hB hR hl64 hrk hpos
   go_enter Tryz.func81,Tryz.ntmps81
   go_upto_region 4 with (go_at_call 135;refine hf.mono ?_;rintro e w1 ⟨rfl,rfl⟩)
   refine region_J (fun _ w1=> w1=w.drew) (by kernel_rfl) (by kernel_rfl) rfl ?_
   iterate 9
    apply wpJ_op rfl (by rfl)
    ·intro fl w1 hf hJ Q1 hQ
     subst hJ
     simp only [nrm] at hQ
     go_wp2_with (go_at_call 136;refine (pend_t _).mono ?_;rintro e w8 ⟨rfl,rfl⟩)
     exact hQ _ _ rfl rfl
    simp only [nrm]
   refine wpJ_nil ?_
   intro w9 hJ9
   subst hJ9
   go_wp2_with (fail)
   go_ret
   exact EP.same HE.out (dn w 1)
  rw [if_neg e1] at hr
  have g1:(p.wt==0)=false:=by simpa using e1
  have j1:1≤p.wt:=by have:=hpos i p hp;omega
  have j2:p.wt≤100000:=(by have:=hpos i p hp;omega)
  obtain ⟨pb',sl,mp,n,s,t1,t2,t3,t4,t5,t6,t7⟩:=h2.top
  obtain rfl:pb=pb' :=by rw [h3] at t1;exact Option.some.inj t1
  have hpos' :=hpos i p hp
  have HP:=Lib.hid (And.intro h1 (And.intro h2 (And.intro h3 (And.intro h4 (And.intro h5 (And.intro h6 (And.intro t2 (And.intro t3 (And.intro t4 (And.intro hp (And.intro hk (And.intro hB (And.intro hR (And.intro hl64 (And.intro hrk (And.intro hmc hL))))))))))))))))
  have HE:=Lib.hid (And.intro hr hpos')
  clear h1 h2 h3 h4 h5 h6 hE hat hp hk hB hR hl64 hrk hpos t1 t2 t3 t4 t5 t6 t7 hr hL hpos'
  go_enter Tryz.func81,Tryz.ntmps81
  go_upto_region 4 with (go_at_call 135;refine hf.mono ?_;rintro e w1 ⟨rfl,rfl⟩)
  refine region_J (fun _ w1=> w1=w.drew) (by kernel_rfl) (by kernel_rfl) rfl ?_
  iterate 9
   apply wpJ_op rfl (by rfl)
   ·intro fl w1 hf hJ Q1 hQ
    subst hJ
    simp only [nrm] at hQ
    go_wp2_with (go_at_call 136;refine (pend_t _).mono ?_;rintro e w8 ⟨rfl,rfl⟩)
    exact hQ _ _ rfl rfl
   simp only [nrm]
  refine wpJ_nil ?_
  intro w9 hJ9
  subst hJ9
  go_upto_region 6 with (fail)
  have hBA:=dn w 1
  rw [show w.drewN 1=w.drew from rfl] at hBA
  generalize w.drew=WA at hBA ⊢
  clear c1
  obtain ⟨h1,h2,h3,h4,h5,h6,t2,t3,t4,hp,hk,hB,hR,hl64,hrk,hmc,hL⟩:=HP.out
  rw [hL] at hB
  have hkA:=(Blk.below hBA hB hB.lt).drew
  have hU6:Upd (fun j=> j=k) w (WA.drew.setCell ⟨k,5,none⟩ (.int .i64 (p.wt - 1))):=(Upd.of_below (F:=fun j=> j=k) (hBA.trans ((dn WA 1).mono hBA.size))).setCell (p:=⟨k,5,none⟩) (fun _=> rfl) _
  have hk6:Blk (WA.drew.setCell ⟨k,5,none⟩ (.int .i64 (p.wt - 1))) k #[.int .i64 (fo i),.int .i64 0,.int .i64 64,.slice a L cp,.int .i64 p.rd,.int .i64 (p.wt - 1)] 234:=(hkA.set 5 _).of rfl
  have hR6:=hR.upd hU6 (fun g hg e=> hrk (by rw [hg,e]))
  rw [hL] at hR6
  obtain ⟨hP6,hF6⟩:=h2.put (p' := {p with wt:=p.wt - 1}) hp hk hk6 hR6 hl64 (hU6.mono (fun j _ e=> .inl e)) (fun g hg=> .inl hg)
  have HQ:=Lib.hid (And.intro (show WA.drew.cell? ⟨k,5,none⟩=some (.int .i64 p.wt) from hkA.rd 5) (hkA.nf 5))
  have H6:=Lib.hid (And.intro hU6 (And.intro hk6 (And.intro hP6 hF6)))
  clear h1 h2 h3 h4 h5 h6 t2 t3 t4 hp hk hB hR hl64 hrk hmc hL hkA hU6 hk6 hR6 hP6 hF6 hBA
  refine region_S 11 WA.drew (WA.drew.setCell ⟨k,5,none⟩ (.int .i64 (p.wt - 1))) rfl (by kernel_rfl) (by kernel_rfl) ?_
  iterate 6
   apply wpJ_op rfl (by rfl)
   ·intro fl w1 hf hJ Q1 hQ
    simp only [nrm] at hQ
    go_wp2_with (go_at_call 136;refine (pend_t _).mono ?_;rintro e w8 ⟨rfl,rfl⟩)
    exact hQ _ _ rfl (hJ.other rfl hf (by decide))
   simp only [nrm]
  apply wpJ_op rfl (by rfl)
  ·intro fl w1 hf hJ Q1 hQ
   have hS:fl 11=false:=path_no hJ.1 [7,6] (by kernel_rfl) (by decide) hf.1
   rw [hJ.atS hS]
   have hF:=HQ.out.1
   have k0:=hF
   simp only [nrm] at hQ
   go_wp2_with (go_at_call 136;refine (pend_t _).mono ?_;rintro e w8 ⟨rfl,rfl⟩)
   exact hQ _ _ rfl (by have h9:=hJ.other rfl hf (by decide);rwa [hJ.atS hS] at h9)
  iterate 4
   simp only [nrm]
   apply wpJ_op rfl (by rfl)
   ·intro fl w1 hf hJ Q1 hQ
    simp only [nrm] at hQ
    go_wp2_with (go_at_call 136;refine (pend_t _).mono ?_;rintro e w8 ⟨rfl,rfl⟩)
    exact hQ _ _ rfl (hJ.other rfl hf (by decide))
  simp only [nrm]
  apply wpJ_op (v:=undef) rfl (by rfl)
  ·intro fl w1 hf hJ Q1 hQ
   rw [hJ.atS hf.1]
   have k3:=HQ.out.1
   have k4:=HQ.out.2
   simp only [nrm] at hQ
   go_wp2_with (fail)
   exact hQ _ _ rfl (hJ.goS rfl hf)
  simp only [nrm]
  refine wpJ_nil ?_
  intro w9 hJ9
  rw [hJ9.fin rfl]
  clear hJ9
  generalize (WA.drew.setCell ⟨k,5,none⟩ (.int .i64 (p.wt - 1)))=W6 at H6 ⊢
  have c6:=H6.out.2.1.rd
  have heq:=eq2 p.rd (p.wt - 1)
  by_cases eL:p.rd=0∧p.wt=1
  ·have d1:((p.rd==0) && ((p.wt - 1)==0))=true:=by have e2:p.wt - 1=0:=(by omega);simp [eL.1,e2]
   have HL:=Lib.hid eL
   have i1:(i:Int) < 4:=by have:=HP.out.2.1.i4 HP.out.2.2.2.2.2.2.2.2.2.1;omega
   have i2:(0:Int)≤i:=by omega
   clear eL
   go_upto_region 8 with (fail)
   obtain ⟨h1,h2,h3,h4,h5,h6,t2,t3,t4,hp,hk,hB,hR,hl64,hrk,hmc,hL⟩:=HP.out
   obtain ⟨hU6,hk6,hP6,hF6⟩:=H6.out
   have hX6:=(h1.beside hmc hU6 (fun j e=> by subst e;exact h5 _ _ hk)).below' (dn W6 1)
   have hP6d:=hP6.below (dn W6 1)
   have hgv:=sl_give hX6 hP6d sl mp t2 t3 (fun r j hr=> by
    rcases poRow_old hr with ⟨g,_⟩ | ⟨_,g⟩
    ·exact h5 r j g
    ·exact h5 _ j g) hmc i _ (psPut_eq ps i _) ⟨i,p,hp,rfl⟩
   have hb6:=Blk.upd hU6 t4 (fun e=> h2.sl_ne h3 hk (by simp) e)
   have HQ:=Lib.hid (And.intro (show (fun v=> v.cell? ⟨pb,0,none⟩=some (.pointer (some ⟨sl,0,none⟩))∧v.cell? ⟨k,0,none⟩=some (.int .i64 (fo i))∧v.cell? ⟨k,1,none⟩=some (.int .i64 0)∧v.cell? ⟨k,2,none⟩=some (.int .i64 64)) W6.drew from ⟨hb6.drew.rd 0,hk6.drew.rd 0,hk6.drew.rd 1,hk6.drew.rd 2⟩) hgv)
   clear h1 h2 h3 h4 h5 h6 t2 t3 t4 hp hk hB hR hl64 hrk hmc hL hU6 hk6 hP6 hF6 hX6 hP6d hgv hb6 c6
   refine region_C 8 W6.drew (fun w9=> (GvP (capP cap ps fo) w0 O1 fdb vb tb fb sb pb mb ns c N M S (poRow po i (po (.row i))) fo (psPut ps i (some {p with wt:=p.wt - 1})) mp i W6.drew (.returned (.int .i64 0)) w9)) rfl (by kernel_rfl) (by kernel_rfl) ?_
   iterate 3
    apply wpJ_op rfl (by rfl)
    ·intro fl w1 hf hJ Q1 hQ
     simp only [nrm] at hQ
     go_wp2_with (fail)
     exact hQ _ _ rfl (hJ.other rfl hf (by decide))
    simp only [nrm]
   apply wpJ_op rfl (by rfl)
   ·intro fl w1 hf hJ Q1 hQ
    have hC:fl 8=false:=path_no hJ.1 [3] (by kernel_rfl) (by decide) hf.1
    rw [hJ.atC hC]
    have hF:=HQ.out.1
    have k0:=hF.1
    simp only [nrm] at hQ
    go_wp2_with (fail)
    exact hQ _ _ rfl (by have h9:=hJ.other rfl hf (by decide);rwa [hJ.atC hC] at h9)
   iterate 3
    simp only [nrm]
    apply wpJ_op rfl (by rfl)
    ·intro fl w1 hf hJ Q1 hQ
     simp only [nrm] at hQ
     go_wp2_with (fail)
     exact hQ _ _ rfl (hJ.other rfl hf (by decide))
   simp only [nrm]
   apply wpJ_op rfl (by rfl)
   ·intro fl w1 hf hJ Q1 hQ
    have hC:fl 8=false:=path_no hJ.1 [7] (by kernel_rfl) (by decide) hf.1
    rw [hJ.atC hC]
    have hF:=HQ.out.1
    have k1:=hF.2.1
    have k2:=hF.2.2.1
    have k3:=hF.2.2.2
    simp only [nrm] at hQ
    go_wp2_with (fail)
    exact hQ _ _ rfl (by have h9:=hJ.other rfl hf (by decide);rwa [hJ.atC hC] at h9)
   simp only [nrm]
   apply wpJ_op rfl (by rfl)
   ·intro fl w1 hf hJ Q1 hQ
    rw [hJ.atC hf.1]
    simp only [nrm] at hQ
    go_wp2_with (have kw:=HQ.out.2;go_at_call 137;refine kw.mono ?_;rintro e w8 hq;obtain rfl:=hq.1)
    exact hQ _ _ rfl (hJ.goC rfl hf hq)
   simp only [nrm]
   refine wpJ_nil ?_
   intro w7 hJ9
   have hq9:=hJ9.fin rfl
   clear hJ9
   obtain ⟨h1,h2,h3,h4,h5,h6,t2,t3,t4,hp,hk,hB,hR,hl64,hrk,hmc,hL⟩:=HP.out
   obtain ⟨hU6,hk6,hP6,hF6⟩:=H6.out
   obtain ⟨⟨v7,m1⟩,m2,m3⟩:=pp_gone h1 h2 h3 h4 h5 h6 t2 t3 hp hk hmc (hU6.trans (Upd.of_below (F:=fun j=> j=k) (dn W6 1)) (fun _ _ h=> h)) (hP6.below (dn W6 1)) hq9
   have HM:=Lib.hid m3
   clear h1 h2 h3 h4 h5 h6 t2 t3 t4 hp hk hB hR hl64 hrk hmc hL hU6 hk6 hP6 hF6 hq9 m3
   go_wp2_with (fail)
   go_ret
   have hr:=HE.out.1
   rw [if_pos HL.out] at hr
   simp only [Int.toNat_natCast] at hr
   cases hr
   exact HM.out
  ·have d1:((p.rd==0) && ((p.wt - 1)==0))=false:=by
    by_cases e2:p.rd=0
    ·have e3:(p.wt - 1==0)=false:=(by simp;omega)
     simp [e3]
    ·have e3:(p.rd==0)=false:=(by simpa using e2)
     simp [e3]
   have HL:=Lib.hid eL
   clear eL
   go_wp2_with (fail)
   go_ret
   obtain ⟨h1,h2,h3,h4,h5,h6,t2,t3,t4,hp,hk,hB,hR,hl64,hrk,hmc,hL⟩:=HP.out
   obtain ⟨hU6,hk6,hP6,hF6⟩:=H6.out
   have hr:=HE.out.1
   rw [if_neg HL.out] at hr
   simp only [Int.toNat_natCast] at hr
   cases hr
   exact EX.pipes h1 h2 h3 h4 h5 h6 hmc hP6 hF6 rfl (psN_some ps (h2.i4 hp) hp) (fun x=> pOth_some ps fo hp x) _
set_option maxRecDepth 100000 in
set_option maxHeartbeats 4000000 in
theorem pp_close_false (h:EX cap w0 O fdb vb tb fb sb pb mb ns c N M S ps w) (hmc:0 < w0.heap.size) (id:Int) (hpos:∀i p,ps i=some p→0≤p.rd∧0≤p.wt∧p.rd≤100000∧p.wt≤100000) (r:Int) (hr:pcloseF ps id false=(r,ps')):
  Calls Tryz.prog 81 #[.pointer (some ⟨pb,0,none⟩),.int .i64 id,.bool false] w (EP cap w0 O fdb vb tb fb sb pb mb ns c N M S ps' w (.int .i64 r)):=by
 have hE:=h
 obtain ⟨po,fo,O1,h1,h2,h3,h4,h5,h6⟩:=h
 unfold pcloseF at hr
 cases hat:psAt ps id with
 | none=>
  rw [hat] at hr
  cases hr
  have hf:=pp_findn h2 h3 hat
  have HE:=Lib.hid hE
  clear h1 h2 h3 h4 h5 h6 hE hat
  go_enter Tryz.func81,Tryz.ntmps81
  go_wp2_with (go_at_call 135;refine hf.mono ?_;rintro e w1 ⟨rfl,rfl⟩)
  go_ret
  exact EP.same HE.out (Below.refl _ _)
 | some p=>
  rw [hat] at hr
  simp only [if_true,Bool.false_eq_true,if_false] at hr
  obtain ⟨i,rfl,hp⟩:=psAt_some hat
  obtain ⟨k,a,cp,hk,hB,hR,hl64,hrk⟩:=h2.the hp
  have hf:=pp_findy h2 h3 hp hk
  have c1:=hB.rd
  obtain ⟨L,hL⟩:∃L,p.dt.length=L:=⟨_,rfl⟩
  rw [hL] at c1
  by_cases e1:p.rd=0
  ·rw [if_pos e1] at hr
   cases hr
   have HE:=Lib.hid hE
   rw [e1] at c1
   clear h1 h2 h3 h4 h5 h6 hE hat hp hk hB hR hl64 hrk hpos
   go_enter Tryz.func81,Tryz.ntmps81
   go_upto_region 4 with (go_at_call 135;refine hf.mono ?_;rintro e w1 ⟨rfl,rfl⟩)
   refine region_J (fun _ w1=> w1=w.drew) (by kernel_rfl) (by kernel_rfl) rfl ?_
   iterate 9
    apply wpJ_op rfl (by rfl)
    ·intro fl w1 hf hJ Q1 hQ
     subst hJ
     simp only [nrm] at hQ
     go_wp2_with (go_at_call 136;refine (pend_f _).mono ?_;rintro e w8 ⟨rfl,rfl⟩)
     exact hQ _ _ rfl rfl
    simp only [nrm]
   refine wpJ_nil ?_
   intro w9 hJ9
   subst hJ9
   go_wp2_with (fail)
   go_ret
   exact EP.same HE.out (dn w 1)
  rw [if_neg e1] at hr
  have g1:(p.rd==0)=false:=by simpa using e1
  have j1:1≤p.rd:=by have:=hpos i p hp;omega
  have j2:p.rd≤100000:=(by have:=hpos i p hp;omega)
  obtain ⟨pb',sl,mp,n,s,t1,t2,t3,t4,t5,t6,t7⟩:=h2.top
  obtain rfl:pb=pb' :=by rw [h3] at t1;exact Option.some.inj t1
  have hpos' :=hpos i p hp
  have HP:=Lib.hid (And.intro h1 (And.intro h2 (And.intro h3 (And.intro h4 (And.intro h5 (And.intro h6 (And.intro t2 (And.intro t3 (And.intro t4 (And.intro hp (And.intro hk (And.intro hB (And.intro hR (And.intro hl64 (And.intro hrk (And.intro hmc hL))))))))))))))))
  have HE:=Lib.hid (And.intro hr hpos')
  clear h1 h2 h3 h4 h5 h6 hE hat hp hk hB hR hl64 hrk hpos t1 t2 t3 t4 t5 t6 t7 hr hL hpos'
  go_enter Tryz.func81,Tryz.ntmps81
  go_upto_region 4 with (go_at_call 135;refine hf.mono ?_;rintro e w1 ⟨rfl,rfl⟩)
  refine region_J (fun _ w1=> w1=w.drew) (by kernel_rfl) (by kernel_rfl) rfl ?_
  iterate 9
   apply wpJ_op rfl (by rfl)
   ·intro fl w1 hf hJ Q1 hQ
    subst hJ
    simp only [nrm] at hQ
    go_wp2_with (go_at_call 136;refine (pend_f _).mono ?_;rintro e w8 ⟨rfl,rfl⟩)
    exact hQ _ _ rfl rfl
   simp only [nrm]
  refine wpJ_nil ?_
  intro w9 hJ9
  subst hJ9
  go_upto_region 6 with (fail)
  have hBA:=dn w 1
  rw [show w.drewN 1=w.drew from rfl] at hBA
  generalize w.drew=WA at hBA ⊢
  clear c1
  obtain ⟨h1,h2,h3,h4,h5,h6,t2,t3,t4,hp,hk,hB,hR,hl64,hrk,hmc,hL⟩:=HP.out
  rw [hL] at hB
  have hkA:=(Blk.below hBA hB hB.lt).drew
  have hU6:Upd (fun j=> j=k) w (WA.drew.setCell ⟨k,4,none⟩ (.int .i64 (p.rd - 1))):=(Upd.of_below (F:=fun j=> j=k) (hBA.trans ((dn WA 1).mono hBA.size))).setCell (p:=⟨k,4,none⟩) (fun _=> rfl) _
  have hk6:Blk (WA.drew.setCell ⟨k,4,none⟩ (.int .i64 (p.rd - 1))) k #[.int .i64 (fo i),.int .i64 0,.int .i64 64,.slice a L cp,.int .i64 (p.rd - 1),.int .i64 p.wt] 234:=(hkA.set 4 _).of rfl
  have hR6:=hR.upd hU6 (fun g hg e=> hrk (by rw [hg,e]))
  rw [hL] at hR6
  obtain ⟨hP6,hF6⟩:=h2.put (p' := {p with rd:=p.rd - 1}) hp hk hk6 hR6 hl64 (hU6.mono (fun j _ e=> .inl e)) (fun g hg=> .inl hg)
  have HQ:=Lib.hid (And.intro (show WA.drew.cell? ⟨k,4,none⟩=some (.int .i64 p.rd) from hkA.rd 4) (hkA.nf 4))
  have H6:=Lib.hid (And.intro hU6 (And.intro hk6 (And.intro hP6 hF6)))
  clear h1 h2 h3 h4 h5 h6 t2 t3 t4 hp hk hB hR hl64 hrk hmc hL hkA hU6 hk6 hR6 hP6 hF6 hBA
  refine region_S 11 WA.drew (WA.drew.setCell ⟨k,4,none⟩ (.int .i64 (p.rd - 1))) rfl (by kernel_rfl) (by kernel_rfl) ?_
  iterate 6
   apply wpJ_op rfl (by rfl)
   ·intro fl w1 hf hJ Q1 hQ
    simp only [nrm] at hQ
    go_wp2_with (go_at_call 136;refine (pend_f _).mono ?_;rintro e w8 ⟨rfl,rfl⟩)
    exact hQ _ _ rfl (hJ.other rfl hf (by decide))
   simp only [nrm]
  apply wpJ_op rfl (by rfl)
  ·intro fl w1 hf hJ Q1 hQ
   have hS:fl 11=false:=path_no hJ.1 [7,6] (by kernel_rfl) (by decide) hf.1
   rw [hJ.atS hS]
   have hF:=HQ.out.1
   have k0:=hF
   simp only [nrm] at hQ
   go_wp2_with (go_at_call 136;refine (pend_f _).mono ?_;rintro e w8 ⟨rfl,rfl⟩)
   exact hQ _ _ rfl (by have h9:=hJ.other rfl hf (by decide);rwa [hJ.atS hS] at h9)
  iterate 4
   simp only [nrm]
   apply wpJ_op rfl (by rfl)
   ·intro fl w1 hf hJ Q1 hQ
    simp only [nrm] at hQ
    go_wp2_with (go_at_call 136;refine (pend_f _).mono ?_;rintro e w8 ⟨rfl,rfl⟩)
    exact hQ _ _ rfl (hJ.other rfl hf (by decide))
  simp only [nrm]
  apply wpJ_op (v:=undef) rfl (by rfl)
  ·intro fl w1 hf hJ Q1 hQ
   rw [hJ.atS hf.1]
   have k3:=HQ.out.1
   have k4:=HQ.out.2
   simp only [nrm] at hQ
   go_wp2_with (fail)
   exact hQ _ _ rfl (hJ.goS rfl hf)
  simp only [nrm]
  refine wpJ_nil ?_
  intro w9 hJ9
  rw [hJ9.fin rfl]
  clear hJ9
  generalize (WA.drew.setCell ⟨k,4,none⟩ (.int .i64 (p.rd - 1)))=W6 at H6 ⊢
  have c6:=H6.out.2.1.rd
  have heq:=eq2 (p.rd - 1) p.wt
  by_cases eL:p.wt=0∧p.rd=1
  ·have d1:(((p.rd - 1)==0) && (p.wt==0))=true:=by have e2:p.rd - 1=0:=(by omega);simp [eL.1,e2]
   have HL:=Lib.hid eL
   have i1:(i:Int) < 4:=by have:=HP.out.2.1.i4 HP.out.2.2.2.2.2.2.2.2.2.1;omega
   have i2:(0:Int)≤i:=by omega
   clear eL
   go_upto_region 8 with (fail)
   obtain ⟨h1,h2,h3,h4,h5,h6,t2,t3,t4,hp,hk,hB,hR,hl64,hrk,hmc,hL⟩:=HP.out
   obtain ⟨hU6,hk6,hP6,hF6⟩:=H6.out
   have hX6:=(h1.beside hmc hU6 (fun j e=> by subst e;exact h5 _ _ hk)).below' (dn W6 1)
   have hP6d:=hP6.below (dn W6 1)
   have hgv:=sl_give hX6 hP6d sl mp t2 t3 (fun r j hr=> by
    rcases poRow_old hr with ⟨g,_⟩ | ⟨_,g⟩
    ·exact h5 r j g
    ·exact h5 _ j g) hmc i _ (psPut_eq ps i _) ⟨i,p,hp,rfl⟩
   have hb6:=Blk.upd hU6 t4 (fun e=> h2.sl_ne h3 hk (by simp) e)
   have HQ:=Lib.hid (And.intro (show (fun v=> v.cell? ⟨pb,0,none⟩=some (.pointer (some ⟨sl,0,none⟩))∧v.cell? ⟨k,0,none⟩=some (.int .i64 (fo i))∧v.cell? ⟨k,1,none⟩=some (.int .i64 0)∧v.cell? ⟨k,2,none⟩=some (.int .i64 64)) W6.drew from ⟨hb6.drew.rd 0,hk6.drew.rd 0,hk6.drew.rd 1,hk6.drew.rd 2⟩) hgv)
   clear h1 h2 h3 h4 h5 h6 t2 t3 t4 hp hk hB hR hl64 hrk hmc hL hU6 hk6 hP6 hF6 hX6 hP6d hgv hb6 c6
   refine region_C 8 W6.drew (fun w9=> (GvP (capP cap ps fo) w0 O1 fdb vb tb fb sb pb mb ns c N M S (poRow po i (po (.row i))) fo (psPut ps i (some {p with rd:=p.rd - 1})) mp i W6.drew (.returned (.int .i64 0)) w9)) rfl (by kernel_rfl) (by kernel_rfl) ?_
   iterate 3
    apply wpJ_op rfl (by rfl)
    ·intro fl w1 hf hJ Q1 hQ
     simp only [nrm] at hQ
     go_wp2_with (fail)
     exact hQ _ _ rfl (hJ.other rfl hf (by decide))
    simp only [nrm]
   apply wpJ_op rfl (by rfl)
   ·intro fl w1 hf hJ Q1 hQ
    have hC:fl 8=false:=path_no hJ.1 [3] (by kernel_rfl) (by decide) hf.1
    rw [hJ.atC hC]
    have hF:=HQ.out.1
    have k0:=hF.1
    simp only [nrm] at hQ
    go_wp2_with (fail)
    exact hQ _ _ rfl (by have h9:=hJ.other rfl hf (by decide);rwa [hJ.atC hC] at h9)
   iterate 3
    simp only [nrm]
    apply wpJ_op rfl (by rfl)
    ·intro fl w1 hf hJ Q1 hQ
     simp only [nrm] at hQ
     go_wp2_with (fail)
     exact hQ _ _ rfl (hJ.other rfl hf (by decide))
   simp only [nrm]
   apply wpJ_op rfl (by rfl)
   ·intro fl w1 hf hJ Q1 hQ
    have hC:fl 8=false:=path_no hJ.1 [7] (by kernel_rfl) (by decide) hf.1
    rw [hJ.atC hC]
    have hF:=HQ.out.1
    have k1:=hF.2.1
    have k2:=hF.2.2.1
    have k3:=hF.2.2.2
    simp only [nrm] at hQ
    go_wp2_with (fail)
    exact hQ _ _ rfl (by have h9:=hJ.other rfl hf (by decide);rwa [hJ.atC hC] at h9)
   simp only [nrm]
   apply wpJ_op rfl (by rfl)
   ·intro fl w1 hf hJ Q1 hQ
    rw [hJ.atC hf.1]
    simp only [nrm] at hQ
    go_wp2_with (have kw:=HQ.out.2;go_at_call 137;refine kw.mono ?_;rintro e w8 hq;obtain rfl:=hq.1)
    exact hQ _ _ rfl (hJ.goC rfl hf hq)
   simp only [nrm]
   refine wpJ_nil ?_
   intro w7 hJ9
   have hq9:=hJ9.fin rfl
   clear hJ9
   obtain ⟨h1,h2,h3,h4,h5,h6,t2,t3,t4,hp,hk,hB,hR,hl64,hrk,hmc,hL⟩:=HP.out
   obtain ⟨hU6,hk6,hP6,hF6⟩:=H6.out
   obtain ⟨⟨v7,m1⟩,m2,m3⟩:=pp_gone h1 h2 h3 h4 h5 h6 t2 t3 hp hk hmc (hU6.trans (Upd.of_below (F:=fun j=> j=k) (dn W6 1)) (fun _ _ h=> h)) (hP6.below (dn W6 1)) hq9
   have HM:=Lib.hid m3
   clear h1 h2 h3 h4 h5 h6 t2 t3 t4 hp hk hB hR hl64 hrk hmc hL hU6 hk6 hP6 hF6 hq9 m3
   go_wp2_with (fail)
   go_ret
   have hr:=HE.out.1
   rw [if_pos HL.out] at hr
   simp only [Int.toNat_natCast] at hr
   cases hr
   exact HM.out
  ·have d1:(((p.rd - 1)==0) && (p.wt==0))=false:=by
    by_cases e2:p.wt=0
    ·have e3:(p.rd - 1==0)=false:=(by simp;omega)
     simp [e3]
    ·have e3:(p.wt==0)=false:=(by simpa using e2)
     simp [e3]
   have HL:=Lib.hid eL
   clear eL
   go_wp2_with (fail)
   go_ret
   obtain ⟨h1,h2,h3,h4,h5,h6,t2,t3,t4,hp,hk,hB,hR,hl64,hrk,hmc,hL⟩:=HP.out
   obtain ⟨hU6,hk6,hP6,hF6⟩:=H6.out
   have hr:=HE.out.1
   rw [if_neg HL.out] at hr
   simp only [Int.toNat_natCast] at hr
   cases hr
   exact EX.pipes h1 h2 h3 h4 h5 h6 hmc hP6 hF6 rfl (psN_some ps (h2.i4 hp) hp) (fun x=> pOth_some ps fo hp x) _
end
end Go.Proofs.YtjpjafajploiaaaGreatDoor
