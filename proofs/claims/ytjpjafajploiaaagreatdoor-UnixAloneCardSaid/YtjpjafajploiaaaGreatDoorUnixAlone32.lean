/-
  Pipes over a slab over the frames: what they are, plain; how they lie beside a vfs and descriptors of the call's own.
-/
import Derived.Test.YtjpjafajploiaaaGreatDoorUnixAlone31
set_option linter.unusedSimpArgs false
set_option linter.unusedVariables false
namespace Go.Proofs.YtjpjafajploiaaaGreatDoor
open Go.RowKit Own RegJ Two
open Go.Lib hiding intOf
structure Pi where
 dt:List Int
 rd:Int
 wt:Int
abbrev PS:=Nat→Option Pi
def psPut (ps:PS) (i:Nat) (x:Option Pi):PS:=fun j=> if j=i then x else ps j
theorem psPut_eq (ps:PS) (i:Nat) (x:Option Pi):psPut ps i x i=x:=if_pos rfl
theorem psPut_ne (ps:PS) {i j:Nat} (x:Option Pi) (h:j≠i):psPut ps i x j=ps j:=if_neg h
def psN (ps:PS):Nat→Nat
 | 0=> 0
 | i+1=> psN ps i+(if (ps i).isSome then 1 else 0)
theorem psN_put (ps:PS) (i:Nat) (x:Option Pi):∀m,i < m→psN (psPut ps i x) m+(if (ps i).isSome then 1 else 0)=psN ps m+(if x.isSome then 1 else 0):=by
 have h0:∀m,m≤i→psN (psPut ps i x) m=psN ps m:=by
  intro m
  induction m with
  | zero=> intro _;rfl
  | succ m ih=> intro h;unfold psN;rw [ih (by omega),psPut_ne _ _ (by omega)]
 intro m
 induction m with
 | zero=> intro h;omega
 | succ m ih=>
  intro h
  unfold psN
  by_cases hm:i < m
  ·have:=ih hm
   rw [psPut_ne _ _ (show m≠i by omega)]
   omega
  ·obtain rfl:m=i:=by omega
   rw [h0 m (Nat.le_refl _),psPut_eq]
   omega
inductive PRl where
 | pp | sl | mp
 | pi (i:Nat)
 | row (i:Nat)
 | sh (i:Nat)
 | tk (i:Nat)
def atFr (ps:PS) (fo:Nat→Nat) (f:Int):Option Nat:=(List.range 4).find? fun i=> (ps i).isSome && decide ((fo i:Int)=f)
def shM (ps:PS) (fo:Nat→Nat) (po:PRl→Option Nat):Int→Option Value:=fun f=> (atFr ps fo f).map fun i=> ptr (po (.sh i))
def tkM:Int→Option Value:=fun j=> if j=0 then some (.int .i64 1) else none
def ppC (po:PRl→Option Nat) (slb:Nat):Array Value:= #[.pointer (some ⟨slb,0,none⟩),ptr (po (.pi 0)),ptr (po (.pi 1)),ptr (po (.pi 2)),ptr (po (.pi 3))]
def takeV (fb:Nat):Value:= .func (.func 75) #[.pointer (some ⟨fb,0,none⟩)] #[]
def giveV (fb:Nat):Value:= .func (.func 76) #[.pointer (some ⟨fb,0,none⟩)] #[]
structure PpI (w:World) (po:PRl→Option Nat) (fo:Nat→Nat) (ps:PS) (fb N:Nat):Prop where
 inj:∀r r' k,po r=some k→po r' =some k→r=r'
 lt:∀r k,po r=some k→k < w.heap.size
 top:∃pb sl mp n s,po .pp=some pb∧po .sl=some sl∧po .mp=some mp∧Blk w pb (ppC po sl) 158∧Blk w sl #[takeV fb,giveV fb,.map (some mp)] 162∧MapI w Tryz.prog 3 mp n s (shM ps fo po)∧n≤N∧s≤N
 none' :∀i,ps i=none→po (.pi i)=none
 far:∀i,4≤i→ps i=none
 pipe:∀i p,ps i=some p→∃k v t u n,po (.pi i)=some k∧Blk w k #[.int .i64 (fo i),.int .i64 0,.int .i64 64,v,.int .i64 p.rd,.int .i64 p.wt] 234∧RowV w 5 v (ucells p.dt) (po (.row i))∧p.dt.length≤64∧
  po (.sh i)=some t∧Blk w t #[.int .i64 64,.map (some u)] 303∧po (.tk i)=some u∧MapI w Tryz.prog 3 u n 1 tkM∧n≤N
 apart:∀i j p q,ps i=some p→ps j=some q→fo i=fo j→i=j
 f64:∀i p,ps i=some p→fo i < 64
theorem atFr_some {ps:PS} {fo:Nat→Nat} {f:Int} {i:Nat} (h:atFr ps fo f=some i):i < 4∧∃p,ps i=some p∧(fo i:Int)=f:=by
 unfold atFr at h
 have h1:=List.find?_some h
 have h2:=List.mem_of_find?_eq_some h
 rw [List.mem_range] at h2
 simp only [Bool.and_eq_true,decide_eq_true_eq] at h1
 obtain ⟨p,hp⟩:=Option.isSome_iff_exists.1 h1.1
 exact ⟨h2,p,hp,h1.2⟩
theorem atFr_none {ps:PS} {fo:Nat→Nat} {f:Int} (h:atFr ps fo f=none) {i:Nat} (hi:i < 4) {p:Pi} (hp:ps i=some p):(fo i:Int)≠f:=by
 unfold atFr at h
 rw [List.find?_eq_none] at h
 have:=h i (List.mem_range.2 hi)
 rw [hp] at this
 simpa using this
def psAt (ps:PS) (id:Int):Option Pi:=if 0≤id then ps id.toNat else none
def pcloseF (ps:PS) (id:Int) (wr:Bool):Int×PS:=match psAt ps id with
 | none=> (4,ps)
 | some p=> if (if wr then p.wt else p.rd)=0 then (4,ps) else
  if (if wr then p.rd else p.wt)=0∧(if wr then p.wt else p.rd)=1 then (0,psPut ps id.toNat none) else (0,psPut ps id.toNat (some (if wr then {p with wt:=p.wt - 1} else {p with rd:=p.rd - 1})))
def preadF (ps:PS) (id n:Int):List Int×Int×PS:=match psAt ps id with
 | none=> ([],4,ps)
 | some p=> if p.rd=0 then ([],4,ps) else if n < 0 then ([],19,ps) else if p.dt= []∧(n=0∨p.wt=0) then ([],0,ps) else if p.dt= [] then ([],17,ps) else
  (p.dt.take n.toNat,0,psPut ps id.toNat (some {p with dt:=p.dt.drop n.toNat}))
def pwriteF (ps:PS) (id:Int) (b:List Int):Int×PS:=match psAt ps id with
 | none=> (4,ps)
 | some p=> if p.wt=0 then (4,ps) else if p.rd=0 then (16,ps) else if b.length=0 then (0,ps) else if 64 < b.length then (19,ps) else if 64 < b.length+p.dt.length then (17,ps) else
  (0,psPut ps id.toNat (some {p with dt:=p.dt++b}))
def pfreeF (ps:PS):Option Nat:=(List.range 4).find? fun i=> (ps i).isNone
section
variable {w w' :World} {po:PRl→Option Nat} {fo:Nat→Nat} {ps:PS} {fb N:Nat}
theorem PpI.i4 (h:PpI w po fo ps fb N) {i:Nat} {p:Pi} (hp:ps i=some p):i < 4:=by
 rcases Nat.lt_or_ge i 4 with e | e
 ·exact e
 ·rw [h.far i e] at hp;cases hp
theorem PpI.at' (h:PpI w po fo ps fb N) {i:Nat} {p:Pi} (hp:ps i=some p):atFr ps fo (fo i)=some i:=by
 cases hf:atFr ps fo (fo i) with
 | none=> exact absurd rfl (atFr_none hf (h.i4 hp) hp)
 | some j=>
  obtain ⟨h1,q,hq,he⟩:=atFr_some hf
  rw [h.apart i j p q hp hq (by omega)]
theorem PpI.upd {G:Nat→Prop} (h:PpI w po fo ps fb N) (hu:Upd G w w') (hG:∀r k,po r=some k→¬G k):PpI w' po fo ps fb N:=by
 obtain ⟨pb,sl,mp,n,s,t1,t2,t3,t4,t5,t6,t7⟩:=h.top
 refine ⟨h.inj,fun r k hk=> Nat.lt_of_lt_of_le (h.lt r k hk) hu.size,⟨pb,sl,mp,n,s,t1,t2,t3,Blk.upd hu t4 (hG _ _ t1),Blk.upd hu t5 (hG _ _ t2),t6.upd hu (hG _ _ t3),t7⟩,h.none',h.far,fun i p hp=> ?_,h.apart,h.f64⟩
 obtain ⟨k,v,t,u,n,k1,k2,k3,k4,k5,k6,k7,k8,k9⟩:=h.pipe i p hp
 exact ⟨k,v,t,u,n,k1,Blk.upd hu k2 (hG _ _ k1),k3.upd hu (fun g hg=> hG _ _ hg),k4,k5,Blk.upd hu k6 (hG _ _ k5),k7,k8.upd hu (hG _ _ k7),k9⟩
theorem PpI.below (h:PpI w po fo ps fb N) (hB:Below w.heap.size w w'):PpI w' po fo ps fb N:=h.upd (Upd.of_below (F:=fun _=> False) hB) (fun _ _ _ h=> h)
theorem PpI.slot (h:PpI w po fo ps fb N) {pb:Nat} (hpb:po .pp=some pb) {i:Nat} (hi:i < 4):w.cell? ⟨pb,1+i,none⟩=some (ptr (po (.pi i))):=by
 obtain ⟨pb',sl,mp,n,s,t1,t2,t3,t4,_⟩:=h.top
 obtain rfl:pb=pb' :=by rw [hpb] at t1;exact Option.some.inj t1
 rw [t4.rd]
 have:i=0∨i=1∨i=2∨i=3:=by omega
 rcases this with rfl | rfl | rfl | rfl <;> rfl
end
end Go.Proofs.YtjpjafajploiaaaGreatDoor
/-
 Descriptors with pipes:a vfs,descriptors and pipes of the call's own;what a step of each leaves.
-/
namespace Go.Proofs.YtjpjafajploiaaaGreatDoor
open Go.RowKit Own RegJ Two
open Go.Lib hiding intOf
def pOth (ps:PS) (fo:Nat→Nat):Nat→Prop:=fun i=> ∃j p,ps j=some p∧fo j=i
abbrev capP (cap:Nat) (ps:PS) (fo:Nat→Nat):Inhabited CapT:=capAs (cap - psN ps 4) (pOth ps fo)
def EX (cap:Nat) (w0:World) (O:Nat→Prop) (fdb vb tb fb sb pb mb:Nat) (ns:NSt) (c N M:Nat) (S:FS) (ps:PS) (w:World):Prop:=
 ∃po fo O1,@FX (capP cap ps fo) w0 O1 fdb vb tb fb sb pb mb ns c N S w∧PpI w po fo ps fb M∧po .pp=some pb∧psN ps 4≤cap∧(∀r k,po r=some k→w0.heap.size≤k∧¬O1 k∧k≠vb)∧∀k,O k↔(O1 k∨∃r,po r=some k)
def EP (cap:Nat) (w0:World) (O:Nat→Prop) (fdb vb tb fb sb pb mb:Nat) (ns:NSt) (c N M:Nat) (S:FS) (ps:PS) (w:World) (v:Value) (e:Ending) (w' :World):Prop:=
 e= .returned v∧Upd O w w' ∧∃O',EX cap w0 O' fdb vb tb fb sb pb mb ns c N M S ps w' ∧∀k,O' k→O k∨w.heap.size≤k
section
variable {cap:Nat} {w0 w w1 w' :World} {O O1:Nat→Prop} {fdb vb tb fb sb pb mb:Nat} {ns ns' :NSt} {c c' N N' M M' :Nat} {S S' :FS} {ps ps' :PS} {po po' :PRl→Option Nat} {fo fo' :Nat→Nat}
theorem FX.beside {C:Inhabited CapT} {F:Nat→Prop} (h:FX w0 O fdb vb tb fb sb pb mb ns c N S w) (hmc:0 < w0.heap.size) (hu:Upd F w w') (hF:∀k,F k→w0.heap.size≤k∧¬O k∧k≠vb):FX w0 O fdb vb tb fb sb pb mb ns c N S w' :=by
 obtain ⟨lo,h1,h2,h3,h4,h5,h6,h7,h8⟩:=h
 exact ⟨lo,h1.upd hu (fun hk=> (hF _ hk).2.2 rfl) (fun r k hr hk=> (hF k hk).2.1 (h4 r k hr)) (fun hk=> by have:=(hF _ hk).1;omega),h2.trans (hu.below h2.size (fun k hk=> (hF k hk).1)),fun k hk=> ⟨(h3 k hk).1,Nat.lt_of_lt_of_le (h3 k hk).2 hu.size⟩,h4,h5,h6,h7.upd hu (fun k hk hf=> (hF k hf).2.1 (h8 k hk).1),h8⟩
theorem FX.vlt' {C:Inhabited CapT} (h:FX w0 O fdb vb tb fb sb pb mb ns c N S w):vb < w.heap.size:=by
 obtain ⟨lo,h1,_⟩:=h
 obtain ⟨l1,l2,l3⟩:=h1.lts
 omega
theorem PpI.le (h:PpI w po fo ps fb M) (hM:M≤M'):PpI w po fo ps fb M' :=by
 obtain ⟨pb,sl,mp,n,s,t1,t2,t3,t4,t5,t6,t7⟩:=h.top
 refine ⟨h.inj,h.lt,⟨pb,sl,mp,n,s,t1,t2,t3,t4,t5,t6,by omega⟩,h.none',h.far,fun i p hp=> ?_,h.apart,h.f64⟩
 obtain ⟨k,v,t,u,n,k1,k2,k3,k4,k5,k6,k7,k8,k9⟩:=h.pipe i p hp
 exact ⟨k,v,t,u,n,k1,k2,k3,k4,k5,k6,k7,k8,by omega⟩
theorem EX.le (h:EX cap w0 O fdb vb tb fb sb pb mb ns c N M S ps w) (hc:c≤c') (hM:M≤M'):EX cap w0 O fdb vb tb fb sb pb mb ns c' N M' S ps w:=by
 obtain ⟨po,fo,O1,h1,h2,h3⟩:=h
 exact ⟨po,fo,O1,h1.le' hc,h2.le hM,h3⟩
theorem EX.rng (h:EX cap w0 O fdb vb tb fb sb pb mb ns c N M S ps w):∀k,O k→w0.heap.size≤k∧k < w.heap.size:=fun k hk=> by
 obtain ⟨po,fo,O1,h1,h2,h3,h4,h5,h6⟩:=h
 rcases (h6 k).1 hk with hk | ⟨r,hr⟩
 ·exact h1.rng' k hk
 ·exact ⟨(h5 r k hr).1,h2.lt r k hr⟩
theorem EX.bel (h:EX cap w0 O fdb vb tb fb sb pb mb ns c N M S ps w):Below w0.heap.size w0 w:=by
 obtain ⟨po,fo,O1,h1,_⟩:=h
 exact h1.bel'
theorem EX.fd (h:EX cap w0 O fdb vb tb fb sb pb mb ns c N M S ps w):FdB w fdb vb pb mb N S:=by
 obtain ⟨po,fo,O1,h1,_⟩:=h
 exact h1.fd'
theorem EX.below (h:EX cap w0 O fdb vb tb fb sb pb mb ns c N M S ps w) (hB:Below w.heap.size w w'):EX cap w0 O fdb vb tb fb sb pb mb ns c N M S ps w' :=by
 obtain ⟨po,fo,O1,h1,h2,h3⟩:=h
 exact ⟨po,fo,O1,h1.below' hB,h2.below hB,h3⟩
theorem EX.vlt (h:EX cap w0 O fdb vb tb fb sb pb mb ns c N M S ps w):vb < w.heap.size:=by
 obtain ⟨po,fo,O1,h1,_⟩:=h
 exact h1.vlt'
theorem EX.beside {F:Nat→Prop} (h:EX cap w0 O fdb vb tb fb sb pb mb ns c N M S ps w) (hmc:0 < w0.heap.size) (hu:Upd F w w') (hF:∀k,F k→w0.heap.size≤k∧¬O k∧k≠vb):EX cap w0 O fdb vb tb fb sb pb mb ns c N M S ps w' :=by
 obtain ⟨po,fo,O1,h1,h2,h3,h4,h5,h6⟩:=h
 exact ⟨po,fo,O1,h1.beside hmc hu (fun k hk=> ⟨(hF k hk).1,fun ho=> (hF k hk).2.1 ((h6 k).2 (.inl ho)),(hF k hk).2.2⟩),h2.upd hu (fun r k hk hf=> (hF k hf).2.1 ((h6 k).2 (.inr ⟨r,hk⟩))),h3,h4,h5,h6⟩
theorem EP.same {v:Value} (h:EX cap w0 O fdb vb tb fb sb pb mb ns c N M S ps w) (hB:Below w.heap.size w w'):EP cap w0 O fdb vb tb fb sb pb mb ns c N M S ps w v (.returned v) w' :=
 ⟨rfl,Upd.of_below hB,O,h.below hB,fun k hk=> .inl hk⟩
theorem EP.ahead {v:Value} {e:Ending} (hB:Below w.heap.size w w1) (h:EP cap w0 O fdb vb tb fb sb pb mb ns c N M S ps w1 v e w'):EP cap w0 O fdb vb tb fb sb pb mb ns c N M S ps w v e w' :=by
 obtain ⟨h1,h2,O',h3,h4⟩:=h
 exact ⟨h1,(Upd.of_below hB).trans h2 (fun _ _ h=> h),O',h3,fun k hk=> (h4 k hk).imp id (fun h=> Nat.le_trans hB.size h)⟩
theorem EP.seq {O2:Nat→Prop} {v:Value} {e:Ending} (h:Upd O w w1) (hO1:∀k,O2 k→O k∨w.heap.size≤k) (k:EP cap w0 O2 fdb vb tb fb sb pb mb ns c N M S ps w1 v e w'):EP cap w0 O fdb vb tb fb sb pb mb ns c N M S ps w v e w' :=by
 obtain ⟨k1,k2,O3,k3,k4⟩:=k
 refine ⟨k1,h.trans k2 (fun i hi hk=> (hO1 i hk).elim id (fun h=> by omega)),O3,k3,fun j hj=> ?_⟩
 rcases k4 j hj with hj | hj
 ·exact hO1 j hj
 ·exact .inr (Nat.le_trans h.size hj)
theorem EX.lift {v:Value} {e:Ending} (h2:PpI w po fo ps fb M) (h3:po .pp=some pb) (h4:psN ps 4≤cap) (h5:∀r k,po r=some k→w0.heap.size≤k∧¬O1 k∧k≠vb) (h6:∀k,O k↔(O1 k∨∃r,po r=some k))
  (hq: @FP (capP cap ps fo) w0 O1 fdb vb tb fb sb pb mb ns' c' N' S' w v e w'):EP cap w0 O fdb vb tb fb sb pb mb ns' c' N' M S' ps w v e w' :=by
 obtain ⟨rfl,hu,O2,hX,hO⟩:=hq
 refine ⟨rfl,hu.mono (fun k _ hk=> (h6 k).2 (.inl hk)),fun k=> O2 k∨∃r,po r=some k,⟨po,fo,O2,hX,h2.upd hu (fun r k hr hk=> (h5 r k hr).2.1 hk),h3,h4,fun r k hr=> ⟨(h5 r k hr).1,fun hk=> ?_,(h5 r k hr).2.2⟩,fun k=> Iff.rfl⟩,fun k hk=> ?_⟩
 ·rcases hO k hk with g | g
  ·exact (h5 r k hr).2.1 g
  ·have:=h2.lt r k hr;omega
 ·rcases hk with hk | hk
  ·exact (hO k hk).imp (fun g=> (h6 k).2 (.inl g)) id
  ·exact .inl ((h6 k).2 (.inr hk))
theorem capP_eq (hN:psN ps' 4=psN ps 4) (hO:∀i,pOth ps' fo i↔pOth ps fo i):capP cap ps' fo=capP cap ps fo:=by
 unfold capP
 rw [hN,show pOth ps' fo=pOth ps fo from funext fun i=> propext (hO i)]
theorem EX.pipes (h1: @FX (capP cap ps fo) w0 O1 fdb vb tb fb sb pb mb ns c N S w) (h2:PpI w po fo ps fb M) (h3:po .pp=some pb) (h4:psN ps 4≤cap) (h5:∀r k,po r=some k→w0.heap.size≤k∧¬O1 k∧k≠vb) (h6:∀k,O k↔(O1 k∨∃r,po r=some k)) (hmc:0 < w0.heap.size)
  (hP:PpI w' po' fo ps' fb M') (hF:OFr po po' w w') (hpp:po' .pp=po .pp) (hN:psN ps' 4=psN ps 4) (hO:∀i,pOth ps' fo i↔pOth ps fo i) (v:Value):EP cap w0 O fdb vb tb fb sb pb mb ns c N M' S ps' w v (.returned v) w' :=by
 have hX:=FX.beside h1 hmc hF.1 (fun k ⟨r,hr⟩=> h5 r k hr)
 rw [←capP_eq hN hO] at hX
 refine ⟨rfl,hF.1.mono (fun k _ hk=> (h6 k).2 (.inr hk)),fun k=> O1 k∨∃r,po' r=some k,⟨po',fo,O1,hX,hP,hpp.trans h3,by omega,fun r k hr=> ?_,fun k=> Iff.rfl⟩,fun k hk=> ?_⟩
 ·rcases hF.2 r k hr with ⟨r',g⟩ | g
  ·exact h5 r' k g
  ·have l1:=h1.bel'.size
   exact ⟨by omega,fun hk=> by have:=(h1.rng' k hk).2;omega,fun e=> by have:=h1.vlt';omega⟩
 ·rcases hk with hk | ⟨r,hr⟩
  ·exact .inl ((h6 k).2 (.inl hk))
  ·rcases hF.2 r k hr with ⟨r',g⟩ | g
   ·exact .inl ((h6 k).2 (.inr ⟨r',g⟩))
   ·exact .inr g
end
end Go.Proofs.YtjpjafajploiaaaGreatDoor
/-
 Pipes:what a turn of one of them leaves;one looked up;its first free number.
-/
namespace Go.Proofs.YtjpjafajploiaaaGreatDoor
open Go.RowKit Own RegJ Two
open Go.Lib hiding intOf
def poRow (po:PRl→Option Nat) (i:Nat) (row:Option Nat):PRl→Option Nat:=fun r=> match r with
 | .row j=> if j=i then row else po (.row j)
 | .pp=> po .pp
 | .sl=> po .sl
 | .mp=> po .mp
 | .pi j=> po (.pi j)
 | .sh j=> po (.sh j)
 | .tk j=> po (.tk j)
theorem poRow_old {po:PRl→Option Nat} {i:Nat} {row:Option Nat} {r:PRl} {b:Nat} (h:poRow po i row r=some b):(po r=some b∧r≠ .row i)∨(r= .row i∧row=some b):=by
 cases r <;> simp only [poRow] at h
 case row j=>
  split at h
  ·rename_i e;exact .inr ⟨by rw [e],h⟩
  ·rename_i e;exact .inl ⟨h,by simpa using e⟩
 all_goals exact .inl ⟨h,by simp⟩
section
variable {w w' :World} {po:PRl→Option Nat} {fo:Nat→Nat} {ps:PS} {fb N:Nat}
theorem PpI.put (h:PpI w po fo ps fb N) {i:Nat} {p p' :Pi} (hp:ps i=some p) {k:Nat} (hk:po (.pi i)=some k) {v' :Value} {row' :Option Nat} (hb:Blk w' k #[.int .i64 (fo i),.int .i64 0,.int .i64 64,v',.int .i64 p'.rd,.int .i64 p'.wt] 234)
  (hr:RowV w' 5 v' (ucells p'.dt) row') (hl:p'.dt.length≤64) (hu:Upd (fun j=> j=k∨po (.row i)=some j) w w') (hrow:∀g,row' =some g→po (.row i)=some g∨w.heap.size≤g):
  PpI w' (poRow po i row') fo (psPut ps i (some p')) fb N∧OFr po (poRow po i row') w w' :=by
 have hi4:=h.i4 hp
 have hsz:=hu.size
 have hne:∀r j,po r=some j→r≠ .pi i→r≠ .row i→¬(j=k∨po (.row i)=some j):=fun r j hj e1 e2 hh=> by
  rcases hh with hh | hh
  ·exact e1 (h.inj _ _ _ hj (by rw [hh];exact hk))
  ·exact e2 (h.inj _ _ _ hj hh)
 obtain ⟨pb,sl,mp,n,s,t1,t2,t3,t4,t5,t6,t7⟩:=h.top
 have hsome:∀j,(psPut ps i (some p') j).isSome=(ps j).isSome:=fun j=> by
  by_cases e:j=i
  ·subst e;rw [psPut_eq,hp];rfl
  ·rw [psPut_ne _ _ e]
 have hsh:shM (psPut ps i (some p')) fo (poRow po i row')=shM ps fo po:=by
  funext f
  unfold shM
  have e:atFr (psPut ps i (some p')) fo f=atFr ps fo f:=by
   unfold atFr
   congr 1
   funext j
   rw [hsome]
  rw [e]
  cases atFr ps fo f <;> rfl
 have key:∀j q,psPut ps i (some p') j=some q→∃q0,ps j=some q0:=fun j q hq=> by
  have:=hsome j
  rw [hq] at this
  exact Option.isSome_iff_exists.1 this.symm
 refine ⟨⟨fun r r' b h1 h2=> ?_,fun r b h1=> ?_,⟨pb,sl,mp,n,s,t1,t2,t3,Blk.upd hu t4 (hne _ _ t1 (by simp) (by simp)),Blk.upd hu t5 (hne _ _ t2 (by simp) (by simp)),by rw [hsh];exact t6.upd hu (hne _ _ t3 (by simp) (by simp)),t7⟩,fun j hj=> ?_,fun j hj=> ?_,fun j q hq=> ?_,fun j j' q q' hq hq' he=> ?_,fun j q hq=> ?_⟩,⟨hu.mono (fun j _ e=> ?_),fun r b h1=> ?_⟩⟩
 ·rcases poRow_old h1 with ⟨g1,e1⟩ | ⟨e1,g1⟩
  ·rcases poRow_old h2 with ⟨g2,e2⟩ | ⟨e2,g2⟩
   ·exact h.inj r r' b g1 g2
   ·rcases hrow b g2 with e | e
    ·exact absurd (h.inj _ _ _ g1 e) e1
    ·have:=h.lt r b g1;omega
  ·rcases poRow_old h2 with ⟨g2,e2⟩ | ⟨e2,g2⟩
   ·rcases hrow b g1 with e | e
    ·exact absurd (h.inj _ _ _ g2 e) e2
    ·have:=h.lt r' b g2;omega
   ·rw [e1,e2]
 ·rcases poRow_old h1 with ⟨g1,_⟩ | ⟨_,g1⟩
  ·have:=h.lt r b g1;omega
  ·exact hr.lt b g1
 ·have:=hsome j
  rw [hj] at this
  cases hj' :ps j with
  | none=> exact h.none' j hj'
  | some q=> rw [hj'] at this;cases this
 ·rw [psPut_ne _ _ (by omega)];exact h.far j hj
 ·by_cases e:j=i
  ·subst e
   rw [psPut_eq] at hq
   cases hq
   obtain ⟨k0,v,t,u,n,k1,k2,k3,k4,k5,k6,k7,k8,k9⟩:=h.pipe j p hp
   obtain rfl:k=k0:=by rw [hk] at k1;exact Option.some.inj k1
   refine ⟨k,v',t,u,n,k1,hb,?_,hl,k5,Blk.upd hu k6 (hne _ _ k5 (by simp) (by simp)),k7,k8.upd hu (hne _ _ k7 (by simp) (by simp)),k9⟩
   simp only [poRow,if_pos rfl]
   exact hr
  ·rw [psPut_ne _ _ e] at hq
   obtain ⟨k0,v,t,u,n,k1,k2,k3,k4,k5,k6,k7,k8,k9⟩:=h.pipe j q hq
   refine ⟨k0,v,t,u,n,k1,Blk.upd hu k2 (hne _ _ k1 (by simp [e]) (by simp)),?_,k4,k5,Blk.upd hu k6 (hne _ _ k5 (by simp) (by simp)),k7,k8.upd hu (hne _ _ k7 (by simp) (by simp)),k9⟩
   simp only [poRow,if_neg e]
   exact k3.upd hu (fun g hg=> hne _ _ hg (by simp) (by simp [e]))
 ·obtain ⟨q0,h0⟩:=key j q hq
  obtain ⟨q0',h0'⟩:=key j' q' hq'
  exact h.apart j j' q0 q0' h0 h0' he
 ·obtain ⟨q0,h0⟩:=key j q hq
  exact h.f64 j q0 h0
 ·rcases e with e | e
  ·exact ⟨.pi i,by rw [e];exact hk⟩
  ·exact ⟨.row i,e⟩
 ·rcases poRow_old h1 with ⟨g1,_⟩ | ⟨_,g1⟩
  ·exact .inl ⟨r,g1⟩
  ·exact (hrow b g1).imp (fun e=> ⟨.row i,e⟩) id
theorem psN_some (ps:PS) {i:Nat} (hi:i < 4) {p p' :Pi} (hp:ps i=some p):psN (psPut ps i (some p')) 4=psN ps 4:=by
 have:=psN_put ps i (some p') 4 hi
 rw [hp] at this
 simpa using this
theorem pOth_some (ps:PS) (fo:Nat→Nat) {i:Nat} {p p' :Pi} (hp:ps i=some p) (f:Nat):pOth (psPut ps i (some p')) fo f↔pOth ps fo f:=by
 constructor
 ·rintro ⟨j,q,hq,hf⟩
  by_cases e:j=i
  ·exact ⟨i,p,hp,by rw [←e];exact hf⟩
  ·rw [psPut_ne _ _ e] at hq;exact ⟨j,q,hq,hf⟩
 ·rintro ⟨j,q,hq,hf⟩
  by_cases e:j=i
  ·exact ⟨i,p',psPut_eq _ _ _,by rw [←e];exact hf⟩
  ·exact ⟨j,q,by rw [psPut_ne _ _ e];exact hq,hf⟩
theorem psAt_some {ps:PS} {id:Int} {p:Pi} (h:psAt ps id=some p):∃i:Nat,id=i∧ps i=some p:=by
 unfold psAt at h
 split at h
 ·exact ⟨id.toNat,by omega,h⟩
 ·cases h
set_option maxRecDepth 100000 in
theorem pp_find (h:PpI w po fo ps fb N) {pb:Nat} (hpb:po .pp=some pb) (id:Int):
  Calls Tryz.prog 135 #[.pointer (some ⟨pb,0,none⟩),.int .i64 id] w fun e w' => e= .returned (.tuple #[match psAt ps id with | some _=> ptr (po (.pi id.toNat)) | none=> .pointer none,.int .i64 (match psAt ps id with | some _=> 0 | none=> 4)])∧w=w' :=by
 by_cases hr:0≤id∧id < 4
 ·obtain ⟨i,rfl⟩:=Int.eq_ofNat_of_zero_le hr.1
  have hi:i < 4:=by omega
  have c1:=h.slot hpb hi
  have d1:decide ((i:Int) < 0)=false:=by simp
  have d2:decide ((i:Int)≥4)=false:=by simp;omega
  have d2n:decide (i≥4)=false:=by simp;omega
  have i1:(i:Int) < 4:=by omega
  have i2:(0:Int)≤i:=by omega
  have hat:psAt ps i=ps i:=by unfold psAt;rw [if_pos (by omega)];simp
  rw [hat]
  simp only [Int.toNat_natCast]
  cases hp:ps i with
  | none=>
   rw [h.none' i hp] at c1
   unfold ptr at c1
   clear h hpb hp hat hr
   go_enter Tryz.func135,Tryz.ntmps135
   go_wp2_with (fail)
   go_ret2
   exact ⟨rfl,rfl⟩
  | some p=>
   obtain ⟨k,v,t,u,n,k1,_⟩:=h.pipe i p hp
   rw [k1] at c1 ⊢
   unfold ptr at c1 ⊢
   clear h hpb hp hat hr k1
   go_enter Tryz.func135,Tryz.ntmps135
   go_wp2_with (fail)
   go_ret2
   exact ⟨rfl,rfl⟩
 ·have hat:psAt ps id=none:=by
   unfold psAt
   by_cases h0:0≤id
   ·rw [if_pos h0];exact h.far _ (by omega)
   ·rw [if_neg h0]
  rw [hat]
  by_cases h0:id < 0
  ·have d1:decide (id < 0)=true:=by simpa using h0
   clear h hpb hat hr h0
   go_enter Tryz.func135,Tryz.ntmps135
   go_wp2_with (fail)
   go_ret2
   exact ⟨rfl,rfl⟩
  ·have d1:decide (id < 0)=false:=by simpa using h0
   have d2:decide (id≥4)=true:=by simp;omega
   clear h hpb hat hr h0
   go_enter Tryz.func135,Tryz.ntmps135
   go_wp2_with (fail)
   go_ret2
   exact ⟨rfl,rfl⟩
def pfreeI (ps:PS) (r:Int):Prop:=(r= -1∧∀j,j < 4→ps j≠none)∨∃i:Nat,r=i∧i < 4∧ps i=none∧∀j,j < i→ps j≠none
theorem pnil_eq (k:Nat) (w:World):(binOp .eql 155 (.pointer none) (.pointer (some ⟨k,0,none⟩))).run Tryz.prog w= .ok (.bool false) w:=by kernel_rfl
set_option maxRecDepth 100000 in
theorem pp_index (h:PpI w po fo ps fb N) {pb:Nat} (hpb:po .pp=some pb):Calls Tryz.prog 150 #[.slice (some ⟨pb,1,none⟩) 4 4,.pointer none] w fun e w' => (∃r,e= .returned (.int .i64 r)∧pfreeI ps r)∧Below w.heap.size w w' :=by
 have H:=Lib.hid (And.intro h hpb)
 clear h hpb
 go_enter Tryz.func150,Tryz.ntmps150
 go_wp2
 go_loopw [8] (fun v8 wr=> ∃i:Nat,i≤4∧v8= .int .i64 i∧Hid (∀j,j < i→ps j≠none)∧wr=w) (fun v8 _=> 4 - (intOf v8).toNat)
 case atStart=> exact ⟨0,by omega,rfl,Lib.hid (fun j hj=> by omega),rfl⟩
 case round=>
  obtain ⟨i,hi,rfl,HA,rfl⟩:=hrel
  by_cases hil:i < 4
  ·have d1:decide ((i:Int) < 4)=true:=by simp;omega
   have d1n:decide (i < 4)=true:=by simp;omega
   have i1:(i:Int) < 4:=by omega
   have i2:(0:Int)≤i:=by omega
   have c1:=H.out.1.slot H.out.2 hil
   cases hn:ps i with
   | none=>
    rw [H.out.1.none' i hn] at c1
    have HE:=Lib.hid hn
    clear hn
    unfold ptr at c1
    go_wp2_with (fail)
    go_ret
    exact ⟨⟨_,rfl,Or.inr ⟨i,rfl,hil,HE.out,HA.out⟩⟩,Below.refl _ _⟩
   | some nd=>
    obtain ⟨k,v,t,u,n,k1,_⟩:=H.out.1.pipe i nd hn
    rw [k1] at c1
    have HE:=Lib.hid hn
    clear hn k1
    unfold ptr at c1
    have hcm:=pnil_eq k
    go_wp2_with (fail)
    go_roundw
    case rel=> exact ⟨i+1,by omega,by go_num,Lib.hid (fun j hj=> by
     by_cases hji:j < i
     ·exact HA.out j hji
     ·have:j=i:=by omega
      subst this;rw [HE.out];simp),by trivial⟩
    case measure=> simp [intOf];omega
  ·have hie:i=4:=by omega
   subst hie
   go_wp2_with (fail)
   go_ret
   exact ⟨⟨_,rfl,Or.inl ⟨rfl,HA.out⟩⟩,Below.refl _ _⟩
end
end Go.Proofs.YtjpjafajploiaaaGreatDoor
/-
 Pipes:one made,one gone:what is left of the others.
-/
namespace Go.Proofs.YtjpjafajploiaaaGreatDoor
open Go.RowKit Own RegJ Two
open Go.Lib hiding intOf
def poAdd (po:PRl→Option Nat) (i k t u:Nat):PRl→Option Nat:=fun r=> match r with
 | .row j=> if j=i then none else po (.row j)
 | .pp=> po .pp
 | .sl=> po .sl
 | .mp=> po .mp
 | .pi j=> if j=i then some k else po (.pi j)
 | .sh j=> if j=i then some t else po (.sh j)
 | .tk j=> if j=i then some u else po (.tk j)
theorem poAdd_old {po:PRl→Option Nat} {i k t u:Nat} {r:PRl} {b:Nat} (h:poAdd po i k t u r=some b):(po r=some b∧r≠ .pi i∧r≠ .sh i∧r≠ .tk i∧r≠ .row i)∨(r= .pi i∧b=k)∨(r= .sh i∧b=t)∨(r= .tk i∧b=u):=by
 cases r <;> simp only [poAdd] at h
 case row j=>
  split at h
  ·cases h
  ·rename_i e;exact .inl ⟨h,by simp,by simp,by simp,by simpa using e⟩
 case pi j=>
  split at h
  ·rename_i e;cases h;exact .inr (.inl ⟨by rw [e],rfl⟩)
  ·rename_i e;exact .inl ⟨h,by simpa using e,by simp,by simp,by simp⟩
 case sh j=>
  split at h
  ·rename_i e;cases h;exact .inr (.inr (.inl ⟨by rw [e],rfl⟩))
  ·rename_i e;exact .inl ⟨h,by simp,by simpa using e,by simp,by simp⟩
 case tk j=>
  split at h
  ·rename_i e;cases h;exact .inr (.inr (.inr ⟨by rw [e],rfl⟩))
  ·rename_i e;exact .inl ⟨h,by simp,by simp,by simpa using e,by simp⟩
 all_goals exact .inl ⟨h,by simp,by simp,by simp,by simp⟩
def foPut (fo:Nat→Nat) (i f:Nat):Nat→Nat:=fun j=> if j=i then f else fo j
theorem foPut_eq (fo:Nat→Nat) (i f:Nat):foPut fo i f i=f:=if_pos rfl
theorem foPut_ne (fo:Nat→Nat) {i j:Nat} (f:Nat) (h:j≠i):foPut fo i f j=fo j:=if_neg h
theorem atFr_uniq {ps:PS} {fo:Nat→Nat} (ha:∀i j p q,ps i=some p→ps j=some q→fo i=fo j→i=j) {i:Nat} (hi:i < 4) {p:Pi} (hp:ps i=some p):atFr ps fo (fo i)=some i:=by
 cases hf:atFr ps fo (fo i) with
 | none=> exact absurd rfl (atFr_none hf hi hp)
 | some j=>
  obtain ⟨h1,q,hq,he⟩:=atFr_some hf
  rw [ha i j p q hp hq (by omega)]
theorem atFr_no {ps:PS} {fo:Nat→Nat} {f:Int} (h:∀j p,j < 4→ps j=some p→(fo j:Int)≠f):atFr ps fo f=none:=by
 cases hf:atFr ps fo f with
 | none=> rfl
 | some j=>
  obtain ⟨h1,q,hq,he⟩:=atFr_some hf
  exact absurd he (h j q h1 hq)
section
variable {w w' :World} {po:PRl→Option Nat} {fo:Nat→Nat} {ps:PS} {fb N N' :Nat}
theorem PpI.sl_ne (h:PpI w po fo ps fb N) {r r' :PRl} {b b' :Nat} (hr:po r=some b) (hr' :po r' =some b') (hn:r≠r'):b≠b' :=fun e=> hn (h.inj r r' b hr (e▸hr'))
theorem PpI.add (h:PpI w po fo ps fb N) (hN:N≤N') {i:Nat} (hi:i < 4) (hn:ps i=none) {f k t u nu n' s' :Nat} (hf:f < 64) (hff:∀j p,ps j=some p→fo j≠f) (hk:(∀r b,po r=some b→b≠k∧b≠t∧b≠u)∧k≠t∧k≠u∧t≠u)
  {pb sl mp:Nat} (t1:po .pp=some pb) (t2:po .sl=some sl) (t3:po .mp=some mp) (hpb:Blk w' pb ((ppC po sl).setIfInBounds (1+i) (.pointer (some ⟨k,0,none⟩))) 158) {G:Nat→Prop} (hu:Upd G w w') (hne:∀r j,po r=some j→r≠ .pp→r≠ .mp→¬G j)
  (hm:MapI w' Tryz.prog 3 mp n' s' (mput (shM ps fo po) f (.pointer (some ⟨t,0,none⟩)))) (hn' :n' ≤N' ∧s' ≤N') (hb:Blk w' k #[.int .i64 f,.int .i64 0,.int .i64 64,.slice none 0 0,.int .i64 1,.int .i64 1] 234)
  (hs:Blk w' t #[.int .i64 64,.map (some u)] 303) (hmu:MapI w' Tryz.prog 3 u nu 1 tkM) (hnu:nu≤N'):
  PpI w' (poAdd po i k t u) (foPut fo i f) (psPut ps i (some ⟨[],1,1⟩)) fb N' :=by
 obtain ⟨pb',sl',mp',n,s,q1,q2,q3,q4,q5,q6,q7⟩:=h.top
 obtain rfl:pb=pb' :=by rw [t1] at q1;exact Option.some.inj q1
 obtain rfl:sl=sl' :=by rw [t2] at q2;exact Option.some.inj q2
 obtain rfl:mp=mp' :=by rw [t3] at q3;exact Option.some.inj q3
 have hsz:=hu.size
 have hold:∀j q,psPut ps i (some ⟨[],1,1⟩) j=some q→(j=i∧q=⟨[],1,1⟩)∨(j≠i∧ps j=some q):=fun j q hq=> by
  by_cases e:j=i
  ·subst e;rw [psPut_eq] at hq;cases hq;exact .inl ⟨rfl,rfl⟩
  ·rw [psPut_ne _ _ e] at hq;exact .inr ⟨e,hq⟩
 have hap:∀j j' q q',psPut ps i (some ⟨[],1,1⟩) j=some q→psPut ps i (some ⟨[],1,1⟩) j' =some q' →foPut fo i f j=foPut fo i f j' →j=j' :=fun j j' q q' hq hq' he=> by
  rcases hold j q hq with ⟨rfl,_⟩ | ⟨e1,g1⟩
  ·rcases hold j' q' hq' with ⟨rfl,_⟩ | ⟨e2,g2⟩
   ·rfl
   ·rw [foPut_eq,foPut_ne _ _ e2] at he
    exact absurd he.symm (hff j' q' g2)
  ·rcases hold j' q' hq' with ⟨rfl,_⟩ | ⟨e2,g2⟩
   ·rw [foPut_eq,foPut_ne _ _ e1] at he
    exact absurd he (hff j q g1)
   ·rw [foPut_ne _ _ e1,foPut_ne _ _ e2] at he
    exact h.apart j j' q q' g1 g2 he
 have hsh:shM (psPut ps i (some ⟨[],1,1⟩)) (foPut fo i f) (poAdd po i k t u)=mput (shM ps fo po) f (.pointer (some ⟨t,0,none⟩)):=by
  funext x
  unfold mput
  by_cases e:x=(f:Int)
  ·subst e
   rw [if_pos rfl]
   unfold shM
   have h1:=atFr_uniq hap hi (psPut_eq ps i (some (⟨[],1,1⟩:Pi)))
   rw [foPut_eq] at h1
   rw [h1]
   simp [poAdd,ptr]
  ·rw [if_neg e]
   unfold shM
   cases ha:atFr ps fo x with
   | none=>
    have hz:atFr (psPut ps i (some ⟨[],1,1⟩)) (foPut fo i f) x=none:=atFr_no (fun j q hj hq=> by
     rcases hold j q hq with ⟨rfl,_⟩ | ⟨e1,g1⟩
     ·rw [foPut_eq];exact fun e2=> e e2.symm
     ·rw [foPut_ne _ _ e1];exact atFr_none ha hj g1)
    rw [hz]
    rfl
   | some j=>
    obtain ⟨h1,q,hq,he⟩:=atFr_some ha
    have hji:j≠i:=fun e2=> by rw [e2,hn] at hq;cases hq
    have h2:=atFr_uniq hap h1 (show psPut ps i (some ⟨[],1,1⟩) j=some q by rw [psPut_ne _ _ hji];exact hq)
    rw [foPut_ne _ _ hji,he] at h2
    rw [h2]
    simp [poAdd,hji]
 have hpc:ppC (poAdd po i k t u) sl=(ppC po sl).setIfInBounds (1+i) (.pointer (some ⟨k,0,none⟩)):=by
  have:i=0∨i=1∨i=2∨i=3:=by omega
  rcases this with rfl | rfl | rfl | rfl <;> rfl
 have hl:=h.lt
 refine ⟨fun r r' b h1 h2=> ?_,fun r b h1=> ?_,⟨pb,sl,mp,n',s',t1,t2,t3,by rw [hpc];exact hpb,Blk.upd hu q5 (hne _ _ t2 (by simp) (by simp)),by rw [hsh];exact hm,hn'⟩,fun j hj=> ?_,fun j hj=> ?_,fun j q hq=> ?_,hap,fun j q hq=> ?_⟩
 ·rcases poAdd_old h1 with ⟨g1,e1⟩ | ⟨e1,g1⟩ | ⟨e1,g1⟩ | ⟨e1,g1⟩ <;> rcases poAdd_old h2 with ⟨g2,e2⟩ | ⟨e2,g2⟩ | ⟨e2,g2⟩ | ⟨e2,g2⟩
  case inl.inl=> exact h.inj r r' b g1 g2
  case inl.inr.inl=> exact absurd g2 (hk.1 r b g1).1
  case inl.inr.inr.inl=> exact absurd g2 (hk.1 r b g1).2.1
  case inl.inr.inr.inr=> exact absurd g2 (hk.1 r b g1).2.2
  case inr.inl.inl=> exact absurd g1 (hk.1 r' b g2).1
  case inr.inr.inl.inl=> exact absurd g1 (hk.1 r' b g2).2.1
  case inr.inr.inr.inl=> exact absurd g1 (hk.1 r' b g2).2.2
  all_goals first | (rw [e1,e2];done) | (exfalso;have:=hk.2;omega)
 ·rcases poAdd_old h1 with ⟨g1,e1⟩ | ⟨e1,g1⟩ | ⟨e1,g1⟩ | ⟨e1,g1⟩
  ·have:=hl r b g1;omega
  ·rw [g1];exact hb.lt
  ·rw [g1];exact hs.lt
  ·rw [g1];exact hmu.lt
 ·have hji:j≠i:=fun e=> by rw [e,psPut_eq] at hj;cases hj
  rw [psPut_ne _ _ hji] at hj
  simp only [poAdd,if_neg hji]
  exact h.none' j hj
 ·rw [psPut_ne _ _ (by omega)];exact h.far j hj
 ·rcases hold j q hq with ⟨rfl,rfl⟩ | ⟨e,hq⟩
  ·refine ⟨k,.slice none 0 0,t,u,nu,by simp [poAdd],by rw [foPut_eq];exact hb,?_,by simp,by simp [poAdd],hs,by simp [poAdd],hmu,hnu⟩
   exact .inl ⟨rfl,rfl,by simp [poAdd]⟩
  ·obtain ⟨k0,v,t0,u0,n0,k1,k2,k3,k4,k5,k6,k7,k8,k9⟩:=h.pipe j q hq
   refine ⟨k0,v,t0,u0,n0,by simp [poAdd,e,k1],by rw [foPut_ne _ _ e];exact Blk.upd hu k2 (hne _ _ k1 (by simp) (by simp)),?_,k4,by simp [poAdd,e,k5],Blk.upd hu k6 (hne _ _ k5 (by simp) (by simp)),by simp [poAdd,e,k7],k8.upd hu (hne _ _ k7 (by simp) (by simp)),by omega⟩
   simp only [poAdd,if_neg e]
   exact k3.upd hu (fun g hg=> hne _ _ hg (by simp) (by simp))
 ·rcases hold j q hq with ⟨rfl,rfl⟩ | ⟨e,hq⟩
  ·rw [foPut_eq];exact hf
  ·rw [foPut_ne _ _ e];exact h.f64 j q hq
def poDel (po:PRl→Option Nat) (i:Nat):PRl→Option Nat:=fun r=> match r with
 | .row j=> if j=i then none else po (.row j)
 | .pp=> po .pp
 | .sl=> po .sl
 | .mp=> po .mp
 | .pi j=> if j=i then none else po (.pi j)
 | .sh j=> if j=i then none else po (.sh j)
 | .tk j=> if j=i then none else po (.tk j)
theorem poDel_old {po:PRl→Option Nat} {i:Nat} {r:PRl} {b:Nat} (h:poDel po i r=some b):po r=some b∧r≠ .pi i∧r≠ .sh i∧r≠ .tk i∧r≠ .row i:=by
 cases r <;> simp only [poDel] at h
 case row j=>
  split at h
  ·cases h
  ·rename_i e;exact ⟨h,by simp,by simp,by simp,by simpa using e⟩
 case pi j=>
  split at h
  ·cases h
  ·rename_i e;exact ⟨h,by simpa using e,by simp,by simp,by simp⟩
 case sh j=>
  split at h
  ·cases h
  ·rename_i e;exact ⟨h,by simp,by simpa using e,by simp,by simp⟩
 case tk j=>
  split at h
  ·cases h
  ·rename_i e;exact ⟨h,by simp,by simp,by simpa using e,by simp⟩
 all_goals exact ⟨h,by simp,by simp,by simp,by simp⟩
theorem PpI.del (h:PpI w po fo ps fb N) {i:Nat} (hi:i < 4) {p:Pi} (hp:ps i=some p) {pb sl mp n' s' :Nat} (t1:po .pp=some pb) (t2:po .sl=some sl) (t3:po .mp=some mp) (hpb:Blk w' pb ((ppC po sl).setIfInBounds (1+i) (.pointer none)) 158)
  {G:Nat→Prop} (hu:Upd G w w') (hne:∀r j,po r=some j→r≠ .pp→r≠ .mp→r≠ .pi i→r≠ .tk i→¬G j) (hm:MapI w' Tryz.prog 3 mp n' s' (mdel (shM ps fo po) (fo i))) (hn' :n' ≤N∧s' ≤N):
  PpI w' (poDel po i) fo (psPut ps i none) fb N:=by
 obtain ⟨pb',sl',mp',n,s,q1,q2,q3,q4,q5,q6,q7⟩:=h.top
 obtain rfl:pb=pb' :=by rw [t1] at q1;exact Option.some.inj q1
 obtain rfl:sl=sl' :=by rw [t2] at q2;exact Option.some.inj q2
 obtain rfl:mp=mp' :=by rw [t3] at q3;exact Option.some.inj q3
 have hsz:=hu.size
 have hold:∀j q,psPut ps i none j=some q→j≠i∧ps j=some q:=fun j q hq=> by
  by_cases e:j=i
  ·subst e;rw [psPut_eq] at hq;cases hq
  ·rw [psPut_ne _ _ e] at hq;exact ⟨e,hq⟩
 have hap:∀j j' q q',psPut ps i none j=some q→psPut ps i none j' =some q' →fo j=fo j' →j=j' :=fun j j' q q' hq hq' he=> h.apart j j' q q' (hold j q hq).2 (hold j' q' hq').2 he
 have hsh:shM (psPut ps i none) fo (poDel po i)=mdel (shM ps fo po) (fo i):=by
  funext x
  unfold mdel
  by_cases e:x=(fo i:Int)
  ·subst e
   rw [if_pos rfl]
   unfold shM
   have hz:atFr (psPut ps i none) fo (fo i)=none:=atFr_no (fun j q hj hq he=> by
    obtain ⟨g1,g2⟩:=hold j q hq
    exact g1 (h.apart j i q p g2 hp (by omega)))
   rw [hz]
   rfl
  ·rw [if_neg e]
   unfold shM
   cases ha:atFr ps fo x with
   | none=>
    have hz:atFr (psPut ps i none) fo x=none:=atFr_no (fun j q hj hq=> by
     obtain ⟨g1,g2⟩:=hold j q hq
     exact atFr_none ha hj g2)
    rw [hz]
    rfl
   | some j=>
    obtain ⟨h1,q,hq,he⟩:=atFr_some ha
    have hji:j≠i:=fun e2=> by rw [e2] at he;exact e he.symm
    have h2:=atFr_uniq hap h1 (show psPut ps i none j=some q by rw [psPut_ne _ _ hji];exact hq)
    rw [he] at h2
    rw [h2]
    simp [poDel,hji]
 have hpc:ppC (poDel po i) sl=(ppC po sl).setIfInBounds (1+i) (.pointer none):=by
  have:i=0∨i=1∨i=2∨i=3:=by omega
  rcases this with rfl | rfl | rfl | rfl <;> rfl
 refine ⟨fun r r' b h1 h2=> h.inj r r' b (poDel_old h1).1 (poDel_old h2).1,fun r b h1=> ?_,⟨pb,sl,mp,n',s',t1,t2,t3,by rw [hpc];exact hpb,Blk.upd hu q5 (hne _ _ t2 (by simp) (by simp) (by simp) (by simp)),by rw [hsh];exact hm,hn'⟩,fun j hj=> ?_,fun j hj=> ?_,fun j q hq=> ?_,hap,fun j q hq=> h.f64 j q (hold j q hq).2⟩
 ·have:=h.lt r b (poDel_old h1).1;omega
 ·by_cases e:j=i
  ·simp [poDel,e]
  ·rw [psPut_ne _ _ e] at hj
   simp only [poDel,if_neg e]
   exact h.none' j hj
 ·rw [psPut_ne _ _ (by omega)];exact h.far j hj
 ·obtain ⟨e,hq⟩:=hold j q hq
  obtain ⟨k0,v,t0,u0,n0,k1,k2,k3,k4,k5,k6,k7,k8,k9⟩:=h.pipe j q hq
  refine ⟨k0,v,t0,u0,n0,by simp [poDel,e,k1],Blk.upd hu k2 (hne _ _ k1 (by simp) (by simp) (by simp [e]) (by simp)),?_,k4,by simp [poDel,e,k5],Blk.upd hu k6 (hne _ _ k5 (by simp) (by simp) (by simp) (by simp)),by simp [poDel,e,k7],k8.upd hu (hne _ _ k7 (by simp) (by simp) (by simp) (by simp [e])),k9⟩
  simp only [poDel,if_neg e]
  exact k3.upd hu (fun g hg=> hne _ _ hg (by simp) (by simp) (by simp) (by simp))
end
end Go.Proofs.YtjpjafajploiaaaGreatDoor
