/-
  Processes, descriptors, files, pipes: all of it, plain: what each act answers and what it leaves.
-/
import Derived.Test.YtjpjafajploiaaaGreatDoorUnixAlone35
import Derived.Test.YtjpjafajploiaaaGreatDoorUnixAlone28
import Derived.Test.YtjpjafajploiaaaGreatDoorUnixAlone26
import Derived.Test.YtjpjafajploiaaaGreatDoorUnixAlone36
import Derived.Test.YtjpjafajploiaaaGreatDoorUnixAlone31
import Derived.Test.YtjpjafajploiaaaGreatDoorUnixAlone29
set_option linter.unusedSimpArgs false
set_option linter.unusedVariables false
namespace Go.Proofs.YtjpjafajploiaaaGreatDoor
open Go.RowKit Own RegJ Two
open Go.Lib hiding intOf
structure Z where
 pr:Int→Option (Nat→Option Nat)
 th:Nat→Th
 nx:Nat
 ns:NSt
 ps:PS
def Z.putp (z:Z) (pid:Int) (f:Option (Nat→Option Nat)):Z:= {z with pr:=fun i=> if i=pid then f else z.pr i}
def Z.putt (z:Z) (k:Nat) (t:Th):Z:= {z with th:=upN z.th k t}
def fdZ (f:Nat→Option Nat) (d:Int):Option Nat:=if 0≤d∧d < 8 then f d.toNat else none
def Z.on {α:Type} (z:Z) (pid d:Int) (bad:Int→α) (k:(Nat→Option Nat)→Nat→α):α:=match z.pr pid with
 | none=> bad 4
 | some f=> match fdZ f d with
  | none=> bad 8
  | some x=> k f x
def Z.name (z:Z) (pid:Int) (f:Nat→Option Nat) (d:Nat) (t:Th):Z:=⟨fun i=> if i=pid then some (upN f d (some z.nx)) else z.pr i,upN z.th z.nx t,z.nx+1,z.ns,z.ps⟩
def freeZ (cap:Nat) (z:Z):Nat:=cap - psN z.ps 4 - usedN (filesOf z.ns) 16
def startZ (z:Z) (pid:Int):Int×Z:=if pid < 0 then (2,z) else if (z.pr pid).isSome then (5,z) else (0,z.putp pid (some fun _=> none))
def bumpZ (th:Nat→Th) (f:Nat→Option Nat):Nat→Nat→Th
 | 0=> th
 | i+1=> match f i with
  | some x=> upN (bumpZ th f i) x {bumpZ th f i x with nm:=(bumpZ th f i x).nm+1}
  | none=> bumpZ th f i
def copyZ (z:Z) (p q:Int):Int×Z:=match z.pr p with
 | none=> (4,z)
 | some f=> if q < 0 then (2,z) else if (z.pr q).isSome then (5,z) else (0,{z.putp q (some f) with th:=bumpZ z.th f 8})
def dropT (z:Z) (k:Nat):Z:=if 2≤(z.th k).nm then z.putt k {z.th k with nm:=(z.th k).nm - 1}
 else if (z.th k).pp then {z.putt k {z.th k with nm:=(z.th k).nm - 1} with ps:=(pcloseF z.ps (z.th k).id (z.th k).wr).2}
 else {z.putt k {z.th k with nm:=(z.th k).nm - 1} with ns:=(closeF z.ns (z.th k).id).2}
def dropZ (z:Z) (pid:Int) (f:Nat→Option Nat) (d k:Nat):Z:=dropT (z.putp pid (some (upN f d none))) k
def closeZ (z:Z) (pid d:Int):Int×Z:=z.on pid d (fun e=> (e,z)) fun f k=> (0,dropZ z pid f d.toNat k)
def leaveN (z:Z) (pid:Int):Nat→Z
 | 0=> z
 | i+1=> match (leaveN z pid i).pr pid with
  | none=> leaveN z pid i
  | some f=> match f i with
   | none=> leaveN z pid i
   | some k=> dropZ (leaveN z pid i) pid f i k
def leaveZ (z:Z) (pid:Int):Int×Z:=match z.pr pid with
 | none=> (4,z)
 | some _=> (0,(leaveN z pid 8).putp pid none)
def openZ (z:Z) (pid:Int) (l:Txt) (n:Int):Int×Int×Z:=match z.pr pid with
 | none=> (0,4,z)
 | some f=> match freeL f 8 with
  | []=> (0,14,z)
  | d::_=> if (openF z.ns l n).2.1=0 then (d,0,({z with ns:=(openF z.ns l n).2.2}:Z).name pid f d.toNat ⟨false,false,(openF z.ns l n).1,0,flE n,1⟩)
   else (0,(openF z.ns l n).2.1,{z with ns:=(openF z.ns l n).2.2})
def pipeZ (cap:Nat) (z:Z) (pid:Int):Int×Int×Z:=match z.pr pid with
 | none=> (0,4,z)
 | some f=> match freeL f 8 with
  | d1::d2::_=> if (pmakeF (freeZ cap z) z.ps).2.1=0 then (16*d1+d2,0,(({z with ps:=(pmakeF (freeZ cap z) z.ps).2.2}:Z).name pid f d1.toNat ⟨true,false,(pmakeF (freeZ cap z) z.ps).1,0,false,1⟩).name pid (upN f d1.toNat (some z.nx)) d2.toNat ⟨true,true,(pmakeF (freeZ cap z) z.ps).1,0,false,1⟩)
   else (0,(pmakeF (freeZ cap z) z.ps).2.1,{z with ps:=(pmakeF (freeZ cap z) z.ps).2.2})
  | _=> (0,14,z)
def dupZ (z:Z) (pid d:Int):Int×Int×Z:=z.on pid d (fun e=> (0,e,z)) fun f k=> match freeL f 8 with
 | []=> (0,14,z)
 | d2::_=> (d2,0,(z.putp pid (some (upN f d2.toNat (some k)))).putt k {z.th k with nm:=(z.th k).nm+1})
def seekZ (z:Z) (pid d off:Int):Int×Z:=z.on pid d (fun e=> (e,z)) fun _ k=> if (z.th k).pp=true∨off < 0 then (19,z) else (0,z.putt k {z.th k with pl:=off})
def readZ (z:Z) (pid d n:Int):List Int×Int×Z:=z.on pid d (fun e=> ([],e,z)) fun _ k=>
 if (z.th k).wr=true then ([],8,z)
 else if (z.th k).pp=true then ((preadF z.ps (z.th k).id n).1,(preadF z.ps (z.th k).id n).2.1,{z with ps:=(preadF z.ps (z.th k).id n).2.2})
 else ((readV (filesOf z.ns) (z.th k).id (z.th k).pl n).1,(readV (filesOf z.ns) (z.th k).id (z.th k).pl n).2,z.putt k {z.th k with pl:=(z.th k).pl+((readV (filesOf z.ns) (z.th k).id (z.th k).pl n).1.length:Int)})
def atZ (ns:NSt) (t:Th):Int:=if t.en=true then (sizeV (filesOf ns) t.id).1 else t.pl
def writeZ (cap:Nat) (z:Z) (pid d:Int) (b:List Int):Int×Int×Z:=z.on pid d (fun e=> (0,e,z)) fun _ k=>
 if (z.th k).pp=true then (if (z.th k).wr=true then (if (pwriteF z.ps (z.th k).id b).1=0 then ((b.length:Int),0,{z with ps:=(pwriteF z.ps (z.th k).id b).2}) else (0,(pwriteF z.ps (z.th k).id b).1,{z with ps:=(pwriteF z.ps (z.th k).id b).2})) else (0,8,z))
 else if (wrF z.ns (cap - psN z.ps 4) (z.th k).id (atZ z.ns (z.th k)) b).1=0 then ((b.length:Int),0,({z with ns:=(wrF z.ns (cap - psN z.ps 4) (z.th k).id (atZ z.ns (z.th k)) b).2}:Z).putt k {z.th k with pl:=atZ z.ns (z.th k)+(b.length:Int)})
 else (0,(wrF z.ns (cap - psN z.ps 4) (z.th k).id (atZ z.ns (z.th k)) b).1,{z with ns:=(wrF z.ns (cap - psN z.ps 4) (z.th k).id (atZ z.ns (z.th k)) b).2})
def usedZ (z:Z) (pid:Int):List Int:=match z.pr pid with
 | none=> []
 | some f=> usedL f 8
end Go.Proofs.YtjpjafajploiaaaGreatDoor
namespace Go.Proofs.YtjpjafajploiaaaGreatDoor
open Go.RowKit Own RegJ Two
open Go.Lib hiding intOf
section
variable {cap:Nat} {w0 w w1 w2 w' :World} {O O1:Nat→Prop} {fdb vb tb fb sb pb mb:Nat} {ns ns' :NSt} {c c' N N' M M' :Nat} {S S' :FS} {ps ps' :PS} {po:PRl→Option Nat} {fo:Nat→Nat}
theorem ex_start (h:EX cap w0 O fdb vb tb fb sb pb mb ns c N M S ps w) (hN:N≤100000) (pid:Int) (hw:(Lit.int .i64 pid).wf=true) (h0:0≤pid) (hp:S.pr pid=none):
  Calls Tryz.prog 39 #[.pointer (some ⟨fdb,0,none⟩),.int .i64 pid] w fun e w' => ∃b,w.heap.size≤b∧EP cap w0 O fdb vb tb fb sb pb mb ns c (N+1) M (S.start pid b) ps w (.int .i64 0) e w' :=by
 obtain ⟨po,fo,O1,h1,h2,h3,h4,h5,h6⟩:=h
 letI C:Inhabited CapT:=capP cap ps fo
 refine (k_start h1 hN pid hw h0 hp).mono ?_
 rintro e w' ⟨b,hb,hq⟩
 exact ⟨b,hb,EX.lift h2 h3 h4 h5 h6 hq⟩
theorem ex_copy (h:EX cap w0 O fdb vb tb fb sb pb mb ns c N M S ps w) (hN:N≤100000) (pid q:Int) (hw:(Lit.int .i64 pid).wf=true) (hw2:(Lit.int .i64 q).wf=true) (h0:0≤q) (b:Nat) (hb:S.pr pid=some b) (hto:S.pr q=none) (hfew:Few S 100000):
  Calls Tryz.prog 56 #[.pointer (some ⟨fdb,0,none⟩),.int .i64 pid,.int .i64 q] w fun e w' => ∃b2,w.heap.size≤b2∧EP cap w0 O fdb vb tb fb sb pb mb ns c (N+1) M ((S.twin q b b2).bumps (S.sl b) 8) ps w (.int .i64 0) e w' :=by
 obtain ⟨po,fo,O1,h1,h2,h3,h4,h5,h6⟩:=h
 letI C:Inhabited CapT:=capP cap ps fo
 refine (k_copy h1 hN pid q hw hw2 h0 b hb hto hfew).mono ?_
 rintro e w' ⟨b,hb,hq⟩
 exact ⟨b,hb,EX.lift h2 h3 h4 h5 h6 hq⟩
def FS.drop (S:FS) (pid:Int):FS:=⟨fun i=> if i=pid then none else S.pr i,S.sl,S.th⟩
theorem FdB.drop (h:FdB w fdb vb pb mb N S) (pid:Int) {n s:Nat} (hm:MapI w' Tryz.prog 3 mb n s (mdel (fun i=> (S.pr i).map fun b=> .pointer (some ⟨b,0,none⟩)) pid)) (hn:n≤N) (hu:Upd (fun k=> k=mb) w w') (hne:∀k cs T,Blk w k cs T→¬k=mb):FdB w' fdb vb pb mb N (S.drop pid):=by
 have hs:∀i b,(S.drop pid).pr i=some b→S.pr i=some b:=fun i b hi=> by
  unfold FS.drop at hi
  simp only at hi
  split at hi
  ·cases hi
  ·exact hi
 refine ⟨Blk.upd hu h.f (hne _ _ _ h.f),⟨n,s,?_,hn⟩,fun i b hi=> Blk.upd hu (h.t i b (hs i b hi)) (hne _ _ _ (h.t i b (hs i b hi))),fun b t ht=> Blk.upd hu (h.x b t ht) (hne _ _ _ (h.x b t ht)),fun i b hi=> h.r i b (hs i b hi),fun i j b hi hj=> h.j i j b (hs i b hi) (hs j b hj)⟩
 have e:(fun i=> ((S.drop pid).pr i).map fun b=> Value.pointer (some ⟨b,0,none⟩))=mdel (fun i=> (S.pr i).map fun b=> .pointer (some ⟨b,0,none⟩)) pid:=by
  funext i
  unfold mdel FS.drop
  simp only
  split <;> rfl
 rw [e];exact hm
theorem MapI.blk {P:Program} {k:TypeId} {b n s:Nat} {m:Int→Option Value} (h:MapI w P k b n s m) {cs:Array Value} {T:TypeId} {j:Nat} (hb:Blk w j cs T):¬j=b:=by
 rintro rfl
 obtain ⟨D,⟨es,clock,hh,_⟩,_⟩:=h
 unfold Blk at hb
 rw [hb] at hh
 cases hh
end
theorem slabnew_is (fb:Nat) (w:World):Calls Tryz.prog 36 #[.pointer (some ⟨fb,0,none⟩)] w fun e w' => e= .returned (.pointer (some ⟨w.heap.size+1,0,none⟩))∧w' =(w.alloc (.map #[] 0)).alloc (.cells #[takeV fb,giveV fb,.map (some w.heap.size)] 162):=by
 have hmm:= @run_makeMap Tryz.prog
 go_enter Tryz.func36,Tryz.ntmps36
 go_wp2_with (fail)
 go_ret
 exact ⟨by simp,rfl⟩
theorem pipenew_is (kb:Nat) (w:World):Calls Tryz.prog 35 #[.pointer (some ⟨kb,0,none⟩)] w fun e w' => e= .returned (.pointer (some ⟨w.heap.size,0,none⟩))∧w' =w.alloc (.cells #[.pointer (some ⟨kb,0,none⟩),.pointer none,.pointer none,.pointer none,.pointer none] 158):=by
 go_enter Tryz.func35,Tryz.ntmps35
 go_wp2_with (fail)
 go_ret
 exact ⟨rfl,rfl⟩
end Go.Proofs.YtjpjafajploiaaaGreatDoor
/-
 Both,with the program's pipes known.
-/
namespace Go.Proofs.YtjpjafajploiaaaGreatDoor
open Go.RowKit Own RegJ Two
open Go.Lib hiding intOf
def ps00:PS:=fun _=> none
def po00 (s:Nat):PRl→Option Nat:=fun r=> match r with | .pp=> some (s+2) | .sl=> some (s+1) | .mp=> some s | _=> none
theorem PpI.new {w w' :World} {fb s:Nat} (hm:MapI w Tryz.prog 3 s 0 0 (fun _=> none)) (hsl:Blk w (s+1) #[takeV fb,giveV fb,.map (some s)] 162) (hpp:Blk w (s+2) #[.pointer (some ⟨s+1,0,none⟩),.pointer none,.pointer none,.pointer none,.pointer none] 158):PpI w (po00 s) (fun _=> 0) ps00 fb 0:=by
 refine ⟨fun r r' k h1 h2=> ?_,fun r k h1=> ?_,⟨s+2,s+1,s,0,0,rfl,rfl,rfl,hpp,hsl,?_,Nat.le_refl _,Nat.le_refl _⟩,fun i _=> rfl,fun _ _=> rfl,(fun i p hp=> by cases hp),(fun i j p q hp=> by cases hp),(fun i p hp=> by cases hp)⟩
 ·cases r <;> cases r' <;> simp [po00] at h1 h2 ⊢ <;> omega
 ·have a:=hpp.lt
  cases r <;> simp [po00] at h1 <;> omega
 ·have e:shM ps00 (fun _=> 0) (po00 s)=fun _=> none:=by
   funext f
   unfold shM
   rw [atFr_no (fun j p hj hp=> by cases hp)]
   rfl
  rw [e];exact hm
end Go.Proofs.YtjpjafajploiaaaGreatDoor
namespace Go.Proofs.YtjpjafajploiaaaGreatDoor
open Go.RowKit Own RegJ Two
open Go.Lib hiding intOf
def z00:Z:=⟨fun _=> none,fun _=> ⟨false,false,0,0,false,0⟩,0,ns0,ps00⟩
structure RZ (S:FS) (z:Z) (φ:Nat→Nat):Prop where
 p0:∀pid,(S.pr pid).isSome=(z.pr pid).isSome
 p1:∀pid b f,S.pr pid=some b→z.pr pid=some f→∀d,d < 8→S.sl b d=(f d).map φ
 t1:∀k,k < z.nx→S.th (φ k)=some (z.th k)
 t2:∀x t,S.th x=some t→∃k,k < z.nx∧x=φ k
 inj:∀j k,j < z.nx→k < z.nx→φ j=φ k→j=k
 rg:∀pid f,z.pr pid=some f→∀d k,f d=some k→k < z.nx∧d < 8
 jp:∀i j b,S.pr i=some b→S.pr j=some b→i=j
section
variable {S:FS} {z z' :Z} {φ:Nat→Nat} {pid:Int} {b d:Nat} {f:Nat→Option Nat}
theorem RZ.none' (h:RZ S z φ) (hp:z.pr pid=none):S.pr pid=none:=by
 have:=h.p0 pid
 rw [hp] at this
 cases hs:S.pr pid with
 | none=> rfl
 | some b=> rw [hs] at this;cases this
theorem RZ.some' (h:RZ S z φ) (hp:z.pr pid=some f):∃b,S.pr pid=some b∧∀d,d < 8→S.sl b d=(f d).map φ:=by
 have:=h.p0 pid
 rw [hp] at this
 cases hs:S.pr pid with
 | none=> rw [hs] at this;cases this
 | some b=> exact ⟨b,rfl,h.p1 pid b f hs hp⟩
theorem RZ.ns (h:RZ S z φ) (h1:z'.pr=z.pr) (h2:z'.th=z.th) (h3:z'.nx=z.nx):RZ S z' φ:=by
 obtain ⟨a,b,c,d,e,f,g⟩:=h
 refine ⟨?_,?_,?_,?_,?_,?_,g⟩
 ·rw [h1];exact a
 ·rw [h1];exact b
 ·rw [h2,h3];exact c
 ·rw [h3];exact d
 ·rw [h3];exact e
 ·rw [h1,h3];exact f
theorem putp_eq (z:Z) (pid:Int) (x:Option (Nat→Option Nat)):(z.putp pid x).pr pid=x:=if_pos rfl
theorem putp_ne (z:Z) {pid i:Int} (x:Option (Nat→Option Nat)) (h:i≠pid):(z.putp pid x).pr i=z.pr i:=if_neg h
theorem RZ.setsl (h:RZ S z φ) (hb:S.pr pid=some b) (hf:z.pr pid=some f) (hd:d < 8) (y:Option Nat) (hy:∀k,y=some k→k < z.nx):RZ (S.setsl b d (y.map φ)) (z.putp pid (some (upN f d y))) φ:=by
 refine ⟨fun i=> ?_,fun i c g hi hg e he=> ?_,h.t1,h.t2,h.inj,fun i g hg e k hk=> ?_,h.jp⟩
 ·by_cases e:i=pid
  ·subst e;rw [putp_eq];show (S.pr i).isSome=_;rw [hb];rfl
  ·rw [putp_ne _ _ e];exact h.p0 i
 ·by_cases e' :i=pid
  ·subst e'
   rw [putp_eq] at hg
   cases hg
   obtain rfl:b=c:=by rw [show (S.setsl b d (y.map φ)).pr i=S.pr i from rfl,hb] at hi;exact Option.some.inj hi
   show upN S.sl b (upN (S.sl b) d (y.map φ)) b e=_
   rw [upN_eq]
   by_cases e2:e=d
   ·subst e2;rw [upN_eq,upN_eq]
   ·rw [upN_ne _ _ e2,upN_ne _ _ e2];exact h.p1 i b f hb hf e he
  ·rw [putp_ne _ _ e'] at hg
   have hcb:c≠b:=fun e3=> e' (h.jp i pid c hi (by rw [e3];exact hb))
   show upN S.sl b (upN (S.sl b) d (y.map φ)) c e=_
   rw [upN_ne _ _ hcb]
   exact h.p1 i c g hi hg e he
 ·by_cases e' :i=pid
  ·subst e'
   rw [putp_eq] at hg
   cases hg
   by_cases e2:e=d
   ·subst e2;rw [upN_eq] at hk;exact ⟨hy k hk,hd⟩
   ·rw [upN_ne _ _ e2] at hk;exact h.rg i f hf e k hk
  ·rw [putp_ne _ _ e'] at hg;exact h.rg i g hg e k hk
theorem RZ.setth (h:RZ S z φ) {k:Nat} (hk:k < z.nx) (t:Th):RZ (S.setth (φ k) t) (z.putt k t) φ:=by
 refine ⟨h.p0,h.p1,fun j hj=> ?_,fun x u hx=> ?_,h.inj,h.rg,h.jp⟩
 ·show upN S.th (φ k) (some t) (φ j)=some (upN z.th k t j)
  by_cases e:j=k
  ·subst e;rw [upN_eq,upN_eq]
  ·rw [upN_ne _ _ e,upN_ne _ _ (fun e2=> e (h.inj j k hj hk e2))];exact h.t1 j hj
 ·by_cases e:x=φ k
  ·exact ⟨k,hk,e⟩
  ·exact h.t2 x u (by rw [←hx];exact (upN_ne _ _ e).symm)
theorem RZ.start (h:RZ S z φ) (hp:z.pr pid=none) (hb:∀i c,S.pr i=some c→c≠b):RZ (S.start pid b) (z.putp pid (some fun _=> none)) φ:=by
 have hcase:∀i,(S.start pid b).pr i=if i=pid then some b else S.pr i:=fun i=> rfl
 refine ⟨fun i=> ?_,fun i c g hi hg e he=> ?_,h.t1,h.t2,h.inj,fun i g hg e k hk=> ?_,fun i j c hi hj=> ?_⟩
 ·rw [hcase]
  by_cases e:i=pid
  ·subst e;rw [if_pos rfl,putp_eq];rfl
  ·rw [if_neg e,putp_ne _ _ e];exact h.p0 i
 ·rw [hcase] at hi
  by_cases e' :i=pid
  ·subst e'
   rw [if_pos rfl] at hi
   rw [putp_eq] at hg
   cases hi;cases hg
   show upN S.sl b (fun _=> none) b e=none
   rw [upN_eq]
  ·rw [if_neg e'] at hi
   rw [putp_ne _ _ e'] at hg
   show upN S.sl b (fun _=> none) c e=_
   rw [upN_ne _ _ (hb i c hi)]
   exact h.p1 i c g hi hg e he
 ·by_cases e' :i=pid
  ·subst e';rw [putp_eq] at hg;cases hg;cases hk
  ·rw [putp_ne _ _ e'] at hg;exact h.rg i g hg e k hk
 ·rw [hcase] at hi hj
  by_cases e1:i=pid <;> by_cases e2:j=pid
  ·rw [e1,e2]
  ·rw [if_pos e1] at hi;rw [if_neg e2] at hj;cases hi;exact absurd rfl (hb j _ hj)
  ·rw [if_neg e1] at hi;rw [if_pos e2] at hj;cases hj;exact absurd rfl (hb i _ hi)
  ·rw [if_neg e1] at hi;rw [if_neg e2] at hj;exact h.jp i j c hi hj
theorem RZ.name (h:RZ S z φ) (hb:S.pr pid=some b) (hf:z.pr pid=some f) (hd:d < 8) {x:Nat} (hx:∀y t,S.th y=some t→y≠x) (t:Th):RZ (S.put b d x t) (z.name pid f d t) (upN φ z.nx x):=by
 have hne:∀k,k < z.nx→upN φ z.nx x k=φ k:=fun k hk=> upN_ne _ _ (by omega)
 have hpx:∀k,k < z.nx→φ k≠x:=fun k hk=> hx _ _ (h.t1 k hk)
 have hpr:∀i,(z.name pid f d t).pr i=if i=pid then some (upN f d (some z.nx)) else z.pr i:=fun _=> rfl
 refine ⟨fun i=> ?_,fun i c g hi hg e he=> ?_,fun k hk=> ?_,fun y u hy=> ?_,fun j k hj hk he=> ?_,fun i g hg e k hk=> ?_,h.jp⟩
 ·rw [hpr]
  by_cases e:i=pid
  ·subst e;rw [if_pos rfl];show (S.pr i).isSome=_;rw [hb];rfl
  ·rw [if_neg e];exact h.p0 i
 ·rw [hpr] at hg
  have hi' :S.pr i=some c:=hi
  show upN S.sl b (upN (S.sl b) d (some x)) c e=_
  by_cases e' :i=pid
  ·subst e'
   rw [if_pos rfl] at hg
   cases hg
   obtain rfl:b=c:=by rw [hb] at hi';exact Option.some.inj hi'
   rw [upN_eq]
   by_cases e2:e=d
   ·subst e2;rw [upN_eq,upN_eq];show some x=some (upN φ z.nx x z.nx);rw [upN_eq]
   ·rw [upN_ne _ _ e2,upN_ne _ _ e2,h.p1 i b f hb hf e he]
    cases hfe:f e with
    | none=> rfl
    | some k=> exact congrArg some (hne k (h.rg i f hf e k hfe).1).symm
  ·rw [if_neg e'] at hg
   rw [upN_ne _ _ (fun e3=> e' (h.jp i pid c hi' (by rw [e3];exact hb))),h.p1 i c g hi' hg e he]
   cases hfe:g e with
   | none=> rfl
   | some k=> exact congrArg some (hne k (h.rg i g hg e k hfe).1).symm
 ·have hk' :k < z.nx+1:=hk
  show upN S.th x (some t) (upN φ z.nx x k)=some (upN z.th z.nx t k)
  by_cases e:k=z.nx
  ·subst e;rw [upN_eq,upN_eq,upN_eq]
  ·rw [hne k (by omega),upN_ne _ _ (hpx k (by omega)),upN_ne _ _ e];exact h.t1 k (by omega)
 ·by_cases e:y=x
  ·exact ⟨z.nx,Nat.lt_succ_self _,by rw [e,upN_eq]⟩
  ·obtain ⟨k,hk,he⟩:=h.t2 y u (by rw [←hy];exact (upN_ne _ _ e).symm)
   exact ⟨k,Nat.lt_succ_of_lt hk,by rw [hne k hk,he]⟩
 ·have hj' :j < z.nx+1:=hj
  have hk' :k < z.nx+1:=hk
  by_cases e1:j=z.nx <;> by_cases e2:k=z.nx
  ·rw [e1,e2]
  ·rw [e1,upN_eq,hne k (by omega)] at he;exact absurd he.symm (hpx k (by omega))
  ·rw [e2,upN_eq,hne j (by omega)] at he;exact absurd he (hpx j (by omega))
  ·rw [hne j (by omega),hne k (by omega)] at he;exact h.inj j k (by omega) (by omega) he
 ·rw [hpr] at hg
  show k < z.nx+1∧e < 8
  by_cases e' :i=pid
  ·subst e'
   rw [if_pos rfl] at hg
   cases hg
   by_cases e2:e=d
   ·subst e2;rw [upN_eq] at hk;cases hk;exact ⟨Nat.lt_succ_self _,hd⟩
   ·rw [upN_ne _ _ e2] at hk;have:=h.rg i f hf e k hk;omega
  ·rw [if_neg e'] at hg;have:=h.rg i g hg e k hk;omega
theorem RZ.drop (h:RZ S z φ) (pid:Int):RZ (S.drop pid) (z.putp pid none) φ:=by
 have hcase:∀i,(S.drop pid).pr i=if i=pid then none else S.pr i:=fun i=> rfl
 refine ⟨fun i=> ?_,fun i c g hi hg e he=> ?_,h.t1,h.t2,h.inj,fun i g hg e k hk=> ?_,fun i j c hi hj=> ?_⟩
 ·rw [hcase]
  by_cases e:i=pid
  ·subst e;rw [if_pos rfl,putp_eq];rfl
  ·rw [if_neg e,putp_ne _ _ e];exact h.p0 i
 ·rw [hcase] at hi
  by_cases e' :i=pid
  ·rw [if_pos e'] at hi;cases hi
  ·rw [if_neg e'] at hi;rw [putp_ne _ _ e'] at hg;exact h.p1 i c g hi hg e he
 ·by_cases e' :i=pid
  ·subst e';rw [putp_eq] at hg;cases hg
  ·rw [putp_ne _ _ e'] at hg;exact h.rg i g hg e k hk
 ·rw [hcase] at hi hj
  by_cases e1:i=pid
  ·rw [if_pos e1] at hi;cases hi
  ·by_cases e2:j=pid
   ·rw [if_pos e2] at hj;cases hj
   ·rw [if_neg e1] at hi;rw [if_neg e2] at hj;exact h.jp i j c hi hj
theorem RZ.bump (h:RZ S z φ) {k:Nat} (hk:k < z.nx):RZ (S.bump (φ k)) (z.putt k {z.th k with nm:=(z.th k).nm+1}) φ:=by
 unfold FS.bump
 rw [h.t1 k hk]
 exact h.setth hk _
theorem RZ.bumps (h:RZ S z φ) (g:Nat→Option Nat) (hg:∀d k,f d=some k→k < z.nx) (hgf:∀d,d < 8→g d=(f d).map φ):∀i,i≤8→RZ (S.bumps g i) {z with th:=bumpZ z.th f i} φ
 | 0,_=> h.ns rfl rfl rfl
 | i+1,hi=> by
  have ih:=RZ.bumps h g hg hgf i (by omega)
  unfold FS.bumps bumpZ
  rw [hgf i (by omega)]
  cases hf:f i with
  | none=> exact ih
  | some k=> exact ih.bump (hg i k hf)
theorem RZ.copy (h:RZ S z φ) {q:Int} {b2:Nat} (hb:S.pr pid=some b) (hf:z.pr pid=some f) (hq:z.pr q=none) (hb2:∀i c,S.pr i=some c→c≠b2):RZ ((S.twin q b b2).bumps (S.sl b) 8) {z.putp q (some f) with th:=bumpZ z.th f 8} φ:=by
 have hcase:∀i,(S.twin q b b2).pr i=if i=q then some b2 else S.pr i:=fun i=> rfl
 have hpq:pid≠q:=fun e=> by rw [e] at hf;rw [hf] at hq;cases hq
 have h1:RZ (S.twin q b b2) (z.putp q (some f)) φ:=by
  refine ⟨fun i=> ?_,fun i c g hi hg e he=> ?_,h.t1,h.t2,h.inj,fun i g hg e k hk=> ?_,fun i j c hi hj=> ?_⟩
  ·rw [hcase]
   by_cases e:i=q
   ·subst e;rw [if_pos rfl,putp_eq];rfl
   ·rw [if_neg e,putp_ne _ _ e];exact h.p0 i
  ·rw [hcase] at hi
   show upN S.sl b2 (S.sl b) c e=_
   by_cases e' :i=q
   ·subst e'
    rw [if_pos rfl] at hi
    rw [putp_eq] at hg
    cases hi;cases hg
    rw [upN_eq]
    exact h.p1 pid b f hb hf e he
   ·rw [if_neg e'] at hi
    rw [putp_ne _ _ e'] at hg
    rw [upN_ne _ _ (hb2 i c hi)]
    exact h.p1 i c g hi hg e he
  ·by_cases e' :i=q
   ·subst e';rw [putp_eq] at hg;cases hg;exact h.rg pid f hf e k hk
   ·rw [putp_ne _ _ e'] at hg;exact h.rg i g hg e k hk
  ·rw [hcase] at hi hj
   by_cases e1:i=q <;> by_cases e2:j=q
   ·rw [e1,e2]
   ·rw [if_pos e1] at hi;rw [if_neg e2] at hj;cases hi;exact absurd rfl (hb2 j _ hj)
   ·rw [if_neg e1] at hi;rw [if_pos e2] at hj;cases hj;exact absurd rfl (hb2 i _ hi)
   ·rw [if_neg e1] at hi;rw [if_neg e2] at hj;exact h.jp i j c hi hj
 exact h1.bumps (S.sl b) (fun d k hk=> (h.rg pid f hf d k hk).1) (fun d hd=> h.p1 pid b f hb hf d hd) 8 (Nat.le_refl _)
end
structure BZ (K:Int) (z:Z):Prop where
 nm:∀k,k < z.nx→ -K≤(z.th k).nm∧(z.th k).nm≤K
 pl:∀k,k < z.nx→0≤(z.th k).pl∧(z.th k).pl≤9223372036854775807
 id:∀k,k < z.nx→0≤(z.th k).id∧(z.th k).id≤15
 ps:∀i p,z.ps i=some p→0≤p.rd∧p.rd≤1∧0≤p.wt∧p.wt≤1
 wr:∀k,k < z.nx→(z.th k).wr=true→(z.th k).pp=true
section
variable {K K' :Int} {z z' :Z}
theorem BZ.le (h:BZ K z) (hK:K≤K'):BZ K' z:=⟨fun k hk=> by have:=h.nm k hk;omega,h.pl,h.id,h.ps,h.wr⟩
theorem BZ.wf (h:BZ K z) {k:Nat} (hk:k < z.nx):(Lit.int .i64 (z.th k).id).wf=true:=by
 have:=h.id k hk
 simp [Lit.wf,IntKind.min,IntKind.max,IntKind.signed,IntKind.bits]
 omega
theorem BZ.ns (h:BZ K z) (h2:z'.th=z.th) (h3:z'.nx=z.nx) (h4:z'.ps=z.ps):BZ K z' :=by
 obtain ⟨a,b,c,d,e⟩:=h
 refine ⟨?_,?_,?_,?_,?_⟩
 ·rw [h2,h3];exact a
 ·rw [h2,h3];exact b
 ·rw [h2,h3];exact c
 ·rw [h4];exact d
 ·rw [h2,h3];exact e
theorem BZ.pipes (h:BZ K z) (ps:PS) (hp:∀i p,ps i=some p→0≤p.rd∧p.rd≤1∧0≤p.wt∧p.wt≤1):BZ K {z with ps:=ps}:=⟨h.nm,h.pl,h.id,hp,h.wr⟩
theorem BZ.putt (h:BZ K z) (k:Nat) (t:Th) (h1: -K≤t.nm∧t.nm≤K) (h2:0≤t.pl∧t.pl≤9223372036854775807) (h3:0≤t.id∧t.id≤15) (h4:t.wr=true→t.pp=true):BZ K (z.putt k t):=by
 have key:∀(Q:Th→Prop),Q t→∀j,Q (z.th j)→Q ((z.putt k t).th j):=fun Q hQ j hj=> by
  show Q (upN z.th k t j)
  unfold upN
  split
  ·exact hQ
  ·exact hj
 exact ⟨fun j hj=> key (fun t=> -K≤t.nm∧t.nm≤K) h1 j (h.nm j hj),fun j hj=> key (fun t=> 0≤t.pl∧t.pl≤9223372036854775807) h2 j (h.pl j hj),fun j hj=> key (fun t=> 0≤t.id∧t.id≤15) h3 j (h.id j hj),h.ps,fun j hj=> key (fun t=> t.wr=true→t.pp=true) h4 j (h.wr j hj)⟩
theorem BZ.name (h:BZ K z) (pid:Int) (f:Nat→Option Nat) (d:Nat) (t:Th) (h1: -K≤t.nm∧t.nm≤K) (h2:0≤t.pl∧t.pl≤9223372036854775807) (h3:0≤t.id∧t.id≤15) (h4:t.wr=true→t.pp=true):BZ K (z.name pid f d t):=by
 have key:∀(Q:Th→Prop),Q t→(∀j,j < z.nx→Q (z.th j))→∀j,j < (z.name pid f d t).nx→Q ((z.name pid f d t).th j):=fun Q hQ hj j hl=> by
  have hl' :j < z.nx+1:=hl
  show Q (upN z.th z.nx t j)
  by_cases e:j=z.nx
  ·rw [e,upN_eq];exact hQ
  ·rw [upN_ne _ _ e];exact hj j (by omega)
 exact ⟨key (fun t=> -K≤t.nm∧t.nm≤K) h1 h.nm,key (fun t=> 0≤t.pl∧t.pl≤9223372036854775807) h2 h.pl,key (fun t=> 0≤t.id∧t.id≤15) h3 h.id,h.ps,key (fun t=> t.wr=true→t.pp=true) h4 h.wr⟩
theorem BZ.nmk (h:BZ K z) {k:Nat} (hk:k < z.nx) (n:Int) (hn: -K≤n∧n≤K):BZ K (z.putt k {z.th k with nm:=n}):=h.putt k _ hn (h.pl k hk) (h.id k hk) (h.wr k hk)
theorem BZ.plk (h:BZ K z) {k:Nat} (hk:k < z.nx) (p:Int) (hp:0≤p∧p≤9223372036854775807):BZ K (z.putt k {z.th k with pl:=p}):=h.putt k _ (h.nm k hk) hp (h.id k hk) (h.wr k hk)
theorem BZ.bumps (h:BZ K z) (f:Nat→Option Nat) (hf:∀d k,f d=some k→k < z.nx):∀i:Nat,BZ (K+i) {z with th:=bumpZ z.th f i}
 | 0=> (h.le (by simp)).ns rfl rfl rfl
 | i+1=> by
  have ih:=BZ.bumps h f hf i
  have ih2:BZ (K+(i+1:Nat)) {z with th:=bumpZ z.th f i}:=ih.le (by push_cast;omega)
  show BZ (K+(i+1:Nat)) ⟨z.pr,bumpZ z.th f (i+1),z.nx,z.ns,z.ps⟩
  unfold bumpZ
  cases hfi:f i with
  | none=> exact ih2
  | some k=>
   have h1:=ih.nm k (hf i k hfi)
   have h2: -(K+i)≤(bumpZ z.th f i k).nm∧(bumpZ z.th f i k).nm≤K+i:=h1
   exact ih2.nmk (k:=k) (hf i k hfi) ((bumpZ z.th f i k).nm+1) (by push_cast;omega)
theorem psPut_rw {ps:PS} {i:Nat} {x:Option Pi} (h:∀i p,ps i=some p→0≤p.rd∧p.rd≤1∧0≤p.wt∧p.wt≤1) (hx:∀p,x=some p→0≤p.rd∧p.rd≤1∧0≤p.wt∧p.wt≤1):∀j p,psPut ps i x j=some p→0≤p.rd∧p.rd≤1∧0≤p.wt∧p.wt≤1:=by
 intro j p hp
 by_cases e:j=i
 ·subst e;rw [psPut_eq] at hp;exact hx p hp
 ·rw [psPut_ne _ _ e] at hp;exact h j p hp
theorem psAt_rw {ps:PS} {id:Int} {p:Pi} (h:∀i p,ps i=some p→0≤p.rd∧p.rd≤1∧0≤p.wt∧p.wt≤1) (hp:psAt ps id=some p):0≤p.rd∧p.rd≤1∧0≤p.wt∧p.wt≤1:=by
 obtain ⟨i,-,hi⟩:=psAt_some hp
 exact h i p hi
theorem pclose_rw {ps:PS} (h:∀i p,ps i=some p→0≤p.rd∧p.rd≤1∧0≤p.wt∧p.wt≤1) (id:Int) (wr:Bool):∀i p,(pcloseF ps id wr).2 i=some p→0≤p.rd∧p.rd≤1∧0≤p.wt∧p.wt≤1:=by
 unfold pcloseF
 cases hat:psAt ps id with
 | none=> exact h
 | some q=>
  have hq:=psAt_rw h hat
  cases wr
  ·simp only [Bool.false_eq_true,if_false]
   split
   ·exact h
   ·rename_i hne
    split
    ·exact psPut_rw h (fun p hp=> by cases hp)
    ·exact psPut_rw h (fun p hp=> by cases hp;simp only;omega)
  ·simp only [if_true]
   split
   ·exact h
   ·rename_i hne
    split
    ·exact psPut_rw h (fun p hp=> by cases hp)
    ·exact psPut_rw h (fun p hp=> by cases hp;simp only;omega)
theorem pread_rw {ps:PS} (h:∀i p,ps i=some p→0≤p.rd∧p.rd≤1∧0≤p.wt∧p.wt≤1) (id n:Int):∀i p,(preadF ps id n).2.2 i=some p→0≤p.rd∧p.rd≤1∧0≤p.wt∧p.wt≤1:=by
 unfold preadF
 cases hat:psAt ps id with
 | none=> exact h
 | some q=>
  have hq:=psAt_rw h hat
  simp only
  repeat' split
  all_goals first | exact h | exact psPut_rw h (fun p hp=> by cases hp;exact hq)
theorem pwrite_rw {ps:PS} (h:∀i p,ps i=some p→0≤p.rd∧p.rd≤1∧0≤p.wt∧p.wt≤1) (id:Int) (b:List Int):∀i p,(pwriteF ps id b).2 i=some p→0≤p.rd∧p.rd≤1∧0≤p.wt∧p.wt≤1:=by
 unfold pwriteF
 cases hat:psAt ps id with
 | none=> exact h
 | some q=>
  have hq:=psAt_rw h hat
  simp only
  repeat' split
  all_goals first | exact h | exact psPut_rw h (fun p hp=> by cases hp;exact hq)
theorem pmake_rw {ps:PS} (h:∀i p,ps i=some p→0≤p.rd∧p.rd≤1∧0≤p.wt∧p.wt≤1) (n:Nat):(∀i p,(pmakeF n ps).2.2 i=some p→0≤p.rd∧p.rd≤1∧0≤p.wt∧p.wt≤1)∧0≤(pmakeF n ps).1∧(pmakeF n ps).1≤15:=by
 unfold pmakeF
 cases hf:pfreeF ps with
 | none=> exact ⟨h,by simp,by simp⟩
 | some i=>
  have hi:=(pfreeF_some hf).1
  simp only
  split
  ·exact ⟨h,by simp,by simp⟩
  ·exact ⟨psPut_rw h (fun p hp=> by cases hp;simp),by simp,by simp;omega⟩
end
end Go.Proofs.YtjpjafajploiaaaGreatDoor
namespace Go.Proofs.YtjpjafajploiaaaGreatDoor
open Go.RowKit Own RegJ Two
open Go.Lib hiding intOf
section
variable {cap:Nat} {w0 w w1 w2 w' :World} {O O1:Nat→Prop} {fdb vb tb fb sb pb mb:Nat} {ns ns' :NSt} {c c' N N' M M' :Nat} {S S' :FS} {ps ps' :PS} {po:PRl→Option Nat} {fo:Nat→Nat}
set_option maxRecDepth 100000 in
set_option maxHeartbeats 2000000 in
theorem kp_wrerr (h:EX cap w0 O fdb vb tb fb sb pb mb ns c N M S ps w) (hmc:0 < w0.heap.size) (pid:Int) (hw:(Lit.int .i64 pid).wf=true) (b:Nat) (hb:S.pr pid=some b) (d x:Nat) (hd:d < 8) (hx:S.sl b d=some x) (t:Th) (ht:S.th x=some t) (hpp:t.pp=true) (hwr:t.wr=true) (bs:List Int) (m cp:Nat) (a:Option Addr) (hm:bs.length=m) (hv:SrcF O w (.slice a m cp) bs) (r:Int) (hr:pwriteF ps t.id bs=(r,ps')) (hr0:r≠0):
  Calls Tryz.prog 45 #[.pointer (some ⟨fdb,0,none⟩),.int .i64 pid,.int .i64 d,.slice a m cp] w (EP cap w0 O fdb vb tb fb sb pb mb ns c N M S ps' w (.tuple #[.int .i64 0,.int .i64 r])):=by
 have hg:=k_get h.fd pid hw b hb d x hd hx
 have hB:=h.fd.x x t ht
 have c0:w.cell? ⟨x,0,none⟩=some (.bool true):=by rw [←hpp];exact hB.rd 0
 have c1:w.cell? ⟨x,1,none⟩=some (.bool true):=by rw [←hwr];exact hB.rd 1
 have hfw:=kp_write h hmc x t ht bs m cp a hm hv r hr
 have dr1:(r==0)=false:=by simpa using hr0
 have dr2:(r !=0)=true:=by simpa using hr0
 clear h hB ht hb hx hpp hwr hr hv hr0
 go_enter Tryz.func45,Tryz.ntmps45
 go_wp2_with (first
  | (go_at_call 80;refine hg.mono ?_;rintro e w1 ⟨rfl,rfl⟩)
  | (go_at_call 85;refine hfw.mono ?_;rintro e w2 ⟨rfl,hq⟩;have HF:=Lib.hid hq;clear hq hfw))
 go_ret2
 exact ⟨rfl,HF.out⟩
set_option maxRecDepth 100000 in
set_option maxHeartbeats 2000000 in
theorem k_pipeerr (h:EX cap w0 O fdb vb tb fb sb pb mb ns c N M S ps w) (hmc:0 < w0.heap.size) (hM:M≤10000) (pid:Int) (hw:(Lit.int .i64 pid).wf=true) (b:Nat) (hb:S.pr pid=some b) (d1 d2:Int) (fr:List Int) (hfr:freeL (S.sl b) 8=d1::d2::fr) (v r:Int) (hr:pmakeF (cap - psN ps 4 - usedN (filesOf ns) 16) ps=(v,r,ps')) (h0:r≠0):
  Calls Tryz.prog 52 #[.pointer (some ⟨fdb,0,none⟩),.int .i64 pid] w (EP cap w0 O fdb vb tb fb sb pb mb ns c N (M+1) S ps' w (.tuple #[.int .i64 0,.int .i64 r])):=by
 have hfree:=k_free h.fd pid hw b hb 2 (.int .i64 0) 0 (fun e w' => FreeP w (d1::d2::fr) e w') (fun _ e w' hp=> by rw [hfr] at hp;exact hp) (fun hlt=> by rw [hfr] at hlt;simp only [List.length_cons] at hlt;omega)
 obtain ⟨m,hm⟩:∃m,fr.length+2=m:=⟨_,rfl⟩
 have c0:∀w1,Below w.heap.size w w1→w1.cell? ⟨fdb,1,none⟩=some (.pointer (some ⟨pb,0,none⟩)):=fun w1 hB=> (h.fd.below hB).f.rd 1
 have hop:=fun w1 (hB:Below w.heap.size w w1)=> pp_make (h.below hB) hM hmc v r hr
 have dr1:(r==0)=false:=by simpa using h0
 have dr2:(r !=0)=true:=by simpa using h0
 clear h hb hw hr hfr h0
 go_enter Tryz.func52,Tryz.ntmps52
 go_wp2_with (first
  | (go_at_call 78;refine hfree.mono ?_;rintro e w1 ⟨a,cp,gr,rfl,hR,hgO,hB1⟩;have c1:=c0 w1 hB1;rw [show (d1::d2::fr).length=m from by rw [←hm];rfl] at hR ⊢;have ho:=hop w1 hB1;have H1:=Lib.hid hB1;clear hfree hop c0 hR hB1 hgO)
  | (go_at_call 93;refine ho.mono ?_;rintro e w2 hq;obtain rfl:=hq.1;have H2:=Lib.hid hq;clear hq ho c1))
 go_ret2
 have hq:=EP.ahead H1.out H2.out
 exact ⟨rfl,hq.2⟩
theorem k_copybad (h:FdB w fdb vb pb mb N S) (pid:Int) (hw:(Lit.int .i64 pid).wf=true) (b:Nat) (hb:S.pr pid=some b) (q r:Int) (hst:Calls Tryz.prog 39 #[.pointer (some ⟨fdb,0,none⟩),.int .i64 q] w fun e w' => e= .returned (.int .i64 r)∧w=w') (h0:r≠0):
  Calls Tryz.prog 56 #[.pointer (some ⟨fdb,0,none⟩),.int .i64 pid,.int .i64 q] w fun e w' => e= .returned (.int .i64 r)∧w=w' :=by
 have hq:=k_proc h pid hw (some b) hb 0 (by unfold procR;rw [hb])
 have dr1:(r==0)=false:=by simpa using h0
 have dr2:(r !=0)=true:=by simpa using h0
 clear h hb h0
 simp only [ptb,Option.map] at hq
 go_enter Tryz.func56,Tryz.ntmps56
 go_wp2_with (first
  | (go_at_call 67;refine hq.mono ?_;rintro e w1 ⟨rfl,rfl⟩)
  | (go_at_call 39;refine hst.mono ?_;rintro e w1 ⟨rfl,rfl⟩))
 go_ret
 exact ⟨rfl,rfl⟩
theorem SrcF.sub {v:Value} {bs:List Int} (h:SrcF O w v bs) (ho:∀k,O1 k→O k):SrcF O1 w v bs:=by
 obtain ⟨a,cp,rfl,h1,h2⟩:=h
 refine ⟨a,cp,rfl,h1,fun hp=> ?_⟩
 obtain ⟨g,q,rfl,h3,h4,h5⟩:=h2 hp
 exact ⟨g,q,rfl,h3,fun hk=> h4 (ho g hk),h5⟩
theorem ex_openf (h:EX cap w0 O fdb vb tb fb sb pb mb ns c N M S ps w) (hc:c≤9000) (pid:Int) (hw:(Lit.int .i64 pid).wf=true) (b:Nat) (hb:S.pr pid=some b) (d:Nat) (hd:d < 8) (hn:S.sl b d=none) (hl:∀k,k < d→S.sl b k≠none) (l:Txt) (hll:l.length≤100000) (n id:Int) (hr:openF ns l n=(id,0,ns')) (s:ByteArray) (hs:s=B l):
  Calls Tryz.prog 42 #[.pointer (some ⟨fdb,0,none⟩),.int .i64 pid,.string s,.int .i64 n] w fun e w' => ∃x,w.heap.size≤x∧EP cap w0 O fdb vb tb fb sb pb mb ns' (c+3) N M (S.put b d x ⟨false,false,id,0,flE n,1⟩) ps w (.tuple #[.int .i64 d,.int .i64 0]) e w' :=by
 obtain ⟨po,fo,O1,h1,h2,h3,h4,h5,h6⟩:=h
 letI C:Inhabited CapT:=capP cap ps fo
 exact (k_open h1 hc pid hw b hb d hd hn hl l hll n id hr s hs).mono (fun e w' ⟨x,hx,hq⟩=> ⟨x,hx,EX.lift h2 h3 h4 h5 h6 hq⟩)
theorem ex_openerr (h:EX cap w0 O fdb vb tb fb sb pb mb ns c N M S ps w) (hc:c≤9000) (pid:Int) (hw:(Lit.int .i64 pid).wf=true) (b:Nat) (hb:S.pr pid=some b) (d:Nat) (hd:d < 8) (hn:S.sl b d=none) (hl:∀k,k < d→S.sl b k≠none) (l:Txt) (hll:l.length≤100000) (n a r:Int) (hr:openF ns l n=(a,r,ns')) (h0:r≠0) (s:ByteArray) (hs:s=B l):
  Calls Tryz.prog 42 #[.pointer (some ⟨fdb,0,none⟩),.int .i64 pid,.string s,.int .i64 n] w (EP cap w0 O fdb vb tb fb sb pb mb ns' (c+3) N M S ps w (.tuple #[.int .i64 0,.int .i64 r])):=by
 obtain ⟨po,fo,O1,h1,h2,h3,h4,h5,h6⟩:=h
 letI C:Inhabited CapT:=capP cap ps fo
 exact (k_openerr h1 hc pid hw b hb d hd hn hl l hll n a r hr h0 s hs).mono (fun e w' hq=> EX.lift h2 h3 h4 h5 h6 hq)
theorem ex_seekf (h:EX cap w0 O fdb vb tb fb sb pb mb ns c N M S ps w) (pid:Int) (hw:(Lit.int .i64 pid).wf=true) (b:Nat) (hb:S.pr pid=some b) (d x:Nat) (hd:d < 8) (hx:S.sl b d=some x) (t:Th) (ht:S.th x=some t) (hp:t.pp=false) (off:Int) (h0:0≤off):
  Calls Tryz.prog 46 #[.pointer (some ⟨fdb,0,none⟩),.int .i64 pid,.int .i64 d,.int .i64 off] w (EP cap w0 O fdb vb tb fb sb pb mb ns c N M (S.setth x {t with pl:=off}) ps w (.int .i64 0)):=by
 obtain ⟨po,fo,O1,h1,h2,h3,h4,h5,h6⟩:=h
 letI C:Inhabited CapT:=capP cap ps fo
 exact (k_seek h1 pid hw b hb d x hd hx t ht hp off h0).mono (fun e w' hq=> EX.lift h2 h3 h4 h5 h6 hq)
theorem ex_dupf (h:EX cap w0 O fdb vb tb fb sb pb mb ns c N M S ps w) (pid:Int) (hw:(Lit.int .i64 pid).wf=true) (b:Nat) (hb:S.pr pid=some b) (d x:Nat) (hd:d < 8) (hx:S.sl b d=some x) (t:Th) (ht:S.th x=some t) (hnm: -100000≤t.nm∧t.nm≤100000) (d2:Nat) (hd2:d2 < 8) (hn:S.sl b d2=none) (hl:∀k,k < d2→S.sl b k≠none):
  Calls Tryz.prog 47 #[.pointer (some ⟨fdb,0,none⟩),.int .i64 pid,.int .i64 d] w (EP cap w0 O fdb vb tb fb sb pb mb ns c N M ((S.setsl b d2 (some x)).setth x {t with nm:=t.nm+1}) ps w (.tuple #[.int .i64 d2,.int .i64 0])):=by
 obtain ⟨po,fo,O1,h1,h2,h3,h4,h5,h6⟩:=h
 letI C:Inhabited CapT:=capP cap ps fo
 exact (k_dup h1 pid hw b hb d x hd hx t ht hnm d2 hd2 hn hl).mono (fun e w' hq=> EX.lift h2 h3 h4 h5 h6 hq)
theorem ex_close2 (h:EX cap w0 O fdb vb tb fb sb pb mb ns c N M S ps w) (pid:Int) (hw:(Lit.int .i64 pid).wf=true) (b:Nat) (hb:S.pr pid=some b) (d x:Nat) (hd:d < 8) (hx:S.sl b d=some x) (t:Th) (ht:S.th x=some t) (hnm:2≤t.nm∧t.nm≤100000):
  Calls Tryz.prog 43 #[.pointer (some ⟨fdb,0,none⟩),.int .i64 pid,.int .i64 d] w (EP cap w0 O fdb vb tb fb sb pb mb ns c N M ((S.setsl b d none).setth x {t with nm:=t.nm - 1}) ps w (.int .i64 0)):=by
 obtain ⟨po,fo,O1,h1,h2,h3,h4,h5,h6⟩:=h
 letI C:Inhabited CapT:=capP cap ps fo
 exact (k_close h1 pid hw b hb d x hd hx t ht hnm).mono (fun e w' hq=> EX.lift h2 h3 h4 h5 h6 hq)
theorem ex_closef (h:EX cap w0 O fdb vb tb fb sb pb mb ns c N M S ps w) (hc:c≤9000) (pid:Int) (hw:(Lit.int .i64 pid).wf=true) (b:Nat) (hb:S.pr pid=some b) (d x:Nat) (hd:d < 8) (hx:S.sl b d=some x) (t:Th) (ht:S.th x=some t) (hnm: -100000≤t.nm∧t.nm≤1) (hpp:t.pp=false) (r:Int) (hr:closeF ns t.id=(r,ns')):
  Calls Tryz.prog 43 #[.pointer (some ⟨fdb,0,none⟩),.int .i64 pid,.int .i64 d] w (EP cap w0 O fdb vb tb fb sb pb mb ns' (c+1) N M ((S.setsl b d none).setth x {t with nm:=t.nm - 1}) ps w (.int .i64 0)):=by
 obtain ⟨po,fo,O1,h1,h2,h3,h4,h5,h6⟩:=h
 letI C:Inhabited CapT:=capP cap ps fo
 exact (k_closef h1 hc pid hw b hb d x hd hx t ht hnm hpp r hr).mono (fun e w' hq=> EX.lift h2 h3 h4 h5 h6 hq)
theorem ex_writef (h:EX cap w0 O fdb vb tb fb sb pb mb ns c N M S ps w) (pid:Int) (hw:(Lit.int .i64 pid).wf=true) (b:Nat) (hb:S.pr pid=some b) (d x:Nat) (hd:d < 8) (hx:S.sl b d=some x) (t:Th) (ht:S.th x=some t) (hpp:t.pp=false) (hid:(Lit.int .i64 t.id).wf=true) (bs:List Int) (m cp:Nat) (a:Option Addr) (hm:bs.length=m) (hm6:m≤100000) (hv:SrcF O w (.slice a m cp) bs)
  (p:Int) (hp0:0≤p∧p+(m:Int)≤9223372036854775807) (hp:(t.en=false∧t.pl=p)∨(t.en=true∧∃e,sizeV (filesOf ns) t.id=(p,e))) (hr:wrF ns (cap - psN ps 4) t.id p bs=(0,ns')):
  Calls Tryz.prog 45 #[.pointer (some ⟨fdb,0,none⟩),.int .i64 pid,.int .i64 d,.slice a m cp] w (EP cap w0 O fdb vb tb fb sb pb mb ns' c N M (S.setth x {t with pl:=p+m}) ps w (.tuple #[.int .i64 m,.int .i64 0])):=by
 obtain ⟨po,fo,O1,h1,h2,h3,h4,h5,h6⟩:=h
 letI C:Inhabited CapT:=capP cap ps fo
 exact (k_write h1 pid hw b hb d x hd hx t ht hpp hid bs m cp a hm hm6 (hv.sub (fun k hk=> (h6 k).2 (.inl hk))) p hp0 hp hr).mono (fun e w' hq=> EX.lift h2 h3 h4 h5 h6 hq)
theorem ex_writeerr (h:EX cap w0 O fdb vb tb fb sb pb mb ns c N M S ps w) (pid:Int) (hw:(Lit.int .i64 pid).wf=true) (b:Nat) (hb:S.pr pid=some b) (d x:Nat) (hd:d < 8) (hx:S.sl b d=some x) (t:Th) (ht:S.th x=some t) (hpp:t.pp=false) (hid:(Lit.int .i64 t.id).wf=true) (bs:List Int) (m cp:Nat) (a:Option Addr) (hm:bs.length=m) (hm6:m≤100000) (hv:SrcF O w (.slice a m cp) bs)
  (p:Int) (hp0:0≤p) (hp:(t.en=false∧t.pl=p)∨(t.en=true∧∃e,sizeV (filesOf ns) t.id=(p,e))) (r:Int) (hr:wrF ns (cap - psN ps 4) t.id p bs=(r,ns')) (hr0:r≠0):
  Calls Tryz.prog 45 #[.pointer (some ⟨fdb,0,none⟩),.int .i64 pid,.int .i64 d,.slice a m cp] w (EP cap w0 O fdb vb tb fb sb pb mb ns' c N M S ps w (.tuple #[.int .i64 0,.int .i64 r])):=by
 obtain ⟨po,fo,O1,h1,h2,h3,h4,h5,h6⟩:=h
 letI C:Inhabited CapT:=capP cap ps fo
 exact (k_writeerr h1 pid hw b hb d x hd hx t ht hpp hid bs m cp a hm hm6 (hv.sub (fun k hk=> (h6 k).2 (.inl hk))) p hp0 hp r hr hr0).mono (fun e w' hq=> EX.lift h2 h3 h4 h5 h6 hq)
theorem ex_readf (h:EX cap w0 O fdb vb tb fb sb pb mb ns c N M S ps w) (pid:Int) (hw:(Lit.int .i64 pid).wf=true) (b:Nat) (hb:S.pr pid=some b) (d x:Nat) (hd:d < 8) (hx:S.sl b d=some x) (t:Th) (ht:S.th x=some t) (hpp:t.pp=false) (hwr:t.wr=false) (hid:(Lit.int .i64 t.id).wf=true) (n:Int) (hn:n≤9223372036854775807) (ys:List Int) (hpl:0≤t.pl∧t.pl+(ys.length:Int)≤9223372036854775807) (er:Int) (hr:readV (filesOf ns) t.id t.pl n=(ys,er)) (hyl:ys.length≤1000000):
  Calls Tryz.prog 83 #[.pointer (some ⟨fdb,0,none⟩),.int .i64 pid,.int .i64 d,.int .i64 n] w (XRead cap w0 O fdb vb tb fb sb pb mb ns c N M (S.setth x {t with pl:=t.pl+(ys.length:Int)}) ps w ys er):=by
 obtain ⟨po,fo,O1,h1,h2,h3,h4,h5,h6⟩:=h
 letI C:Inhabited CapT:=capP cap ps fo
 refine (k_read h1 pid hw b hb d x hd hx t ht hpp hwr hid n hn ys hpl er hr hyl).mono ?_
 rintro e w' ⟨a,cp,gb,O2,rfl,k1,k2,k3,k4,k5⟩
 refine ⟨a,cp,gb,fun k=> O2 k∨∃r,po r=some k,rfl,k1,fun g hg=> ⟨(k2 g hg).1,?_⟩,k3.mono (fun k _ hk=> (h6 k).2 (.inl hk)),⟨po,fo,O2,k4,h2.upd k3 (fun r k hr hk=> (h5 r k hr).2.1 hk),h3,h4,fun r k hr=> ⟨(h5 r k hr).1,fun hk=> ?_,(h5 r k hr).2.2⟩,fun k=> Iff.rfl⟩,fun k hk=> ?_⟩
 ·have:=(k2 g hg).1
  rintro (hk | ⟨r,hr'⟩)
  ·exact (k2 g hg).2 hk
  ·have:=h2.lt r g hr';omega
 ·rcases k5 k hk with g | g
  ·exact (h5 r k hr).2.1 g
  ·have:=h2.lt r k hr;omega
 ·rcases hk with hk | hk
  ·exact (k5 k hk).imp (fun g=> (h6 k).2 (.inl g)) id
  ·exact .inl ((h6 k).2 (.inr hk))
end
end Go.Proofs.YtjpjafajploiaaaGreatDoor
namespace Go.Proofs.YtjpjafajploiaaaGreatDoor
open Go.RowKit Own RegJ Two
open Go.Lib hiding intOf
theorem freeL_map {g f:Nat→Option Nat}:∀i,(∀d,d < i→(g d).isNone=(f d).isNone)→freeL g i=freeL f i
 | 0,_=> rfl
 | i+1,h=> by unfold freeL;rw [freeL_map i (fun d hd=> h d (by omega)),h i (by omega)]
theorem usedL_map {g f:Nat→Option Nat}:∀i,(∀d,d < i→(g d).isSome=(f d).isSome)→usedL g i=usedL f i
 | 0,_=> rfl
 | i+1,h=> by unfold usedL;rw [usedL_map i (fun d hd=> h d (by omega)),h i (by omega)]
theorem freeL_mem {f:Nat→Option Nat} {x:Int}:∀i,x∈freeL f i→∃k:Nat,x=k∧k < i∧f k=none
 | 0,h=> by cases h
 | i+1,h=> by
  unfold freeL at h
  rcases List.mem_append.1 h with h | h
  ·obtain ⟨k,h1,h2,h3⟩:=freeL_mem i h
   exact ⟨k,h1,by omega,h3⟩
  ·split at h
   ·rename_i hn
    obtain rfl:=List.mem_singleton.1 h
    exact ⟨i,rfl,by omega,by simpa using hn⟩
   ·cases h
theorem freeL_nil {f:Nat→Option Nat}:∀i,freeL f i= []→∀k,k < i→f k≠none
 | 0,_,k,hk=> by omega
 | i+1,h,k,hk=> by
  unfold freeL at h
  obtain ⟨h1,h2⟩:=List.append_eq_nil_iff.1 h
  by_cases e:k=i
  ·subst e
   intro hn
   rw [hn] at h2
   simp at h2
  ·exact freeL_nil i h1 k (by omega)
theorem freeL_head {f:Nat→Option Nat} {d:Int} {r:List Int}:∀i,freeL f i=d::r→∃k:Nat,d=k∧k < i∧f k=none∧∀j,j < k→f j≠none
 | 0,h=> by cases h
 | i+1,h=> by
  unfold freeL at h
  cases hf:freeL f i with
  | nil=>
   rw [hf,List.nil_append] at h
   split at h
   ·rename_i hn
    cases h
    exact ⟨i,rfl,by omega,by simpa using hn,freeL_nil i hf⟩
   ·cases h
  | cons x l=>
   rw [hf] at h
   cases h
   obtain ⟨k,h1,h2,h3⟩:=freeL_head i hf
   exact ⟨k,h1,by omega,h3⟩
theorem openF_id {ns ns' :NSt} {c:Nat} (hV:IV ns c) {l:Txt} {n a:Int} (h:openF ns l n=(a,0,ns')):0≤a∧a≤15:=by
 unfold openF at h
 split at h
 ·cases h
 ·split at h
  ·unfold newF at h
   split at h
   ·unfold madeF at h
    split at h
    ·cases h
    ·split at h
     ·cases h
     ·rename_i i hi
      have:=(freeF_some hi).1
      split at h
      ·cases h;omega
      ·rename_i hne
       exact absurd (congrArg (fun p=> p.2.1) h) hne
   ·obtain rfl:(0:Int)=a:=congrArg Prod.fst h
    omega
  ·split at h
   ·rename_i hne;exact absurd (congrArg (fun p=> p.2.1) h) hne
   ·split at h
    ·cases h;omega
    ·rename_i nd hnd
     split at h
     ·cases h
     ·cases h
      unfold ndAt at hnd
      split at hnd
      ·rename_i h0
       have:=hV.inv.lt hnd
       omega
      ·cases hnd
theorem wrF_wide {ns ns' :NSt} {F:Nat} {id off:Int} {b:List Int} (h:wrF ns F id off b=(0,ns')) (h0:0≤off∧off≤9223372036854775807):off+(b.length:Int)≤9223372036854775807:=by
 unfold wrF at h
 split at h
 ·cases h
 ·split at h
  ·cases h
  ·split at h
   ·cases h
   ·split at h
    ·omega
    ·split at h
     ·cases h
     ·omega
theorem readV_wide {fs:Sfs} {id off n:Int} {ys:List Int} {er:Int} (h:readV fs id off n=(ys,er)) (hb:∀bs,fsAt fs id=some bs→bs.length≤512) (h0:0≤off∧off≤9223372036854775807):off+(ys.length:Int)≤9223372036854775807∧ys.length≤512:=by
 unfold readV at h
 split at h
 ·cases h;simp;omega
 ·rename_i bs hbs
  have h5:=hb bs hbs
  split at h
  ·cases h;simp;omega
  ·cases h
   simp only [List.length_take,List.length_drop]
   omega
def EZ (cap:Nat) (w0:World) (O:Nat→Prop) (fdb vb tb fb sb pb mb c:Nat) (z:Z) (w:World):Prop:=
 ∃S φ,EX cap w0 O fdb vb tb fb sb pb mb z.ns c c c S z.ps w∧RZ S z φ∧BZ c z
def ZP (cap:Nat) (w0:World) (O:Nat→Prop) (fdb vb tb fb sb pb mb c:Nat) (z:Z) (w:World) (v:Value) (e:Ending) (w' :World):Prop:=
 e= .returned v∧Upd O w w' ∧∃O',EZ cap w0 O' fdb vb tb fb sb pb mb c z w' ∧∀k,O' k→O k∨w.heap.size≤k
section
variable {cap:Nat} {w0 w w1 w2 w' :World} {O O1:Nat→Prop} {fdb vb tb fb sb pb mb:Nat} {c c' N N' M M' :Nat} {S S' :FS} {ns:NSt} {ps:PS} {φ:Nat→Nat} {z z' :Z}
theorem FX.leN {C:Inhabited CapT} (h:FX w0 O fdb vb tb fb sb pb mb ns c N S w) (hN:N≤N'):FX w0 O fdb vb tb fb sb pb mb ns c N' S w:=by
 obtain ⟨lo,h1,h2,h3,h4,h5,h6,h7,h8⟩:=h
 obtain ⟨n,s,hm,hn⟩:=h7.m
 exact ⟨lo,h1,h2,h3,h4,h5,h6,⟨h7.f,⟨n,s,hm,by omega⟩,h7.t,h7.x,h7.r,h7.j⟩,h8⟩
theorem EX.up (h:EX cap w0 O fdb vb tb fb sb pb mb ns c N M S ps w) (hc:c≤c') (hN:N≤N') (hM:M≤M'):EX cap w0 O fdb vb tb fb sb pb mb ns c' N' M' S ps w:=by
 obtain ⟨po,fo,O1,h1,h2⟩:=h.le hc hM
 exact ⟨po,fo,O1,h1.leN hN,h2⟩
theorem ZP.of {v:Value} {e:Ending} (h:EP cap w0 O fdb vb tb fb sb pb mb z.ns c N M S z.ps w v e w') (hc:c≤c') (hN:N≤c') (hM:M≤c') (hR:RZ S z φ) (hB:BZ c' z):ZP cap w0 O fdb vb tb fb sb pb mb c' z w v e w' :=by
 obtain ⟨h1,h2,O',h3,h4⟩:=h
 exact ⟨h1,h2,O',⟨S,φ,h3.up hc hN hM,hR,hB⟩,h4⟩
theorem EZ.up (h:EZ cap w0 O fdb vb tb fb sb pb mb c z w) (hc:c≤c'):EZ cap w0 O fdb vb tb fb sb pb mb c' z w:=by
 obtain ⟨S,φ,h1,h2,h3⟩:=h
 exact ⟨S,φ,h1.up hc hc hc,h2,h3.le (by omega)⟩
theorem EZ.below (h:EZ cap w0 O fdb vb tb fb sb pb mb c z w) (hB:Below w.heap.size w w'):EZ cap w0 O fdb vb tb fb sb pb mb c z w' :=by
 obtain ⟨S,φ,h1,h2⟩:=h
 exact ⟨S,φ,h1.below hB,h2⟩
theorem ZP.same (h:EZ cap w0 O fdb vb tb fb sb pb mb c z w) (hc:c≤c') (hB:Below w.heap.size w w') (v:Value):ZP cap w0 O fdb vb tb fb sb pb mb c' z w v (.returned v) w' :=
 ⟨rfl,Upd.of_below hB,O,(h.below hB).up hc,fun k hk=> .inl hk⟩
theorem ZP.up {v:Value} {e:Ending} (h:ZP cap w0 O fdb vb tb fb sb pb mb c z w v e w') (hc:c≤c'):ZP cap w0 O fdb vb tb fb sb pb mb c' z w v e w' :=by
 obtain ⟨h1,h2,O',h3,h4⟩:=h
 exact ⟨h1,h2,O',h3.up hc,h4⟩
theorem FX.iv' {C:Inhabited CapT} (h:FX w0 O fdb vb tb fb sb pb mb ns c N S w):IV ns c:=by
 obtain ⟨lo,h1,_⟩:=h
 exact h1.2
theorem FX.b512' {C:Inhabited CapT} (h:FX w0 O fdb vb tb fb sb pb mb ns c N S w) {id:Int} {bs:List Int} (hb:fsAt (filesOf ns) id=some bs):bs.length≤512:=by
 obtain ⟨lo,h1,_⟩:=h
 obtain ⟨f,ls,hs⟩:=h1.1.2.1.sto
 obtain ⟨i,-,hi⟩:=fsAt_some hb
 obtain ⟨k,v,-,-,-,hf⟩:=hs.file i bs hi
 exact hf.most
theorem EX.iv (h:EX cap w0 O fdb vb tb fb sb pb mb ns c N M S ps w):IV ns c:=by
 obtain ⟨po,fo,O1,h1,_⟩:=h
 exact h1.iv'
theorem EX.b512 (h:EX cap w0 O fdb vb tb fb sb pb mb ns c N M S ps w) {id:Int} {bs:List Int} (hb:fsAt (filesOf ns) id=some bs):bs.length≤512:=by
 obtain ⟨po,fo,O1,h1,_⟩:=h
 exact h1.b512' hb
theorem FdB.fresh {fdb vb pb mb N:Nat} (h:FdB w fdb vb pb mb N S) {b:Nat} (hb:w.heap.size≤b):(∀i c,S.pr i=some c→c≠b)∧∀y t,S.th y=some t→y≠b:=
 ⟨fun i c hc e=> by have:=(h.t i c hc).lt;omega,fun y t hy e=> by have:=(h.x y t hy).lt;omega⟩
theorem BZ.few (h:BZ c z) (hR:RZ S z φ) (hc:c≤9000):Few S 100000:=fun x t hx=> by
 obtain ⟨k,hk,rfl⟩:=hR.t2 x t hx
 rw [hR.t1 k hk] at hx
 cases hx
 have:=h.nm k hk
 omega
theorem zz_start (h:EZ cap w0 O fdb vb tb fb sb pb mb c z w) (hc:c≤9000) (pid:Int) (hw:(Lit.int .i64 pid).wf=true) (r:Int) (hr:startZ z pid=(r,z')):
  Calls Tryz.prog 39 #[.pointer (some ⟨fdb,0,none⟩),.int .i64 pid] w (ZP cap w0 O fdb vb tb fb sb pb mb (c+8) z' w (.int .i64 r)):=by
 have hz:=h
 obtain ⟨S,φ,hE,hR,hB⟩:=h
 unfold startZ at hr
 by_cases h0:pid < 0
 ·rw [if_pos h0] at hr;cases hr
  refine (k_startneg pid h0).mono ?_
  rintro e w1 ⟨rfl,rfl⟩
  exact ZP.same hz (by omega) (Below.refl _ _) _
 ·rw [if_neg h0] at hr
  cases hp:z.pr pid with
  | some f=>
   rw [hp] at hr
   cases hr
   obtain ⟨b,hb,-⟩:=hR.some' hp
   refine (k_startbusy hE.fd pid hw (by omega) b hb).mono ?_
   rintro e w1 ⟨rfl,rfl⟩
   exact ZP.same hz (by omega) (Below.refl _ _) _
  | none=>
   rw [hp] at hr
   cases hr
   refine (ex_start hE (by omega) pid hw (by omega) (hR.none' hp)).mono ?_
   rintro e w1 ⟨b,hb,hq⟩
   exact ZP.of (z:=z.putp pid (some fun _=> none)) hq (by omega) (by omega) (by omega) (hR.start hp (hE.fd.fresh hb).1) ((hB.le (by omega)).ns rfl rfl rfl)
theorem zz_copy (h:EZ cap w0 O fdb vb tb fb sb pb mb c z w) (hc:c≤9000) (pid q:Int) (hw:(Lit.int .i64 pid).wf=true) (hw2:(Lit.int .i64 q).wf=true) (r:Int) (hr:copyZ z pid q=(r,z')):
  Calls Tryz.prog 56 #[.pointer (some ⟨fdb,0,none⟩),.int .i64 pid,.int .i64 q] w (ZP cap w0 O fdb vb tb fb sb pb mb (c+8) z' w (.int .i64 r)):=by
 have hz:=h
 obtain ⟨S,φ,hE,hR,hB⟩:=h
 unfold copyZ at hr
 cases hp:z.pr pid with
 | none=>
  rw [hp] at hr;cases hr
  refine (k_copynone hE.fd pid hw (hR.none' hp) q).mono ?_
  rintro e w1 ⟨rfl,rfl⟩
  exact ZP.same hz (by omega) (Below.refl _ _) _
 | some f=>
  rw [hp] at hr
  simp only at hr
  obtain ⟨b,hb,hsl⟩:=hR.some' hp
  by_cases h0:q < 0
  ·rw [if_pos h0] at hr;cases hr
   refine (k_copybad hE.fd pid hw b hb q 2 (k_startneg q h0) (by decide)).mono ?_
   rintro e w1 ⟨rfl,rfl⟩
   exact ZP.same hz (by omega) (Below.refl _ _) _
  ·rw [if_neg h0] at hr
   cases hq:z.pr q with
   | some g=>
    rw [hq] at hr
    cases hr
    obtain ⟨b2,hb2,-⟩:=hR.some' hq
    refine (k_copybad hE.fd pid hw b hb q 5 (k_startbusy hE.fd q hw2 (by omega) b2 hb2) (by decide)).mono ?_
    rintro e w1 ⟨rfl,rfl⟩
    exact ZP.same hz (by omega) (Below.refl _ _) _
   | none=>
    rw [hq] at hr
    cases hr
    refine (ex_copy hE (by omega) pid q hw hw2 (by omega) b hb (hR.none' hq) (hB.few hR hc)).mono ?_
    rintro e w1 ⟨b2,hb2,hq2⟩
    have hbz:=(hB.bumps f (fun d k hk=> (hR.rg pid f hp d k hk).1) 8).ns (z' := {z.putp q (some f) with th:=bumpZ z.th f 8}) rfl rfl rfl
    exact ZP.of (z:= {z.putp q (some f) with th:=bumpZ z.th f 8}) hq2 (by omega) (by omega) (by omega) (hR.copy hb hp hq (hE.fd.fresh hb2).1) (hbz.le (by push_cast;omega))
end
end Go.Proofs.YtjpjafajploiaaaGreatDoor
namespace Go.Proofs.YtjpjafajploiaaaGreatDoor
open Go.RowKit Own RegJ Two Go.Shelf Go.Proofs
structure PrC (w:World) (qb qm n s:Nat) (m:PrM):Prop where
 q:Blk w qb #[.map (some qm)] 129
 mm:∃n' s',MapI w Tryz.prog 3 qm n' s' (fun i=> (m i).map prV)∧n' ≤n∧s' ≤s
 p:∀i x,m i=some x→(Lit.int .i64 i).wf=true
def startP (m:PrM) (pid pa:Int):Int×PrM:=if pid < 0 then (2,m) else if (m pid).isSome then (5,m) else if pa≠ -1∧aliveF m pa=false then (4,m) else (0,prPut m pid (some ⟨pa,0,false⟩))
def leaveP (m:PrM) (c:Int):PrM:=match m c with
 | some x=> if x.de=true then prPut m c none else prPut m c (some {x with pa:= -1})
 | none=> m
def IsKids (m:PrM) (pid:Int) (ys:List Int):Prop:=ys.Pairwise (· < ·)∧∀c,c∈ys↔∃x,m c=some x∧x.pa=pid
theorem sorted_ext:∀ {a b:List Int},a.Pairwise (· < ·)→b.Pairwise (· < ·)→(∀c,c∈a↔c∈b)→a=b
 | [],[],_,_,_=> rfl
 | [],y::b,_,_,h=> absurd ((h y).2 (List.mem_cons_self ..)) (by simp)
 | x::a,[],_,_,h=> absurd ((h x).1 (List.mem_cons_self ..)) (by simp)
 | x::a,y::b,h1,h2,h=> by
  obtain ⟨p1,q1⟩:=List.pairwise_cons.1 h1
  obtain ⟨p2,q2⟩:=List.pairwise_cons.1 h2
  have e:x=y:=by
   have hx:=(h x).1 (List.mem_cons_self ..)
   have hy:=(h y).2 (List.mem_cons_self ..)
   rcases List.mem_cons.1 hx with e | e
   ·exact e
   ·rcases List.mem_cons.1 hy with e2 | e2
    ·exact e2.symm
    ·have:=p2 x e;have:=p1 y e2;omega
  subst e
  congr 1
  refine sorted_ext q1 q2 (fun c=> ?_)
  have hc:=h c
  simp only [List.mem_cons] at hc
  constructor
  ·intro hm
   rcases hc.1 (.inr hm) with e | e
   ·have:=p1 c hm;omega
   ·exact e
  ·intro hm
   rcases hc.2 (.inr hm) with e | e
   ·have:=p2 c hm;omega
   ·exact e
open Classical in
noncomputable def kidsOf (m:PrM) (pid:Int):List Int:=if h:∃ys,IsKids m pid ys then h.choose else []
theorem IsKids.eq {m:PrM} {pid:Int} {ys:List Int} (h:IsKids m pid ys):kidsOf m pid=ys:=by
 have hex:∃ys,IsKids m pid ys:=⟨ys,h⟩
 unfold kidsOf
 rw [dif_pos hex]
 exact sorted_ext hex.choose_spec.1 h.1 (fun c=> (hex.choose_spec.2 c).trans (h.2 c).symm)
section
variable {w w' :World} {qb qm n s n' s' :Nat} {m m' :PrM}
theorem PrC.upd {F:Nat→Prop} (h:PrC w qb qm n s m) (hu:Upd F w w') (h1:¬F qb) (h2:¬F qm):PrC w' qb qm n s m:=by
 obtain ⟨n',s',hm,hn⟩:=h.mm
 exact ⟨Blk.upd hu h.q h1,⟨n',s',hm.upd hu h2,hn⟩,h.p⟩
theorem PrC.below (h:PrC w qb qm n s m) (hB:Below w.heap.size w w'):PrC w' qb qm n s m:=h.upd (Upd.of_below (F:=fun _=> False) hB) (fun h=> h) (fun h=> h)
theorem PrC.le (h:PrC w qb qm n s m) (hn:n≤n') (hs:s≤s'):PrC w qb qm n' s' m:=by
 obtain ⟨a,b,hm,h1,h2⟩:=h.mm
 exact ⟨h.q,⟨a,b,hm,by omega,by omega⟩,h.p⟩
theorem PrC.lt (h:PrC w qb qm n s m):qb < w.heap.size∧qm < w.heap.size:=by
 obtain ⟨n',s',hm,hn⟩:=h.mm
 exact ⟨h.q.lt,hm.lt⟩
theorem PrC.ne (h:PrC w qb qm n s m):qb≠qm:=by
 obtain ⟨n',s',hm,_⟩:=h.mm
 exact hm.blk h.q
theorem PrC.b (h:PrC w qb qm n s m):PrB w qb qm n m:=by
 obtain ⟨n',s',hm,hn,_⟩:=h.mm
 exact ⟨h.q,n',s',hm,hn⟩
theorem prV_put (m:PrM) (c:Int) (x:Pr):(fun i=> (prPut m c (some x) i).map prV)=mput (fun i=> (m i).map prV) c (prV x):=by
 funext j
 unfold prPut mput
 by_cases hj:j=c
 ·rw [if_pos hj,if_pos hj];rfl
 ·rw [if_neg hj,if_neg hj]
theorem prV_del (m:PrM) (c:Int):(fun i=> (prPut m c none i).map prV)=mdel (fun i=> (m i).map prV) c:=by
 funext j
 unfold prPut mdel
 by_cases hj:j=c
 ·rw [if_pos hj,if_pos hj];rfl
 ·rw [if_neg hj,if_neg hj]
theorem prPut_wf {m:PrM} {c:Int} {x:Option Pr} (h:∀i x,m i=some x→(Lit.int .i64 i).wf=true) (hc:(Lit.int .i64 c).wf=true):∀i y,prPut m c x i=some y→(Lit.int .i64 i).wf=true:=by
 intro i y hy
 unfold prPut at hy
 split at hy
 ·rename_i e;rw [e];exact hc
 ·exact h i y hy
theorem PrC.put (hq:Blk w' qb #[.map (some qm)] 129) (h:PrC w qb qm n s m) {c:Int} (hc:(Lit.int .i64 c).wf=true) (x:Pr) (h1:n' ≤n) (h2:s' ≤s) (hm:MapI w' Tryz.prog 3 qm (n' +1) (if ((m c).map prV).isSome then s' else s' +1) (mput (fun i=> (m i).map prV) c (prV x))):PrC w' qb qm (n+1) (if (m c).isSome then s else s+1) (prPut m c (some x)):=by
 refine ⟨hq,⟨n' +1,_,by rw [prV_put];exact hm,by omega,?_⟩,prPut_wf h.p hc⟩
 cases m c <;> simp <;> omega
theorem PrC.del (hq:Blk w' qb #[.map (some qm)] 129) (h:PrC w qb qm n s m) {c:Int} (hc:(Lit.int .i64 c).wf=true) (h1:n' ≤n) (h2:s' ≤s) (hm:MapI w' Tryz.prog 3 qm n' (if ((m c).map prV).isSome then s' - 1 else s') (mdel (fun i=> (m i).map prV) c)):PrC w' qb qm n s (prPut m c none):=by
 refine ⟨hq,⟨n',_,by rw [prV_del];exact hm,by omega,?_⟩,prPut_wf h.p hc⟩
 cases m c <;> simp <;> omega
set_option maxRecDepth 100000 in
set_option maxHeartbeats 1000000 in
theorem pstart_c (h:PrC w qb qm n s m) (hn:n≤100000000) (pid pa:Int) (hw:(Lit.int .i64 pid).wf=true) (hwa:(Lit.int .i64 pa).wf=true) (r:Int) (m' :PrM) (hr:startP m pid pa=(r,m')):
  Calls Tryz.prog 38 #[.pointer (some ⟨qb,0,none⟩),.int .i64 pid,.int .i64 pa] w fun e w' => e= .returned (.int .i64 r)∧PrC w' qb qm (n+1) (s+1) m' ∧Upd (fun k=> k=qm) w w' :=by
 have hl:=h.b.look pid hw
 have c0:=h.q.rd 0
 have hquiet:∀w1,Below w.heap.size w w1→PrC w1 qb qm (n+1) (s+1) m∧Upd (fun k=> k=qm) w w1:=fun w1 hB=> ⟨(h.below hB).le (by omega) (by omega),Upd.of_below hB⟩
 have hal:∀a b c,Below w.heap.size w (w.alloc (.cells #[.int .i64 a,.int .i64 b,.bool c] 125)):=fun a b c=> (Below.refl _ _).alloc (Nat.le_refl _) _
 unfold startP at hr
 by_cases h0:pid < 0
 ·rw [if_pos h0] at hr;cases hr
  have d1:decide (pid < 0)=true:=decide_eq_true h0
  have HQ:=Lib.hid (And.intro hquiet hal)
  cases hp:m pid with
  | none=>
   rw [hp] at hl
   simp only [Option.map_none,Option.getD_none,Option.isSome_none] at hl
   clear h hquiet hal h0 hp hw
   go_enter Tryz.func38,Tryz.ntmps38
   go_wp2_with (fail)
   go_ret
   exact ⟨rfl,HQ.out.1 _ (HQ.out.2 _ _ _)⟩
  | some x=>
   obtain ⟨p1,p2,p3⟩:=x
   rw [hp] at hl
   simp only [Option.map_some,Option.getD_some,Option.isSome_some,prV] at hl
   clear h hquiet hal h0 hp hw
   go_enter Tryz.func38,Tryz.ntmps38
   go_wp2_with (fail)
   go_ret
   exact ⟨rfl,HQ.out.1 _ (HQ.out.2 _ _ _)⟩
 ·rw [if_neg h0] at hr
  have d1:decide (pid < 0)=false:=decide_eq_false h0
  cases hp:m pid with
  | some x=>
   rw [hp] at hl hr
   cases hr
   obtain ⟨p1,p2,p3⟩:=x
   simp only [Option.map_some,Option.getD_some,Option.isSome_some,prV] at hl
   have HQ:=Lib.hid (And.intro hquiet hal)
   clear h hquiet hal h0 hp hw
   go_enter Tryz.func38,Tryz.ntmps38
   go_wp2_with (fail)
   go_ret
   exact ⟨rfl,HQ.out.1 _ (HQ.out.2 _ _ _)⟩
  | none=>
   rw [hp] at hl hr
   simp only [Option.map_none,Option.getD_none,Option.isSome_none,Bool.false_eq_true,if_false] at hl hr
   have hal0:=hal 0 0 false
   obtain ⟨n',s',hm,hn',hs'⟩:=h.mm
   have hm1:MapI (w.alloc (.cells #[.int .i64 0,.int .i64 0,.bool false] 125)) Tryz.prog 3 qm n' s' (fun i=> (m i).map prV):=hm.upd (Upd.of_below (F:=fun _=> False) hal0) (fun h=> h)
   have hq1:=Blk.below hal0 h.q h.q.lt
   have c1:=hq1.rd 0
   have key:∀w1 w2,Below w.heap.size w w1→MapI w2 Tryz.prog 3 qm (n' +1) (if ((m pid).map prV).isSome then s' else s' +1) (mput (fun i=> (m i).map prV) pid (prV ⟨pa,0,false⟩))→Upd (fun k=> k=qm) w1 w2→PrC w2 qb qm (n+1) (s+1) (prPut m pid (some ⟨pa,0,false⟩))∧Upd (fun k=> k=qm) w w2:=by
    intro w1 w2 hB hm2 hu2
    refine ⟨(PrC.put (Blk.upd hu2 (Blk.below hB h.q h.q.lt) h.ne) h hw ⟨pa,0,false⟩ hn' hs' hm2).le (by omega) (by split <;> omega),(Upd.of_below hB).trans hu2 (fun _ _ h=> h)⟩
   by_cases hpa:pa= -1
   ·subst hpa
    rw [if_neg (by simp)] at hr;cases hr
    have HK:=Lib.hid (And.intro key (And.intro hm1 (And.intro hal0 (And.intro hw hn'))))
    clear h hquiet hal h0 hp hw key hm1 hal0 hm hq1 hn' hs'
    go_enter Tryz.func38,Tryz.ntmps38
    go_wp2_with (refine wp_mapput _ rfl (.tmp 37) (.tmp 38) (.tmp 40) 127 rfl 3 125 Tryz.underlying3 Tryz.underlying127 qm n' s' _ rfl HK.out.2.1 (by have:=HK.out.2.2.2.2;unfold maxLen;omega) pid HK.out.2.2.2.1 _ rfl rfl ?_;intro w2 hm2 hu2;have H2:=Lib.hid (HK.out.1 _ w2 HK.out.2.2.1 hm2 hu2);clear hm2 hu2)
    go_ret
    exact ⟨rfl,H2.out⟩
   ·have e1:(pa== -1)=false:=by simpa using hpa
    have e2:(pa != -1)=true:=by simpa using hpa
    have ha:=fun w1 (hB:Below w.heap.size w w1)=> alive_is (h.below hB).b pa hwa
    cases hav:aliveF m pa with
    | true=>
     rw [if_neg (by simp [hav])] at hr;cases hr
     have ha' :=fun w1 hB=> ha w1 hB true hav
     have hcell:=fun w1 (hB:Below w.heap.size w w1)=> (Blk.below hB h.q h.q.lt).rd 0
     have hmap:∀w1,Below w.heap.size w w1→MapI w1 Tryz.prog 3 qm n' s' (fun i=> (m i).map prV):=fun w1 hB=> hm.upd (Upd.of_below (F:=fun _=> False) hB) (fun h=> h)
     have HK:=Lib.hid (And.intro key (And.intro hmap (And.intro hal0 (And.intro hw (And.intro hn' (And.intro ha' hcell))))))
     clear h hquiet hal h0 hp hw key hm1 hal0 hm hq1 hn' hs' ha ha' hcell hmap hpa hav
     go_enter Tryz.func38,Tryz.ntmps38
     go_wp2_with (first
      | (go_at_call 22;refine (HK.out.2.2.2.2.2.1 _ HK.out.2.2.1).mono ?_;rintro e w1 ⟨rfl,hB⟩;have hB1:=HK.out.2.2.1.trans (hB.mono HK.out.2.2.1.size);have c2:=HK.out.2.2.2.2.2.2 _ hB1;have H1:=Lib.hid hB1;clear hB hB1 c1)
      | (refine wp_mapput _ rfl (.tmp 37) (.tmp 38) (.tmp 40) 127 rfl 3 125 Tryz.underlying3 Tryz.underlying127 qm n' s' _ rfl (HK.out.2.1 _ H1.out) (by have:=HK.out.2.2.2.2.1;unfold maxLen;omega) pid HK.out.2.2.2.1 _ rfl rfl ?_;intro w2 hm2 hu2;have H2:=Lib.hid (HK.out.1 _ w2 H1.out hm2 hu2);clear hm2 hu2))
     go_ret
     exact ⟨rfl,H2.out⟩
    | false=>
     rw [if_pos ⟨hpa,hav⟩] at hr;cases hr
     have ha' :=fun w1 hB=> ha w1 hB false hav
     have HK:=Lib.hid (And.intro hquiet (And.intro hal0 ha'))
     clear h hquiet hal h0 hp hw key hm1 hal0 hm hq1 hn' hs' ha ha' hpa hav
     go_enter Tryz.func38,Tryz.ntmps38
     go_wp2_with (go_at_call 22;refine (HK.out.2.2 _ HK.out.2.1).mono ?_;rintro e w1 ⟨rfl,hB⟩;have H1:=Lib.hid (HK.out.2.1.trans (hB.mono HK.out.2.1.size));clear hB)
     go_ret
     exact ⟨rfl,HK.out.1 _ H1.out⟩
end
end Go.Proofs.YtjpjafajploiaaaGreatDoor
