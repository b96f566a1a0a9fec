/-
  Unix' acts as they lie; great.
-/
import Derived.Test.YtjpjafajploiaaaGreatDoorUnixAlone47
import Derived.Test.YtjpjafajploiaaaGreatDoorUnixAlone48
import Derived.ProofKit
import Derived.OpenShut
import Derived.ChangeSlices
import Derived.Lib.SmallJoins
import Derived.Deep.Slices
import Derived.Deep.Fields
set_option linter.unusedSimpArgs false
set_option linter.unusedVariables false
namespace Go.Proofs.YtjpjafajploiaaaGreatDoor
open Go.RowKit Own RegJ Two
open Go.Lib hiding intOf
structure UAct (w:World) (av:Option Addr) (i g o:Nat) (d p n sys a b:Int) (s t:ByteArray):Prop where
 adr:av=some ⟨g,o,none⟩
 lt:g < w.heap.size
 k0:w.cell? ⟨g,o+i*8,none⟩=some (.int .i64 d)
 k1:w.cell? ⟨g,o+i*8+1,none⟩=some (.int .i64 p)
 k2:w.cell? ⟨g,o+i*8+2,none⟩=some (.int .i64 n)
 k3:w.cell? ⟨g,o+i*8+3,none⟩=some (.int .i64 sys)
 k4:w.cell? ⟨g,o+i*8+4,none⟩=some (.int .i64 a)
 k5:w.cell? ⟨g,o+i*8+5,none⟩=some (.int .i64 b)
 k6:w.cell? ⟨g,o+i*8+6,none⟩=some (.string s)
 k7:w.cell? ⟨g,o+i*8+7,none⟩=some (.string t)
 wp:(Lit.int .i64 p).wf=true
 wn:(Lit.int .i64 n).wf=true
def UActs (w:World) (av:Option Addr) (len:Nat):Prop:=∀i,i < len→∃g o d p n sys a b s t,UAct w av i g o d p n sys a b s t
def GrU (w:World) (len most:Nat) (e:Ending) (w' :World):Prop:=∃b,e= .returned (.bool b)∧(b=false→len≤most)∧w=w'
set_option maxRecDepth 100000 in
set_option maxHeartbeats 4000000 in
theorem greatu_v {w:World} {av:Option Addr} {len cap:Nat} (hA:UActs w av len) (hm:len≤maxLen) (most:Nat) (hmo:most≤1000):Calls Tryz.prog 8 #[.slice av len cap,.int .i64 most] w (GrU w len most):=by
 unfold maxLen at hm
 have HA:=Lib.hid hA
 clear hA
 by_cases hl:len≤most
 ·have d1:decide ((len:Int)≤(most:Int))=true:=by simp;omega
  have d2:decide ((len:Int) > (most:Int))=false:=by simp;omega
  have d2n:decide (len > most)=false:=by simp;omega
  have d2m:decide (most < len)=false:=by simp;omega
  have d1n:decide (len≤most)=true:=by simp;omega
  go_enter Tryz.func8,Tryz.ntmps8
  go_wp2_with (fail)
  go_loopw [5] (fun v5 wr=> ∃i:Nat,i≤len∧v5= .int .i64 i∧wr=w) (fun v5 _=> len - (intOf v5).toNat)
  case atStart=> exact ⟨0,Nat.zero_le _,rfl,rfl⟩
  case round=>
   obtain ⟨i,hi,rfl,rfl⟩:=hrel
   by_cases hil:i < len
   ·obtain ⟨g,o,d,p,n,sys,a,b,S,T,hact⟩:=HA.out i hil
    obtain ⟨rfl,-,-,-,-,-,-,-,k6,k7,-,-⟩:=hact
    have k6' :wr.cell? ⟨g,o+i*8+3+3,none⟩=some (.string S):=k6
    have k7' :wr.cell? ⟨g,o+i*8+3+4,none⟩=some (.string T):=k7
    have d5:decide ((i:Int) < (len:Int))=true:=by simp;omega
    have i5:(i:Int) < (len:Int):=by omega
    have i6:(0:Int)≤i:=by omega
    by_cases hs:S.size > 600
    ·have d6:decide ((S.size:Int) > 600)=true:=by simp;omega
     have d6n:decide (S.size > 600)=true:=by simpa using hs
     clear hs
     go_wp2_with (fail)
     go_ret
     exact ⟨true,rfl,(fun h=> by cases h),rfl⟩
    ·have d6:decide ((S.size:Int) > 600)=false:=by simp;omega
     have d6n:decide (S.size > 600)=false:=by simpa using hs
     by_cases ht:T.size > 600
     ·have d7:decide ((T.size:Int) > 600)=true:=by simp;omega
      have d7n:decide (T.size > 600)=true:=by simpa using ht
      clear hs ht
      go_wp2_with (fail)
      go_ret
      exact ⟨true,rfl,(fun h=> by cases h),rfl⟩
     ·have d7:decide ((T.size:Int) > 600)=false:=by simp;omega
      have d7n:decide (T.size > 600)=false:=by simpa using ht
      clear hs ht
      go_wp2_with (fail)
      go_roundw
      case rel=> exact ⟨i+1,by omega,by go_num,by trivial⟩
      case measure=> simp [intOf];omega
   ·have d5:decide ((i:Int) < (len:Int))=false:=by simp;omega
    have d5n:decide (i < len)=false:=by simp;omega
    obtain rfl:i=len:=by omega
    have HLL:=Lib.hid hl
    clear hil hi
    go_wp2_with (fail)
    go_ret
    exact ⟨false,rfl,fun _=> HLL.out,rfl⟩
 ·have d1:decide ((len:Int)≤(most:Int))=false:=by simp;omega
  have d2:decide ((len:Int) > (most:Int))=true:=by simp;omega
  have d1n:decide (len≤most)=false:=by simp;omega
  have d2n:decide (len > most)=true:=by simp;omega
  have d2m:decide (most < len)=true:=by simp;omega
  have d5:decide ((0:Int) < (len:Int))=true:=by simp;omega
  have d5n:decide (0 < len)=true:=by simp;omega
  have i5:(0:Int) < (len:Int):=by omega
  clear hl
  go_enter Tryz.func8,Tryz.ntmps8
  go_wp2_with (fail)
  go_loopw [5] (fun v5 wr=> v5= .int .i64 0∧wr=w) (fun v5 _=> 0)
  case atStart=> exact ⟨rfl,rfl⟩
  case round=>
   obtain ⟨rfl,rfl⟩:=hrel
   go_wp2_with (fail)
   go_ret
   exact ⟨true,rfl,(fun h=> by cases h),rfl⟩
end Go.Proofs.YtjpjafajploiaaaGreatDoor
namespace Go.Proofs.YtjpjafajploiaaaGreatDoor
open Go.ChangeShapes Go.WideShapes Go.ChangeAt Go.RowKit Go.Joins Go.Deep RegJ
section
variable {H:Type} {enc:TypeId×Value→H} {P:Program} {w:World} {base:Nat} {spare:Nat→Bool} {held:Bool}
theorem trod_uactw {t:TypeId} {f0 f1 f2 f3:Field} {n:Nat} {cs:List Value} {y:DataW H×List MemPlace} (hs:P.underlying t=some (.struct #[f0,f1,f2,f3])) (hC:P.cellsOf t=8) (o0:f0.offset=0) (k0:P.cellsOf f0.type=1) (i0:P.underlying f0.type=some (.int .i64)) (o1:f1.offset=1) (k1:P.cellsOf f1.type=1) (i1:P.underlying f1.type=some (.int .i64)) (o2:f2.offset=2) (k2:P.cellsOf f2.type=1) (i2:P.underlying f2.type=some (.int .i64)) (o3:f3.offset=3) (k3:P.cellsOf f3.type=5) {g0 g1 g2 g3 g4:Field} (hr:P.underlying f3.type=some (.struct #[g0,g1,g2,g3,g4])) (hone:oneCellFields P #[g0,g1,g2,g3,g4]=true) (r0:P.underlying g0.type=some (.int .i64)) (r1:P.underlying g1.type=some (.int .i64)) (r2:P.underlying g2.type=some (.int .i64)) (r3:P.underlying g3.type=some (.string)) (r4:P.underlying g4.type=some (.string))
  (h:DataW.trod enc P w base spare held n t cs=some y):∃(d p n sys a b:Int) (s t:ByteArray),cs= [.int .i64 d,.int .i64 p,.int .i64 n,.int .i64 sys,.int .i64 a,.int .i64 b,.string s,.string t]∧(Lit.int .i64 p).wf=true∧(Lit.int .i64 n).wf=true:=by
 obtain ⟨xs,m,_,hx,hl,hlen,hg⟩:=DataW.trod_struct hs h
 have hl9:=hl.trans hC
 match cs,hl9,hg with
 | [c0,c1,c2,c3,c4,c5,c6,c7],_,hg=>
  match xs,hlen,hg with
  | [y0,y1,y2,y3],_,hg=>
   have t0:DataW.trod enc P w base spare held m f0.type [c0]=some y0:=by simpa [o0,k0] using hg 0 f0 rfl
   obtain ⟨a0,e0,-,w0⟩:=DataW.trod_int i0 t0
   have t1:DataW.trod enc P w base spare held m f1.type [c1]=some y1:=by simpa [o1,k1] using hg 1 f1 rfl
   obtain ⟨a1,e1,-,w1⟩:=DataW.trod_int i1 t1
   have t2:DataW.trod enc P w base spare held m f2.type [c2]=some y2:=by simpa [o2,k2] using hg 2 f2 rfl
   obtain ⟨a2,e2,-,w2⟩:=DataW.trod_int i2 t2
   have t3:DataW.trod enc P w base spare held m f3.type [c3,c4,c5,c6,c7]=some y3:=by simpa [o3,k3] using hg 3 f3 rfl
   obtain ⟨zs,m2,_,_,_,hl2,hg2⟩:=DataW.trod_struct hr t3
   match zs,hl2,hg2 with
   | [u0,u1,u2,u3,u4],_,hg2=>
   obtain ⟨p0,q0⟩:=hone_of hone 0 g0 rfl
   have s0:DataW.trod enc P w base spare held m2 g0.type [c3]=some u0:=by simpa [p0,q0] using hg2 0 g0 rfl
   obtain ⟨b0,e3,-,-⟩:=DataW.trod_int r0 s0
   obtain ⟨p1,q1⟩:=hone_of hone 1 g1 rfl
   have s1:DataW.trod enc P w base spare held m2 g1.type [c4]=some u1:=by simpa [p1,q1] using hg2 1 g1 rfl
   obtain ⟨b1,e4,-,-⟩:=DataW.trod_int r1 s1
   obtain ⟨p2,q2⟩:=hone_of hone 2 g2 rfl
   have s2:DataW.trod enc P w base spare held m2 g2.type [c5]=some u2:=by simpa [p2,q2] using hg2 2 g2 rfl
   obtain ⟨b2,e5,-,-⟩:=DataW.trod_int r2 s2
   obtain ⟨p3,q3⟩:=hone_of hone 3 g3 rfl
   have s3:DataW.trod enc P w base spare held m2 g3.type [c6]=some u3:=by simpa [p3,q3] using hg2 3 g3 rfl
   obtain ⟨b3,e6,-,-⟩:=DataW.trod_string r3 s3
   obtain ⟨p4,q4⟩:=hone_of hone 4 g4 rfl
   have s4:DataW.trod enc P w base spare held m2 g4.type [c7]=some u4:=by simpa [p4,q4] using hg2 4 g4 rfl
   obtain ⟨b4,e7,-,-⟩:=DataW.trod_string r4 s4
   simp only [List.cons.injEq,and_true] at e0 e1 e2 e3 e4 e5 e6 e7
   subst e0 e1 e2 e3 e4 e5 e6 e7
   exact ⟨a0,a1,a2,b0,b1,b2,b3,b4,rfl,w1,w2⟩
end
section
variable {H:Type} {enc:TypeId×Value→H} {w:World} {base:Nat} {spare:Nat→Bool} {held:Bool}
set_option maxRecDepth 100000 in
theorem a_uactw {m:Nat} {cs:List Value} {z:DataW H×List MemPlace} (h:DataW.trod enc Tryz.prog w base spare held m 37 cs=some z):∃(d p n sys a b:Int) (s t:ByteArray),cs= [.int .i64 d,.int .i64 p,.int .i64 n,.int .i64 sys,.int .i64 a,.int .i64 b,.string s,.string t]∧(Lit.int .i64 p).wf=true∧(Lit.int .i64 n).wf=true:=
 trod_uactw (P:=Tryz.prog) (t:=37) Tryz.underlying37 (by kernel_rfl) rfl (by kernel_rfl) Tryz.underlying3 rfl (by kernel_rfl) Tryz.underlying3 rfl (by kernel_rfl) Tryz.underlying3 rfl (by kernel_rfl) Tryz.underlying35 (by kernel_rfl) Tryz.underlying3 Tryz.underlying3 Tryz.underlying3 Tryz.underlying9 Tryz.underlying9 h
set_option maxRecDepth 100000 in
theorem open_uacts {b0:Nat} {r:Reach} {v:Value} {d:DataW H} {p:List MemPlace} (hv:Value.okWide Tryz.prog w r b0 23 v) (h:DataW.Trod enc Tryz.prog w base spare held 23 v d p):∃av len cap,v= .slice av len cap∧len≤maxLen∧UActs w av len:=by
 obtain ⟨av,len,cap,rfl⟩:=okWide_slice Tryz.underlying23 hv
 obtain ⟨fuel,hf⟩:=h
 rcases open_slice Tryz.underlying23 hf with ⟨hcs,_⟩ | ⟨a,len',cap',m,n,D,Pl,hcs,_,hl,hm,hmm,_,hi⟩
 ·simp [Value.cells] at hcs
  obtain ⟨rfl,rfl,rfl⟩:=hcs
  exact ⟨none,0,0,rfl,by simp,fun i hi=> by omega⟩
 ·simp [Value.cells] at hcs
  obtain ⟨rfl,rfl,rfl⟩:=hcs
  refine ⟨some a,len,cap,rfl,by omega,fun i hil=> ?_⟩
  have him:i < m:=by rw [hmm];split <;> omega
  have hat:∀i,i < m→∃(d p n sys a' b' :Int) (s t:ByteArray),(∀j v,[Value.int .i64 d,.int .i64 p,.int .i64 n,.int .i64 sys,.int .i64 a',.int .i64 b',.string s,.string t][j]? =some v→w.cell? (a.add (i*8+j))=some v)∧(Lit.int .i64 p).wf=true∧(Lit.int .i64 n).wf=true:=by
   intro i him
   obtain ⟨cs',hc,ht'⟩:=hi i him
   obtain ⟨d,p,n,sys,a',b',s,t,rfl,hp,hn⟩:=a_uactw ht'
   obtain ⟨_,hcl,hat⟩:=World.cells?_some hc
   refine ⟨d,p,n,sys,a',b',s,t,fun j v hj=> ?_,hp,hn⟩
   have hjl:=(List.getElem?_eq_some_iff.1 hj).1
   have h8:Tryz.prog.cellsOf 37=8:=by kernel_rfl
   have h1:=hat j (by rw [h8];exact hjl)
   rw [h8] at h1
   rw [←Go.Deep.add_add,h1,hj]
  obtain ⟨d,p,n,sys,a',b',s,t,hk,hp,hn⟩:=hat i him
  obtain ⟨d',p',n',sys',a'',b'',s',t',hk',-,-⟩:=hat 0 (by omega)
  have c' :=hk' 0 _ rfl
  obtain ⟨g,o,spot⟩:=a
  have hspot:spot=none:=by simpa [Addr.add] using World.cell?_spot c'
  subst hspot
  have hlt:=cell_lt3 c'
  have e:∀j,(⟨g,o,none⟩:Addr).add (i*8+j)=⟨g,o+i*8+j,none⟩:=fun j=> by
   unfold Addr.add
   by_cases h0:i*8+j=0
   ·rw [if_pos h0]
    have:o+i*8+j=o:=by omega
    rw [this]
   ·rw [if_neg h0,Nat.add_assoc]
  refine ⟨g,o,d,p,n,sys,a',b',s,t,rfl,by simpa [Addr.add] using hlt,?_,?_,?_,?_,?_,?_,?_,?_,hp,hn⟩
  ·have:=hk 0 _ rfl;rw [e] at this;exact this
  ·have:=hk 1 _ rfl;rw [e] at this;exact this
  ·have:=hk 2 _ rfl;rw [e] at this;exact this
  ·have:=hk 3 _ rfl;rw [e] at this;exact this
  ·have:=hk 4 _ rfl;rw [e] at this;exact this
  ·have:=hk 5 _ rfl;rw [e] at this;exact this
  ·have:=hk 6 _ rfl;rw [e] at this;exact this
  ·have:=hk 7 _ rfl;rw [e] at this;exact this
end
end Go.Proofs.YtjpjafajploiaaaGreatDoor
