/-
  Paths: Parent, of the program and of the document.
-/
import Derived.BigQuiet
import Derived.Deep.QuietTactic
import Derived.Deep.CutRange
import Derived.Test.YtjpjafajploiaaaGreatDoorUnixAlone20
set_option linter.unusedSimpArgs false
set_option linter.unusedVariables false
namespace Go.Proofs.YtjpjafajploiaaaGreatDoor
open Go.RowKit Own RegJ
open Go.Lib hiding intOf
theorem RdT.take {w:World} {a:Option Addr} {xs:List Txt} (h:RdT w a xs) (m:Nat):RdT w a (xs.take m):=by
 intro k x hx
 rw [List.getElem?_take] at hx
 split at hx
 ·exact h k x hx
 ·cases hx
theorem RdT.below {w w' :World} {a:Option Addr} {xs:List Txt} (h:RdT w a xs) (hB:Below w.heap.size w w'):RdT w' a xs:=by
 intro k x hx
 obtain ⟨g,o,h1,h2⟩:=h k x hx
 exact ⟨g,o,h1,(hB.cell (cell_lt' h2)).trans h2⟩
theorem Txts.cap {w:World} {a:Option Addr} {n c:Nat} {xs:List Txt} {b:Option Nat} (h:Txts w (.slice a n c) xs b):n≤c∧n=xs.length:=by
 rcases h with ⟨h,rfl,_⟩ | ⟨g,cap,rest,hv,hb,hB,hc,hm⟩
 ·cases h;exact ⟨Nat.le_refl _,rfl⟩
 ·simp only [Value.slice.injEq] at hv
  obtain ⟨rfl,rfl,rfl⟩:=hv
  rw [List.length_append] at hc
  simp at hc
  exact ⟨by omega,rfl⟩
theorem SplitP.at {l:Txt} {w w' :World} {e:Ending} {n:Nat} {N:Int} (h:SplitP l w e w') (hn:(splitL l).length=n) (hN:splitE l=N):∃a c b,e= .returned (.tuple #[.slice a n c,.int .i64 N])∧Txts w' (.slice a n c) (splitL l) b∧(∀g,b=some g→w.heap.size≤g)∧Below w.heap.size w w' :=by
 subst hn;subst hN;exact h
theorem below_dn {B:Nat} {w w' :World} (h:Below B w w') (q:Nat):Below B w (w'.drewN q):=⟨h.os,h.tape,h.output,h.size,h.block⟩
abbrev ParV (l:Txt):Value:= .tuple #[.string (B (parD l)),.string (B (parN l)),.int .i64 (parE l)]
set_option maxRecDepth 100000 in
theorem par_is (l:Txt) (w:World) (hl:l.length≤100000) (m0:Int) (hm0:w.cell? ⟨0,0,none⟩=some (.int .i64 m0)):
  Calls Tryz.prog 146 #[.string (B l)] w (ValB (ParV l) w):=by
 have hs:=split_is l w hl m0 hm0
 have hlen:=splitL_len l
 by_cases hE:splitE l=0
 ·have hok:=(split_join hE).2
  by_cases hx:splitL l= []
  ·have h1:parE l=19:=by unfold parE;rw [if_pos hE,if_pos hx]
   have h2:parD l= []:=by unfold parD;rw [if_neg (by omega)]
   have h3:parN l= []:=by unfold parN;rw [if_neg (by omega)]
   unfold ParV
   rw [h1,h2,h3]
   generalize B l=s at*
   go_enter Tryz.func146,Tryz.ntmps146
   go_wp2_with (go_at_call 117;refine hs.mono ?_;intro e w1 hq;obtain ⟨a,c,b,rfl,hT,hb,hB⟩:=hq.at (n:=0) (by rw [hx];rfl) hE;have HB:=Lib.hid hB;clear hB hT hb hq)
   go_returns
   exact ⟨rfl,HB.out⟩
  ·have h1:parE l=0:=by unfold parE;rw [if_pos hE,if_neg hx]
   have h2:parD l=joinT ((splitL l).take ((splitL l).length - 1)):=by unfold parD;rw [if_pos h1]
   have h3:parN l=(splitL l).getD ((splitL l).length - 1) []:=by unfold parN;rw [if_pos h1]
   unfold ParV
   rw [h1,h2,h3]
   obtain ⟨m,hm⟩:∃m,(splitL l).length=m+1:=⟨(splitL l).length - 1,by have:=List.length_pos_iff.2 hx;omega⟩
   have hj:joinR ((splitL l).take m)=joinT ((splitL l).take m):=by unfold joinR;rw [if_pos (every_take m hok)]
   have hje:everyE ((splitL l).take m)=0:=every_take m hok
   obtain ⟨x,hxm⟩:∃x,(splitL l)[m]? =some x:=⟨(splitL l)[m]'(by omega),List.getElem?_eq_getElem _⟩
   rw [show (splitL l).getD ((splitL l).length - 1) []=x by rw [hm,List.getD_eq_getElem?_getD,show m+1 - 1=m by omega,hxm];rfl]
   rw [show (splitL l).take ((splitL l).length - 1)=(splitL l).take m by rw [hm];rfl]
   have hml:((splitL l).take m).length=m:=by rw [List.length_take];omega
   have d1:decide ((m:Int) < 0)=false:=by simp
   have HX:=Lib.hid hxm
   generalize B l=s at*
   go_enter Tryz.func146,Tryz.ntmps146
   go_upto_region 8 with (first
    | (go_at_call 117;refine hs.mono ?_;intro e w1 hq;obtain ⟨a,c,b,rfl,hT,hb,hB⟩:=hq.at hm hE;have HB:=Lib.hid hB;have hcap:=hT.cap.1;have hrd:=hT.rd;have HC:=Lib.hid hcap;have i1:(m:Int)+1≤(c:Int):=(by omega);have i2:m≤c:=(by omega);have i3:(m:Int)≤(c:Int):=(by omega);have i4:(0:Int)≤(m:Int):=(by omega);have hjc:=join_is (xs:=(splitL l).take m) m c (hrd.take m) hml i2 (by unfold maxLen;omega);rw [hj,hje] at hjc;obtain ⟨g,o,rfl,k0⟩:=hrd m x HX.out;have K0:=Lib.hid k0;clear hB hT hb hcap hrd k0 hq)
    | (go_at_call 195;(with_reducible refine hjc.mono ?_);rintro e w2 ⟨rfl,hB2⟩;clear hjc;have HB2:=Lib.hid hB2;have k1:=(hB2.cell (cell_lt' K0.out)).trans K0.out;clear hB2))
   have i5:(m:Int) < (m:Int)+1:=by omega
   go_quiet (fail)
   go_wp2_with (fail)
   go_returns
   exact ⟨rfl,below_dn (HB.out.trans (HB2.out.mono HB.out.size)) _⟩
 ·have h1:parE l=splitE l:=by unfold parE;rw [if_neg hE]
  have h2:parD l= []:=by unfold parD;rw [if_neg (by rw [h1];exact hE)]
  have h3:parN l= []:=by unfold parN;rw [if_neg (by rw [h1];exact hE)]
  have hx:=splitL_bad hE
  unfold ParV
  rw [h1,h2,h3]
  have d2:(splitE l==0)=false:=by simpa using hE
  have d3:(splitE l !=0)=true:=by simpa using hE
  obtain ⟨N,hN⟩:∃N,splitE l=N:=⟨_,rfl⟩
  rw [hN] at d2 d3 ⊢
  clear hE h1
  generalize B l=s at*
  go_enter Tryz.func146,Tryz.ntmps146
  go_wp2_with (go_at_call 117;refine hs.mono ?_;intro e w1 hq;obtain ⟨a,c,b,rfl,hT,hb,hB⟩:=hq.at (n:=0) (by rw [hx];rfl) hN;have HB:=Lib.hid hB;clear hB hT hb hq)
  go_returns
  exact ⟨rfl,HB.out⟩
end Go.Proofs.YtjpjafajploiaaaGreatDoor
