/-
  Entries of a directory: their order by names; where a name stands in a sorted row.
-/
import Derived.Test.YtjpjafajploiaaaGreatDoorProg
import Derived.Test.YtjpjafajploiaaaGreatDoorUnixAlone02
import Derived.Test.YtjpjafajploiaaaGreatDoorUnixAlone06
import Derived.Test.YtjpjafajploiaaaGreatDoorUnixAlone08
import Derived.WalkKit
import Derived.Handy
import Derived.Lib.Hide
import Derived.Laws.Cover1
import Derived.Deep.QuietTactic
import Derived.BigQuiet
set_option linter.unusedSimpArgs false
set_option linter.unusedVariables false
namespace Go.Proofs.YtjpjafajploiaaaGreatDoor
open Go.RowKit Own RegJ Two
open Go.Lib hiding intOf
def nlt (a b:Txt):Bool:=Op.bytesLess a b
theorem nlt_irr:∀a:Txt,nlt a a=false
 | []=> rfl
 | c::r=> by
  have:=nlt_irr r
  unfold nlt at*
  unfold Op.bytesLess
  simp [this]
theorem nlt_tot:∀a b:Txt,nlt a b=false→nlt b a=false→a=b
 | [],[],_,_=> rfl
 | [],_::_,h,_=> by unfold nlt Op.bytesLess at h;cases h
 | _::_,[],_,h=> by unfold nlt Op.bytesLess at h;cases h
 | a::x,b::y,h1,h2=> by
  unfold nlt Op.bytesLess at h1 h2
  simp only [Bool.or_eq_false_iff,decide_eq_false_iff_not,Bool.and_eq_false_iff,beq_eq_false_iff_ne] at h1 h2
  have hab:a=b:=by
   apply UInt8.toNat_inj.1
   have e1:=h1.1
   have e2:=h2.1
   rw [UInt8.lt_iff_toNat_lt] at e1 e2
   omega
  subst hab
  rw [nlt_tot x y (h1.2.resolve_left (fun h=> h rfl)) (h2.2.resolve_left (fun h=> h rfl))]
theorem nlt_trans:∀a b c:Txt,nlt a b=true→nlt b c=true→nlt a c=true
 | _,[],_,h,_=> by cases ‹Txt› <;> (unfold nlt Op.bytesLess at h;cases h)
 | _,_::_,[],_,h=> by unfold nlt Op.bytesLess at h;cases h
 | [],_::_,_::_,_,_=> by unfold nlt Op.bytesLess;rfl
 | a::x,b::y,c::z,h1,h2=> by
  have ih:=nlt_trans x y z
  unfold nlt at*
  unfold Op.bytesLess at h1 h2 ⊢
  simp only [Bool.or_eq_true,decide_eq_true_eq,Bool.and_eq_true,beq_iff_eq,UInt8.lt_iff_toNat_lt] at h1 h2 ⊢
  rcases h1 with h1 | ⟨rfl,h1⟩
  ·rcases h2 with h2 | ⟨rfl,h2⟩
   ·exact Or.inl (by omega)
   ·exact Or.inl h1
  ·rcases h2 with h2 | ⟨rfl,h2⟩
   ·exact Or.inl h2
   ·exact Or.inr ⟨rfl,ih h1 h2⟩
def cmpS (a b:Txt):Int:=if nlt a b=true then -1 else if a=b then 0 else 1
theorem nan_is (s:ByteArray) (w:World):Calls Tryz.prog 245 #[.string s] w fun e w' => e= .returned (.bool false)∧w=w' :=by
 go_enter Tryz.func245,Tryz.ntmps245
 go_wp2
 go_ret
 exact ⟨rfl,rfl⟩
theorem cmps_is (a b:Txt) (w:World):Calls Tryz.prog 222 #[.string (B a),.string (B b)] w fun e w' => e= .returned (.int .i64 (cmpS a b))∧w=w' :=by
 have e1:Op.bytesLess (B a).toList (B b).toList=nlt a b:=by rw [B_list,B_list];rfl
 have e2:((B a).toList==(B b).toList)=decide (a=b):=by rw [B_list,B_list,beq_dec]
 unfold cmpS
 generalize B a=s at*
 generalize B b=t at*
 by_cases h1:nlt a b=true
 ·rw [if_pos h1]
  rw [h1] at e1
  clear e2 h1
  go_enter Tryz.func222,Tryz.ntmps222
  go_wp2_with (go_at_call 245;refine (nan_is _ _).mono ?_;rintro e w' ⟨rfl,rfl⟩)
  go_ret
  exact ⟨rfl,rfl⟩
 ·rw [if_neg h1]
  rw [Bool.eq_false_iff.2 h1] at e1
  by_cases h2:a=b
  ·rw [if_pos h2]
   rw [decide_eq_true h2] at e2
   clear h1 h2
   go_enter Tryz.func222,Tryz.ntmps222
   go_wp2_with (go_at_call 245;refine (nan_is _ _).mono ?_;rintro e w' ⟨rfl,rfl⟩)
   go_ret
   exact ⟨rfl,rfl⟩
  ·rw [if_neg h2]
   rw [decide_eq_false h2] at e2
   clear h1 h2
   go_enter Tryz.func222,Tryz.ntmps222
   go_wp2_with (go_at_call 245;refine (nan_is _ _).mono ?_;rintro e w' ⟨rfl,rfl⟩)
   go_ret
   exact ⟨rfl,rfl⟩
abbrev En:=Txt×Int
abbrev enV (x:En):V2:=(.string (B x.1),.int .i64 x.2)
set_option maxRecDepth 100000 in
theorem byName_is (a b:Txt) (i j:Int) (w:World):Calls Tryz.prog 182 #[.agg #[.string (B a),.int .i64 i],.agg #[.string (B b),.int .i64 j]] w fun e w' => e= .returned (.int .i64 (cmpS a b))∧Below w.heap.size w w' :=by
 have hc:=cmps_is a b
 go_enter Tryz.func182,Tryz.ntmps182
 go_wp2_with (go_at_call 222;refine (hc _).mono ?_;rintro e w' ⟨rfl,rfl⟩)
 go_ret
 exact ⟨rfl,((Below.refl _ _).alloc (Nat.le_refl _) _).alloc (by simp) _⟩
end Go.Proofs.YtjpjafajploiaaaGreatDoor
namespace Go.Proofs.YtjpjafajploiaaaGreatDoor
open Go.RowKit Own RegJ Two
open Go.Lib hiding intOf
def Srt (es:List En):Prop:=es.Pairwise (fun p q=> nlt p.1 q.1=true)
def At (es:List En) (nm:Txt) (i:Nat):Prop:=i≤es.length∧(∀(k:Nat) (x:En),es[k]? =some x→k < i→nlt x.1 nm=true)∧(∀(k:Nat) (x:En),es[k]? =some x→i≤k→nlt x.1 nm=false)
def isAt (es:List En) (nm:Txt) (i:Nat):Bool:=match es[i]? with | some x=> decide (x.1=nm) | none=> false
def Btw (es:List En) (nm:Txt) (i j:Nat):Prop:=i≤j∧j≤es.length∧(∀(k:Nat) (x:En),es[k]? =some x→k < i→nlt x.1 nm=true)∧(∀(k:Nat) (x:En),es[k]? =some x→j≤k→nlt x.1 nm=false)
theorem srt_at {es:List En} (h:Srt es) {i k:Nat} {x y:En} (hx:es[i]? =some x) (hy:es[k]? =some y) (hik:i < k):nlt x.1 y.1=true:=by
 obtain ⟨h1,rfl⟩:=List.getElem?_eq_some_iff.1 hx
 obtain ⟨h2,rfl⟩:=List.getElem?_eq_some_iff.1 hy
 exact List.pairwise_iff_getElem.1 h i k h1 h2 hik
theorem Btw.less {es:List En} {nm:Txt} {i j m:Nat} {x:En} (hS:Srt es) (h:Btw es nm i j) (him:i≤m) (hmj:m < j) (hx:es[m]? =some x) (hl:nlt x.1 nm=true):Btw es nm (m+1) j:=by
 refine ⟨by omega,h.2.1,fun k y hk hkm=> ?_,h.2.2.2⟩
 by_cases hkm' :k=m
 ·subst hkm';rw [hx] at hk;cases hk;exact hl
 ·exact nlt_trans _ _ _ (srt_at hS hk hx (by omega)) hl
theorem Btw.more {es:List En} {nm:Txt} {i j m:Nat} {x:En} (hS:Srt es) (h:Btw es nm i j) (him:i≤m) (hmj:m < j) (hx:es[m]? =some x) (hl:nlt x.1 nm=false):Btw es nm i m:=by
 refine ⟨him,by have:=h.2.1;omega,h.2.2.1,fun k y hk hkm=> ?_⟩
 by_cases hkm' :k=m
 ·subst hkm';rw [hx] at hk;cases hk;exact hl
 ·rw [Bool.eq_false_iff]
  intro hh
  have:=nlt_trans _ _ _ (srt_at hS hx hk (by omega)) hh
  rw [hl] at this;cases this
theorem isAt_some {es:List En} {nm:Txt} {i:Nat} {x:En} (h:es[i]? =some x):isAt es nm i=decide (x.1=nm):=by unfold isAt;rw [h]
theorem isAt_none {es:List En} {nm:Txt} {i:Nat} (h:es.length≤i):isAt es nm i=false:=by unfold isAt;rw [List.getElem?_eq_none h]
set_option maxRecDepth 100000 in
set_option maxHeartbeats 2000000 in
theorem search_is {w:World} {a:Option Addr} {es:List En} (n c:Nat) (h:Rd2 w a (es.map enV)) (hn:es.length=n) (hm:n≤1000) (hS:Srt es) (nm:Txt) (z:Int):
  Calls Tryz.prog 181 #[.slice a n c,.agg #[.string (B nm),.int .i64 z],.func (.func 182) #[] #[]] w fun e w' => ∃i:Nat,e= .returned (.tuple #[.int .i64 i,.bool (isAt es nm i)])∧At es nm i∧Below w.heap.size w w' :=by
 have HR:=Lib.hid (And.intro h (And.intro hn hS))
 have hb:=byName_is
 clear h hn hS
 go_enter Tryz.func181,Tryz.ntmps181
 go_wp2_with (fail)
 have hw1:Below w.heap.size w (w.alloc (.cells #[.string (B nm),.int .i64 z] 188)):=(Below.refl _ _).alloc (Nat.le_refl _) _
 have hbt:Blk (w.alloc (.cells #[.string (B nm),.int .i64 z] 188)) w.heap.size #[.string (B nm),.int .i64 z] 188:=Blk.new _ _ _
 have hrr:Rd2 (w.alloc (.cells #[.string (B nm),.int .i64 z] 188)) a (es.map enV):=HR.out.1.below hw1
 generalize w.alloc (.cells #[.string (B nm),.int .i64 z] 188)=w1 at hw1 hbt hrr ⊢
 have HW:=Lib.hid (And.intro hw1 hbt)
 have HR1:=Lib.hid hrr
 clear hw1 hbt hrr
 generalize hbte:w.heap.size=bt at HW ⊢
 have HBT:=Lib.hid hbte
 clear hbte
 go_loopw [9,10] (fun vi vj wr=> ∃i j:Nat,vi= .int .i64 i∧vj= .int .i64 j∧Hid (Btw es nm i j)∧Hid (Below w1.heap.size w1 wr)) (fun vi vj _=> (intOf vj).toNat - (intOf vi).toNat)
 case atStart=> exact ⟨0,n,rfl,rfl,Lib.hid ⟨Nat.zero_le _,(by rw [HR.out.2.1];exact Nat.le_refl _),fun k x _ hk=> by omega,fun k x hx hk=> by have:=(List.getElem?_eq_some_iff.1 hx).1;rw [HR.out.2.1] at this;omega⟩,Lib.hid (Below.refl _ _)⟩
 case round=>
  obtain ⟨i,j,rfl,rfl,HB,HL⟩:=hrel
  have hij:=HB.out.1
  have hjn:j≤n:=by rw [←HR.out.2.1];exact HB.out.2.1
  by_cases hlt:i < j
  ·have d1:decide ((i:Int) < (j:Int))=true:=by simp;omega
   have d1n:decide (i < j)=true:=by simp;omega
   obtain ⟨m,hm1,hm2,hm3⟩:∃m:Nat,((i:Int)+(j:Int)) / 2=(m:Int)∧i≤m∧m < j:=⟨(i+j) / 2,by omega,by omega,by omega⟩
   obtain ⟨x,hx⟩:∃x,es[m]? =some x:=⟨es[m]'(by rw [HR.out.2.1];omega),List.getElem?_eq_getElem _⟩
   obtain ⟨g,rfl,k0,k1⟩:=HR1.out m (enV x) (by rw [List.getElem?_map,hx];rfl)
   have i1:(m:Int) < (n:Int):=by omega
   have i2:(0:Int)≤m:=by omega
   go_wp2_with (fail)
   obtain ⟨xn,xi⟩:=x
   have HX:=Lib.hid hx
   clear hx
   by_cases hl:nlt xn nm=true
   ·have hcv:cmpS xn nm= -1:=by unfold cmpS;rw [if_pos hl]
    have HC:=Lib.hid hl
    clear hl
    refine region_J (fun _ w' => Below w1.heap.size w1 w') (by kernel_rfl) (by kernel_rfl) ?_ ?_
    ·exact HL.out.drew
    ·iterate 8
      apply wpJ_op rfl (by rfl)
      ·intro f w' hf hJ Q1 hQ
       have d3:=(hJ.cell (p:=⟨g,m*2,none⟩) (cell_lt2 k0)).trans k0
       have d4:=(hJ.cell (p:=⟨g,m*2+1,none⟩) (cell_lt2 k1)).trans k1
       have cb:=(Blk.below hJ HW.out.2 HW.out.2.lt).rd
       simp only [nrm] at hQ
       go_wp2_with (go_at_call 182;refine (hb _ _ _ _ w').mono ?_;rintro e w2 ⟨rfl,hb2⟩)
       first | exact hQ _ _ rfl hJ | exact hQ _ _ rfl (hJ.trans (hb2.mono hJ.size))
      simp only [nrm]
     refine wpJ_nil ?_
     intro w3 hJ3
     go_wp2_with (fail)
     go_roundw
     case rel=> exact ⟨m+1,j,by go_num,rfl,Lib.hid (HB.out.less HR.out.2.2 hm2 hm3 HX.out HC.out),Lib.hid hJ3⟩
     case measure=> simp [intOf];omega
   ·have hl' :nlt xn nm=false:=by simpa using hl
    have hcv:decide (cmpS xn nm < 0)=false:=by
     unfold cmpS
     rw [if_neg (by rw [hl'];simp)]
     split <;> simp
    have HC:=Lib.hid hl'
    clear hl hl'
    refine region_J (fun _ w' => Below w1.heap.size w1 w') (by kernel_rfl) (by kernel_rfl) ?_ ?_
    ·exact HL.out.drew
    ·iterate 8
      apply wpJ_op rfl (by rfl)
      ·intro f w' hf hJ Q1 hQ
       have d3:=(hJ.cell (p:=⟨g,m*2,none⟩) (cell_lt2 k0)).trans k0
       have d4:=(hJ.cell (p:=⟨g,m*2+1,none⟩) (cell_lt2 k1)).trans k1
       have cb:=(Blk.below hJ HW.out.2 HW.out.2.lt).rd
       simp only [nrm] at hQ
       go_wp2_with (go_at_call 182;refine (hb _ _ _ _ w').mono ?_;rintro e w2 ⟨rfl,hb2⟩)
       first | exact hQ _ _ rfl hJ | exact hQ _ _ rfl (hJ.trans (hb2.mono hJ.size))
      simp only [nrm]
     refine wpJ_nil ?_
     intro w3 hJ3
     go_wp2_with (fail)
     go_roundw
     case rel=> exact ⟨i,m,rfl,rfl,Lib.hid (HB.out.more HR.out.2.2 hm2 hm3 HX.out HC.out),Lib.hid hJ3⟩
     case measure=> simp [intOf];omega
  ·have hje:j=i:=by omega
   subst hje
   have d1:decide ((j:Int) < (j:Int))=false:=by simp
   clear hlt
   by_cases hin:j < n
   ·obtain ⟨x,hx⟩:∃x,es[j]? =some x:=⟨es[j]'(by rw [HR.out.2.1];exact hin),List.getElem?_eq_getElem _⟩
    obtain ⟨g,rfl,k0,k1⟩:=HR1.out j (enV x) (by rw [List.getElem?_map,hx];rfl)
    have i1:(j:Int) < (n:Int):=by omega
    have i2:(0:Int)≤j:=by omega
    have d2:decide ((j:Int) < (n:Int))=true:=by simp;omega
    have d2n:decide (j < n)=true:=by simp;omega
    go_wp2_with (fail)
    obtain ⟨xn,xi⟩:=x
    have hia:=isAt_some (nm:=nm) hx
    have hnl:=HB.out.2.2.2 j _ hx (Nat.le_refl _)
    clear hx
    by_cases he:xn=nm
    ·have hcv:cmpS xn nm=0:=by unfold cmpS;rw [if_neg (by rw [show nlt xn nm=false from hnl];simp),if_pos he]
     have HI:Hid (isAt es nm j=true):=Lib.hid (by rw [hia];simp [he])
     clear hia he hnl
     refine region_J (fun _ w' => Below w1.heap.size w1 w') (by kernel_rfl) (by kernel_rfl) ?_ ?_
     ·exact HL.out.drew
     ·apply wpJ_op rfl (by rfl)
      ·intro f w' hf hJ Q1 hQ
       have d3:=(hJ.cell (p:=⟨g,j*2,none⟩) (cell_lt2 k0)).trans k0
       have d4:=(hJ.cell (p:=⟨g,j*2+1,none⟩) (cell_lt2 k1)).trans k1
       have cb:=(Blk.below hJ HW.out.2 HW.out.2.lt).rd
       simp only [nrm] at hQ
       go_wp2_with (go_at_call 182;refine (hb _ _ _ _ w').mono ?_;rintro e w2 ⟨rfl,hb2⟩)
       first | exact hQ _ _ rfl hJ | exact hQ _ _ rfl (hJ.trans (hb2.mono hJ.size))
      iterate 15
       simp only [nrm]
       apply wpJ_op rfl (by rfl)
       ·intro f w' hf hJ Q1 hQ
        have d3:=(hJ.cell (p:=⟨g,j*2,none⟩) (cell_lt2 k0)).trans k0
        have d4:=(hJ.cell (p:=⟨g,j*2+1,none⟩) (cell_lt2 k1)).trans k1
        have cb:=(Blk.below hJ HW.out.2 HW.out.2.lt).rd
        simp only [nrm] at hQ
        go_wp2_with (go_at_call 182;refine (hb _ _ _ _ w').mono ?_;rintro e w2 ⟨rfl,hb2⟩)
        first | exact hQ _ _ rfl hJ | exact hQ _ _ rfl (hJ.trans (hb2.mono hJ.size))
      simp only [nrm]
      refine wpJ_nil ?_
      intro w3 hJ3
      go_wp2_with (fail)
      go_returns
      exact ⟨j,by rw [HI.out];rfl,⟨by rw [HR.out.2.1];omega,HB.out.2.2.1,HB.out.2.2.2⟩,(by rw [HBT.out];exact HW.out.1.trans (hJ3.mono (Nat.le_of_lt HW.out.2.lt)))⟩
    ·have hcv:(cmpS xn nm==0)=false:=by unfold cmpS;rw [if_neg (by rw [show nlt xn nm=false from hnl];simp),if_neg he];rfl
     have HI:Hid (isAt es nm j=false):=Lib.hid (by rw [hia];simp [he])
     clear hia he hnl
     refine region_J (fun _ w' => Below w1.heap.size w1 w') (by kernel_rfl) (by kernel_rfl) ?_ ?_
     ·exact HL.out.drew
     ·apply wpJ_op rfl (by rfl)
      ·intro f w' hf hJ Q1 hQ
       have d3:=(hJ.cell (p:=⟨g,j*2,none⟩) (cell_lt2 k0)).trans k0
       have d4:=(hJ.cell (p:=⟨g,j*2+1,none⟩) (cell_lt2 k1)).trans k1
       have cb:=(Blk.below hJ HW.out.2 HW.out.2.lt).rd
       simp only [nrm] at hQ
       go_wp2_with (go_at_call 182;refine (hb _ _ _ _ w').mono ?_;rintro e w2 ⟨rfl,hb2⟩)
       first | exact hQ _ _ rfl hJ | exact hQ _ _ rfl (hJ.trans (hb2.mono hJ.size))
      iterate 15
       simp only [nrm]
       apply wpJ_op rfl (by rfl)
       ·intro f w' hf hJ Q1 hQ
        have d3:=(hJ.cell (p:=⟨g,j*2,none⟩) (cell_lt2 k0)).trans k0
        have d4:=(hJ.cell (p:=⟨g,j*2+1,none⟩) (cell_lt2 k1)).trans k1
        have cb:=(Blk.below hJ HW.out.2 HW.out.2.lt).rd
        simp only [nrm] at hQ
        go_wp2_with (go_at_call 182;refine (hb _ _ _ _ w').mono ?_;rintro e w2 ⟨rfl,hb2⟩)
        first | exact hQ _ _ rfl hJ | exact hQ _ _ rfl (hJ.trans (hb2.mono hJ.size))
      simp only [nrm]
      refine wpJ_nil ?_
      intro w3 hJ3
      go_wp2_with (fail)
      go_returns
      exact ⟨j,by rw [HI.out];rfl,⟨by rw [HR.out.2.1];omega,HB.out.2.2.1,HB.out.2.2.2⟩,(by rw [HBT.out];exact HW.out.1.trans (hJ3.mono (Nat.le_of_lt HW.out.2.lt)))⟩
   ·have d2:decide ((j:Int) < (n:Int))=false:=by simp;omega
    have d2n:decide (j < n)=false:=by simp;omega
    have HI:Hid (isAt es nm j=false):=Lib.hid (isAt_none (by rw [HR.out.2.1];omega))
    clear hin
    go_wp2_with (fail)
    refine region_J (fun _ w' => Below w1.heap.size w1 w') (by kernel_rfl) (by kernel_rfl) ?_ ?_
    ·exact HL.out.drew
    ·apply wpJ_op rfl (by rfl)
     ·intro f w' hf hJ Q1 hQ
      simp only [nrm] at hQ
      go_wp2_with (fail)
      exact hQ _ _ rfl hJ
     iterate 4
      simp only [nrm]
      apply wpJ_op rfl (by rfl)
      ·intro f w' hf hJ Q1 hQ
       simp only [nrm] at hQ
       go_wp2_with (fail)
       exact hQ _ _ rfl hJ
     iterate 8
      simp only [nrm]
      apply wpJ_skip rfl (fun f w' hf hJ=> hJ)
     iterate 3
      simp only [nrm]
      apply wpJ_op rfl (by rfl)
      ·intro f w' hf hJ Q1 hQ
       simp only [nrm] at hQ
       go_wp2_with (fail)
       exact hQ _ _ rfl hJ
     simp only [nrm]
     refine wpJ_nil ?_
     intro w3 hJ3
     go_wp2_with (fail)
     go_returns
     exact ⟨j,by rw [HI.out];rfl,⟨by rw [HR.out.2.1];omega,HB.out.2.2.1,HB.out.2.2.2⟩,(by rw [HBT.out];exact HW.out.1.trans (hJ3.mono (Nat.le_of_lt HW.out.2.lt)))⟩
end Go.Proofs.YtjpjafajploiaaaGreatDoor
