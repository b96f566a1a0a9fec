/-
  Rows of one-cell values of the call's own (bytes, integers ..), out of the library's own words; more behind one. Program-independent.
-/
import Derived.Test.YtjpjafajploiaaaGreatDoorUnixAlone03
import Derived.Laws.AppendOwn
import Derived.ArgAppend
import Derived.OwnWalk
import Derived.Deep.Upon
set_option linter.unusedSimpArgs false
set_option linter.unusedVariables false
namespace Go.Proofs.YtjpjafajploiaaaGreatDoor
open Go.RowKit Own RegJ
abbrev ucells (xs:List Int):List Value:=xs.map (Value.int .u8)
def RowV (w:World) (E:TypeId) (v:Value) (xs:List Value) (b:Option Nat):Prop:=
 (v= .slice none 0 0∧xs= []∧b=none)∨
 ∃g cap rest,v= .slice (some ⟨g,0,none⟩) xs.length cap∧b=some g∧Blk w g (xs++rest).toArray E∧cap=(xs++rest).length∧cap≤maxLen
section
variable {w w' :World} {E:TypeId} {v:Value} {xs:List Value} {b:Option Nat}
theorem RowV.upd {F:Nat→Prop} (h:RowV w E v xs b) (hu:Upd F w w') (hf:∀g,b=some g→¬F g):RowV w' E v xs b:=by
 rcases h with h | ⟨g,cap,rest,hv,hb,hB,hc,hm⟩
 ·exact Or.inl h
 ·exact Or.inr ⟨g,cap,rest,hv,hb,Blk.upd hu hB (hf g hb),hc,hm⟩
theorem RowV.below (h:RowV w E v xs b) (hB:Below w.heap.size w w'):RowV w' E v xs b:=h.upd (Upd.of_below (F:=fun _=> False) hB) (fun _ _ h=> h)
theorem RowV.lt (h:RowV w E v xs b) (g:Nat) (hg:b=some g):g < w.heap.size:=by
 rcases h with ⟨_,_,hb⟩ | ⟨g',cap,rest,hv,hb,hB,hc,hm⟩
 ·rw [hb] at hg;cases hg
 ·rw [hb] at hg;cases hg;exact hB.lt
theorem RowV.slice (h:RowV w E v xs b):∃a c,v= .slice a xs.length c∧xs.length≤c∧c≤maxLen:=by
 rcases h with ⟨hv,rfl,_⟩ | ⟨g',cap,rest,hv,hb,hB,hc,hm⟩
 ·exact ⟨none,0,hv,Nat.le_refl _,by unfold maxLen;omega⟩
 ·exact ⟨_,_,hv,by rw [hc];simp,hm⟩
def RdV (w:World) (a:Option Addr) (xs:List Value):Prop:=∀j u,xs[j]? =some u→∃A,a=some A∧w.cell? (A.add j)=some u
theorem add_off (g j:Nat):(⟨g,0,none⟩:Addr).add j=⟨g,j,none⟩:=by
 unfold Addr.add;by_cases h0:j=0
 ·subst h0;rfl
 ·rw [if_neg h0];simp
theorem RowV.rd {a:Option Addr} {n c:Nat} (h:RowV w E (.slice a n c) xs b):RdV w a xs:=by
 intro j u hj
 rcases h with ⟨hv,rfl,_⟩ | ⟨g',cap,rest,hv,hb,hB,hc,hm⟩
 ·simp at hj
 ·simp only [Value.slice.injEq] at hv
  refine ⟨_,hv.1,?_⟩
  rw [add_off,hB.rd]
  have hjl:=(List.getElem?_eq_some_iff.1 hj).1
  rw [List.getElem?_toArray,List.getElem?_append_left hjl];exact hj
theorem cell_lt3 {a:Addr} {u:Value} (h:w.cell? a=some u):a.block < w.heap.size:=by
 unfold World.cell? at h
 rcases Nat.lt_or_ge a.block w.heap.size with h1 | h1
 ·exact h1
 ·rw [Array.getElem?_eq_none h1] at h
  simp at h
theorem RdV.upd {F:Nat→Prop} {a:Option Addr} (h:RdV w a xs) (hu:Upd F w w') (hf:∀A,a=some A→¬F A.block):RdV w' a xs:=by
 intro j u hj
 obtain ⟨A,rfl,h2⟩:=h j u hj
 refine ⟨A,rfl,?_⟩
 have hl:=cell_lt3 h2
 unfold World.cell? at*
 rw [hu.block (A.add j).block hl (by have:=hf A rfl;unfold Addr.add;split <;> simpa using this)]
 exact h2
theorem RdV.below {a:Option Addr} (h:RdV w a xs) (hB:Below w.heap.size w w'):RdV w' a xs:=h.upd (Upd.of_below (F:=fun _=> False) hB) (fun _ _ h=> h)
theorem RowV.of_own {base n:Nat} (hn:xs.length=n) (h:w.ownsRow base E 1 v n xs):∃b,RowV w E v xs b∧∀g,b=some g→base≤g:=by
 obtain ⟨hl,h⟩:=h
 rcases h with ⟨hv,h0⟩ | ⟨g,cap,cur,hv,hg,hh,hnc,hm,hs,ht⟩
 ·refine ⟨none,Or.inl ⟨hv,?_,rfl⟩,fun g hg=> by cases hg⟩
  apply List.eq_nil_of_length_eq_zero;omega
 ·refine ⟨some g,Or.inr ⟨g,cap,cur.toList.drop n,by rw [hn];exact hv,rfl,?_,?_,hm⟩,fun g' hg' => by cases hg';exact hg⟩
  ·show w.heap[g]? =_
   rw [hh]
   have e:xs++cur.toList.drop n=cur.toList:=by
    rw [Nat.mul_one] at ht
    rw [←ht];exact List.take_append_drop n cur.toList
   rw [e]
  ·have hcs:cur.toList.length=cap:=by simpa using hs
   simp [hn,hcs];omega
theorem RowV.own {base:Nat} (h:RowV w E v xs b) (hb:∀g,b=some g→base≤g):w.ownsRow base E 1 v xs.length xs:=by
 refine ⟨by simp,?_⟩
 rcases h with ⟨hv,h0,_⟩ | ⟨g,cap,rest,hv,hg,hB,hc,hm⟩
 ·exact Or.inl ⟨hv,by rw [h0];rfl⟩
 ·refine Or.inr ⟨g,cap,_,hv,hb g hg,hB,by rw [hc];simp,hm,by rw [hc];simp,?_⟩
  simp
end
theorem wp_appV {P:Program} {ops:Array Oper} {rest:List Oper} {o:Oper} {a:Act} {Q:Exit→Act→World→Prop} {w:World} (hgd:o.guard=none) (s x:Operand) (S T:TypeId) (z:Value) (bytes:Nat)
  (hinf:(P.info? T).map (fun i=> (i.zero,i.size,i.bytes))=some (some z,1,bytes)) (hz2:z.cells.size=1) (hb2:bytes≤64) (hS:P.underlying S=some (.slice T))
  (ho:o.op= .call {callee:= .builtin .append,args:= #[s,x],argTypes:= #[S,S]}) (v:Value) (xs:List Value) (b:Option Nat) (hs:a.eval s=v) (hI:RowV w T v xs b)
  (ad:Option Addr) (m c:Nat) (ys:List Value) (hm:ys.length=m) (hx:a.eval x= .slice ad m c) (hnews:0 < m→∃A,ad=some A∧∀(j:Nat) (u:Value),ys[j]? =some u→w.cell? (A.add j)=some u) (hcone:∀u∈ys,u.oneCell' =true) (hlen:xs.length+ys.length≤1000000)
  (h:∀v' w' b',RowV w' T v' (xs++ys) b' →(∀g,b' =some g→b=some g∨w.heap.size≤g)→Upd (fun k=> b=some k) w w' →wpList P ops Q rest (a.put o.dst v') w'):wpList P ops Q (o::rest) a w:=by
 subst hm
 obtain ⟨i0,hi,hz0,hz1,hzb⟩:=info_parts hinf
 have hown:=hI.own (base:=0) (fun _ _=> Nat.zero_le _)
 by_cases hpos:0 < ys.length
 ·obtain ⟨ad,rfl,hnw⟩:=hnews hpos
  rcases hI with ⟨rfl,rfl,rfl⟩ | ⟨g,cap,rst,rfl,rfl,hBg,hc,hmx⟩
  ·refine wpList_append_grows w hgd s x S ho T i0 z 1 bytes hS hi hz0 hz1 hzb hz2 (by decide) none 0 0 [] hs (fun _=> ⟨rfl,rfl⟩) rfl (fun b hb=> by cases hb) ad ys.length c _ hx (by simp) hnw hcone (by omega) (by unfold maxLen;simp at hlen;omega) (by simp at hlen;have:(0+ys.length)*bytes≤1000000*64:=Nat.mul_le_mul (by omega) hb2;omega) ?_
   intro v' w' h1 h2
   obtain ⟨B',hI',hb'⟩:=RowV.of_own (xs:=ys) (by simp) h1
   exact h v' w' B' hI' (fun g hg=> Or.inr (hb' g hg)) (Upd.grown h2 (fun k hk=> by cases hk))
  ·by_cases hf:xs.length+ys.length≤cap
   ·refine wpList_append_fits w hgd s x S ho 0 T i0 1 hS hi hz1 g xs.length cap xs hs hown ad ys.length c _ hx (by simp) hnw hcone hf ?_
    intro w' h1 h2
    obtain ⟨B',hI',hb'⟩:=RowV.of_own (xs:=xs++ys) (by simp) h1
    have hB' :B' =some g:=by
     rcases hI' with ⟨hv,_⟩ | ⟨g',_,_,hv,rfl,_⟩
     ·cases hv
     ·simp only [Value.slice.injEq,Option.some.injEq,Addr.mk.injEq] at hv
      rw [hv.1.1]
    exact h _ w' B' hI' (fun g' hg' => Or.inl (by rw [←hg',hB'])) (Upd.grown h2 (fun k hk=> by cases hk;rfl))
   ·refine wpList_append_grows w hgd s x S ho T i0 z 1 bytes hS hi hz0 hz1 hzb hz2 (by decide) (some ⟨g,0,none⟩) xs.length cap xs hs (fun h=> by cases h) (by simp) ?_ ad ys.length c _ hx (by simp) hnw hcone (by omega) (by unfold maxLen;omega) (by have:(xs.length+ys.length)*bytes≤1000000*64:=Nat.mul_le_mul (by omega) hb2;omega) ?_
    ·intro b' hb' j u hj
     cases hb'
     have hjl:j < xs.length:=(List.getElem?_eq_some_iff.1 hj).1
     rw [add_off,hBg.rd]
     simp only [List.getElem?_toArray]
     rw [List.getElem?_append_left hjl];exact hj
    ·intro v' w' h1 h2
     obtain ⟨B',hI',hb'⟩:=RowV.of_own (xs:=xs++ys) (by simp) h1
     exact h v' w' B' hI' (fun g' hg' => Or.inr (hb' g' hg')) (Upd.grown h2 (fun k hk=> by cases hk))
 ·obtain rfl:ys= []:=List.eq_nil_of_length_eq_zero (by omega)
  have e:∃base n cap,v= .slice base n cap∧n≤cap:=by
   rcases hI with ⟨rfl,_⟩ | ⟨g,cap,rst,rfl,_,_,hc,_⟩
   ·exact ⟨none,0,0,rfl,Nat.le_refl _⟩
   ·exact ⟨_,_,_,rfl,by rw [List.length_append] at hc;omega⟩
  obtain ⟨base,n,cap,rfl,hle⟩:=e
  have hsrc:Src P i0.size S (.slice ad 0 c) 0 [] w:=by
   cases ad with
   | none=> exact Src.ofNil w hS c
   | some A=> exact Src.ofSlice w hS A 0 c [] (by simp) (fun j u hj=> by simp at hj) (fun u hu=> by cases hu)
  have hrun:=run_append_nothing (P:=P) w S S o.type T i0 hS hi base n cap hle (.slice ad 0 c) hsrc
  refine wpList_plain hgd fun K hK=> ?_
  unfold Oper.wp
  simp only [List.length_nil] at hx
  simp [execOp,ho,resolve,invoke,builtin,hs,hx,hrun,Result.andThen]
  exact hK _ _ (h _ w b (by simpa using hI) (fun g hg=> Or.inl hg) (Upd.refl _ _))
end Go.Proofs.YtjpjafajploiaaaGreatDoor
