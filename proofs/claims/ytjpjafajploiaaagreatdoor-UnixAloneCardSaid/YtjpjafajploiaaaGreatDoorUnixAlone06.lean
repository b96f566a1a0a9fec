/-
  Rows of things of two cells, owned by the call: plain facts, program-independent.
-/
import Derived.Test.YtjpjafajploiaaaGreatDoorUnixAlone03
import Derived.Laws.AppendOwn
import Derived.ArgAppend
import Derived.OwnWalk
set_option linter.unusedSimpArgs false
set_option linter.unusedVariables false
namespace Go.Proofs.YtjpjafajploiaaaGreatDoor.Two
open Go.RowKit Own RegJ
abbrev V2:=Value×Value
def cells2 (xs:List V2):List Value:=xs.flatMap fun a=> [a.1,a.2]
theorem cells2_len (xs:List V2):(cells2 xs).length=xs.length*2:=by
 unfold cells2
 induction xs with
 | nil=> rfl
 | cons a r ih=> simp only [List.flatMap_cons,List.length_append,List.length_cons,List.length_nil];omega
theorem cells2_app (xs ys:List V2):cells2 (xs++ys)=cells2 xs++cells2 ys:=by unfold cells2;simp
theorem cells2_at (xs:List V2) (j:Nat) (a:V2) (h:xs[j]? =some a):(cells2 xs)[j*2]? =some a.1∧(cells2 xs)[j*2+1]? =some a.2:=by
 unfold cells2
 induction xs generalizing j with
 | nil=> simp at h
 | cons b r ih=>
  cases j with
  | zero=> simp at h;subst h;simp
  | succ j=>
   have:=ih j (by simpa using h)
   simp only [List.flatMap_cons]
   rw [show (j+1)*2=(j*2+1)+1 by omega,show (j*2+1)+1+1=(j*2+1+1)+1 by omega]
   simpa using this
def One2 (xs:List V2):Prop:=∀a∈xs,a.1.oneCell' =true∧a.2.oneCell' =true
theorem One2.cells {xs:List V2} (h:One2 xs):∀u∈cells2 xs,u.oneCell' =true:=by
 intro u hu
 unfold cells2 at hu
 rw [List.mem_flatMap] at hu
 obtain ⟨a,ha,hu⟩:=hu
 simp at hu
 rcases hu with rfl | rfl
 ·exact (h a ha).1
 ·exact (h a ha).2
def Row2 (w:World) (T:TypeId) (v:Value) (xs:List V2) (b:Option Nat):Prop:=
 (v= .slice none 0 0∧xs= []∧b=none)∨
 ∃g cap rest,v= .slice (some ⟨g,0,none⟩) xs.length cap∧b=some g∧Blk w g (cells2 xs++rest).toArray T∧cap*2=(cells2 xs++rest).length∧cap≤maxLen
section
variable {w w' :World} {T:TypeId} {v:Value} {xs:List V2} {b:Option Nat}
theorem Row2.upd {F:Nat→Prop} (h:Row2 w T v xs b) (hu:Upd F w w') (hf:∀g,b=some g→¬F g):Row2 w' T v xs b:=by
 rcases h with h | ⟨g,cap,rest,hv,hb,hB,hc,hm⟩
 ·exact Or.inl h
 ·exact Or.inr ⟨g,cap,rest,hv,hb,Blk.upd hu hB (hf g hb),hc,hm⟩
theorem Row2.below (h:Row2 w T v xs b) (hb:Below w.heap.size w w'):Row2 w' T v xs b:=h.upd (Upd.of_below (F:=fun _=> False) hb) (fun _ _ h=> h)
theorem Row2.lt (h:Row2 w T v xs b) (g:Nat) (hg:b=some g):g < w.heap.size:=by
 rcases h with ⟨_,_,hb⟩ | ⟨g',cap,rest,hv,hb,hB,hc,hm⟩
 ·rw [hb] at hg;cases hg
 ·rw [hb] at hg;cases hg;exact hB.lt
theorem Row2.slice (h:Row2 w T v xs b):∃a c,v= .slice a xs.length c:=by
 rcases h with ⟨rfl,rfl,_⟩ | ⟨g,cap,rest,rfl,_⟩
 ·exact ⟨_,_,rfl⟩
 ·exact ⟨_,_,rfl⟩
theorem Row2.cap {a:Option Addr} {n c:Nat} (h:Row2 w T (.slice a n c) xs b):n≤c∧n=xs.length∧c≤maxLen:=by
 rcases h with ⟨h,rfl,_⟩ | ⟨g,cap,rest,hv,hb,hB,hc,hm⟩
 ·cases h;exact ⟨Nat.le_refl _,rfl,Nat.zero_le _⟩
 ·simp only [Value.slice.injEq] at hv
  obtain ⟨rfl,rfl,rfl⟩:=hv
  rw [List.length_append,cells2_len] at hc
  exact ⟨by omega,rfl,hm⟩
def Rd2 (w:World) (a:Option Addr) (xs:List V2):Prop:=∀k x,xs[k]? =some x→∃g,a=some ⟨g,0,none⟩∧w.cell? ⟨g,k*2,none⟩=some x.1∧w.cell? ⟨g,k*2+1,none⟩=some x.2
theorem blk_row {g:Nat} {rest:List Value} (hB:Blk w g (cells2 xs++rest).toArray T) (k:Nat) (x:V2) (hx:xs[k]? =some x):w.cell? ⟨g,k*2,none⟩=some x.1∧w.cell? ⟨g,k*2+1,none⟩=some x.2:=by
 have hk:k < xs.length:=(List.getElem?_eq_some_iff.1 hx).1
 have hl:=cells2_len xs
 obtain ⟨h1,h2⟩:=cells2_at xs k x hx
 rw [hB.rd,hB.rd]
 simp only [List.getElem?_toArray]
 rw [List.getElem?_append_left (by omega),List.getElem?_append_left (by omega)]
 exact ⟨h1,h2⟩
theorem Row2.rd {a:Option Addr} {n c:Nat} (h:Row2 w T (.slice a n c) xs b):Rd2 w a xs:=by
 intro k x hx
 rcases h with ⟨_,rfl,_⟩ | ⟨g,cap,rest,hv,hb,hB,hc,hm⟩
 ·simp at hx
 ·simp only [Value.slice.injEq] at hv
  obtain ⟨rfl,-,-⟩:=hv
  exact ⟨g,rfl,blk_row hB k x hx⟩
theorem cell_lt2 {a:Addr} {u:Value} (h:w.cell? a=some u):a.block < w.heap.size:=by
 rcases Nat.lt_or_ge a.block w.heap.size with h1 | h1
 ·exact h1
 ·unfold World.cell? at h;simp [Array.getElem?_eq_none h1] at h
theorem Rd2.below {a:Option Addr} (h:Rd2 w a xs) (hB:Below w.heap.size w w'):Rd2 w' a xs:=by
 intro k x hx
 obtain ⟨g,h1,h2,h3⟩:=h k x hx
 exact ⟨g,h1,(hB.cell (cell_lt2 h2)).trans h2,(hB.cell (cell_lt2 h3)).trans h3⟩
theorem Row2.of_own {base n:Nat} (hn:xs.length=n) (h:w.ownsRow base T 2 v n (cells2 xs)):∃b,Row2 w T v xs b∧∀g,b=some g→base≤g:=by
 obtain ⟨hl,h⟩:=h
 rcases h with ⟨hv,h0⟩ | ⟨g,cap,cur,hv,hg,hh,hnc,hm,hs,ht⟩
 ·refine ⟨none,Or.inl ⟨hv,?_,rfl⟩,fun g hg=> by cases hg⟩
  apply List.eq_nil_of_length_eq_zero;omega
 ·refine ⟨some g,Or.inr ⟨g,cap,cur.toList.drop (n*2),by rw [hn];exact hv,rfl,?_,?_,hm⟩,fun g' hg' => by cases hg';exact hg⟩
  ·show w.heap[g]? =_
   rw [hh]
   have e:cells2 xs++cur.toList.drop (n*2)=cur.toList:=by rw [←ht];exact List.take_append_drop _ _
   rw [e]
  ·have hp:=cells2_len xs
   have hcs:cur.toList.length=cap*2:=by simpa using hs
   rw [List.length_append,hp,List.length_drop,hcs];omega
theorem Row2.own (h:Row2 w T v xs b):w.ownsRow 0 T 2 v xs.length (cells2 xs):=by
 have hp:=cells2_len xs
 refine ⟨hp,?_⟩
 rcases h with ⟨hv,h0,_⟩ | ⟨g,cap,rest,hv,hg,hB,hc,hm⟩
 ·exact Or.inl ⟨hv,by rw [h0];rfl⟩
 ·refine Or.inr ⟨g,cap,_,hv,Nat.zero_le _,hB,?_,hm,?_,?_⟩
  ·rw [List.length_append,hp] at hc;omega
  ·simpa using hc.symm
  ·rw [←hp];simp
end
theorem wp_app2 {P:Program} {ops:Array Oper} {rest:List Oper} {o:Oper} {a:Act} {Q:Exit→Act→World→Prop} {w:World} (hgd:o.guard=none) (s x:Operand) (S T:TypeId) (z:Value) (bytes:Nat)
  (hinf:(P.info? T).map (fun i=> (i.zero,i.size,i.bytes))=some (some z,2,bytes)) (hz2:z.cells.size=2) (hb2:bytes≤64) (hS:P.underlying S=some (.slice T))
  (ho:o.op= .call {callee:= .builtin .append,args:= #[s,x],argTypes:= #[S,S]}) (v:Value) (xs:List V2) (b:Option Nat) (hs:a.eval s=v) (hI:Row2 w T v xs b)
  (ad:Addr) (m c:Nat) (ys:List V2) (hm:ys.length=m) (hm0:0 < m) (hx:a.eval x= .slice (some ad) m c) (hnews:∀(j:Nat) (u:Value),(cells2 ys)[j]? =some u→w.cell? (ad.add j)=some u) (hone:One2 ys) (hlen:xs.length+ys.length≤3000)
  (h:∀v' w' b',Row2 w' T v' (xs++ys) b' →(∀g,b' =some g→b=some g∨w.heap.size≤g)→Upd (fun k=> b=some k) w w' →wpList P ops Q rest (a.put o.dst v') w'):wpList P ops Q (o::rest) a w:=by
 subst hm
 obtain ⟨i0,hi,hz0,hz1,hzb⟩:=info_parts hinf
 have hp:=cells2_len xs
 have hq:=cells2_len ys
 have hcone:=hone.cells
 have hpy:cells2 xs++cells2 ys=cells2 (xs++ys):=(cells2_app xs ys).symm
 have hown:=hI.own
 rcases hI with ⟨rfl,rfl,rfl⟩ | ⟨g,cap,rst,rfl,rfl,hBg,hc,hmx⟩
 ·refine wpList_append_grows w hgd s x S ho T i0 z 2 bytes hS hi hz0 hz1 hzb hz2 (by decide) none 0 0 [] hs (fun _=> ⟨rfl,rfl⟩) rfl (fun b hb=> by cases hb) ad ys.length c _ hx hq hnews hcone (by omega) (by unfold maxLen;simp at hlen;omega) (by simp at hlen;have:(0+ys.length)*bytes≤3000*64:=Nat.mul_le_mul (by omega) hb2;omega) ?_
  intro v' w' h1 h2
  obtain ⟨B',hI',hb'⟩:=Row2.of_own (xs:=ys) (by simp) h1
  exact h v' w' B' hI' (fun g hg=> Or.inr (hb' g hg)) (Upd.grown h2 (fun k hk=> by cases hk))
 ·by_cases hf:xs.length+ys.length≤cap
  ·refine wpList_append_fits w hgd s x S ho 0 T i0 2 hS hi hz1 g xs.length cap (cells2 xs) hs hown ad ys.length c _ hx hq hnews hcone hf ?_
   intro w' h1 h2
   rw [hpy] at h1
   obtain ⟨B',hI',hb'⟩:=Row2.of_own (xs:=xs++ys) (by simp) h1
   have hB' :B' =some g:=by
    rcases hI' with ⟨hv,_⟩ | ⟨g',_,_,hv,rfl,_⟩
    ·cases hv
    ·simp only [Value.slice.injEq,Option.some.injEq,Addr.mk.injEq] at hv
     rw [hv.1.1]
   exact h _ w' B' hI' (fun g' hg' => Or.inl (by rw [←hg',hB'])) (Upd.grown h2 (fun k hk=> by cases hk;rfl))
  ·refine wpList_append_grows w hgd s x S ho T i0 z 2 bytes hS hi hz0 hz1 hzb hz2 (by decide) (some ⟨g,0,none⟩) xs.length cap (cells2 xs) hs (fun h=> by cases h) hp ?_ ad ys.length c _ hx hq hnews hcone (by omega) (by unfold maxLen;omega) (by have:(xs.length+ys.length)*bytes≤3000*64:=Nat.mul_le_mul (by omega) hb2;omega) ?_
   ·intro b' hb' j u hj
    cases hb'
    have hjl:j < (cells2 xs).length:=(List.getElem?_eq_some_iff.1 hj).1
    have:(⟨g,0,none⟩:Addr).add j=⟨g,j,none⟩:=by
     unfold Addr.add;by_cases h0:j=0
     ·subst h0;rfl
     ·rw [if_neg h0];simp
    rw [this,hBg.rd]
    simp only [List.getElem?_toArray]
    rw [List.getElem?_append_left hjl];exact hj
   ·intro v' w' h1 h2
    rw [hpy] at h1
    obtain ⟨B',hI',hb'⟩:=Row2.of_own (xs:=xs++ys) (by simp) h1
    exact h v' w' B' hI' (fun g' hg' => Or.inr (hb' g' hg')) (Upd.grown h2 (fun k hk=> by cases hk))
end Go.Proofs.YtjpjafajploiaaaGreatDoor.Two
