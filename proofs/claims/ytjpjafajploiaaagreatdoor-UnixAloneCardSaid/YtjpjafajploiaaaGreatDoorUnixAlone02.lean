/-
  A region that draws its order, walked once in the order of the text, under an invariant J on the operations that have come up and the world. Conditions: each operation, from any world that J allows, yields one value and leads to a world that J allows.
-/
import Derived.Still
import Derived.Tactics
import Derived.WalkKit
import Derived.Deep.Draws
set_option linter.unusedSimpArgs false
set_option linter.unusedVariables false
namespace Go.Proofs.YtjpjafajploiaaaGreatDoor.RegJ
section
variable {P:Program} {ops:Array Oper} {md:Region.Mode} {J:(Nat→Bool)→World→Prop} {n:Nat}
def PutEq (n:Nat) (dst:Option Tmp) (u v:Value):Prop:=∀a:Act,a.tmps.size=n→a.put dst u=a.put dst v
def upJ (P:Program) (n:Nat) (dst:Option Tmp) (J' :World→Prop) (v:Value):Result Next→Prop
 | .ok (.value u) w' => PutEq n dst u v∧J' w'
 | .ok .skip w' => PutEq n dst undef v∧J' w'
 | .ok (.enter f args) w' => Calls P f args w' (fun e w'' => ∃u,e= .returned u∧PutEq n dst u v∧J' w'')
 | .ok (.row r args) w' => Rows P r args w' (fun u w'' => PutEq n dst u v∧J' w'')
 | _=> False
def flags (s:Array Bool):Nat→Bool:=fun k=> s.getD k false
def fset (f:Nat→Bool) (i:Nat):Nat→Bool:=fun k=> k==i || f k
theorem flags_set {s:Array Bool} {i:Nat} (h:i < s.size):flags (s.setIfInBounds i true)=fset (flags s) i:=by
 funext k
 unfold flags fset
 by_cases hk:k=i
 ·subst hk;simp [h]
 ·rw [getD_set_ne false (fun e=> hk e.symm)];simp [hk]
def Up (md:Region.Mode) (i:Nat) (o:Oper) (f:Nat→Bool):Prop:=f i=false∧∀e∈o.after,Region.binds md e=true→f e.on=true
def settles (P:Program) (md:Region.Mode) (J:(Nat→Bool)→World→Prop) (n i:Nat) (o:Oper) (a:Act) (v:Value):Prop:=
 ∀f w,Up md i o f→J f w→upJ P n o.dst (J (fset f i)) v ((execOp a.eval o).run P w)
def skipsJ (md:Region.Mode) (J:(Nat→Bool)→World→Prop) (i:Nat) (o:Oper):Prop:=∀f w,Up md i o f→J f w→J (fset f i) w
def YieldsJ (P:Program) (md:Region.Mode) (ops:Array Oper) (J:(Nat→Bool)→World→Prop) (n i:Nat) (o:Oper) (v:Value) (a:Act):Prop:=
 (Region.wanted o (yielded ops a.tmps)=true∧settles P md J n i o a v)∨
 (Region.wanted o (yielded ops a.tmps)=false∧v=undef∧skipsJ md J i o)
def jOp (P:Program) (md:Region.Mode) (ops:Array Oper) (J:(Nat→Bool)→World→Prop) (n i:Nat) (K:Act→Prop) (a:Act):Prop:=
 match ops[i]? with
 | none=> K a
 | some o=> ∃v,YieldsJ P md ops J n i o v a∧K (a.put o.dst v)
theorem jOp_mono {i:Nat} {a:Act} {K K' :Act→Prop} (h:∀a,K a→K' a) (hh:jOp P md ops J n i K a):jOp P md ops J n i K' a:=by
 unfold jOp at*
 split
 ·rename_i ho;simp only [ho] at hh;exact h _ hh
 ·rename_i o ho;simp only [ho] at hh;obtain ⟨v,h1,h2⟩:=hh;exact ⟨v,h1,h _ h2⟩
def wpAnyJ (P:Program) (md:Region.Mode) (ops:Array Oper) (J:(Nat→Bool)→World→Prop) (n:Nat) (Q:Array Bool→Act→Prop):Nat→Array Bool→Act→Prop
 | 0,s,a=> Region.ready md ops s= []∧Q s a
 | fuel+1,s,a=> (Region.ready md ops s= []→Q s a)∧∀i∈Region.ready md ops s,jOp P md ops J n i (wpAnyJ P md ops J n Q fuel (s.setIfInBounds i true)) a
theorem put_size (a:Act) (d:Option Tmp) (v:Value):(a.put d v).tmps.size=a.tmps.size:=by
 cases d <;> simp [Act.put]
theorem wp_of_upJ {o:Oper} {a:Act} {v:Value} {J' :World→Prop} {K' :Act→World→Prop} {Q' :Exit→Act→World→Prop} {w:World} (hn:a.tmps.size=n)
  (h:∀w',J' w' →K' (a.put o.dst v) w') (hh:upJ P n o.dst J' v ((execOp a.eval o).run P w)):o.wp P a w K' Q' :=by
 unfold Oper.wp
 generalize (execOp a.eval o).run P w=r at*
 cases r with
 | ok x w' =>
  cases x <;> simp only [upJ] at hh <;> simp only [Oper.upon]
  case value u=> rw [hh.1 a hn];exact h _ hh.2
  case skip=> rw [hh.1 a hn];exact h _ hh.2
  case enter f args=> exact hh.mono fun e w'' ⟨u,he,hp,hj⟩=> by subst he;simp only;rw [hp a hn];exact h _ hj
  case row r args=> exact hh.mono fun u w'' ⟨hp,hj⟩=> by rw [hp a hn];exact h _ hj
 | halt x w' => simp only [upJ] at hh
theorem up_of_ready {i:Nat} {o:Oper} {s:Array Bool} (ho:ops[i]? =some o) (h:i∈Region.ready md ops s):i < s.size∧Up md i o (flags s):=by
 obtain ⟨h1,o',ho',hall⟩:=mem_ready.1 h
 obtain rfl:o' =o:=Option.some.inj (ho'.symm.trans ho)
 rcases Nat.lt_or_ge i s.size with h' | h'
 ·refine ⟨h',?_,hall⟩
  unfold flags
  simp [h'] at h1 ⊢;exact h1
 ·simp [Array.getElem?_eq_none h'] at h1
theorem wpAny_of_J {Q:Array Bool→Act→Prop} {Q' :Exit→Act→World→Prop} (hQ:∀s a w,J (flags s) w→Q s a→Q' .normal a w):∀(fuel:Nat) (s:Array Bool) (a:Act) (w:World),a.tmps.size=n→J (flags s) w→
  wpAnyJ P md ops J n Q fuel s a→wpAny P md ops Q' fuel s a w
 | 0,_,_,_,_,hw,h=> ⟨h.1,hQ _ _ _ hw h.2⟩
 | fuel+1,s,a,w,hn,hw,h=> by
  refine ⟨fun h0=> hQ _ _ _ hw (h.1 h0),fun i hi=> ?_⟩
  have h2:=h.2 i hi
  obtain ⟨h1,o,ho,hall⟩:=mem_ready.1 hi
  obtain ⟨his,hup⟩:=up_of_ready ho hi
  unfold jOp at h2
  unfold wpOp
  simp only [ho] at h2 ⊢
  obtain ⟨v,hy,hK⟩:=h2
  rcases hy with ⟨hwd,hs⟩ | ⟨hwd,hv,hs⟩
  ·simp only [hwd,if_true]
   refine .inl (wp_of_upJ hn (fun w' hj=> ?_) (hs _ _ hup hw))
   exact wpAny_of_J hQ fuel _ _ _ (by rw [put_size];exact hn) (by rw [flags_set his];exact hj) hK
  ·subst hv
   simp only [hwd,Bool.false_eq_true,if_false]
   exact wpAny_of_J hQ fuel _ _ _ (by rw [put_size];exact hn) (by rw [flags_set his];exact hs _ _ hup hw) hK
theorem YieldsJ.of_same {i:Nat} {o:Oper} {v:Value} {a a' :Act} (hy:YieldsJ P md ops J n i o v a) (he:execOp a'.eval o=execOp a.eval o)
  (hw:Region.wanted o (yielded ops a'.tmps)=Region.wanted o (yielded ops a.tmps)):YieldsJ P md ops J n i o v a' :=by
 unfold YieldsJ settles at*
 rw [he,hw]
 exact hy
theorem jOp_swap {i j:Nat} {oi oj:Oper} {v:Value} (hj:ops[j]? =some oj) (hap:oi.apart ops oj=true)
  (hsi:∀cs b,oi.op≠ .select cs b) (hsj:∀cs b,oj.op≠ .select cs b) {K:Act→Prop} {a:Act}
  (hy:YieldsJ P md ops J n i oi v a) (h:jOp P md ops J n j K (a.put oi.dst v)):
  jOp P md ops J n j (fun a' => YieldsJ P md ops J n i oi v a' ∧K (a'.put oi.dst v)) a:=by
 obtain ⟨h1,h2,h3⟩:=Oper.apart_spec hap
 unfold jOp at*
 simp only [hj] at*
 obtain ⟨u,hu,hk⟩:=h
 refine ⟨u,hu.of_same ?_ ?_,hy.of_same (execOp_put oi hsi a oj.dst u h3) (wanted_put oi a oj.dst u h3),?_⟩
 ·exact (execOp_put oj hsj a oi.dst v h1).symm
 ·exact (wanted_put oj a oi.dst v h1).symm
 ·rw [←Act.put_comm a v u h2];exact hk
theorem jOp_here {i:Nat} {o:Oper} {v:Value} {a:Act} (hi:ops[i]? =some o) (hy:YieldsJ P md ops J n i o v a) {K:Act→Prop} (h:K (a.put o.dst v)):jOp P md ops J n i K a:=by
 unfold jOp;simp only [hi];exact ⟨v,hy,h⟩
theorem wpAnyJ_first {Q:Array Bool→Act→Prop} {i:Nat} {oi:Oper} {v:Value} (hi:ops[i]? =some oi) (hsel:∀(j:Nat) (o:Oper) cs b,ops[j]? =some o→o.op≠ .select cs b):
  ∀(fuel:Nat) (s:Array Bool) (a:Act),
   (∀j oj,ops[j]? =some oj→j≠i→s.getD j true=false→(∀e∈oj.after,Region.binds md e=true→e.on≠i)→oi.apart ops oj=true)→
   i∈Region.ready md ops s→YieldsJ P md ops J n i oi v a→
   wpAnyJ P md ops J n Q fuel (s.setIfInBounds i true) (a.put oi.dst v)→wpAnyJ P md ops J n Q (fuel+1) s a:=by
 intro fuel
 induction fuel with
 | zero=>
  intro s a _ hr hy H
  refine ⟨fun h=> (by rw [h] at hr;cases hr),fun j hj=> ?_⟩
  by_cases hji:j=i
  ·subst hji;exact jOp_here hi hy H
  ·have:=ready_mono hj hji
   rw [H.1] at this
   cases this
 | succ fuel ih=>
  intro s a hfree hr hy H
  refine ⟨fun h=> (by rw [h] at hr;cases hr),fun j hj=> ?_⟩
  by_cases hji:j=i
  ·subst hji;exact jOp_here hi hy H
  ·have h1:=H.2 j (ready_mono hj hji)
   obtain ⟨hjun,oj,hoj,hall⟩:=mem_ready.1 hj
   have hnot:∀e∈oj.after,Region.binds md e=true→e.on≠i:=fun e he hb heq=> by
    have h1:=hall e he hb
    have h0:=(up_of_ready hi hr).2.1
    unfold flags at h0
    rw [heq,h0] at h1
    cases h1
   have h2:=jOp_swap hoj (hfree j oj hoj hji hjun hnot) (fun cs b=> hsel i oi cs b hi) (fun cs b=> hsel j oj cs b hoj) hy h1
   have hfree' :∀k ok,ops[k]? =some ok→k≠i→(s.setIfInBounds j true).getD k true=false→
     (∀e∈ok.after,Region.binds md e=true→e.on≠i)→oi.apart ops ok=true:=fun k ok hk hki hun hno=> by
    refine hfree k ok hk hki ?_ hno
    by_cases hjk:j=k
    ·subst hjk;exact hjun
    ·rw [getD_set_ne true hjk] at hun;exact hun
   refine jOp_mono (fun a' h3=> ih (s.setIfInBounds j true) a' hfree' (ready_mono hr (Ne.symm hji)) h3.1 ?_) h2
   rw [Array.setIfInBounds_comm _ _ hji]
   exact h3.2
def wpJ (P:Program) (md:Region.Mode) (ops:Array Oper) (J:(Nat→Bool)→World→Prop) (n:Nat) (Q:Array Bool→Act→Prop):Nat→List Oper→Array Bool→Act→Prop
 | _,[],s,a=> Q s a
 | k,o::rest,s,a=> ∃v,YieldsJ P md ops J n k o v a∧wpJ P md ops J n Q (k+1) rest (s.setIfInBounds k true) (a.put o.dst v)
theorem wpAnyJ_lex {Q:Array Bool→Act→Prop} (hs:Region.noSelect ops=true):∀(l:List Oper) (k:Nat) (s:Array Bool) (a:Act),(∀j,l[j]? =ops[k+j]?)→
  Region.lexFrom md ops l.length k s=true→wpJ P md ops J n Q k l s a→wpAnyJ P md ops J n Q l.length s a
 | [],_,_,_,_,hB,h=> ⟨by simpa [Region.lexFrom] using hB,h⟩
 | o::l,k,s,a,hl,hB,h=> by
  have h0:ops[k]? =some o:=by simpa using (hl 0).symm
  simp only [List.length_cons,Region.lexFrom,Bool.and_eq_true] at hB
  obtain ⟨⟨hr,hf⟩,hB'⟩:=hB
  obtain ⟨v,hy,hK⟩:=h
  exact wpAnyJ_first h0 (Region.noSelect_spec hs) l.length s a (Region.free_spec h0 hf) (by simpa using hr) hy
   (wpAnyJ_lex hs l (k+1) _ _ (fun j=> by have:=hl (j+1);simpa [Nat.add_assoc,Nat.add_comm 1 j] using this) hB' hK)
end
def One (J' :World→Prop) (a' :Act):Exit→Act→World→Prop
 | .normal,b,w=> b=a' ∧J' w
 | _,_,_=> False
section
variable {P:Program} {ops:Array Oper} {md:Region.Mode} {J:(Nat→Bool)→World→Prop}
theorem putEq_of {a:Act} {n:Nat} {d:Option Tmp} {u v:Value} (hn:a.tmps.size=n) (h:a.put d u=a.put d v):PutEq n d u v:=by
 intro b hb
 cases d with
 | none=> rfl
 | some d=>
  simp only [Act.put,Act.mk.injEq,and_true] at h ⊢
  by_cases hd:d < n
  ·have h1:(a.tmps.setIfInBounds d u)[d]? =(a.tmps.setIfInBounds d v)[d]? :=by rw [h]
   simp [hn,hd] at h1
   rw [h1]
  ·have e:∀x:Value,b.tmps.setIfInBounds d x=b.tmps:=fun x=> by
    have hd' :b.tmps.size≤d:=by rw [hb];exact Nat.le_of_not_lt hd
    simp [Array.setIfInBounds,Nat.not_lt.2 hd']
   rw [e,e]
theorem wpJ_step {Q:Array Bool→Act→Prop} {k:Nat} {o:Oper} {rest:List Oper} {s:Array Bool} {a:Act} {v:Value} {n:Nat} (hn:a.tmps.size=n)
  (hw:Region.wanted o (yielded ops a.tmps)=true)
  (h:∀f w,Up md k o f→J f w→wpList P ops (One (J (fset f k)) (a.put o.dst v)) [o] a w)
  (hr:wpJ P md ops J n Q (k+1) rest (s.setIfInBounds k true) (a.put o.dst v)):wpJ P md ops J n Q k (o::rest) s a:=by
 refine ⟨v,.inl ⟨hw,fun f w hf hj=> ?_⟩,hr⟩
 have h1:=h f w hf hj
 unfold wpList at h1
 rw [if_pos hw] at h1
 rcases h1 with h1 | ⟨_,b,w',hb⟩
 ·unfold Oper.wp at h1
  generalize (execOp a.eval o).run P w=r at*
  cases r with
  | ok x w' =>
   cases x <;> simp only [Oper.upon,wpList,One] at h1 <;> simp only [upJ]
   case value u=> exact ⟨putEq_of hn h1.1,h1.2⟩
   case skip=> exact ⟨putEq_of hn h1.1,h1.2⟩
   case defer d=>
    have h2:=congrArg (fun b:Act=> b.defers.length) h1.1
    cases hd:o.dst <;> simp [Act.put,hd] at h2
   case enter f args=>
    refine h1.mono fun e w'' he=> ?_
    cases e with
    | returned u=> exact ⟨u,rfl,putEq_of hn he.1,he.2⟩
    | panicked c=> exact he.elim
    | outgrown=> obtain ⟨b,w3,hb⟩:=he;exact hb.elim
   case row r args=> exact h1.mono fun u w'' he=> ⟨putEq_of hn he.1,he.2⟩
  | halt x w' => cases x <;> simp only [Oper.upon,One] at h1
 ·exact hb.elim
theorem wpJ_op {Q:Array Bool→Act→Prop} {k:Nat} {o:Oper} {rest:List Oper} {s:Array Bool} {a:Act} {v:Value} {n:Nat} (hn:a.tmps.size=n)
  (hw:Region.wanted o (yielded ops a.tmps)=true)
  (h:∀f w,Up md k o f→J f w→∀Q1:Exit→Act→World→Prop,(∀a' w',a' =a.put o.dst v→J (fset f k) w' →Q1 .normal a' w')→wpList P ops Q1 [o] a w)
  (hr:wpJ P md ops J n Q (k+1) rest (s.setIfInBounds k true) (a.put o.dst v)):wpJ P md ops J n Q k (o::rest) s a:=
 wpJ_step hn hw (fun f w hf hj=> h f w hf hj _ fun _ _ h1 h2=> ⟨h1,h2⟩) hr
theorem wpJ_skip {Q:Array Bool→Act→Prop} {k:Nat} {o:Oper} {rest:List Oper} {s:Array Bool} {a:Act} {n:Nat}
  (hw:Region.wanted o (yielded ops a.tmps)=false) (h:∀f w,Up md k o f→J f w→J (fset f k) w)
  (hr:wpJ P md ops J n Q (k+1) rest (s.setIfInBounds k true) (a.put o.dst undef)):wpJ P md ops J n Q k (o::rest) s a:=
 ⟨undef,.inr ⟨hw,rfl,h⟩,hr⟩
theorem wpJ_nil {Q:Array Bool→Act→Prop} {k:Nat} {s:Array Bool} {a:Act} {n:Nat} (h:Q s a):wpJ P md ops J n Q k [] s a:=h
theorem region_J {id:Nat} {Q:Exit→Act→World→Prop} {a:Act} {w:World} {l:List Oper} (J:(Nat→Bool)→World→Prop) (hm:P.follows .mixedOrders=true) (hB:Region.lexB .any l.toArray=true)
  (h0:J (fun _=> false) w.drew)
  (h:wpJ P .any l.toArray J a.tmps.size (fun s a' => ∀w',J (flags s) w' →Q .normal a' w') 0 l (Array.replicate l.length false) a):(Code.region id l.toArray true).wp P Q a w:=by
 simp only [Region.lexB,Bool.and_eq_true] at hB
 refine wp_region_any hm (wpAny_of_J (J:=J) (n:=a.tmps.size) (Q:=fun s a' => ∀w',J (flags s) w' →Q .normal a' w') (fun _ _ w' hw' h=> h w' hw') _ _ _ _ rfl ?_ ?_)
 ·have e:flags (Array.replicate l.toArray.size false)=fun _=> false:=by
   funext k;unfold flags;simp only [Array.getD_eq_getD_getElem?,Array.getElem?_replicate];split <;> rfl
  rw [e];exact h0
 ·have:=wpAnyJ_lex (J:=J) (md:= .any) (P:=P) (n:=a.tmps.size) hB.1 l 0 (Array.replicate l.length false) a (by simp) (by simpa using hB.2) h
  simpa using this
end
def Sel {α:Type} (b:Bool) (x y:α):α:=if b then x else y
theorem Sel_false {α:Type} (x y:α):Sel false x y=y:=rfl
def Blk (w:World) (b:Nat) (cs:Array Value) (T:TypeId):Prop:=w.heap[b]? =some (.cells cs T)
theorem Blk.cell {w:World} {b:Nat} {cs:Array Value} {T:TypeId} (h:Blk w b cs T) {i:Nat} {v:Value} (hv:cs[i]? =some v):w.cell? ⟨b,i,none⟩=some v:=by
 unfold Blk at h;simp [World.cell?,h,hv]
theorem Blk.frozen {w:World} {b:Nat} {cs:Array Value} {T:TypeId} (h:Blk w b cs T) (i:Nat):w.frozen? ⟨b,i,none⟩=false:=by
 unfold Blk at h;simp [World.frozen?,h]
theorem Blk.rd {w:World} {b:Nat} {cs:Array Value} {T:TypeId} (h:Blk w b cs T):∀i,w.cell? ⟨b,i,none⟩=cs[i]? :=by
 intro i;unfold Blk at h;simp [World.cell?,h]
theorem Blk.nf {w:World} {b:Nat} {cs:Array Value} {T:TypeId} (h:Blk w b cs T):∀i,w.frozen? ⟨b,i,none⟩=false:=h.frozen
theorem Blk.lt {w:World} {b:Nat} {cs:Array Value} {T:TypeId} (h:Blk w b cs T):b < w.heap.size:=by
 unfold Blk at h;exact (Array.getElem?_eq_some_iff.1 h).1
theorem Blk.new (w:World) (cs:Array Value) (T:TypeId):Blk (w.alloc (.cells cs T)) w.heap.size cs T:=by
 show (w.heap.push _)[w.heap.size]? =_;simp
theorem Blk.new' {w:World} {cs:Array Value} {T:TypeId} {b:Nat} (hb:b=w.heap.size):Blk (w.alloc (.cells cs T)) b cs T:=by
 subst hb;exact Blk.new w cs T
theorem Blk.alloc {w:World} {b:Nat} {cs:Array Value} {T:TypeId} (h:Blk w b cs T) (o:Obj):Blk (w.alloc o) b cs T:=by
 have hl:=h.lt
 unfold Blk at*;rw [Go.RowKit.Below.heap_alloc _ _ _ hl];exact h
theorem Blk.drew {w:World} {b:Nat} {cs:Array Value} {T:TypeId} (h:Blk w b cs T):Blk w.drew b cs T:=h
theorem Blk.drewN {w:World} {b:Nat} {cs:Array Value} {T:TypeId} (h:Blk w b cs T) (n:Nat):Blk (w.drewN n) b cs T:=h
theorem Blk.set {w:World} {b:Nat} {cs:Array Value} {T:TypeId} (h:Blk w b cs T) (i:Nat) (v:Value):Blk (w.setCell ⟨b,i,none⟩ v) b (cs.setIfInBounds i v) T:=by
 unfold Blk at*
 simp [World.setCell,Array.getElem?_modify,h]
theorem Blk.set_ne {w:World} {b:Nat} {cs:Array Value} {T:TypeId} (h:Blk w b cs T) {a:Addr} (hne:b≠a.block) (v:Value):Blk (w.setCell a v) b cs T:=by
 unfold Blk at*;rw [Go.RowKit.Below.heap_setCell _ _ _ _ hne];exact h
theorem Blk.below {B:Nat} {w w' :World} (hb:Go.RowKit.Below B w w') {b:Nat} {cs:Array Value} {T:TypeId} (h:Blk w b cs T) (hlt:b < B):Blk w' b cs T:=by
 unfold Blk at*;rw [hb.block b hlt];exact h
theorem Blk.of {w:World} {b:Nat} {cs cs' :Array Value} {T:TypeId} (h:Blk w b cs T) (e:cs=cs'):Blk w b cs' T:=e▸h
end Go.Proofs.YtjpjafajploiaaaGreatDoor.RegJ
namespace Go.Proofs.YtjpjafajploiaaaGreatDoor
theorem nrm:(∀(a:Act) (d:Tmp) (v:Value),a.put (some d) v= {a with tmps:=a.tmps.setIfInBounds d v})∧(∀(a:Act) (v:Value),a.put none v=a)∧(∀(l:List Value) (i:Nat) (v:Value),l.toArray.setIfInBounds i v=(l.set i v).toArray)∧(∀(x:Value) (l:List Value) (v:Value),(x::l).set 0 v=v::l)∧(∀(x:Value) (l:List Value) (i:Nat) (v:Value),(x::l).set (i+1) v=x::l.set i v):=⟨fun _ _ _=> rfl,fun _ _=> rfl,fun _ _ _=> List.setIfInBounds_toArray ..,fun _ _ _=> rfl,fun _ _ _ _=> rfl⟩
end Go.Proofs.YtjpjafajploiaaaGreatDoor
namespace Go.Proofs.YtjpjafajploiaaaGreatDoor
open RegJ
theorem fset_ne {f:Nat→Bool} {k c:Nat} (hk:k≠c):fset f k c=f c:=by unfold fset;simp;intro h;exact absurd h.symm hk
theorem fset_eq {f:Nat→Bool} {c:Nat}:fset f c c=true:=by unfold fset;simp
theorem up_dep {md:Region.Mode} {i:Nat} {o:Oper} {f:Nat→Bool} (hf:RegJ.Up md i o f) (k:Nat) (h:o.after.any (fun e=> e.on==k && Region.binds md e)=true):f k=true:=by
 rw [Array.any_eq_true] at h
 obtain ⟨j,hj,he⟩:=h
 simp only [Bool.and_eq_true,beq_iff_eq] at he
 have:=hf.2 o.after[j] (Array.getElem_mem hj) he.2
 rw [he.1] at this;exact this
def J1 (c:Nat) (S:Bool→World→Prop) (f:Nat→Bool) (w:World):Prop:=S (f c) w
section
variable {c k:Nat} {S:Bool→World→Prop} {f:Nat→Bool} {w:World}
theorem J1.other (h:J1 c S f w) (hc:k≠c):J1 c S (fset f k) w:=by unfold J1 at*;rw [fset_ne hc];exact h
theorem J1.here (h:J1 c S f w) (hf:f c=false):S false w:=by unfold J1 at h;rw [hf] at h;exact h
theorem J1.fin (h:S true w):J1 c S (fset f c) w:=by unfold J1;rw [fset_eq];exact h
theorem J1.over (h:J1 c S f w) (hc:f c=true):S true w:=by unfold J1 at h;rw [hc] at h;exact h
end
def JJ (c d:Nat) (S:Bool→Bool→World→Prop) (f:Nat→Bool) (w:World):Prop:=S (f c) (f d) w
section
variable {c d k:Nat} {S:Bool→Bool→World→Prop} {f:Nat→Bool} {w:World}
theorem JJ.other (h:JJ c d S f w) (hc:k≠c) (hd:k≠d):JJ c d S (fset f k) w:=by unfold JJ at*;rw [fset_ne hc,fset_ne hd];exact h
theorem JJ.one (h:JJ c d S f w) (hf:f c=false):S false (f d) w:=by unfold JJ at h;rw [hf] at h;exact h
end
end Go.Proofs.YtjpjafajploiaaaGreatDoor
namespace Go.Proofs.YtjpjafajploiaaaGreatDoor.RegF
open Go.Proofs.YtjpjafajploiaaaGreatDoor.RegJ hiding Up
section
variable {P:Program} {ops:Array Oper} {md:Region.Mode} {J:(Nat→Bool)→Act→World→Prop}
def Closed (md:Region.Mode) (ops:Array Oper) (f:Nat→Bool):Prop:=∀k o,ops[k]? =some o→f k=true→∀e∈o.after,Region.binds md e=true→f e.on=true
def Up (md:Region.Mode) (ops:Array Oper) (i:Nat) (o:Oper) (f:Nat→Bool):Prop:=RegJ.Up md i o f∧Closed md ops f
theorem Closed.fset {f:Nat→Bool} {i:Nat} {o:Oper} (ho:ops[i]? =some o) (h:Up md ops i o f):Closed md ops (fset f i):=by
 intro k o' hk hf e he hb
 unfold RegJ.fset at*
 by_cases hki:k=i
 ·subst hki
  obtain rfl:o' =o:=Option.some.inj (hk.symm.trans ho)
  simp [h.1.2 e he hb]
 ·have hf' :f k=true:=by simpa [hki] using hf
  simp [h.2 k o' hk hf' e he hb]
def upE (P:Program) (R:Value→World→Prop):Result Next→Prop
 | .ok (.value u) w' => R u w'
 | .ok .skip w' => R undef w'
 | .ok (.enter f args) w' => Calls P f args w' (fun e w'' => ∃u,e= .returned u∧R u w'')
 | .ok (.row r args) w' => Rows P r args w' R
 | _=> False
theorem upE_mono {R R' :Value→World→Prop} {r:Result Next} (h:∀u w,R u w→R' u w) (hh:upE P R r):upE P R' r:=by
 cases r with
 | ok x w' =>
  cases x <;> simp only [upE] at hh ⊢
  case value u=> exact h _ _ hh
  case skip=> exact h _ _ hh
  case enter f args=> exact hh.mono fun e w'' ⟨u,he,hr⟩=> ⟨u,he,h _ _ hr⟩
  case row r args=> exact hh.mono fun u w'' hr=> h _ _ hr
 | halt x w' => simp only [upE] at hh
def Agree (ops:Array Oper) (o:Oper) (a a' :Act):Prop:=a'.tmps.size=a.tmps.size∧∀d∈o.looksAt ops,a'.tmps[d]? =a.tmps[d]?
theorem Agree.refl (o:Oper) (a:Act):Agree ops o a a:=⟨rfl,fun _ _=> rfl⟩
theorem Agree.exec {o:Oper} {a a' :Act} (hs:∀cs b,o.op≠ .select cs b) (h:Agree ops o a a'):execOp a'.eval o=execOp a.eval o:=
 execOp_congr o hs fun x hx=> by
  cases x with
  | tmp d=>
   have hd:d∈o.looksAt ops:=List.mem_append_left _ (List.mem_filterMap.2 ⟨.tmp d,by simpa using hx,rfl⟩)
   simp only [Act.eval,Array.getD_eq_getD_getElem?,h.2 d hd]
  | _=> rfl
theorem Agree.wanted {o:Oper} {a a' :Act} (h:Agree ops o a a'):Region.wanted o (yielded ops a'.tmps)=Region.wanted o (yielded ops a.tmps):=by
 unfold Region.wanted
 cases hg:o.guard with
 | none=> rfl
 | some gw=>
  obtain ⟨g,want⟩:=gw
  have hy:yielded ops a'.tmps g=yielded ops a.tmps g:=by
   unfold yielded
   cases ht:(ops[g]?).bind (·.dst) with
   | none=> rfl
   | some t=>
    have h2:=h.2 t (by simp [Oper.looksAt,hg,ht])
    show (match a'.tmps[t]? with | some (.bool b)=> some b | _=> none)=match a.tmps[t]? with | some (.bool b)=> some b | _=> none
    rw [h2]
  simp only [hy]
theorem put_size (a:Act) (d:Option Tmp) (v:Value):(a.put d v).tmps.size=a.tmps.size:=by
 cases d <;> simp [Act.put]
theorem Agree.put {o:Oper} {a a' :Act} {d:Option Tmp} {v:Value} (hd:∀t,d=some t→t∉o.looksAt ops) (h:Agree ops o a a'):Agree ops o (a.put d v) a' :=by
 refine ⟨by rw [put_size];exact h.1,fun t ht=> ?_⟩
 rw [h.2 t ht]
 cases d with
 | none=> rfl
 | some d=>
  have hne:d≠t:=fun e=> hd d rfl (e▸ht)
  simp [Act.put,Array.getElem?_setIfInBounds_ne hne]
theorem Agree.of_put {o:Oper} {a a' :Act} {d:Option Tmp} {v:Value} (hd:∀t,d=some t→t∉o.looksAt ops) (h:Agree ops o (a.put d v) a'):Agree ops o a a' :=by
 refine ⟨by rw [←put_size a d v];exact h.1,fun t ht=> ?_⟩
 rw [h.2 t ht]
 cases d with
 | none=> rfl
 | some d=>
  have hne:d≠t:=fun e=> hd d rfl (e▸ht)
  simp [Act.put,Array.getElem?_setIfInBounds_ne hne]
def YieldsE (P:Program) (md:Region.Mode) (ops:Array Oper) (J:(Nat→Bool)→Act→World→Prop) (i:Nat) (o:Oper) (V:Value→Prop) (a:Act):Prop:=
 (Region.wanted o (yielded ops a.tmps)=true∧∀a' f w,Agree ops o a a' →Up md ops i o f→J f a' w→upE P (fun u w' => V u∧J (fset f i) (a'.put o.dst u) w') ((execOp a.eval o).run P w))∨
 (Region.wanted o (yielded ops a.tmps)=false∧V undef∧∀a' f w,Agree ops o a a' →Up md ops i o f→J f a' w→J (fset f i) (a'.put o.dst undef) w)
theorem YieldsE.of_agree {i:Nat} {o:Oper} {V:Value→Prop} {a b:Act} (hs:∀cs c,o.op≠ .select cs c) (hy:YieldsE P md ops J i o V a) (h:Agree ops o a b):YieldsE P md ops J i o V b:=by
 have tr:∀a',Agree ops o b a' →Agree ops o a a' :=fun a' h' => ⟨h'.1.trans h.1,fun d hd=> (h'.2 d hd).trans (h.2 d hd)⟩
 rcases hy with ⟨h1,h2⟩ | ⟨h1,h2,h3⟩
 ·refine .inl ⟨h.wanted.trans h1,fun a' f w ha hf hj=> ?_⟩
  rw [h.exec hs]
  exact h2 a' f w (tr a' ha) hf hj
 ·exact .inr ⟨h.wanted.trans h1,h2,fun a' f w ha hf hj=> h3 a' f w (tr a' ha) hf hj⟩
def jOp (P:Program) (md:Region.Mode) (ops:Array Oper) (J:(Nat→Bool)→Act→World→Prop) (Vs:Nat→Value→Prop) (i:Nat) (K:Act→Prop) (a:Act):Prop:=
 match ops[i]? with
 | none=> K a
 | some o=> YieldsE P md ops J i o (Vs i) a∧∀u,Vs i u→K (a.put o.dst u)
def wpAnyE (P:Program) (md:Region.Mode) (ops:Array Oper) (J:(Nat→Bool)→Act→World→Prop) (Vs:Nat→Value→Prop) (Q:Array Bool→Act→Prop):Nat→Array Bool→Act→Prop
 | 0,s,a=> Region.ready md ops s= []∧Q s a
 | fuel+1,s,a=> (Region.ready md ops s= []→Q s a)∧∀i∈Region.ready md ops s,jOp P md ops J Vs i (wpAnyE P md ops J Vs Q fuel (s.setIfInBounds i true)) a
theorem wp_of_upE {o:Oper} {a:Act} {R:Value→World→Prop} {K' :Act→World→Prop} {Q' :Exit→Act→World→Prop} {w:World}
  (h:∀u w',R u w' →K' (a.put o.dst u) w') (hh:upE P R ((execOp a.eval o).run P w)):o.wp P a w K' Q' :=by
 unfold Oper.wp
 generalize (execOp a.eval o).run P w=r at*
 cases r with
 | ok x w' =>
  cases x <;> simp only [upE] at hh <;> simp only [Oper.upon]
  case value u=> exact h _ _ hh
  case skip=> exact h _ _ hh
  case enter f args=> exact hh.mono fun e w'' ⟨u,he,hr⟩=> by subst he;exact h _ _ hr
  case row r args=> exact hh.mono fun u w'' hr=> h _ _ hr
 | halt x w' => simp only [upE] at hh
theorem wpAny_of_E {Vs:Nat→Value→Prop} {Q:Array Bool→Act→Prop} {Q' :Exit→Act→World→Prop} (hQ:∀s a w,J (flags s) a w→Q s a→Q' .normal a w):∀(fuel:Nat) (s:Array Bool) (a:Act) (w:World),Closed md ops (flags s)→J (flags s) a w→
  wpAnyE P md ops J Vs Q fuel s a→wpAny P md ops Q' fuel s a w
 | 0,_,_,_,_,hw,h=> ⟨h.1,hQ _ _ _ hw h.2⟩
 | fuel+1,s,a,w,hcl,hw,h=> by
  refine ⟨fun h0=> hQ _ _ _ hw (h.1 h0),fun i hi=> ?_⟩
  have h2:=h.2 i hi
  obtain ⟨h1,o,ho,hall⟩:=mem_ready.1 hi
  obtain ⟨his,hup0⟩:=up_of_ready ho hi
  have hup:Up md ops i o (flags s):=⟨hup0,hcl⟩
  have hcl' :Closed md ops (flags (s.setIfInBounds i true)):=by rw [flags_set his];exact Closed.fset ho hup
  unfold jOp at h2
  unfold wpOp
  simp only [ho] at h2 ⊢
  obtain ⟨hy,hK⟩:=h2
  rcases hy with ⟨hwd,hs⟩ | ⟨hwd,hv,hs⟩
  ·simp only [hwd,if_true]
   refine .inl (wp_of_upE (R:=fun u w' => Vs i u∧J (fset (flags s) i) (a.put o.dst u) w') (fun u w' ⟨hu,hj⟩=> ?_) (hs a _ w (Agree.refl _ _) hup hw))
   exact wpAny_of_E hQ fuel _ _ _ hcl' (by rw [flags_set his];exact hj) (hK u hu)
  ·simp only [hwd,Bool.false_eq_true,if_false]
   exact wpAny_of_E hQ fuel _ _ _ hcl' (by rw [flags_set his];exact hs a _ w (Agree.refl _ _) hup hw) (hK undef hv)
theorem wpAnyE_first {Vs:Nat→Value→Prop} {Q:Array Bool→Act→Prop} {i:Nat} {oi:Oper} (hi:ops[i]? =some oi) (hsel:∀(j:Nat) (o:Oper) cs b,ops[j]? =some o→o.op≠ .select cs b) (hne:∃u,Vs i u):
  ∀(fuel:Nat) (s:Array Bool) (a:Act),
   (∀j oj,ops[j]? =some oj→j≠i→s.getD j true=false→(∀e∈oj.after,Region.binds md e=true→e.on≠i)→oi.apart ops oj=true)→
   i∈Region.ready md ops s→YieldsE P md ops J i oi (Vs i) a→
   (∀u,Vs i u→wpAnyE P md ops J Vs Q fuel (s.setIfInBounds i true) (a.put oi.dst u))→wpAnyE P md ops J Vs Q (fuel+1) s a:=by
 have here:∀ {K:Act→Prop} {a:Act},YieldsE P md ops J i oi (Vs i) a→(∀u,Vs i u→K (a.put oi.dst u))→jOp P md ops J Vs i K a:=fun {K a} hy h=> by
  unfold jOp;simp only [hi];exact ⟨hy,h⟩
 obtain ⟨u0,hu0⟩:=hne
 intro fuel
 induction fuel with
 | zero=>
  intro s a _ hr hy H
  refine ⟨fun h=> (by rw [h] at hr;cases hr),fun j hj=> ?_⟩
  by_cases hji:j=i
  ·subst hji;exact here hy H
  ·have:=ready_mono hj hji
   rw [(H u0 hu0).1] at this
   cases this
 | succ fuel ih=>
  intro s a hfree hr hy H
  refine ⟨fun h=> (by rw [h] at hr;cases hr),fun j hj=> ?_⟩
  by_cases hji:j=i
  ·subst hji;exact here hy H
  ·have h1:=fun u hu=> (H u hu).2 j (ready_mono hj hji)
   obtain ⟨hjun,oj,hoj,hall⟩:=mem_ready.1 hj
   have hnot:∀e∈oj.after,Region.binds md e=true→e.on≠i:=fun e he hb heq=> by
    have h1:=hall e he hb
    have h0:=(up_of_ready hi hr).2.1
    unfold flags at h0
    rw [heq,h0] at h1
    cases h1
   have hap:=hfree j oj hoj hji hjun hnot
   have hsi:=fun cs b=> hsel i oi cs b hi
   have hsj:=fun cs b=> hsel j oj cs b hoj
   obtain ⟨p1,p2,p3⟩:=Oper.apart_spec hap
   have hfree' :∀k ok,ops[k]? =some ok→k≠i→(s.setIfInBounds j true).getD k true=false→
     (∀e∈ok.after,Region.binds md e=true→e.on≠i)→oi.apart ops ok=true:=fun k ok hk hki hun hno=> by
    refine hfree k ok hk hki ?_ hno
    by_cases hjk:j=k
    ·subst hjk;exact hjun
    ·rw [getD_set_ne true hjk] at hun;exact hun
   unfold jOp at h1 ⊢
   simp only [hoj] at h1 ⊢
   refine ⟨(h1 u0 hu0).1.of_agree hsj (Agree.put p1 (Agree.refl _ _)),fun x hx=> ?_⟩
   refine ih (s.setIfInBounds j true) _ hfree' (ready_mono hr (Ne.symm hji)) (hy.of_agree hsi (Agree.of_put p3 (Agree.refl _ _))) (fun u hu=> ?_)
   have h2:=(h1 u hu).2 x hx
   rw [Array.setIfInBounds_comm _ _ hji,←Act.put_comm a u x p2]
   exact h2
def wpE (P:Program) (md:Region.Mode) (ops:Array Oper) (J:(Nat→Bool)→Act→World→Prop) (Q:Array Bool→Act→Prop):Nat→List (Value→Prop)→List Oper→Array Bool→Act→Prop
 | _,_,[],s,a=> Q s a
 | _,[],_::_,_,_=> False
 | k,V::Vl,o::rest,s,a=> (∃u,V u)∧YieldsE P md ops J k o V a∧∀u,V u→wpE P md ops J Q (k+1) Vl rest (s.setIfInBounds k true) (a.put o.dst u)
theorem wpAnyE_lex {Vs:Nat→Value→Prop} {Q:Array Bool→Act→Prop} (hs:Region.noSelect ops=true):∀(l:List Oper) (Vl:List (Value→Prop)) (k:Nat) (s:Array Bool) (a:Act),(∀j,l[j]? =ops[k+j]?)→(∀j V,Vl[j]? =some V→Vs (k+j)=V)→
  Region.lexFrom md ops l.length k s=true→wpE P md ops J Q k Vl l s a→wpAnyE P md ops J Vs Q l.length s a
 | [],_,_,_,_,_,_,hB,h=> by
  cases ‹List (Value→Prop)› <;> exact ⟨by simpa [Region.lexFrom] using hB,h⟩
 | o::l,[],_,_,_,_,_,_,h=> h.elim
 | o::l,V::Vl,k,s,a,hl,hV,hB,h=> by
  have h0:ops[k]? =some o:=by simpa using (hl 0).symm
  have hV0:Vs k=V:=by simpa using hV 0 V rfl
  simp only [List.length_cons,Region.lexFrom,Bool.and_eq_true] at hB
  obtain ⟨⟨hr,hf⟩,hB'⟩:=hB
  have hl' :∀j,l[j]? =ops[k+1+j]? :=fun j=> by have:=hl (j+1);simpa [Nat.add_assoc,Nat.add_comm 1 j] using this
  have hV' :∀j V,Vl[j]? =some V→Vs (k+1+j)=V:=fun j V' hj=> by
   have:=hV (j+1) V' (by simpa using hj)
   rw [show k+1+j=k+(j+1) by omega];exact this
  obtain ⟨hne,hy,hK⟩:=h
  exact wpAnyE_first h0 (Region.noSelect_spec hs) (by rw [hV0];exact hne) l.length s a (Region.free_spec h0 hf) (by simpa using hr) (by rw [hV0];exact hy)
   (fun u hu=> wpAnyE_lex hs l Vl (k+1) _ _ hl' hV' hB' (hK u (by rw [hV0] at hu;exact hu)))
theorem upE_of_list {o:Oper} {a:Act} {w:World} {R:Value→World→Prop} {Q1:Exit→Act→World→Prop} (hw:Region.wanted o (yielded ops a.tmps)=true)
  (hQ:∀e b w',Q1 e b w' →e= .normal∧∃u,b=a.put o.dst u∧R u w') (hR:∀u u' w',a.put o.dst u=a.put o.dst u' →R u w' →R u' w')
  (h:wpList P ops Q1 [o] a w):upE P R ((execOp a.eval o).run P w):=by
 have fin:∀u w',Q1 .normal (a.put o.dst u) w' →R u w' :=fun u w' h=> by
  obtain ⟨_,u',he,hr⟩:=hQ _ _ _ h
  exact hR u' u w' he.symm hr
 unfold wpList at h
 rw [if_pos hw] at h
 rcases h with h | ⟨_,b,w',hb⟩
 ·unfold Oper.wp at h
  generalize (execOp a.eval o).run P w=r at*
  cases r with
  | ok x w' =>
   cases x <;> simp only [Oper.upon,wpList] at h <;> simp only [upE]
   case value u=> exact fin _ _ h
   case skip=> exact fin _ _ h
   case defer d=>
    obtain ⟨_,u,he,_⟩:=hQ _ _ _ h
    have h2:=congrArg (fun b:Act=> b.defers.length) he
    cases hd:o.dst <;> simp [Act.put,hd] at h2
   case enter f args=>
    refine h.mono fun e w'' he=> ?_
    cases e with
    | returned u=> exact ⟨u,rfl,fin _ _ he⟩
    | panicked c=> have:=(hQ _ _ _ he).1;cases this
    | outgrown=> obtain ⟨b,w3,hb⟩:=he;have:=(hQ _ _ _ hb).1;cases this
   case row r args=> exact h.mono fun u w'' he=> fin _ _ he
  | halt x w' =>
   cases x <;> simp only [Oper.upon] at h
   case panic u=> have:=(hQ _ _ _ h).1;cases this
 ·have:=(hQ _ _ _ hb).1;cases this
def Is (n:Nat) (dst:Option Tmp) (v:Value):Value→Prop:=fun u=> PutEq n dst u v
theorem wpE_op {Q:Array Bool→Act→Prop} {k:Nat} {Vl:List (Value→Prop)} {o:Oper} {rest:List Oper} {s:Array Bool} {a:Act} {v:Value} {n:Nat} {d:Option Tmp} (hn:a.tmps.size=n) (hd:o.dst=d)
  (hw:Region.wanted o (yielded ops a.tmps)=true)
  (h:∀f a' w,Agree ops o a a' →Up md ops k o f→J f a' w→∀Q1:Exit→Act→World→Prop,(∀b w',b=a.put d v→J (fset f k) (a'.put d v) w' →Q1 .normal b w')→wpList P ops Q1 [o] a w)
  (hr:wpE P md ops J Q (k+1) Vl rest (s.setIfInBounds k true) (a.put d v)):wpE P md ops J Q k (Is n d v::Vl) (o::rest) s a:=by
 subst hd
 have hp:∀u,a.put o.dst u=a.put o.dst v→PutEq n o.dst u v:=fun u he=> putEq_of hn he
 refine ⟨⟨v,fun _ _=> rfl⟩,.inl ⟨hw,fun a' f w ha hf hj=> ?_⟩,fun u hu=> by rw [hu a hn];exact hr⟩
 refine upE_mono (R:=fun u w' => a.put o.dst u=a.put o.dst v∧J (fset f k) (a'.put o.dst v) w') (fun u w' ⟨he,hj'⟩=> ⟨hp u he,by rw [(hp u he) a' (ha.1.trans hn)];exact hj'⟩)
  (upE_of_list (Q1:=fun e b w' => e= .normal∧b=a.put o.dst v∧J (fset f k) (a'.put o.dst v) w') hw (fun e b w' ⟨h1,h2,h3⟩=> ⟨h1,v,h2,rfl,h3⟩) (fun u u' w' he ⟨h1,h2⟩=> ⟨he▸h1,h2⟩) (h f a' w ha hf hj _ fun b w' hb hj' => ⟨rfl,hb,hj'⟩))
theorem wpE_any {Q:Array Bool→Act→Prop} {k d:Nat} {Vl:List (Value→Prop)} {o:Oper} {rest:List Oper} {s:Array Bool} {a:Act} (hd:o.dst=some d) (hdn:d < a.tmps.size) {V:Value→Prop} (hne:∃u,V u)
  (hw:Region.wanted o (yielded ops a.tmps)=true)
  (h:∀f a' w,Agree ops o a a' →Up md ops k o f→J f a' w→∀Q1:Exit→Act→World→Prop,(∀u b w',b=a.put (some d) u→V u→J (fset f k) (a'.put (some d) u) w' →Q1 .normal b w')→wpList P ops Q1 [o] a w)
  (hr:∀u,V u→wpE P md ops J Q (k+1) Vl rest (s.setIfInBounds k true) (a.put (some d) u)):wpE P md ops J Q k (V::Vl) (o::rest) s a:=by
 refine ⟨hne,.inl ⟨hw,fun a' f w ha hf hj=> ?_⟩,by rw [hd];exact hr⟩
 refine upE_of_list (Q1:=fun e b w' => e= .normal∧∃u,b=a.put (some d) u∧V u∧J (fset f k) (a'.put (some d) u) w') hw ?_ ?_ (h f a' w ha hf hj _ fun u b w' hb hV hj' => ⟨rfl,u,hb,hV,hj'⟩)
 ·rintro e b w' ⟨h1,u,h2,h3,h4⟩
  rw [hd]
  exact ⟨h1,u,h2,h3,h4⟩
 ·intro u u' w' he ⟨h1,h2⟩
  have e:u=u' :=by
   rw [hd] at he
   simp only [Act.put,Act.mk.injEq,and_true] at he
   have h3:(a.tmps.setIfInBounds d u)[d]? =(a.tmps.setIfInBounds d u')[d]? :=by rw [he]
   simpa [hdn] using h3
  subst e
  exact ⟨h1,h2⟩
theorem wpE_nil {Q:Array Bool→Act→Prop} {k:Nat} {Vl:List (Value→Prop)} {s:Array Bool} {a:Act} (h:Q s a):wpE P md ops J Q k Vl [] s a:=by
 cases Vl <;> exact h
theorem region_E {id:Nat} {Q:Exit→Act→World→Prop} {a:Act} {w:World} {l:List Oper} (J:(Nat→Bool)→Act→World→Prop) (Vl:List (Value→Prop)) (hm:P.follows .mixedOrders=true) (hB:Region.lexB .any l.toArray=true)
  (h0:J (fun _=> false) a w.drew)
  (h:wpE P .any l.toArray J (fun s a' => ∀w',J (flags s) a' w' →Q .normal a' w') 0 Vl l (Array.replicate l.length false) a):(Code.region id l.toArray true).wp P Q a w:=by
 simp only [Region.lexB,Bool.and_eq_true] at hB
 refine wp_region_any hm (wpAny_of_E (J:=J) (Vs:=fun k=> Vl.getD k (fun _=> False)) (Q:=fun s a' => ∀w',J (flags s) a' w' →Q .normal a' w') (fun _ _ w' hw' h=> h w' hw') _ _ _ _ ?_ ?_ ?_)
 ·intro k o _ hf
  have e:flags (Array.replicate l.toArray.size false) k=false:=by
   unfold flags;simp only [Array.getD_eq_getD_getElem?,Array.getElem?_replicate];split <;> rfl
  rw [e] at hf;cases hf
 ·have e:flags (Array.replicate l.toArray.size false)=fun _=> false:=by
   funext k;unfold flags;simp only [Array.getD_eq_getD_getElem?,Array.getElem?_replicate];split <;> rfl
  rw [e];exact h0
 ·have:=wpAnyE_lex (J:=J) (md:= .any) (P:=P) (Vs:=fun k=> Vl.getD k (fun _=> False)) hB.1 l Vl 0 (Array.replicate l.length false) a (by simp) (fun j V hj=> by simp [hj]) (by simpa using hB.2) h
  simpa using this
end
theorem Closed.step {ops:Array Oper} {md:Region.Mode} {f:Nat→Bool} (h:Closed md ops f) (j i:Nat) {o:Oper} (ho:ops[j]? =some o) (he:(o.after.any fun e=> Region.binds md e && e.on==i)=true) (hf:f j=true):f i=true:=by
 obtain ⟨e,hm,hb⟩:=Array.any_eq_true'.1 he
 simp only [Bool.and_eq_true,beq_iff_eq] at hb
 have:=h j o ho hf e hm hb.1
 rw [hb.2] at this
 exact this
def slot (a:Act) (d:Nat):Value:=a.tmps.getD d undef
theorem slot_put {a:Act} {d:Nat} (h:d < a.tmps.size) (u:Value):slot (a.put (some d) u) d=u:=by
 simp [slot,Act.put,h]
theorem slot_put_ne {a:Act} {d e:Nat} (h:d≠e) (u:Value):slot (a.put (some d) u) e=slot a e:=by
 simp [slot,Act.put,Array.getElem?_setIfInBounds_ne h]
def RowJ (c s d:Nat) (A:(Nat→Bool)→World→Prop) (PW:Value→World→Prop) (p:Addr) (f:Nat→Bool) (a:Act) (w:World):Prop:=
 (f c=false→f s=false→A f w)∧(f c=true→f s=false→PW (slot a d) w)∧(f s=true→∃w0,PW (slot a d) w0∧w=w0.setCell p (slot a d))
theorem RowJ.blk {c s d:Nat} {A:(Nat→Bool)→World→Prop} {PW:Value→World→Prop} {p:Addr} {f:Nat→Bool} {a:Act} {w:World} (h:RowJ c s d A PW p f a w) {b:Nat} {cs:Array Value} {T:TypeId}
  (hA:∀w,A f w→Blk w b cs T) (hP:∀v w,PW v w→Blk w b cs T) (hne:b≠p.block):Blk w b cs T:=by
 cases hc:f c with
 | false=>
  cases hs:f s with
  | false=> exact hA _ (h.1 hc hs)
  | true=> obtain ⟨w0,h1,h2⟩:=h.2.2 hs;rw [h2];exact (hP _ _ h1).set_ne hne _
 | true=>
  cases hs:f s with
  | false=> exact hP _ _ (h.2.1 hc hs)
  | true=> obtain ⟨w0,h1,h2⟩:=h.2.2 hs;rw [h2];exact (hP _ _ h1).set_ne hne _
end Go.Proofs.YtjpjafajploiaaaGreatDoor.RegF
namespace Go.Proofs.YtjpjafajploiaaaGreatDoor.RegC
open Go.RowKit
open Go.Proofs.YtjpjafajploiaaaGreatDoor.RegJ hiding Up
open Go.Proofs.YtjpjafajploiaaaGreatDoor.RegF hiding put_size
def EvJ (W:World) (e1 d1:Nat) (P1:Value→World→Prop) (e2 d2:Nat) (P2:Value→World→Prop) (e3 d3:Nat) (P3:Value→World→Prop) (s:Nat) (p:Addr) (f:Nat→Bool) (a:Act) (w:World):Prop:=
 (f s=false→Below W.heap.size W w∧(f e1=false→f e2=false→f e3=false→w=W)∧(f e1=true→f e3=false→P1 (slot a d1) w)∧(f e2=true→f e3=false→P2 (slot a d2) w)∧(f e3=true→P3 (slot a d3) w))∧
 (f s=true→∃w0,Below W.heap.size W w0∧P3 (slot a d3) w0∧w=w0.setCell p (slot a d3))
section
variable {W:World} {e1 d1 e2 d2 e3 d3 s:Nat} {P1 P2 P3:Value→World→Prop} {p:Addr} {f f' :Nat→Bool} {a a' :Act} {w w' :World} {v:Value}
theorem EvJ.bel (h:EvJ W e1 d1 P1 e2 d2 P2 e3 d3 P3 s p f a w) (hs:f s=false):Below W.heap.size W w:=(h.1 hs).1
theorem EvJ.fin (h:EvJ W e1 d1 P1 e2 d2 P2 e3 d3 P3 s p f a w) (hs:f s=true) (hv:slot a d3=v):∃w0,Below W.heap.size W w0∧P3 v w0∧w=w0.setCell p v:=by
 subst hv
 exact h.2 hs
end
end Go.Proofs.YtjpjafajploiaaaGreatDoor.RegC
