/-
  Which of the blocks that were there a step may turn, and rows of integers that a call owns: plain facts on worlds.
-/
import Derived.Test.YtjpjafajploiaaaGreatDoorUnixAlone01
import Derived.Laws.AppendOwn
import Derived.Maps.OwnSet
set_option linter.unusedSimpArgs false
set_option linter.unusedVariables false
namespace Go.Proofs.YtjpjafajploiaaaGreatDoor.Own
open Go.RowKit Go.Proofs.YtjpjafajploiaaaGreatDoor.RegJ
structure Upd(F:Nat→Prop)(w w' :World):Prop where
 os:w'.os=w.os
 tape:w'.tape=w.tape
 output:w'.output=w.output
 size:w.heap.size≤w'.heap.size
 block:∀k,k < w.heap.size→¬F k→w'.heap[k]? =w.heap[k]?
theorem Upd.refl(F:Nat→Prop)(w:World):Upd F w w:=⟨rfl,rfl,rfl,Nat.le_refl _,fun _ _ _=> rfl⟩
theorem Upd.trans {F G:Nat→Prop} {a b c:World}(h:Upd F a b)(k:Upd G b c)(hG:∀i,i < a.heap.size→G i→F i):Upd F a c:=
 ⟨k.os.trans h.os,k.tape.trans h.tape,k.output.trans h.output,Nat.le_trans h.size k.size,
  fun i hi hf=> (k.block i(Nat.lt_of_lt_of_le hi h.size)(fun hg=> hf(hG i hi hg))).trans(h.block i hi hf)⟩
theorem Upd.mono {F G:Nat→Prop} {a b:World}(h:Upd F a b)(hG:∀i,i < a.heap.size→F i→G i):Upd G a b:=
 ⟨h.os,h.tape,h.output,h.size,fun i hi hg=> h.block i hi(fun hf=> hg(hG i hi hf))⟩
theorem Upd.drew {F:Nat→Prop} {a w:World}(h:Upd F a w):Upd F a w.drew:=⟨h.os,h.tape,h.output,h.size,h.block⟩
theorem Upd.drewN {F:Nat→Prop} {a w:World}(h:Upd F a w)(n:Nat):Upd F a(w.drewN n):=⟨h.os,h.tape,h.output,h.size,h.block⟩
theorem Upd.alloc {F:Nat→Prop} {a w:World}(h:Upd F a w)(o:Obj):Upd F a(w.alloc o):=
 ⟨h.os,h.tape,h.output,Nat.le_trans h.size(by simp),fun k hk hf=> (Below.heap_alloc _ _ _(Nat.lt_of_lt_of_le hk h.size)).trans(h.block k hk hf)⟩
theorem Upd.setCell {F:Nat→Prop} {a w:World}(h:Upd F a w) {p:Addr}(hp:p.block < a.heap.size→F p.block)(u:Value):Upd F a(w.setCell p u):=
 ⟨h.os,h.tape,h.output,Nat.le_trans h.size(by simp [World.setCell]),fun k hk hf=> by
  rw [Below.heap_setCell _ _ _ _(fun e=> hf(by rw [e];exact hp(e▸hk)))];exact h.block k hk hf⟩
theorem Upd.of_below {F:Nat→Prop} {w w' :World}(h:Below w.heap.size w w'):Upd F w w' :=⟨h.os,h.tape,h.output,h.size,fun k hk _=> h.block k hk⟩
theorem Upd.below {F:Nat→Prop} {B:Nat} {w w' :World}(h:Upd F w w')(hB:B≤w.heap.size)(hF:∀k,F k→B≤k):Below B w w' :=
 ⟨h.os,h.tape,h.output,h.size,fun k hk=> h.block k(Nat.lt_of_lt_of_le hk hB)(fun hf=> by have:=hF k hf;omega)⟩
theorem Upd.grown {F:Nat→Prop} {w w' :World} {row:Option Nat}(hg:w.grownBy w' row)(hr:∀k,row=some k→F k):Upd F w w' :=
 ⟨hg.os,hg.tape,hg.output,hg.size,fun k hk hf=> hg.block k hk(fun e=> hf(hr k e.symm))⟩
theorem Blk.upd {F:Nat→Prop} {w w' :World}(hu:Upd F w w') {b:Nat} {cs:Array Value} {T:TypeId}(h:Blk w b cs T)(hf:¬F b):Blk w' b cs T:=by
 have hl:=h.lt
 unfold Blk at*;rw [hu.block b hl hf];exact h
theorem upd_heap {F:Nat→Prop} {w w' :World}(hu:Upd F w w') {b:Nat} {o:Obj}(h:w.heap[b]? =some o)(hf:¬F b):w'.heap[b]? =some o:=by
 rw [hu.block b(Array.getElem?_eq_some_iff.1 h).1 hf];exact h
abbrev icells(xs:List Int):List Value:=xs.map(Value.int .i64)
def Ints(w:World)(E:TypeId)(v:Value)(xs:List Int)(b:Option Nat):Prop:=
 (v= .slice none 0 0∧xs= []∧b=none)∨
 ∃g cap rest,v= .slice(some⟨g,0,none⟩)xs.length cap∧b=some g∧Blk w g(icells xs++rest).toArray E∧cap=(icells xs++rest).length∧cap≤maxLen
theorem Ints.keep {w w' :World} {E:TypeId} {v:Value} {xs:List Int} {b:Option Nat}(h:Ints w E v xs b)(hk:∀g,b=some g→w'.heap[g]? =w.heap[g]?):Ints w' E v xs b:=by
 rcases h with h | ⟨g,cap,rest,hv,hb,hB,hc,hm⟩
 ·exact Or.inl h
 ·exact Or.inr⟨g,cap,rest,hv,hb,by unfold Blk at*;rw [hk g hb];exact hB,hc,hm⟩
theorem Ints.upd {w w' :World} {F:Nat→Prop} {E:TypeId} {v:Value} {xs:List Int} {b:Option Nat}(h:Ints w E v xs b)(hu:Upd F w w')(hf:∀g,b=some g→¬F g):Ints w' E v xs b:=by
 rcases h with h | ⟨g,cap,rest,hv,hb,hB,hc,hm⟩
 ·exact Or.inl h
 ·exact Or.inr⟨g,cap,rest,hv,hb,Blk.upd hu hB(hf g hb),hc,hm⟩
theorem Ints.lt {w:World} {E:TypeId} {v:Value} {xs:List Int} {b:Option Nat}(h:Ints w E v xs b)(g:Nat)(hg:b=some g):g < w.heap.size:=by
 rcases h with⟨_,_,hb⟩ | ⟨g',cap,rest,hv,hb,hB,hc,hm⟩
 ·rw [hb]at hg;cases hg
 ·rw [hb]at hg;cases hg;exact hB.lt
theorem Ints.len {w:World} {E:TypeId} {v:Value} {xs:List Int} {b:Option Nat}(h:Ints w E v xs b):xs.length≤maxLen:=by
 rcases h with⟨_,h,_⟩ | ⟨g,cap,rest,hv,hb,hB,hc,hm⟩
 ·rw [h];exact Nat.zero_le _
 ·rw [hc]at hm;simp at hm;omega
theorem getD_cells(xs:List Int)(j:Nat)(h:j < xs.length):(icells xs)[j]? =some(Value.int .i64(xs.getD j 0)):=by
 simp [h]
theorem Ints.cells {w:World} {g:Nat} {E:TypeId} {xs:List Int} {rest:List Value}(hB:Blk w g(icells xs++rest).toArray E)(j:Nat)(h:j < xs.length):w.cell? ⟨g,0+j,none⟩=some(.int .i64(xs.getD j 0)):=by
 rw [hB.rd,Nat.zero_add]
 rw [List.getElem?_toArray,List.getElem?_append_left(by simpa using h)]
 exact getD_cells xs j h
theorem Ints.own {w:World} {base:Nat} {E:TypeId} {v:Value} {xs:List Int} {b:Option Nat}(h:Ints w E v xs b)(hb:∀g,b=some g→base≤g):w.ownsRow base E 1 v xs.length(icells xs):=by
 refine⟨by simp,?_⟩
 rcases h with⟨hv,h0,_⟩ | ⟨g,cap,rest,hv,hg,hB,hc,hm⟩
 ·exact Or.inl⟨hv,by rw [h0];rfl⟩
 ·refine Or.inr⟨g,cap,_,hv,hb g hg,hB,by rw [hc];simp,hm,by rw [hc];simp,?_⟩
  simp
theorem Blk.sets {w:World} {b:Nat} {T:TypeId}:∀(vs:List Value)(l:List Value)(o:Nat),Blk w b l.toArray T→o+vs.length≤l.length→Blk(w.setCells b o vs)b(l.take o++vs++l.drop(o+vs.length)).toArray T:=by
 intro vs
 induction vs generalizing w with
 | nil=> intro l o h hl;simpa [World.setCells]using h
 | cons v r ih=>
  intro l o h hl
  simp only [List.length_cons]at hl
  have h1:=h.set o v
  have e:l.toArray.setIfInBounds o v=(l.set o v).toArray:=by simp
  rw [e]at h1
  have h2:=ih(l.set o v)(o+1)h1(by simp;omega)
  refine Blk.of h2 ?_
  congr 1
  have e1:(l.set o v).take(o+1)=l.take o++ [v]:=by
   rw [List.take_set,List.take_succ_eq_append_getElem(by omega)]
   rw [List.set_append_right _ _(by simp;omega)]
   congr 1
   have:o - (l.take o).length=0:=by simp;omega
   rw [this];rfl
  have e2:(l.set o v).drop(o+1+r.length)=l.drop(o+(r.length+1)):=by
   rw [List.drop_set_of_lt(by omega)];congr 1;omega
  rw [e1,e2];simp
theorem Upd.sets {F:Nat→Prop} {a:World}:∀(vs:List Value)(w:World)(b o:Nat),Upd F a w→(b < a.heap.size→F b)→Upd F a(w.setCells b o vs)
 | [],_,_,_,h,_=> h
 | v::r,w,b,o,h,hb=> Upd.sets r _ b(o+1)(h.setCell(p:=⟨b,o,none⟩)hb v)hb
end Go.Proofs.YtjpjafajploiaaaGreatDoor.Own
namespace Go.Proofs.YtjpjafajploiaaaGreatDoor
open Go.RowKit Own
open Go.Maps(Keyed int_keyed keyOf_int_mk)
open RegJ
def AnyR(v:Value):Option(DataW Value×List MemPlace):=some(.held v,[])
def MapI(w:World)(P:Program)(k:TypeId)(b n s:Nat)(m:Int→Option Value):Prop:=
 ∃D:DataW Value,w.ownsMap P k AnyR b n D∧Maps.size D=s∧∀i,(Lit.int .i64 i).wf=true→Maps.has D(.int .i64 i)=(m i).isSome∧∀z,D.atKey(.int .i64 i)z=(match m i with | some v=> .held v | none=> z)
def mput(m:Int→Option Value)(i:Int)(v:Value):Int→Option Value:=fun j=> if j=i then some v else m j
def mdel(m:Int→Option Value)(i:Int):Int→Option Value:=fun j=> if j=i then none else m j
theorem lit_ne {i j:Int}(h:j≠i):(Lit.int .i64 j)≠Lit.int .i64 i:=by
 intro e;injection e with _ e;exact h e
section
variable {P:Program} {k:TypeId} {w:World} {b n s:Nat} {m:Int→Option Value}
theorem MapI.made(w:World)(P:Program)(k:TypeId):MapI(w.alloc(.map #[]0))P k w.heap.size 0 0(fun _=> none):=
 ⟨.map [],World.ownsMap_made w P k AnyR,rfl,fun i _=> ⟨rfl,fun z=> rfl⟩⟩
theorem MapI.lt(h:MapI w P k b n s m):b < w.heap.size:=by obtain⟨D,h1,_⟩:=h;exact h1.lt
theorem MapI.upd {F:Nat→Prop} {w' :World}(h:MapI w P k b n s m)(hu:Upd F w w')(hf:¬F b):MapI w' P k b n s m:=by
 obtain⟨D,⟨es,clock,hb,F1,hs,hD⟩,h2⟩:=h
 exact⟨D,⟨es,clock,upd_heap hu hb hf,F1,hs,hD⟩,h2⟩
theorem MapI.look(h:MapI w P k b n s m) {t e:TypeId}(hk:P.underlying k=some(.int .i64))(ht:P.underlying t=some(.map k e)) {z:Value}(hz:(zeroValue e).run P w= .ok z w)(i:Int)(hi:(Lit.int .i64 i).wf=true):
  (Instr.lookup t(.map(some b))(.int .i64 i)false).run P w= .ok((m i).getD z)w:=by
 obtain⟨D,h1,_,h3⟩:=h
 obtain⟨v,ps,hrun,hv⟩:=h1.lookup(int_keyed hk)ht hz(zd:= .held z)(zp:= [])rfl(keyOf_int_mk hk hi)
 rw [hrun]
 have e:=(h3 i hi).2(.held z)
 unfold AnyR at hv
 simp only [Option.some.injEq,Prod.mk.injEq]at hv
 rw [e]at hv
 have hv:=hv.1
 cases hm:m i with
 | none=> rw [hm]at hv;simp only [DataW.held.injEq]at hv;rw [hv];rfl
 | some u=> rw [hm]at hv;simp only [DataW.held.injEq]at hv;rw [hv];rfl
theorem MapI.look_ok(h:MapI w P k b n s m) {t e:TypeId}(hk:P.underlying k=some(.int .i64))(ht:P.underlying t=some(.map k e)) {z:Value}(hz:(zeroValue e).run P w= .ok z w)(i:Int)(hi:(Lit.int .i64 i).wf=true):
  (Instr.lookup t(.map(some b))(.int .i64 i)true).run P w= .ok(.tuple #[(m i).getD z,.bool(m i).isSome])w:=by
 obtain⟨D,h1,_,h3⟩:=h
 obtain⟨v,ps,hrun,hv⟩:=h1.look_ok(int_keyed hk)ht hz(zd:= .held z)(zp:= [])rfl(keyOf_int_mk hk hi)
 rw [hrun,(h3 i hi).1]
 have e:=(h3 i hi).2(.held z)
 unfold AnyR at hv
 simp only [Option.some.injEq,Prod.mk.injEq]at hv
 rw [e]at hv
 have hv:=hv.1
 cases hm:m i with
 | none=> rw [hm]at hv;simp only [DataW.held.injEq]at hv;rw [hv];rfl
 | some u=> rw [hm]at hv;simp only [DataW.held.injEq]at hv;rw [hv];rfl
theorem key_lit(i:Int):WideAt.IsKeyLit(.int .i64 i):=by
 unfold WideAt.IsKeyLit
 first | trivial | simp
theorem MapI.put {D:DataW Value} {w' :World}(h1:w.ownsMap P k AnyR b n D)(hk:P.underlying k=some(.int .i64))(h2:Maps.size D=s)(h3:∀i,(Lit.int .i64 i).wf=true→Maps.has D(.int .i64 i)=(m i).isSome∧∀z,D.atKey(.int .i64 i)z=(match m i with | some v=> .held v | none=> z))
  (i:Int)(hi:(Lit.int .i64 i).wf=true)(v:Value)(h' :w'.ownsMap P k AnyR b(n+1)(D.put(.int .i64 i)(.held v))):MapI w' P k b(n+1)(if(m i).isSome then s else s+1)(mput m i v):=by
 have hT:=h1.tidy(int_keyed hk)
 refine⟨_,h',?_,fun j hj=> ?_⟩
 ·rw [Maps.size_put hT,(h3 i hi).1,h2]
 ·unfold mput
  by_cases hji:j=i
  ·subst hji
   rw [if_pos rfl]
   exact⟨Maps.has_put_same hT.isMap(key_lit _)_,fun z=> Maps.atKey_put_same hT.isMap(key_lit _)_ z⟩
  ·rw [if_neg hji]
   refine⟨?_,fun z=> ?_⟩
   ·rw [Maps.has_put_other(lit_ne hji)];exact(h3 j hj).1
   ·rw [Maps.atKey_put_other(lit_ne hji)];exact(h3 j hj).2 z
theorem MapI.del {D:DataW Value} {w' :World}(h1:w.ownsMap P k AnyR b n D)(hk:P.underlying k=some(.int .i64))(h2:Maps.size D=s)(h3:∀i,(Lit.int .i64 i).wf=true→Maps.has D(.int .i64 i)=(m i).isSome∧∀z,D.atKey(.int .i64 i)z=(match m i with | some v=> .held v | none=> z))
  (i:Int)(hi:(Lit.int .i64 i).wf=true)(h' :w'.ownsMap P k AnyR b n(D.del(.int .i64 i))):MapI w' P k b n(if(m i).isSome then s - 1 else s)(mdel m i):=by
 have hT:=h1.tidy(int_keyed hk)
 refine⟨_,h',?_,fun j hj=> ?_⟩
 ·have:=Maps.size_del(k:= .int .i64 i)hT
  rw [(h3 i hi).1,h2]at this
  split at this <;> rename_i hs
  ·rw [if_pos hs];omega
  ·rw [if_neg hs];omega
 ·unfold mdel
  by_cases hji:j=i
  ·subst hji
   rw [if_pos rfl]
   exact⟨Maps.has_del_same,fun z=> Maps.atKey_del_same z⟩
  ·rw [if_neg hji]
   refine⟨?_,fun z=> ?_⟩
   ·rw [Maps.has_del_other(lit_ne hji)];exact(h3 j hj).1
   ·rw [Maps.atKey_del_other(lit_ne hji)];exact(h3 j hj).2 z
end
section
variable {P:Program}(w:World) {ops:Array Oper} {rest:List Oper} {o:Oper} {a:Act} {Q:Exit→Act→World→Prop}
theorem wp_mapput(hg:o.guard=none)(mo x v:Operand)(t:TypeId)(hop:o.op=Op.mapUpdate t mo x v)(k e:TypeId)(hk:P.underlying k=some(.int .i64))(ht:P.underlying t=some(.map k e))(b n s:Nat)(m:Int→Option Value)
  (hm:a.eval mo= .map(some b))(hown:MapI w P k b n s m)(hn:n < maxLen)(i:Int)(hi:(Lit.int .i64 i).wf=true)(val:Value)(hx:a.eval x= .int .i64 i)(hv:a.eval v=val)
  (hK:∀w',MapI w' P k b(n+1)(if(m i).isSome then s else s+1)(mput m i val)→Upd(fun j=> j=b)w w' →wpList P ops Q rest(a.put o.dst undef)w'):wpList P ops Q(o::rest)a w:=by
 obtain⟨D,h1,h2,h3⟩:=hown
 refine wpList_mapUpdate_own w hg mo x v t hop k e(int_keyed hk)ht AnyR b n D hm h1 hn _ _ _ hx hv(keyOf_int_mk hk hi)(.held val) []rfl ?_
 intro w' h' hgr
 exact hK w' (MapI.put h1 hk h2 h3 i hi val h')(Upd.grown hgr(fun j hj=> by cases hj;rfl))
theorem wp_mapdel(hg:o.guard=none)(mo x:Operand)(t k:TypeId)(hop:o.op=Op.call {callee:=Callee.builtin Builtin.delete,args:= #[mo,x],argTypes:= #[t,k]})(e:TypeId)(hk:P.underlying k=some(.int .i64))(ht:P.underlying t=some(.map k e))(b n s:Nat)(m:Int→Option Value)
  (hm:a.eval mo= .map(some b))(hown:MapI w P k b n s m)(i:Int)(hi:(Lit.int .i64 i).wf=true)(hx:a.eval x= .int .i64 i)
  (hK:∀w',MapI w' P k b n(if(m i).isSome then s - 1 else s)(mdel m i)→Upd(fun j=> j=b)w w' →wpList P ops Q rest(a.put o.dst(.tuple #[]))w'):wpList P ops Q(o::rest)a w:=by
 obtain⟨D,h1,h2,h3⟩:=hown
 refine wpList_delete_own w hg mo x t k hop e(int_keyed hk)ht AnyR b n D hm h1 _ _ hx(keyOf_int_mk hk hi) ?_
 intro w' h' hgr
 exact hK w' (MapI.del h1 hk h2 h3 i hi h')(Upd.grown hgr.grown(fun j hj=> by cases hj;rfl))
theorem wp_maplen(hg:o.guard=none)(mo:Operand)(t:TypeId)(hop:o.op=Op.call {callee:=Callee.builtin Builtin.len,args:= #[mo],argTypes:= #[t]})(k e:TypeId)(ht:P.underlying t=some(.map k e))(b n s:Nat)(m:Int→Option Value)
  (hm:a.eval mo= .map(some b))(hown:MapI w P k b n s m)
  (hK:wpList P ops Q rest(a.put o.dst(.int .i64 s))w):wpList P ops Q(o::rest)a w:=by
 obtain⟨D,h1,h2,h3⟩:=hown
 refine wpList_len_own w hg mo t hop k e ht AnyR b n D hm h1 ?_
 rw [h2];exact hK
end
end Go.Proofs.YtjpjafajploiaaaGreatDoor
