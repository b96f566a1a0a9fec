/-
  A map by integers that the program owns, its elements of whatever kind: told by a function from numbers to values.
-/
import Derived.Test.YtjpjafajploiaaaGreatDoorUnixAlone03
import Derived.Maps.OwnSet
set_option linter.unusedSimpArgs false
set_option linter.unusedVariables false
namespace Go.Proofs.YtjpjafajploiaaaGreatDoor
open Go.RowKit Own
open Go.Maps (Keyed int_keyed keyOf_int_mk)
open RegJ
def AnyR (v:Value):Option (DataW Value×List MemPlace):=some (.held v,[])
def MapI (w:World) (P:Program) (k:TypeId) (b n s:Nat) (m:Int→Option Value):Prop:=
 ∃D:DataW Value,w.ownsMap P k AnyR b n D∧Maps.size D=s∧∀i,(Lit.int .i64 i).wf=true→Maps.has D (.int .i64 i)=(m i).isSome∧∀z,D.atKey (.int .i64 i) z=(match m i with | some v=> .held v | none=> z)
def mput (m:Int→Option Value) (i:Int) (v:Value):Int→Option Value:=fun j=> if j=i then some v else m j
def mdel (m:Int→Option Value) (i:Int):Int→Option Value:=fun j=> if j=i then none else m j
theorem lit_ne {i j:Int} (h:j≠i):(Lit.int .i64 j)≠Lit.int .i64 i:=by
 intro e;injection e with _ e;exact h e
section
variable {P:Program} {k:TypeId} {w:World} {b n s:Nat} {m:Int→Option Value}
theorem MapI.made (w:World) (P:Program) (k:TypeId):MapI (w.alloc (.map #[] 0)) P k w.heap.size 0 0 (fun _=> none):=
 ⟨.map [],World.ownsMap_made w P k AnyR,rfl,fun i _=> ⟨rfl,fun z=> rfl⟩⟩
theorem MapI.lt (h:MapI w P k b n s m):b < w.heap.size:=by obtain ⟨D,h1,_⟩:=h;exact h1.lt
theorem MapI.upd {F:Nat→Prop} {w' :World} (h:MapI w P k b n s m) (hu:Upd F w w') (hf:¬F b):MapI w' P k b n s m:=by
 obtain ⟨D,⟨es,clock,hb,F1,hs,hD⟩,h2⟩:=h
 exact ⟨D,⟨es,clock,upd_heap hu hb hf,F1,hs,hD⟩,h2⟩
theorem MapI.look (h:MapI w P k b n s m) {t e:TypeId} (hk:P.underlying k=some (.int .i64)) (ht:P.underlying t=some (.map k e)) {z:Value} (hz:(zeroValue e).run P w= .ok z w) (i:Int) (hi:(Lit.int .i64 i).wf=true):
  (Instr.lookup t (.map (some b)) (.int .i64 i) false).run P w= .ok ((m i).getD z) w:=by
 obtain ⟨D,h1,_,h3⟩:=h
 obtain ⟨v,ps,hrun,hv⟩:=h1.lookup (int_keyed hk) ht hz (zd:= .held z) (zp:= []) rfl (keyOf_int_mk hk hi)
 rw [hrun]
 have e:=(h3 i hi).2 (.held z)
 unfold AnyR at hv
 simp only [Option.some.injEq,Prod.mk.injEq] at hv
 rw [e] at hv
 have hv:=hv.1
 cases hm:m i with
 | none=> rw [hm] at hv;simp only [DataW.held.injEq] at hv;rw [hv];rfl
 | some u=> rw [hm] at hv;simp only [DataW.held.injEq] at hv;rw [hv];rfl
theorem MapI.look_ok (h:MapI w P k b n s m) {t e:TypeId} (hk:P.underlying k=some (.int .i64)) (ht:P.underlying t=some (.map k e)) {z:Value} (hz:(zeroValue e).run P w= .ok z w) (i:Int) (hi:(Lit.int .i64 i).wf=true):
  (Instr.lookup t (.map (some b)) (.int .i64 i) true).run P w= .ok (.tuple #[(m i).getD z,.bool (m i).isSome]) w:=by
 obtain ⟨D,h1,_,h3⟩:=h
 obtain ⟨v,ps,hrun,hv⟩:=h1.look_ok (int_keyed hk) ht hz (zd:= .held z) (zp:= []) rfl (keyOf_int_mk hk hi)
 rw [hrun,(h3 i hi).1]
 have e:=(h3 i hi).2 (.held z)
 unfold AnyR at hv
 simp only [Option.some.injEq,Prod.mk.injEq] at hv
 rw [e] at hv
 have hv:=hv.1
 cases hm:m i with
 | none=> rw [hm] at hv;simp only [DataW.held.injEq] at hv;rw [hv];rfl
 | some u=> rw [hm] at hv;simp only [DataW.held.injEq] at hv;rw [hv];rfl
theorem key_lit (i:Int):WideAt.IsKeyLit (.int .i64 i):=by
 unfold WideAt.IsKeyLit
 first | trivial | simp
theorem MapI.put {D:DataW Value} {w' :World} (h1:w.ownsMap P k AnyR b n D) (hk:P.underlying k=some (.int .i64)) (h2:Maps.size D=s) (h3:∀i,(Lit.int .i64 i).wf=true→Maps.has D (.int .i64 i)=(m i).isSome∧∀z,D.atKey (.int .i64 i) z=(match m i with | some v=> .held v | none=> z))
  (i:Int) (hi:(Lit.int .i64 i).wf=true) (v:Value) (h' :w'.ownsMap P k AnyR b (n+1) (D.put (.int .i64 i) (.held v))):MapI w' P k b (n+1) (if (m i).isSome then s else s+1) (mput m i v):=by
 have hT:=h1.tidy (int_keyed hk)
 refine ⟨_,h',?_,fun j hj=> ?_⟩
 ·rw [Maps.size_put hT,(h3 i hi).1,h2]
 ·unfold mput
  by_cases hji:j=i
  ·subst hji
   rw [if_pos rfl]
   exact ⟨Maps.has_put_same hT.isMap (key_lit _) _,fun z=> Maps.atKey_put_same hT.isMap (key_lit _) _ z⟩
  ·rw [if_neg hji]
   refine ⟨?_,fun z=> ?_⟩
   ·rw [Maps.has_put_other (lit_ne hji)];exact (h3 j hj).1
   ·rw [Maps.atKey_put_other (lit_ne hji)];exact (h3 j hj).2 z
theorem MapI.del {D:DataW Value} {w' :World} (h1:w.ownsMap P k AnyR b n D) (hk:P.underlying k=some (.int .i64)) (h2:Maps.size D=s) (h3:∀i,(Lit.int .i64 i).wf=true→Maps.has D (.int .i64 i)=(m i).isSome∧∀z,D.atKey (.int .i64 i) z=(match m i with | some v=> .held v | none=> z))
  (i:Int) (hi:(Lit.int .i64 i).wf=true) (h' :w'.ownsMap P k AnyR b n (D.del (.int .i64 i))):MapI w' P k b n (if (m i).isSome then s - 1 else s) (mdel m i):=by
 have hT:=h1.tidy (int_keyed hk)
 refine ⟨_,h',?_,fun j hj=> ?_⟩
 ·have:=Maps.size_del (k:= .int .i64 i) hT
  rw [(h3 i hi).1,h2] at this
  split at this <;> rename_i hs
  ·rw [if_pos hs];omega
  ·rw [if_neg hs];omega
 ·unfold mdel
  by_cases hji:j=i
  ·subst hji
   rw [if_pos rfl]
   exact ⟨Maps.has_del_same,fun z=> Maps.atKey_del_same z⟩
  ·rw [if_neg hji]
   refine ⟨?_,fun z=> ?_⟩
   ·rw [Maps.has_del_other (lit_ne hji)];exact (h3 j hj).1
   ·rw [Maps.atKey_del_other (lit_ne hji)];exact (h3 j hj).2 z
end
section
variable {P:Program} (w:World) {ops:Array Oper} {rest:List Oper} {o:Oper} {a:Act} {Q:Exit→Act→World→Prop}
theorem wp_mapput (hg:o.guard=none) (mo x v:Operand) (t:TypeId) (hop:o.op=Op.mapUpdate t mo x v) (k e:TypeId) (hk:P.underlying k=some (.int .i64)) (ht:P.underlying t=some (.map k e)) (b n s:Nat) (m:Int→Option Value)
  (hm:a.eval mo= .map (some b)) (hown:MapI w P k b n s m) (hn:n < maxLen) (i:Int) (hi:(Lit.int .i64 i).wf=true) (val:Value) (hx:a.eval x= .int .i64 i) (hv:a.eval v=val)
  (hK:∀w',MapI w' P k b (n+1) (if (m i).isSome then s else s+1) (mput m i val)→Upd (fun j=> j=b) w w' →wpList P ops Q rest (a.put o.dst undef) w'):wpList P ops Q (o::rest) a w:=by
 obtain ⟨D,h1,h2,h3⟩:=hown
 refine wpList_mapUpdate_own w hg mo x v t hop k e (int_keyed hk) ht AnyR b n D hm h1 hn _ _ _ hx hv (keyOf_int_mk hk hi) (.held val) [] rfl ?_
 intro w' h' hgr
 exact hK w' (MapI.put h1 hk h2 h3 i hi val h') (Upd.grown hgr (fun j hj=> by cases hj;rfl))
theorem wp_mapdel (hg:o.guard=none) (mo x:Operand) (t k:TypeId) (hop:o.op=Op.call {callee:=Callee.builtin Builtin.delete,args:= #[mo,x],argTypes:= #[t,k]}) (e:TypeId) (hk:P.underlying k=some (.int .i64)) (ht:P.underlying t=some (.map k e)) (b n s:Nat) (m:Int→Option Value)
  (hm:a.eval mo= .map (some b)) (hown:MapI w P k b n s m) (i:Int) (hi:(Lit.int .i64 i).wf=true) (hx:a.eval x= .int .i64 i)
  (hK:∀w',MapI w' P k b n (if (m i).isSome then s - 1 else s) (mdel m i)→Upd (fun j=> j=b) w w' →wpList P ops Q rest (a.put o.dst (.tuple #[])) w'):wpList P ops Q (o::rest) a w:=by
 obtain ⟨D,h1,h2,h3⟩:=hown
 refine wpList_delete_own w hg mo x t k hop e (int_keyed hk) ht AnyR b n D hm h1 _ _ hx (keyOf_int_mk hk hi) ?_
 intro w' h' hgr
 exact hK w' (MapI.del h1 hk h2 h3 i hi h') (Upd.grown hgr.grown (fun j hj=> by cases hj;rfl))
theorem wp_maplen (hg:o.guard=none) (mo:Operand) (t:TypeId) (hop:o.op=Op.call {callee:=Callee.builtin Builtin.len,args:= #[mo],argTypes:= #[t]}) (k e:TypeId) (ht:P.underlying t=some (.map k e)) (b n s:Nat) (m:Int→Option Value)
  (hm:a.eval mo= .map (some b)) (hown:MapI w P k b n s m)
  (hK:wpList P ops Q rest (a.put o.dst (.int .i64 s)) w):wpList P ops Q (o::rest) a w:=by
 obtain ⟨D,h1,h2,h3⟩:=hown
 refine wpList_len_own w hg mo t hop k e ht AnyR b n D hm h1 ?_
 rw [h2];exact hK
end
end Go.Proofs.YtjpjafajploiaaaGreatDoor
