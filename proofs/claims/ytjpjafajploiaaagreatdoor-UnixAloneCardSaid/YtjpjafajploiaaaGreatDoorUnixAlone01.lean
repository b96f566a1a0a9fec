/-
  DERIVED: THE SHELF's CONTRACTS AT THIS DUMP, IN PLAIN WORDS (tools/lay-plain.mjs out of 'TryzShelfK.lean', which tools/lay-shelf.mjs wrote): THE SAME DECLARATIONS UNDER THE SAME NAMES: 'import', 'namespace', 'open', 'def', 'theorem' AND NOTHING ELSE: no command of the shelf's: FOR A HAND-IN. Each laying: the table of numbers ('.._ren') and one theorem, a field a fact of the dump's own or the kernel's comparison; each contract: ONE APPLICATION.
-/
import Derived.Shelf.SlGeneric
import Derived.Shelf.SlIterI.Nil
import Derived.Shelf.SortM.Plain
import Derived.Shelf.SortM.SortNone
import Derived.Ground.GgzProg
import Derived.Ground.SlgmProg
import Derived.Test.YtjpjafajploiaaaGreatDoorProg
import Derived.Still
import Derived.Tactics
import Derived.WalkKit
import Derived.Deep.Draws
set_option linter.unusedSimpArgs false
set_option linter.unusedVariables false
namespace Go.Proofs
open Go.Shelf
def Tryz.keysA_ren:Go.Shelf.Ren:=⟨fun | 7=> 201 | 10=> 233 | n=> n,fun | 23=> 160 | 26=> 3 | 3=> 300 | 28=> 254 | 0=> 0 | 27=> 253 | 33=> 57 | 4=> 4 | n=> n,fun | n=> n⟩
theorem Tryz.keysA:Go.Proofs.SlLaysZI.n7 Tryz.prog Tryz.keysA_ren:= {
 mixed:=by kernel_rfl
 f7:=⟨Tryz.f201.name,by decide,Tryz.func201.trans(congrArg some(by kernel_rfl))⟩
 f10:=⟨Tryz.f233.name,by decide,Tryz.func233.trans(congrArg some(by kernel_rfl))⟩
 t0:=Tryz.underlying0
 a0:=Tryz.isAgg0
 z0:=Tryz.sizeOf0
 v0:=Tryz.zeroValue0
 t4:=Tryz.underlying4
 a4:=Tryz.isAgg4
 z4:=Tryz.sizeOf4
 v4:=Tryz.zeroValue4
 t23:=Tryz.underlying160
 a23:=Tryz.isAgg160
 z23:=Tryz.sizeOf160
 v23:=Tryz.zeroValue160
 t26:=Tryz.underlying3
 a26:=Tryz.isAgg3
 z26:=Tryz.sizeOf3
 v26:=Tryz.zeroValue3
 t27:=Tryz.underlying253
 a27:=Tryz.isAgg253
 z27:=Tryz.sizeOf253
 v27:=Tryz.zeroValue253
 t28:=Tryz.underlying254
 a28:=Tryz.isAgg254
 z28:=Tryz.sizeOf254
 v28:=Tryz.zeroValue254
 t33:=Tryz.underlying57
 a33:=Tryz.isAgg57
 z33:=Tryz.sizeOf57
 v33:=Tryz.zeroValue57}
def Tryz.keysP_ren:Go.Shelf.Ren:=⟨fun | 7=> 155 | 10=> 205 | n=> n,fun | 23=> 127 | 26=> 3 | 3=> 125 | 28=> 254 | 0=> 0 | 27=> 253 | 33=> 57 | 4=> 4 | n=> n,fun | n=> n⟩
theorem Tryz.keysP:Go.Proofs.SlLaysZI.n7 Tryz.prog Tryz.keysP_ren:= {
 mixed:=by kernel_rfl
 f7:=⟨Tryz.f155.name,by decide,Tryz.func155.trans(congrArg some(by kernel_rfl))⟩
 f10:=⟨Tryz.f205.name,by decide,Tryz.func205.trans(congrArg some(by kernel_rfl))⟩
 t0:=Tryz.underlying0
 a0:=Tryz.isAgg0
 z0:=Tryz.sizeOf0
 v0:=Tryz.zeroValue0
 t4:=Tryz.underlying4
 a4:=Tryz.isAgg4
 z4:=Tryz.sizeOf4
 v4:=Tryz.zeroValue4
 t23:=Tryz.underlying127
 a23:=Tryz.isAgg127
 z23:=Tryz.sizeOf127
 v23:=Tryz.zeroValue127
 t26:=Tryz.underlying3
 a26:=Tryz.isAgg3
 z26:=Tryz.sizeOf3
 v26:=Tryz.zeroValue3
 t27:=Tryz.underlying253
 a27:=Tryz.isAgg253
 z27:=Tryz.sizeOf253
 v27:=Tryz.zeroValue253
 t28:=Tryz.underlying254
 a28:=Tryz.isAgg254
 z28:=Tryz.sizeOf254
 v28:=Tryz.zeroValue254
 t33:=Tryz.underlying57
 a33:=Tryz.isAgg57
 z33:=Tryz.sizeOf57
 v33:=Tryz.zeroValue57}
def Tryz.sortedA_ren:Go.Shelf.Ren:=⟨fun | 6=> 154 | 8=> 203 | 9=> 204 | 11=> 234 | 13=> 236 | 12=> 235 | 23=> 261 | 24=> 262 | 14=> 252 | 15=> 253 | 16=> 254 | 17=> 255 | 18=> 256 | 19=> 257 | 20=> 258 | 21=> 259 | 22=> 260 | 25=> 271 | 26=> 272 | 27=> 273 | 28=> 274 | 29=> 275 | 30=> 276 | 31=> 283 | n=> n,fun | 26=> 3 | 28=> 254 | 24=> 59 | 0=> 0 | 3=> 3 | 37=> 327 | 48=> 359 | 50=> 361 | 4=> 4 | 40=> 353 | 39=> 352 | 45=> 288 | 5=> 5 | 9=> 9 | 51=> 365 | 55=> 369 | 57=> 374 | 58=> 200 | 33=> 57 | n=> n,fun | n=> n⟩
theorem Tryz.sortedA:Go.Proofs.SlLaysZI.n6 Tryz.prog Tryz.sortedA_ren:= {
 mixed:=by kernel_rfl
 f6:=⟨Tryz.f154.name,by decide,Tryz.func154.trans(congrArg some(by kernel_rfl))⟩
 f8:=⟨Tryz.f203.name,by decide,Tryz.func203.trans(congrArg some(by kernel_rfl))⟩
 f11:=⟨Tryz.f234.name,by decide,Tryz.func234.trans(congrArg some(by kernel_rfl))⟩
 t0:=Tryz.underlying0
 a0:=Tryz.isAgg0
 z0:=Tryz.sizeOf0
 v0:=Tryz.zeroValue0
 t24:=Tryz.underlying59
 a24:=Tryz.isAgg59
 z24:=Tryz.sizeOf59
 v24:=Tryz.zeroValue59
 t26:=Tryz.underlying3
 a26:=Tryz.isAgg3
 z26:=Tryz.sizeOf3
 v26:=Tryz.zeroValue3
 t28:=Tryz.underlying254
 a28:=Tryz.isAgg254
 z28:=Tryz.sizeOf254
 v28:=Tryz.zeroValue254
 i26:=by kernel_rfl}
def Tryz.sortA_ren:Go.Shelf.Ren:=⟨fun | 5=> 204 | 8=> 236 | 7=> 235 | 19=> 261 | 20=> 262 | 10=> 252 | 11=> 253 | 12=> 254 | 13=> 255 | 14=> 256 | 15=> 257 | 16=> 258 | 17=> 259 | 18=> 260 | 30=> 271 | 31=> 272 | 32=> 273 | 33=> 274 | 34=> 275 | 35=> 276 | 40=> 283 | n=> n,fun | 23=> 59 | 25=> 3 | 3=> 3 | 32=> 327 | 22=> 59 | 0=> 0 | 44=> 359 | 46=> 361 | 4=> 4 | 36=> 353 | 35=> 352 | 41=> 288 | 5=> 5 | 9=> 9 | 53=> 365 | 57=> 369 | 63=> 374 | 64=> 200 | n=> n,fun | n=> n⟩
theorem Tryz.sortA:Go.Proofs.SlLaysM.n5 Tryz.prog Tryz.sortA_ren:= {
 mixed:=by kernel_rfl
 f5:=⟨Tryz.f204.name,by decide,Tryz.func204.trans(congrArg some(by kernel_rfl))⟩
 f7:=⟨Tryz.f235.name,by decide,Tryz.func235.trans(congrArg some(by kernel_rfl))⟩
 f8:=Tryz.func236.trans(congrArg some(by kernel_rfl))
 f10:=⟨Tryz.f252.name,by decide,Tryz.func252.trans(congrArg some(by kernel_rfl))⟩
 f11:=⟨Tryz.f253.name,by decide,Tryz.func253.trans(congrArg some(by kernel_rfl))⟩
 f12:=⟨Tryz.f254.name,by decide,Tryz.func254.trans(congrArg some(by kernel_rfl))⟩
 f13:=⟨Tryz.f255.name,by decide,Tryz.func255.trans(congrArg some(by kernel_rfl))⟩
 f14:=⟨Tryz.f256.name,by decide,Tryz.func256.trans(congrArg some(by kernel_rfl))⟩
 f15:=⟨Tryz.f257.name,by decide,Tryz.func257.trans(congrArg some(by kernel_rfl))⟩
 f16:=⟨Tryz.f258.name,by decide,Tryz.func258.trans(congrArg some(by kernel_rfl))⟩
 f17:=⟨Tryz.f259.name,by decide,Tryz.func259.trans(congrArg some(by kernel_rfl))⟩
 f18:=⟨Tryz.f260.name,by decide,Tryz.func260.trans(congrArg some(by kernel_rfl))⟩
 f19:=Tryz.func261.trans(congrArg some(by kernel_rfl))
 f20:=Tryz.func262.trans(congrArg some(by kernel_rfl))
 f30:=⟨Tryz.f271.name,by decide,Tryz.func271.trans(congrArg some(by kernel_rfl))⟩
 f31:=Tryz.func272.trans(congrArg some(by kernel_rfl))
 f32:=Tryz.func273.trans(congrArg some(by kernel_rfl))
 f33:=⟨Tryz.f274.name,by decide,Tryz.func274.trans(congrArg some(by kernel_rfl))⟩
 f34:=⟨Tryz.f275.name,by decide,Tryz.func275.trans(congrArg some(by kernel_rfl))⟩
 f35:=⟨Tryz.f276.name,by decide,Tryz.func276.trans(congrArg some(by kernel_rfl))⟩
 f40:=⟨Tryz.f283.name,by decide,Tryz.func283.trans(congrArg some(by kernel_rfl))⟩
 t0:=Tryz.underlying0
 a0:=Tryz.isAgg0
 z0:=Tryz.sizeOf0
 v0:=Tryz.zeroValue0
 t3:=Tryz.underlying3
 a3:=Tryz.isAgg3
 z3:=Tryz.sizeOf3
 v3:=Tryz.zeroValue3
 t4:=Tryz.underlying4
 a4:=Tryz.isAgg4
 z4:=Tryz.sizeOf4
 v4:=Tryz.zeroValue4
 t5:=Tryz.underlying5
 a5:=Tryz.isAgg5
 z5:=Tryz.sizeOf5
 v5:=Tryz.zeroValue5
 t9:=Tryz.underlying9
 a9:=Tryz.isAgg9
 z9:=Tryz.sizeOf9
 v9:=Tryz.zeroValue9
 t22:=Tryz.underlying59
 a22:=Tryz.isAgg59
 z22:=Tryz.sizeOf59
 v22:=Tryz.zeroValue59
 t23:=Tryz.underlying59
 a23:=Tryz.isAgg59
 z23:=Tryz.sizeOf59
 v23:=Tryz.zeroValue59
 t25:=Tryz.underlying3
 a25:=Tryz.isAgg3
 z25:=Tryz.sizeOf3
 v25:=Tryz.zeroValue3
 t32:=Tryz.underlying327
 a32:=Tryz.isAgg327
 z32:=Tryz.sizeOf327
 v32:=Tryz.zeroValue327
 t35:=Tryz.underlying352
 a35:=Tryz.isAgg352
 z35:=Tryz.sizeOf352
 v35:=Tryz.zeroValue352
 t36:=Tryz.underlying353
 a36:=Tryz.isAgg353
 z36:=Tryz.sizeOf353
 v36:=Tryz.zeroValue353
 t41:=Tryz.underlying288
 a41:=Tryz.isAgg288
 z41:=Tryz.sizeOf288
 v41:=Tryz.zeroValue288
 t44:=Tryz.underlying359
 a44:=Tryz.isAgg359
 z44:=Tryz.sizeOf359
 v44:=Tryz.zeroValue359
 t46:=Tryz.underlying361
 a46:=Tryz.isAgg361
 z46:=Tryz.sizeOf361
 v46:=Tryz.zeroValue361
 t53:=Tryz.underlying365
 a53:=Tryz.isAgg365
 z53:=Tryz.sizeOf365
 v53:=Tryz.zeroValue365
 t57:=Tryz.underlying369
 a57:=Tryz.isAgg369
 z57:=Tryz.sizeOf369
 v57:=Tryz.zeroValue369
 t63:=Tryz.underlying374
 a63:=Tryz.isAgg374
 z63:=Tryz.sizeOf374
 v63:=Tryz.zeroValue374
 t64:=Tryz.underlying200
 a64:=Tryz.isAgg200
 z64:=Tryz.sizeOf200
 v64:=Tryz.zeroValue200}
end Go.Proofs
namespace Go.Proofs.YtjpjafajploiaaaGreatDoor.RegJ
section
variable {P:Program} {ops:Array Oper} {md:Region.Mode} {J:(Nat→Bool)→World→Prop} {n:Nat}
def PutEq(n:Nat)(dst:Option Tmp)(u v:Value):Prop:=∀a:Act,a.tmps.size=n→a.put dst u=a.put dst v
def upJ(P:Program)(n:Nat)(dst:Option Tmp)(J' :World→Prop)(v:Value):Result Next→Prop
 | .ok(.value u)w' => PutEq n dst u v∧J' w'
 | .ok .skip w' => PutEq n dst undef v∧J' w'
 | .ok(.enter f args)w' => Calls P f args w' (fun e w'' => ∃u,e= .returned u∧PutEq n dst u v∧J' w'')
 | .ok(.row r args)w' => Rows P r args w' (fun u w'' => PutEq n dst u v∧J' w'')
 | _=> False
def flags(s:Array Bool):Nat→Bool:=fun k=> s.getD k false
def fset(f:Nat→Bool)(i:Nat):Nat→Bool:=fun k=> k==i || f k
theorem flags_set {s:Array Bool} {i:Nat}(h:i < s.size):flags(s.setIfInBounds i true)=fset(flags s)i:=by
 funext k
 unfold flags fset
 by_cases hk:k=i
 ·subst hk;simp [h]
 ·rw [getD_set_ne false(fun e=> hk e.symm)];simp [hk]
def Up(md:Region.Mode)(i:Nat)(o:Oper)(f:Nat→Bool):Prop:=f i=false∧∀e∈o.after,Region.binds md e=true→f e.on=true
def settles(P:Program)(md:Region.Mode)(J:(Nat→Bool)→World→Prop)(n i:Nat)(o:Oper)(a:Act)(v:Value):Prop:=
 ∀f w,Up md i o f→J f w→upJ P n o.dst(J(fset f i))v((execOp a.eval o).run P w)
def skipsJ(md:Region.Mode)(J:(Nat→Bool)→World→Prop)(i:Nat)(o:Oper):Prop:=∀f w,Up md i o f→J f w→J(fset f i)w
def YieldsJ(P:Program)(md:Region.Mode)(ops:Array Oper)(J:(Nat→Bool)→World→Prop)(n i:Nat)(o:Oper)(v:Value)(a:Act):Prop:=
 (Region.wanted o(yielded ops a.tmps)=true∧settles P md J n i o a v)∨
 (Region.wanted o(yielded ops a.tmps)=false∧v=undef∧skipsJ md J i o)
def jOp(P:Program)(md:Region.Mode)(ops:Array Oper)(J:(Nat→Bool)→World→Prop)(n i:Nat)(K:Act→Prop)(a:Act):Prop:=
 match ops[i]? with
 | none=> K a
 | some o=> ∃v,YieldsJ P md ops J n i o v a∧K(a.put o.dst v)
theorem jOp_mono {i:Nat} {a:Act} {K K' :Act→Prop}(h:∀a,K a→K' a)(hh:jOp P md ops J n i K a):jOp P md ops J n i K' a:=by
 unfold jOp at*
 split
 ·rename_i ho;simp only [ho]at hh;exact h _ hh
 ·rename_i o ho;simp only [ho]at hh;obtain⟨v,h1,h2⟩:=hh;exact⟨v,h1,h _ h2⟩
def wpAnyJ(P:Program)(md:Region.Mode)(ops:Array Oper)(J:(Nat→Bool)→World→Prop)(n:Nat)(Q:Array Bool→Act→Prop):Nat→Array Bool→Act→Prop
 | 0,s,a=> Region.ready md ops s= []∧Q s a
 | fuel+1,s,a=> (Region.ready md ops s= []→Q s a)∧∀i∈Region.ready md ops s,jOp P md ops J n i(wpAnyJ P md ops J n Q fuel(s.setIfInBounds i true))a
theorem put_size(a:Act)(d:Option Tmp)(v:Value):(a.put d v).tmps.size=a.tmps.size:=by
 cases d <;> simp [Act.put]
theorem wp_of_upJ {o:Oper} {a:Act} {v:Value} {J' :World→Prop} {K' :Act→World→Prop} {Q' :Exit→Act→World→Prop} {w:World}(hn:a.tmps.size=n)
  (h:∀w',J' w' →K' (a.put o.dst v)w')(hh:upJ P n o.dst J' v((execOp a.eval o).run P w)):o.wp P a w K' Q' :=by
 unfold Oper.wp
 generalize(execOp a.eval o).run P w=r at*
 cases r with
 | ok x w' =>
  cases x <;> simp only [upJ]at hh <;> simp only [Oper.upon]
  case value u=> rw [hh.1 a hn];exact h _ hh.2
  case skip=> rw [hh.1 a hn];exact h _ hh.2
  case enter f args=> exact hh.mono fun e w'' ⟨u,he,hp,hj⟩=> by subst he;simp only;rw [hp a hn];exact h _ hj
  case row r args=> exact hh.mono fun u w'' ⟨hp,hj⟩=> by rw [hp a hn];exact h _ hj
 | halt x w' => simp only [upJ]at hh
theorem up_of_ready {i:Nat} {o:Oper} {s:Array Bool}(ho:ops[i]? =some o)(h:i∈Region.ready md ops s):i < s.size∧Up md i o(flags s):=by
 obtain⟨h1,o',ho',hall⟩:=mem_ready.1 h
 obtain rfl:o' =o:=Option.some.inj(ho'.symm.trans ho)
 rcases Nat.lt_or_ge i s.size with h' | h'
 ·refine⟨h',?_,hall⟩
  unfold flags
  simp [h']at h1 ⊢;exact h1
 ·simp [Array.getElem?_eq_none h']at h1
theorem wpAny_of_J {Q:Array Bool→Act→Prop} {Q' :Exit→Act→World→Prop}(hQ:∀s a w,J(flags s)w→Q s a→Q' .normal a w):∀(fuel:Nat)(s:Array Bool)(a:Act)(w:World),a.tmps.size=n→J(flags s)w→
  wpAnyJ P md ops J n Q fuel s a→wpAny P md ops Q' fuel s a w
 | 0,_,_,_,_,hw,h=> ⟨h.1,hQ _ _ _ hw h.2⟩
 | fuel+1,s,a,w,hn,hw,h=> by
  refine⟨fun h0=> hQ _ _ _ hw(h.1 h0),fun i hi=> ?_⟩
  have h2:=h.2 i hi
  obtain⟨h1,o,ho,hall⟩:=mem_ready.1 hi
  obtain⟨his,hup⟩:=up_of_ready ho hi
  unfold jOp at h2
  unfold wpOp
  simp only [ho]at h2 ⊢
  obtain⟨v,hy,hK⟩:=h2
  rcases hy with⟨hwd,hs⟩ | ⟨hwd,hv,hs⟩
  ·simp only [hwd,if_true]
   refine .inl(wp_of_upJ hn(fun w' hj=> ?_)(hs _ _ hup hw))
   exact wpAny_of_J hQ fuel _ _ _(by rw [put_size];exact hn)(by rw [flags_set his];exact hj)hK
  ·subst hv
   simp only [hwd,Bool.false_eq_true,if_false]
   exact wpAny_of_J hQ fuel _ _ _(by rw [put_size];exact hn)(by rw [flags_set his];exact hs _ _ hup hw)hK
theorem YieldsJ.of_same {i:Nat} {o:Oper} {v:Value} {a a' :Act}(hy:YieldsJ P md ops J n i o v a)(he:execOp a'.eval o=execOp a.eval o)
  (hw:Region.wanted o(yielded ops a'.tmps)=Region.wanted o(yielded ops a.tmps)):YieldsJ P md ops J n i o v a' :=by
 unfold YieldsJ settles at*
 rw [he,hw]
 exact hy
theorem jOp_swap {i j:Nat} {oi oj:Oper} {v:Value}(hj:ops[j]? =some oj)(hap:oi.apart ops oj=true)
  (hsi:∀cs b,oi.op≠ .select cs b)(hsj:∀cs b,oj.op≠ .select cs b) {K:Act→Prop} {a:Act}
  (hy:YieldsJ P md ops J n i oi v a)(h:jOp P md ops J n j K(a.put oi.dst v)):
  jOp P md ops J n j(fun a' => YieldsJ P md ops J n i oi v a' ∧K(a'.put oi.dst v))a:=by
 obtain⟨h1,h2,h3⟩:=Oper.apart_spec hap
 unfold jOp at*
 simp only [hj]at*
 obtain⟨u,hu,hk⟩:=h
 refine⟨u,hu.of_same ?_ ?_,hy.of_same(execOp_put oi hsi a oj.dst u h3)(wanted_put oi a oj.dst u h3),?_⟩
 ·exact(execOp_put oj hsj a oi.dst v h1).symm
 ·exact(wanted_put oj a oi.dst v h1).symm
 ·rw [←Act.put_comm a v u h2];exact hk
theorem jOp_here {i:Nat} {o:Oper} {v:Value} {a:Act}(hi:ops[i]? =some o)(hy:YieldsJ P md ops J n i o v a) {K:Act→Prop}(h:K(a.put o.dst v)):jOp P md ops J n i K a:=by
 unfold jOp;simp only [hi];exact⟨v,hy,h⟩
theorem wpAnyJ_first {Q:Array Bool→Act→Prop} {i:Nat} {oi:Oper} {v:Value}(hi:ops[i]? =some oi)(hsel:∀(j:Nat)(o:Oper)cs b,ops[j]? =some o→o.op≠ .select cs b):
  ∀(fuel:Nat)(s:Array Bool)(a:Act),
   (∀j oj,ops[j]? =some oj→j≠i→s.getD j true=false→(∀e∈oj.after,Region.binds md e=true→e.on≠i)→oi.apart ops oj=true)→
   i∈Region.ready md ops s→YieldsJ P md ops J n i oi v a→
   wpAnyJ P md ops J n Q fuel(s.setIfInBounds i true)(a.put oi.dst v)→wpAnyJ P md ops J n Q(fuel+1)s a:=by
 intro fuel
 induction fuel with
 | zero=>
  intro s a _ hr hy H
  refine⟨fun h=> (by rw [h]at hr;cases hr),fun j hj=> ?_⟩
  by_cases hji:j=i
  ·subst hji;exact jOp_here hi hy H
  ·have:=ready_mono hj hji
   rw [H.1]at this
   cases this
 | succ fuel ih=>
  intro s a hfree hr hy H
  refine⟨fun h=> (by rw [h]at hr;cases hr),fun j hj=> ?_⟩
  by_cases hji:j=i
  ·subst hji;exact jOp_here hi hy H
  ·have h1:=H.2 j(ready_mono hj hji)
   obtain⟨hjun,oj,hoj,hall⟩:=mem_ready.1 hj
   have hnot:∀e∈oj.after,Region.binds md e=true→e.on≠i:=fun e he hb heq=> by
    have h1:=hall e he hb
    have h0:=(up_of_ready hi hr).2.1
    unfold flags at h0
    rw [heq,h0]at h1
    cases h1
   have h2:=jOp_swap hoj(hfree j oj hoj hji hjun hnot)(fun cs b=> hsel i oi cs b hi)(fun cs b=> hsel j oj cs b hoj)hy h1
   have hfree' :∀k ok,ops[k]? =some ok→k≠i→(s.setIfInBounds j true).getD k true=false→
     (∀e∈ok.after,Region.binds md e=true→e.on≠i)→oi.apart ops ok=true:=fun k ok hk hki hun hno=> by
    refine hfree k ok hk hki ?_ hno
    by_cases hjk:j=k
    ·subst hjk;exact hjun
    ·rw [getD_set_ne true hjk]at hun;exact hun
   refine jOp_mono(fun a' h3=> ih(s.setIfInBounds j true)a' hfree' (ready_mono hr(Ne.symm hji))h3.1 ?_)h2
   rw [Array.setIfInBounds_comm _ _ hji]
   exact h3.2
def wpJ(P:Program)(md:Region.Mode)(ops:Array Oper)(J:(Nat→Bool)→World→Prop)(n:Nat)(Q:Array Bool→Act→Prop):Nat→List Oper→Array Bool→Act→Prop
 | _,[],s,a=> Q s a
 | k,o::rest,s,a=> ∃v,YieldsJ P md ops J n k o v a∧wpJ P md ops J n Q(k+1)rest(s.setIfInBounds k true)(a.put o.dst v)
theorem wpAnyJ_lex {Q:Array Bool→Act→Prop}(hs:Region.noSelect ops=true):∀(l:List Oper)(k:Nat)(s:Array Bool)(a:Act),(∀j,l[j]? =ops[k+j]?)→
  Region.lexFrom md ops l.length k s=true→wpJ P md ops J n Q k l s a→wpAnyJ P md ops J n Q l.length s a
 | [],_,_,_,_,hB,h=> ⟨by simpa [Region.lexFrom]using hB,h⟩
 | o::l,k,s,a,hl,hB,h=> by
  have h0:ops[k]? =some o:=by simpa using(hl 0).symm
  simp only [List.length_cons,Region.lexFrom,Bool.and_eq_true]at hB
  obtain⟨⟨hr,hf⟩,hB'⟩:=hB
  obtain⟨v,hy,hK⟩:=h
  exact wpAnyJ_first h0(Region.noSelect_spec hs)l.length s a(Region.free_spec h0 hf)(by simpa using hr)hy
   (wpAnyJ_lex hs l(k+1)_ _(fun j=> by have:=hl(j+1);simpa [Nat.add_assoc,Nat.add_comm 1 j]using this)hB' hK)
end
def One(J' :World→Prop)(a' :Act):Exit→Act→World→Prop
 | .normal,b,w=> b=a' ∧J' w
 | _,_,_=> False
section
variable {P:Program} {ops:Array Oper} {md:Region.Mode} {J:(Nat→Bool)→World→Prop}
theorem putEq_of {a:Act} {n:Nat} {d:Option Tmp} {u v:Value}(hn:a.tmps.size=n)(h:a.put d u=a.put d v):PutEq n d u v:=by
 intro b hb
 cases d with
 | none=> rfl
 | some d=>
  simp only [Act.put,Act.mk.injEq,and_true]at h ⊢
  by_cases hd:d < n
  ·have h1:(a.tmps.setIfInBounds d u)[d]? =(a.tmps.setIfInBounds d v)[d]? :=by rw [h]
   simp [hn,hd]at h1
   rw [h1]
  ·have e:∀x:Value,b.tmps.setIfInBounds d x=b.tmps:=fun x=> by
    have hd' :b.tmps.size≤d:=by rw [hb];exact Nat.le_of_not_lt hd
    simp [Array.setIfInBounds,Nat.not_lt.2 hd']
   rw [e,e]
theorem wpJ_step {Q:Array Bool→Act→Prop} {k:Nat} {o:Oper} {rest:List Oper} {s:Array Bool} {a:Act} {v:Value} {n:Nat}(hn:a.tmps.size=n)
  (hw:Region.wanted o(yielded ops a.tmps)=true)
  (h:∀f w,Up md k o f→J f w→wpList P ops(One(J(fset f k))(a.put o.dst v)) [o]a w)
  (hr:wpJ P md ops J n Q(k+1)rest(s.setIfInBounds k true)(a.put o.dst v)):wpJ P md ops J n Q k(o::rest)s a:=by
 refine⟨v,.inl⟨hw,fun f w hf hj=> ?_⟩,hr⟩
 have h1:=h f w hf hj
 unfold wpList at h1
 rw [if_pos hw]at h1
 rcases h1 with h1 | ⟨_,b,w',hb⟩
 ·unfold Oper.wp at h1
  generalize(execOp a.eval o).run P w=r at*
  cases r with
  | ok x w' =>
   cases x <;> simp only [Oper.upon,wpList,One]at h1 <;> simp only [upJ]
   case value u=> exact⟨putEq_of hn h1.1,h1.2⟩
   case skip=> exact⟨putEq_of hn h1.1,h1.2⟩
   case defer d=>
    have h2:=congrArg(fun b:Act=> b.defers.length)h1.1
    cases hd:o.dst <;> simp [Act.put,hd]at h2
   case enter f args=>
    refine h1.mono fun e w'' he=> ?_
    cases e with
    | returned u=> exact⟨u,rfl,putEq_of hn he.1,he.2⟩
    | panicked c=> exact he.elim
    | outgrown=> obtain⟨b,w3,hb⟩:=he;exact hb.elim
   case row r args=> exact h1.mono fun u w'' he=> ⟨putEq_of hn he.1,he.2⟩
  | halt x w' => cases x <;> simp only [Oper.upon,One]at h1
 ·exact hb.elim
theorem wpJ_op {Q:Array Bool→Act→Prop} {k:Nat} {o:Oper} {rest:List Oper} {s:Array Bool} {a:Act} {v:Value} {n:Nat}(hn:a.tmps.size=n)
  (hw:Region.wanted o(yielded ops a.tmps)=true)
  (h:∀f w,Up md k o f→J f w→∀Q1:Exit→Act→World→Prop,(∀a' w',a' =a.put o.dst v→J(fset f k)w' →Q1 .normal a' w')→wpList P ops Q1 [o]a w)
  (hr:wpJ P md ops J n Q(k+1)rest(s.setIfInBounds k true)(a.put o.dst v)):wpJ P md ops J n Q k(o::rest)s a:=
 wpJ_step hn hw(fun f w hf hj=> h f w hf hj _ fun _ _ h1 h2=> ⟨h1,h2⟩)hr
theorem wpJ_skip {Q:Array Bool→Act→Prop} {k:Nat} {o:Oper} {rest:List Oper} {s:Array Bool} {a:Act} {n:Nat}
  (hw:Region.wanted o(yielded ops a.tmps)=false)(h:∀f w,Up md k o f→J f w→J(fset f k)w)
  (hr:wpJ P md ops J n Q(k+1)rest(s.setIfInBounds k true)(a.put o.dst undef)):wpJ P md ops J n Q k(o::rest)s a:=
 ⟨undef,.inr⟨hw,rfl,h⟩,hr⟩
theorem wpJ_nil {Q:Array Bool→Act→Prop} {k:Nat} {s:Array Bool} {a:Act} {n:Nat}(h:Q s a):wpJ P md ops J n Q k []s a:=h
theorem region_J {id:Nat} {Q:Exit→Act→World→Prop} {a:Act} {w:World} {l:List Oper}(J:(Nat→Bool)→World→Prop)(hm:P.follows .mixedOrders=true)(hB:Region.lexB .any l.toArray=true)
  (h0:J(fun _=> false)w.drew)
  (h:wpJ P .any l.toArray J a.tmps.size(fun s a' => ∀w',J(flags s)w' →Q .normal a' w')0 l(Array.replicate l.length false)a):(Code.region id l.toArray true).wp P Q a w:=by
 simp only [Region.lexB,Bool.and_eq_true]at hB
 refine wp_region_any hm(wpAny_of_J(J:=J)(n:=a.tmps.size)(Q:=fun s a' => ∀w',J(flags s)w' →Q .normal a' w')(fun _ _ w' hw' h=> h w' hw')_ _ _ _ rfl ?_ ?_)
 ·have e:flags(Array.replicate l.toArray.size false)=fun _=> false:=by
   funext k;unfold flags;simp only [Array.getD_eq_getD_getElem?,Array.getElem?_replicate];split <;> rfl
  rw [e];exact h0
 ·have:=wpAnyJ_lex(J:=J)(md:= .any)(P:=P)(n:=a.tmps.size)hB.1 l 0(Array.replicate l.length false)a(by simp)(by simpa using hB.2)h
  simpa using this
end
def Sel {α:Type}(b:Bool)(x y:α):α:=if b then x else y
theorem Sel_false {α:Type}(x y:α):Sel false x y=y:=rfl
def Blk(w:World)(b:Nat)(cs:Array Value)(T:TypeId):Prop:=w.heap[b]? =some(.cells cs T)
theorem Blk.cell {w:World} {b:Nat} {cs:Array Value} {T:TypeId}(h:Blk w b cs T) {i:Nat} {v:Value}(hv:cs[i]? =some v):w.cell? ⟨b,i,none⟩=some v:=by
 unfold Blk at h;simp [World.cell?,h,hv]
theorem Blk.frozen {w:World} {b:Nat} {cs:Array Value} {T:TypeId}(h:Blk w b cs T)(i:Nat):w.frozen? ⟨b,i,none⟩=false:=by
 unfold Blk at h;simp [World.frozen?,h]
theorem Blk.rd {w:World} {b:Nat} {cs:Array Value} {T:TypeId}(h:Blk w b cs T):∀i,w.cell? ⟨b,i,none⟩=cs[i]? :=by
 intro i;unfold Blk at h;simp [World.cell?,h]
theorem Blk.nf {w:World} {b:Nat} {cs:Array Value} {T:TypeId}(h:Blk w b cs T):∀i,w.frozen? ⟨b,i,none⟩=false:=h.frozen
theorem Blk.lt {w:World} {b:Nat} {cs:Array Value} {T:TypeId}(h:Blk w b cs T):b < w.heap.size:=by
 unfold Blk at h;exact(Array.getElem?_eq_some_iff.1 h).1
theorem Blk.new(w:World)(cs:Array Value)(T:TypeId):Blk(w.alloc(.cells cs T))w.heap.size cs T:=by
 show(w.heap.push _)[w.heap.size]? =_;simp
theorem Blk.new' {w:World} {cs:Array Value} {T:TypeId} {b:Nat}(hb:b=w.heap.size):Blk(w.alloc(.cells cs T))b cs T:=by
 subst hb;exact Blk.new w cs T
theorem Blk.alloc {w:World} {b:Nat} {cs:Array Value} {T:TypeId}(h:Blk w b cs T)(o:Obj):Blk(w.alloc o)b cs T:=by
 have hl:=h.lt
 unfold Blk at*;rw [Go.RowKit.Below.heap_alloc _ _ _ hl];exact h
theorem Blk.drew {w:World} {b:Nat} {cs:Array Value} {T:TypeId}(h:Blk w b cs T):Blk w.drew b cs T:=h
theorem Blk.drewN {w:World} {b:Nat} {cs:Array Value} {T:TypeId}(h:Blk w b cs T)(n:Nat):Blk(w.drewN n)b cs T:=h
theorem Blk.set {w:World} {b:Nat} {cs:Array Value} {T:TypeId}(h:Blk w b cs T)(i:Nat)(v:Value):Blk(w.setCell⟨b,i,none⟩v)b(cs.setIfInBounds i v)T:=by
 unfold Blk at*
 simp [World.setCell,Array.getElem?_modify,h]
theorem Blk.set_ne {w:World} {b:Nat} {cs:Array Value} {T:TypeId}(h:Blk w b cs T) {a:Addr}(hne:b≠a.block)(v:Value):Blk(w.setCell a v)b cs T:=by
 unfold Blk at*;rw [Go.RowKit.Below.heap_setCell _ _ _ _ hne];exact h
theorem Blk.below {B:Nat} {w w' :World}(hb:Go.RowKit.Below B w w') {b:Nat} {cs:Array Value} {T:TypeId}(h:Blk w b cs T)(hlt:b < B):Blk w' b cs T:=by
 unfold Blk at*;rw [hb.block b hlt];exact h
theorem Blk.of {w:World} {b:Nat} {cs cs' :Array Value} {T:TypeId}(h:Blk w b cs T)(e:cs=cs'):Blk w b cs' T:=e▸h
end Go.Proofs.YtjpjafajploiaaaGreatDoor.RegJ
namespace Go.Proofs.YtjpjafajploiaaaGreatDoor
theorem nrm:(∀(a:Act)(d:Tmp)(v:Value),a.put(some d)v= {a with tmps:=a.tmps.setIfInBounds d v})∧(∀(a:Act)(v:Value),a.put none v=a)∧(∀(l:List Value)(i:Nat)(v:Value),l.toArray.setIfInBounds i v=(l.set i v).toArray)∧(∀(x:Value)(l:List Value)(v:Value),(x::l).set 0 v=v::l)∧(∀(x:Value)(l:List Value)(i:Nat)(v:Value),(x::l).set(i+1)v=x::l.set i v):=⟨fun _ _ _=> rfl,fun _ _=> rfl,fun _ _ _=> List.setIfInBounds_toArray ..,fun _ _ _=> rfl,fun _ _ _ _=> rfl⟩
end Go.Proofs.YtjpjafajploiaaaGreatDoor
