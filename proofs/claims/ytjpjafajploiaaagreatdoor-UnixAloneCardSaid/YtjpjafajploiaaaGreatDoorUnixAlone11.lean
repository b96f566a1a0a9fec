/-
  New frames: none taken, each nought; a store of no files over them.
-/
import Derived.Test.YtjpjafajploiaaaGreatDoorUnixAlone09
import Derived.Test.YtjpjafajploiaaaGreatDoorUnixAlone03
import Derived.Shelf.Spec.SlicesInsertGrow
set_option linter.unusedSimpArgs false
set_option linter.unusedVariables false
namespace Go.Proofs.YtjpjafajploiaaaGreatDoor
open Go.RowKit Own RegJ
open Go.Lib
def fs0(n:Nat):Fs:=⟨n,List.replicate n 0,[],0,List.replicate(64*n)0⟩
theorem fs0_ok {n:Nat}(h:n≤64):(fs0 n).Ok:=by
 refine⟨h,by simp [fs0],by simp [fs0],Nat.zero_le _,(fun x hx=> by cases hx),List.nodup_nil,fun i _=> ?_⟩
 simp only [fs0,List.getD_eq_getElem?_getD,List.getElem?_replicate]
 split <;> rfl
theorem make_of' (t e:TypeId)(z:Value)(size bytes n:Nat)(ht:Tryz.prog.underlying t=some(.slice e))(hi:(Tryz.prog.info? e).map(fun i=> (i.zero,i.size,i.bytes))=some(some z,size,bytes))(hb:bytes*n≤281474976710656)(hn:n≤1000)(w:World):
  (Instr.makeSlice t(.int .i64 n)(.int .i64 n)).run Tryz.prog w= .ok(.slice(some⟨w.heap.size,0,none⟩)n n)(w.alloc(.cells(madeCells z.cells(n*size))e)):=by
 obtain⟨i,hi1,h1,h2,h3⟩:=info_parts hi
 have h:=run_make(P:=Tryz.prog)w t e i z ht hi1 h1 .i64 .i64 n n(by omega)(by omega)(by rw [h3,←Int.natCast_mul];omega)(by omega)
 simp only [Int.toNat_natCast,h2]at h
 exact h
theorem made_same(z:Array Value)(v:Value)(hz:0 < z.size)(h:∀(i:Nat)(hi:i < z.size),z[i]=v)(m:Nat):madeCells z m=(List.replicate m v).toArray:=by
 unfold madeCells
 apply Array.ext
 ·simp
 ·intro i h1 h2
  simp only [Array.getElem_map,Array.getElem_range,List.getElem_toArray,List.getElem_replicate]
  rw [getElem!_pos z _(Nat.mod_lt _ hz)]
  exact h _ _
theorem made_u8(n:Nat):madeCells(Value.agg((List.range 64).map fun _=> Value.int .u8 0).toArray).cells(n*64)=(ucells(List.replicate(64*n)0)).toArray:=by
 rw [made_same _(.int .u8 0)(by simp [Value.cells])(fun i hi=> by simp [Value.cells])]
 simp [ucells,Nat.mul_comm]
theorem made_int(n:Nat):madeCells(Value.int .i64 0).cells(n*1)=(icells(List.replicate n 0)).toArray:=by
 rw [made_same _(.int .i64 0)(by simp [Value.cells])(fun i hi=> by simp [Value.cells])]
 simp [icells]
def FNewP(w:World)(n:Nat)(e:Ending)(w' :World):Prop:=∃fb bb kb,e= .returned(.tuple #[.pointer(some⟨fb,0,none⟩),.int .i64 0])∧FrB w' fb bb kb none(fs0 n)∧Below w.heap.size w w' ∧w.heap.size≤fb∧w.heap.size≤bb∧w.heap.size≤kb∧fb≠bb∧fb≠kb∧bb≠kb
theorem fnew_ab(n:Nat)(w:World)(hok:(fs0 n).Ok)(A B:Array Value)(hA:(ucells(List.replicate(64*n)0)).toArray=A)(hB:(icells(List.replicate n 0)).toArray=B):
  FNewP w n(.returned(.tuple #[.pointer(some⟨w.heap.size+1+1,0,none⟩),.int .i64 0]))(((w.alloc(.cells A 227)).alloc(.cells B 3)).alloc(.cells #[.slice(some⟨w.heap.size,0,none⟩)n n,.slice(some⟨w.heap.size+1,0,none⟩)n n,.slice none 0 0,.int .i64 0]149)).drew:=by
 subst hA;subst hB
 exact⟨_,w.heap.size,w.heap.size+1,rfl,⟨⟨_,(Blk.new' (by simp)).drew,Or.inl⟨rfl,rfl,rfl⟩⟩,(((Blk.new _ _ _).alloc _).alloc _).drew,((Blk.new' (by simp)).alloc _).drew,hok⟩,((((Below.refl _ _).alloc(Nat.le_refl _)_).alloc(by simp)_).alloc(by simp;omega)_).drew,by omega,by omega,by omega,by omega,by omega,by omega⟩
theorem fnew_ba(n:Nat)(w:World)(hok:(fs0 n).Ok)(A B:Array Value)(hA:(ucells(List.replicate(64*n)0)).toArray=A)(hB:(icells(List.replicate n 0)).toArray=B):
  FNewP w n(.returned(.tuple #[.pointer(some⟨w.heap.size+1+1,0,none⟩),.int .i64 0]))(((w.alloc(.cells B 3)).alloc(.cells A 227)).alloc(.cells #[.slice(some⟨w.heap.size+1,0,none⟩)n n,.slice(some⟨w.heap.size,0,none⟩)n n,.slice none 0 0,.int .i64 0]149)).drew:=by
 subst hA;subst hB
 exact⟨_,w.heap.size+1,w.heap.size,rfl,⟨⟨_,(Blk.new' (by simp)).drew,Or.inl⟨rfl,rfl,rfl⟩⟩,((Blk.new' (by simp)).alloc _).drew,(((Blk.new _ _ _).alloc _).alloc _).drew,hok⟩,((((Below.refl _ _).alloc(Nat.le_refl _)_).alloc(by simp)_).alloc(by simp;omega)_).drew,by omega,by omega,by omega,by omega,by omega,by omega⟩
set_option maxRecDepth 100000 in
theorem fnew_is(n:Nat)(h1:1≤n)(h64:n≤64)(w:World):Calls Tryz.prog 32 #[.int .i64 n]w(FNewP w n):=by
 have m1:=make_of' 147 227(.agg((List.range 64).map fun _=> Value.int .u8 0).toArray)64 64 n Tryz.underlying147(by kernel_rfl)(by omega)(by omega)
 have m2:=make_of' 59 3(.int .i64 0)1 8 n Tryz.underlying59(by kernel_rfl)(by omega)(by omega)
 rw [made_u8]at m1
 rw [made_int]at m2
 have hok:=fs0_ok h64
 have d1:decide((n:Int) < 1)=false:=by simp;omega
 have d2:decide((n:Int) > 64)=false:=by simp;omega
 have d2n:decide(n > 64)=false:=by simp;omega
 have H:=Lib.hid hok
 obtain⟨A,hA⟩:∃A,(ucells(List.replicate(64*n)0)).toArray=A:=⟨_,rfl⟩
 obtain⟨B,hB⟩:∃B,(icells(List.replicate n 0)).toArray=B:=⟨_,rfl⟩
 rw [hA]at m1
 rw [hB]at m2
 have HA:=Lib.hid(And.intro hA hB)
 clear hok h1 hA hB
 go_enter Tryz.func32,Tryz.ntmps32
 go_wp2
 go_region
 all_goals go_wp2
 all_goals go_returns
 all_goals first
  | exact fnew_ab n w H.out A B HA.out.1 HA.out.2
  | exact fnew_ba n w H.out A B HA.out.1 HA.out.2
def so0(mb sb fb bb kb:Nat):SRl→Option Nat:=fun r=> match r with
 | .sto=> some sb
 | .mp=> some mb
 | .frm=> some fb
 | .byt=> some bb
 | .tkn=> some kb
 | _=> none
theorem used0:∀n,usedN(fun _=> none)n=0
 | 0=> rfl
 | n+1=> by unfold usedN;rw [used0 n];rfl
theorem st0 [Inhabited CapT] {w:World} {fb bb kb n:Nat}(h:FrB w fb bb kb none(fs0 n))(h1:fb≠bb)(h2:fb≠kb)(h3:bb≠kb)(h1n:1≤n)(ho:∀i,¬othN i):St((w.alloc(.map #[]0)).alloc(.cells #[.pointer(some⟨fb,0,none⟩),.map(some w.heap.size)]226))(so0 w.heap.size(w.heap.size+1)fb bb kb)(fun _=> none)n 0:=by
 have hl:=h.lts
 have hB:Below w.heap.size w((w.alloc(.map #[]0)).alloc(.cells #[.pointer(some⟨fb,0,none⟩),.map(some w.heap.size)]226)):=((Below.refl _ _).alloc(Nat.le_refl _)_).alloc(by simp)_
 refine⟨fs0 n,fun _=> [],fun r r' k k1 k2=> ?_,fun r k k1=> ?_,⟨w.heap.size+1,w.heap.size,fb,bb,kb,0,0,rfl,rfl,rfl,rfl,rfl,Blk.new' (by simp),?_,Nat.le_refl _,h.below hB⟩,(fun i bs hi=> by cases hi),fun _ _=> rfl,(fun i j bs bs' x hi=> by cases hi),?_,fun i hi=> absurd hi(ho i)⟩
 ·cases r <;> cases r' <;> simp [so0]at k1 k2 <;> first | rfl | (exfalso;omega)
 ·cases r <;> simp [so0]at k1 ⊢ <;> omega
 ·have e:filM(fun _=> none)(so0 w.heap.size(w.heap.size+1)fb bb kb)=fun _=> none:=by
   funext j;unfold filM;split <;> rfl
  rw [e]
  exact(MapI.made w Tryz.prog 3).upd((Upd.refl(fun _=> False)_).alloc _)(fun h=> h)
 ·rw [used0]
  simp [Fs.free,fs0]
end Go.Proofs.YtjpjafajploiaaaGreatDoor
namespace Go.Proofs.YtjpjafajploiaaaGreatDoor.Two
open Go.RowKit Own RegJ
theorem add0(g o j:Nat):(⟨g,o,none⟩:Addr).add j=⟨g,o+j,none⟩:=by
 unfold Addr.add
 by_cases h0:j=0
 ·subst h0;rfl
 ·rw [if_neg h0]
theorem run_copy2 {P:Program}(w:World)(dT sT ty elem:TypeId)(b o dLen dCap:Nat)(a:Addr)(sLen sCap:Nat)(ys:List V2)
  (hu:P.underlying dT=some(.slice elem))(hs:(P.info? elem).map(·.size)=some 2)(hn:ys.length=Nat.min sLen dLen)
  (hsrc:∀j v,(cells2 ys)[j]? =some v→w.cell? (a.add j)=some v)(hc:∀j,j < ys.length*2→(w.cell? ⟨b,o+j,none⟩).isSome=true)(hf:∀j,j < ys.length*2→w.frozen? ⟨b,o+j,none⟩=false)(h1:One2 ys):
  (Builtin.copy_ #[dT,sT]ty #[.slice(some⟨b,o,none⟩)dLen dCap,.slice(some a)sLen sCap]).run P w= .ok(goInt ys.length)(w.setCells b o(cells2 ys)):=by
 have hlen:=cells2_len ys
 have hl:=run_loadCells_list(P:=P)w a(cells2 ys)hsrc
 have hst:=run_storeCells_cells(P:=P)b o(cells2 ys)0 w(by simpa [hlen]using hc)(by simpa [hlen]using hf)h1.cells
 rw [hlen]at hl
 cases hq:P.info? elem with
 | none=> simp [hq]at hs
 | some i=>
  have hi:i.size=2:=by simpa [hq]using hs
  simp [Builtin.copy_,run_underlying hu,Builtin.lenOf,Builtin.firstCells,sizeOf,typeInfo,hq,hi,←hn,hl,hst]
theorem zeroCells2(z1 z2:Value)(n:Nat):(Builtin.zeroCells #[z1,z2]n).toList=cells2(List.replicate n(z1,z2)):=by
 induction n with
 | zero=> simp [Builtin.zeroCells,cells2]
 | succ n ih=>
  have hl:=cells2_len(List.replicate n(z1,z2))
  rw [List.length_replicate]at hl
  rw [List.replicate_succ',cells2_app,←ih]
  apply List.ext_getElem?
  intro j
  simp only [Builtin.zeroCells,Array.toList_ofFn,List.getElem?_append,List.getElem?_ofFn,List.length_ofFn,cells2,List.flatMap_cons,List.flatMap_nil,List.append_nil]
  by_cases h1:j < n*2
  ·have:j < (n+1)*2:=by omega
   simp [h1,this]
  ·by_cases h2:j < (n+1)*2
   ·have h3:j=n*2∨j=n*2+1:=by omega
    rcases h3 with rfl | rfl
    ·simp [h1,h2]
    ·have e1:(n*2+1)% 2=1:=by omega
     have e2:n*2+1 - n*2=1:=by omega
     simp [h1,h2,e1,e2]
   ·have e:j - n*2=(j - n*2 - 2)+2:=by omega
    simp [h1,h2]
    rw [e];simp
theorem run_clear2 {P:Program}(w:World)(t e ty:TypeId)(z1 z2:Value)(ht:P.underlying t=some(.slice e))(hv:∀w,(zeroValue e).run P w= .ok(.agg #[z1,z2])w)(h1:z1.oneCell' =true)(h2:z2.oneCell' =true)(b o n c:Nat)(hn:0 < n)
  (hc:∀j,j < n*2→(w.cell? ⟨b,o+j,none⟩).isSome=true)(hf:∀j,j < n*2→w.frozen? ⟨b,o+j,none⟩=false):
  (Builtin.clear_ #[t]ty #[.slice(some⟨b,o,none⟩)n c]).run P w= .ok(.tuple #[])(w.setCells b o(cells2(List.replicate n(z1,z2)))):=by
 have hl:=cells2_len(List.replicate n(z1,z2))
 rw [List.length_replicate]at hl
 have hone:One2(List.replicate n(z1,z2)):=by
  intro a ha;rw [List.eq_of_mem_replicate ha];exact⟨h1,h2⟩
 have hst:=run_storeCells_cells(P:=P)b o(cells2(List.replicate n(z1,z2)))0 w(by simpa [hl]using hc)(by simpa [hl]using hf)hone.cells
 simp only [Nat.add_zero]at hst
 have hz:=zeroCells2 z1 z2 n
 obtain⟨m,rfl⟩:∃m,n=m+1:=⟨n - 1,by omega⟩
 simp [Builtin.clear_,run_underlying ht,hv,Value.cells,hz,hst]
end Go.Proofs.YtjpjafajploiaaaGreatDoor.Two
