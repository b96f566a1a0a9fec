/-
  Paths: the document's Split.
-/
import Derived.Test.YtjpjafajploiaaaGreatDoorUnixAlone19
import Derived.Laws.AppendOwn
import Derived.ArgAppend
import Derived.OwnWalk
set_option linter.unusedSimpArgs false
set_option linter.unusedVariables false
namespace Go.Proofs.YtjpjafajploiaaaGreatDoor
open Go.RowKit Own RegJ
open Go.Lib hiding intOf
theorem Txts.own {w:World} {v:Value} {xs:List Txt} {b:Option Nat} (h:Txts w v xs b):w.ownsRow 0 9 1 v xs.length (tcells xs):=by
 refine ⟨by simp,?_⟩
 rcases h with ⟨hv,h0,_⟩ | ⟨g,cap,rest,hv,hg,hB,hc,hm⟩
 ·exact Or.inl ⟨hv,by rw [h0];rfl⟩
 ·refine Or.inr ⟨g,cap,_,hv,Nat.zero_le _,hB,by rw [hc];simp,hm,by rw [hc];simp,by simp⟩
def pc (l:Txt) (at' i:Nat):Txt:=(l.drop at').take (i - at')
def Mid (l:Txt) (done:List Txt) (at' i:Nat):Prop:=sp (l.drop 1)=done++sp (l.drop at')∧firstE done=0∧47∉pc l at' i
def Cut (l:Txt) (done:List Txt) (p:Txt):Prop:=(∃rest,sp (l.drop 1)=done++p::rest)∧firstE done=0
theorem firstE_app (xs ys:List Txt) (h:firstE xs=0):firstE (xs++ys)=firstE ys:=by
 induction xs with
 | nil=> rfl
 | cons x r ih=>
  unfold firstE at h
  by_cases hx:nameE x=0
  ·rw [if_pos hx] at h
   rw [List.cons_append,firstE,if_pos hx];exact ih h
  ·rw [if_neg hx] at h;exact absurd h hx
theorem Cut.bad {l:Txt} {done:List Txt} {p:Txt} (h:Cut l done p) (hp:nameE p≠0):everyE (sp (l.drop 1))=nameE p:=by
 obtain ⟨⟨rest,hr⟩,h0⟩:=h
 have:firstE (sp (l.drop 1))=nameE p:=by rw [hr,firstE_app _ _ h0,firstE,if_neg hp]
 unfold everyE;rw [this,if_neg hp]
def Sst (l:Txt) (done:List Txt) (at' i:Nat):Prop:=at' ≤i∧((i≤l.length∧Mid l done at' i)∨(i=l.length+1∧sp (l.drop 1)=done∧firstE done=0))
theorem Sst.len {l:Txt} {done:List Txt} {at' i:Nat} (h:Sst l done at' i):done.length≤l.length+1:=by
 have:=sp_len (l.drop 1)
 rw [List.length_drop] at this
 rcases h.2 with ⟨_,h⟩ | ⟨_,h,_⟩
 ·rw [h.1,List.length_append] at this;omega
 ·rw [h] at this;omega
end Go.Proofs.YtjpjafajploiaaaGreatDoor
namespace Go.Proofs.YtjpjafajploiaaaGreatDoor
open Go.RowKit Own RegJ
open Go.Lib hiding intOf
def ValB (v:Value) (w:World) (e:Ending) (w' :World):Prop:=e= .returned v∧Below w.heap.size w w'
theorem B_app (a b:Txt):B a++B b=B (a++b):=by
 apply ByteArray.ext;simp
theorem ljoin (xs:List Txt):47::Lib.join xs [47]=joinT xs:=by
 unfold joinT
 cases xs with
 | nil=> rfl
 | cons x r=>
  rw [if_neg (by simp),join_cons,List.flatMap_cons]
  unfold joinTail
  rw [List.flatMap_def]
  simp [Function.comp_def]
theorem flat_len (ys:List Txt) (h:everyE ys=0):(ys.flatMap fun x=> (47:UInt8)::x).length≤54:=by
 have:∀ys:List Txt,(∀x∈ys,nameE x=0)→(ys.flatMap fun x=> (47:UInt8)::x).length≤9*ys.length:=by
  intro ys
  induction ys with
  | nil=> intro _;simp
  | cons y r ih=>
   intro hy
   have h2:=ih (fun x hx=> hy x (by simp [hx]))
   have h3:=(name_ok (hy y (by simp))).2.2
   rw [List.flatMap_cons,List.length_append,List.length_cons,List.length_cons]
   omega
 have h1:=this ys (first_mem (every_ok h).1)
 have h2:=(every_ok h).2
 omega
theorem ljoin_len (xs:List Txt) (h:everyE xs=0):(Lib.join xs [47]).length≤60:=by
 have h1:(joinT xs).length≤60:=by
  unfold joinT
  by_cases he:xs= []
  ·rw [if_pos he];simp
  ·rw [if_neg he];have:=flat_len xs h;omega
 have h3:=congrArg List.length (ljoin xs)
 simp at h3
 omega
theorem cell_lt' {w:World} {a:Addr} {v:Value} (h:w.cell? a=some v):a.block < w.heap.size:=by
 rcases Nat.lt_or_ge a.block w.heap.size with h1 | h1
 ·exact h1
 ·unfold World.cell? at h;simp [Array.getElem?_eq_none h1] at h
theorem sjoin {w:World} {a:Option Addr} {xs:List Txt} (n c:Nat) (h:RdT w a xs) (hn:xs.length=n) (hc:n≤c) (hE:everyE xs=0):
  Calls Tryz.prog 229 #[.slice a n c,.string (B [47])] w (ValB (.string (B (Lib.join xs [47]))) w):=by
 subst hn
 cases xs with
 | nil=>
  refine (Tryz.strings_Join_none a c (B [47]) w).mono ?_
  rintro e w' ⟨rfl,rfl⟩
  exact ⟨rfl,Below.refl _ _⟩
 | cons x r=>
  obtain ⟨g,o,rfl,k0⟩:=h 0 x rfl
  have h2:=(every_ok hE).2
  have hjl:=ljoin_len _ hE
  have hmap:((x::r).map B).map (·.data.toList)=x::r:=by
   rw [List.map_map]
   have:((fun s:ByteArray=> s.data.toList) ∘ B)=id:=by funext l;exact data_B l
   rw [this,List.map_id]
  have hx:=Tryz.strings_Join g o c ((x::r).map B) (B [47]) w (by
   intro j y hj
   rw [List.getElem?_map] at hj
   obtain ⟨t,ht,rfl⟩:=Option.map_eq_some_iff.1 hj
   obtain ⟨g',o',he,k1⟩:=h j t ht
   cases he
   exact k1) (cell_lt' k0) (by rw [List.length_map];omega) (by rw [List.length_map];exact hc) (by rw [hmap];show (Lib.join (x::r) (B [47]).data.toList).length≤_;rw [data_B];omega)
  rw [hmap,List.length_map] at hx
  refine hx.mono ?_
  rintro e w' ⟨rfl,hB⟩
  exact ⟨rfl,hB⟩
set_option maxRecDepth 100000 in
theorem join_is {w:World} {a:Option Addr} {xs:List Txt} (n c:Nat) (h:RdT w a xs) (hn:xs.length=n) (hc:n≤c) (hm:n≤maxLen):
  Calls Tryz.prog 195 #[.slice a n c] w (ValB (.tuple #[.string (B (joinR xs)),.int .i64 (everyE xs)]) w):=by
 have hev:=every_is n c h hn hm
 unfold joinR
 by_cases hE:everyE xs=0
 ·rw [if_pos hE]
  have hj:=sjoin n c h hn hc hE
  have happ:=B_app [47] (Lib.join xs [47])
  rw [show ([47]:Txt)++Lib.join xs [47]=joinT xs from ljoin xs] at happ
  rw [hE] at hev ⊢
  have hz1:=B_size (Lib.join xs [47])
  have hz2:=ljoin_len xs hE
  have hz:¬9223372036854775807 < 1+(B (Lib.join xs [47])).size:=by omega
  clear hz1 hz2
  generalize B (Lib.join xs [47])=j at*
  generalize B (joinT xs)=q at*
  clear hE h hn
  go_enter Tryz.func195,Tryz.ntmps195
  go_wp2_with (first
   | (go_at_call 180;refine hev.mono ?_;rintro e w1 ⟨rfl,rfl⟩)
   | (go_at_call 229;refine hj.mono ?_;rintro e w2 ⟨rfl,hB⟩))
  go_returns
  exact ⟨rfl,hB⟩
 ·rw [if_neg hE]
  have d1:(everyE xs==0)=false:=by simpa using hE
  have d2:(everyE xs !=0)=true:=by simpa using hE
  generalize everyE xs=N at*
  clear hE h hn
  go_enter Tryz.func195,Tryz.ntmps195
  go_wp2_with (go_at_call 180;refine hev.mono ?_;rintro e w1 ⟨rfl,rfl⟩)
  go_returns
  exact ⟨rfl,Below.refl _ _⟩
end Go.Proofs.YtjpjafajploiaaaGreatDoor
