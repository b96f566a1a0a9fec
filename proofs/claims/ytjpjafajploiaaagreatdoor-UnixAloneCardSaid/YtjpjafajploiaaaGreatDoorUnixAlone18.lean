/-
  Paths, plain: what Split, Join and Parent answer; what was taken apart is put together again.
-/
import Derived.Test.YtjpjafajploiaaaGreatDoorUnixAlone08
import Derived.Lib.SplitLaws
import Derived.Lib.Join
set_option linter.unusedSimpArgs false
set_option linter.unusedVariables false
namespace Go.Proofs.YtjpjafajploiaaaGreatDoor
open Go.RowKit Own RegJ
open Go.Lib hiding intOf
def sp:Txt→List Txt
 | []=> [[]]
 | c::r=> if c=47 then []::sp r else match sp r with
  | []=> [[c]]
  | x::xs=> (c::x)::xs
theorem sp_no:∀a:Txt,47∉a→sp a= [a]
 | [],_=> rfl
 | c::r,h=> by
  rw [List.mem_cons] at h
  have h1:¬c=47:=fun e=> h (Or.inl e.symm)
  unfold sp
  rw [if_neg h1,sp_no r (fun e=> h (Or.inr e))]
theorem sp_app:∀(a r:Txt),47∉a→sp (a++47::r)=a::sp r
 | [],r,_=> by simp [sp]
 | c::a,r,h=> by
  rw [List.mem_cons] at h
  have h1:¬c=47:=fun e=> h (Or.inl e.symm)
  rw [List.cons_append,sp,if_neg h1,sp_app a r (fun e=> h (Or.inr e))]
theorem sp_flat:∀l:Txt,(sp l).flatMap (fun x=> 47::x)=47::l
 | []=> rfl
 | c::r=> by
  have ih:=sp_flat r
  by_cases h:c=47
  ·rw [sp,if_pos h,List.flatMap_cons,ih,h];rfl
  ·rw [sp,if_neg h]
   split
   ·rename_i hs;rw [hs] at ih;simp at ih
   ·rename_i x xs hs
    rw [hs,List.flatMap_cons] at ih
    rw [List.flatMap_cons]
    simp at ih ⊢
    exact ih
theorem sp_ne (l:Txt):sp l≠ []:=by
 intro h
 have:=sp_flat l
 rw [h] at this;simp at this
theorem sp_len:∀l:Txt,(sp l).length≤l.length+1
 | []=> Nat.le_refl _
 | c::r=> by
  have ih:=sp_len r
  by_cases h:c=47
  ·rw [sp,if_pos h];simp;exact ih
  ·rw [sp,if_neg h]
   split
   ·simp
   ·rename_i x xs hs;rw [hs] at ih;simp at ih ⊢;omega
theorem splitK_sp:∀(n:Nat) (l:Txt),l.length≤n→splitK [47] 0 (count l [47]) l=sp l:=by
 intro n
 induction n with
 | zero=>
  intro l hl
  have:l= []:=List.eq_nil_of_length_eq_zero (by omega)
  subst this
  rfl
 | succ n ih=>
  intro l hl
  have hge:=indexByte_ge l 47
  have hi:=index_one l 47
  by_cases h1:indexByte l 47= -1
  ·rw [count_miss (by rw [hi,h1])]
   rw [sp_no l (fun hm=> by
    obtain ⟨k,hk,he⟩:=List.getElem_of_mem hm
    exact indexByte_none h1 k (by rw [List.getElem?_eq_getElem hk,he]))]
   rfl
  ·obtain ⟨i,hi0⟩:∃i:Nat,indexByte l 47=i:=⟨(indexByte l 47).toNat,by omega⟩
   obtain ⟨h2,h3⟩:=indexByte_some hi0
   have hil:i < l.length:=(List.getElem?_eq_some_iff.1 h2).1
   have e:l=l.take i++47::l.drop (i+1):=by
    have h4:l[i]=47:=by rw [List.getElem?_eq_getElem hil] at h2;exact Option.some.inj h2
    conv=> lhs;rw [←List.take_append_drop i l]
    rw [List.drop_eq_getElem_cons hil,h4]
   have hno:(47:UInt8)∉l.take i:=fun hm=> by
    obtain ⟨k,hk,he⟩:=List.getElem_of_mem hm
    rw [List.length_take] at hk
    rw [List.getElem_take] at he
    exact h3 k (by omega) (by rw [List.getElem?_eq_getElem (by omega),he])
   rw [count_hit (by simp) (show index l [47]=(i:Int) by rw [hi,hi0])]
   rw [Nat.add_comm 1]
   unfold splitK
   rw [if_neg (by rw [hi,hi0];intro h;have:=beq_iff_eq.1 h;omega),hi,hi0]
   show l.take (i+0)::splitK [47] 0 (count (l.drop (i+1)) [47]) (l.drop (i+1))=sp l
   rw [ih (l.drop (i+1)) (by rw [List.length_drop];omega),Nat.add_zero]
   conv=> rhs;rw [e]
   rw [sp_app _ _ hno]
theorem splitB_sp (l:Txt):splitB (B [47]) 0 (countB (B l) (B [47])) (B l)=(sp l).map B:=by
 have h:=splitB_data (B [47]) 0 (countB (B l) (B [47])) (B l)
 rw [data_B,data_B] at h
 have h2:countB (B l) (B [47])=count l [47]:=by unfold countB;rw [data_B,data_B]
 rw [h2] at h ⊢
 rw [splitK_sp l.length l (Nat.le_refl _)] at h
 rw [←h,List.map_map]
 have:((fun x=> B x) ∘ fun s:ByteArray=> s.data.toList)=id:=by funext s;exact B_data s
 rw [show (B ∘ fun s:ByteArray=> s.data.toList)=id from this,List.map_id]
theorem count_sp (l:Txt):countB (B l) (B [47])+1=(sp l).length:=by
 have h:=splitB_all (B [47]) (by rw [B_size];simp) 0 _ (B l) rfl
 rw [splitB_sp,List.length_map] at h
 exact h.symm
def firstE:List Txt→Int
 | []=> 0
 | x::r=> if nameE x=0 then firstE r else nameE x
def everyE (xs:List Txt):Int:=if firstE xs=0 then (if 6 < xs.length then 20 else 0) else firstE xs
def splitE (l:Txt):Int:=if l= [] then 9 else if l.head? ≠some 47 then 19 else if l= [47] then 0 else everyE (sp (l.drop 1))
def splitL (l:Txt):List Txt:=if splitE l=0 then (if l= [47] then [] else sp (l.drop 1)) else []
def joinT (xs:List Txt):Txt:=if xs= [] then [47] else xs.flatMap fun x=> 47::x
def joinR (xs:List Txt):Txt:=if everyE xs=0 then joinT xs else []
def parE (l:Txt):Int:=if splitE l=0 then (if splitL l= [] then 19 else 0) else splitE l
def parD (l:Txt):Txt:=if parE l=0 then joinT ((splitL l).take ((splitL l).length - 1)) else []
def parN (l:Txt):Txt:=if parE l=0 then (splitL l).getD ((splitL l).length - 1) [] else []
theorem firstE_take (xs:List Txt) (k:Nat) (h:firstE xs=0):firstE (xs.take k)=0:=by
 induction xs generalizing k with
 | nil=> cases k <;> rfl
 | cons x r ih=>
  cases k with
  | zero=> rfl
  | succ k=>
   unfold firstE at h
   by_cases hx:nameE x=0
   ·rw [if_pos hx] at h
    rw [List.take_succ_cons];unfold firstE;rw [if_pos hx];exact ih k h
   ·rw [if_neg hx] at h;exact absurd h hx
theorem every_ok {xs:List Txt} (h:everyE xs=0):firstE xs=0∧xs.length≤6:=by
 unfold everyE at h
 by_cases h1:firstE xs=0
 ·rw [if_pos h1] at h
  refine ⟨h1,?_⟩
  by_cases h2:6 < xs.length
  ·rw [if_pos h2] at h;omega
  ·omega
 ·rw [if_neg h1] at h;exact absurd h h1
theorem every_mk {xs:List Txt} (h1:firstE xs=0) (h2:xs.length≤6):everyE xs=0:=by
 unfold everyE;rw [if_pos h1,if_neg (by omega)]
theorem every_take {xs:List Txt} (k:Nat) (h:everyE xs=0):everyE (xs.take k)=0:=by
 obtain ⟨h1,h2⟩:=every_ok h
 exact every_mk (firstE_take xs k h1) (by rw [List.length_take];omega)
theorem first_mem {xs:List Txt} (h:firstE xs=0):∀x∈xs,nameE x=0:=by
 induction xs with
 | nil=> intro x hx;cases hx
 | cons a r ih=>
  unfold firstE at h
  by_cases ha:nameE a=0
  ·rw [if_pos ha] at h
   intro x hx
   rw [List.mem_cons] at hx
   rcases hx with rfl | hx
   ·exact ha
   ·exact ih h x hx
  ·rw [if_neg ha] at h;exact absurd h ha
theorem name_ok {x:Txt} (h:nameE x=0):x≠ []∧47∉x∧x.length≤8:=by
 unfold nameE at h
 by_cases h0:x= []
 ·rw [if_pos h0] at h;omega
 ·rw [if_neg h0] at h
  by_cases h1:8 < x.length
  ·rw [if_pos h1] at h;omega
  ·rw [if_neg h1] at h
   by_cases h2:x= [46]∨x= [46,46]∨47∈x∨0∈x
   ·rw [if_pos h2] at h;omega
   ·exact ⟨h0,fun hm=> h2 (Or.inr (Or.inr (Or.inl hm))),by omega⟩
theorem splitL_slash:splitE [47]=0∧splitL [47]= []:=by
 have h:splitE [47]=0:=by unfold splitE;rw [if_neg (by simp),if_neg (by simp),if_pos rfl]
 exact ⟨h,by unfold splitL;rw [if_pos h,if_pos rfl]⟩
theorem sp_names (xs:List Txt) (hne:xs≠ []) (h:∀x∈xs,47∉x):sp ((xs.flatMap fun x=> 47::x).drop 1)=xs:=by
 induction xs with
 | nil=> exact absurd rfl hne
 | cons x r ih=>
  have hx:=h x (by simp)
  rw [List.flatMap_cons]
  show sp (x++r.flatMap fun x=> 47::x)=x::r
  cases r with
  | nil=> simp;exact sp_no x hx
  | cons y q=>
   have:=ih (by simp) (fun z hz=> h z (by simp at hz ⊢;exact Or.inr hz))
   rw [List.flatMap_cons] at this ⊢
   show sp (x++(47::(y++q.flatMap fun x=> 47::x)))=_
   rw [sp_app _ _ hx]
   congr 1
theorem join_split {xs:List Txt} (h:everyE xs=0):splitE (joinT xs)=0∧splitL (joinT xs)=xs:=by
 unfold joinT
 by_cases he:xs= []
 ·rw [if_pos he,he];exact splitL_slash
 ·rw [if_neg he]
  have hm:=first_mem (every_ok h).1
  have hs:=sp_names xs he (fun x hx=> (name_ok (hm x hx)).2.1)
  have h1:splitE (xs.flatMap fun x=> 47::x)=0∧xs.flatMap (fun x=> (47:UInt8)::x)≠ [47]:=by
   cases xs with
   | nil=> exact absurd rfl he
   | cons x r=>
    have hx:=(name_ok (hm x (by simp))).1
    have hne:(x::r).flatMap (fun x=> (47:UInt8)::x)≠ [47]:=by
     rw [List.flatMap_cons]
     intro hh
     simp at hh
     exact hx hh.1
    refine ⟨?_,hne⟩
    unfold splitE
    rw [if_neg (by rw [List.flatMap_cons];simp),if_neg (by rw [List.flatMap_cons];simp),if_neg hne,hs]
    exact h
  refine ⟨h1.1,?_⟩
  unfold splitL
  rw [if_pos h1.1,if_neg h1.2,hs]
theorem split_join {l:Txt} (h:splitE l=0):joinT (splitL l)=l∧everyE (splitL l)=0:=by
 have h0:=h
 unfold splitE at h
 by_cases h1:l= []
 ·rw [if_pos h1] at h;omega
 ·rw [if_neg h1] at h
  by_cases h2:l.head? ≠some 47
  ·rw [if_pos h2] at h;omega
  ·rw [if_neg h2] at h
   by_cases h3:l= [47]
   ·subst h3;rw [splitL_slash.2];exact ⟨rfl,rfl⟩
   ·rw [if_neg h3] at h
    unfold splitL
    rw [if_pos h0,if_neg h3]
    refine ⟨?_,h⟩
    unfold joinT
    rw [if_neg (sp_ne _),sp_flat]
    have h4:l.head? =some 47:=Classical.not_not.1 h2
    cases l with
    | nil=> simp at h4
    | cons c r=> simp at h4;rw [h4];rfl
theorem splitL_bad {l:Txt} (h:splitE l≠0):splitL l= []:=by unfold splitL;rw [if_neg h]
theorem splitL_len (l:Txt):(splitL l).length≤6:=by
 by_cases h:splitE l=0
 ·exact (every_ok (split_join h).2).2
 ·rw [splitL_bad h];simp
theorem par_back {l:Txt} (h:splitE l=0) (hne:splitL l≠ []):parE l=0∧splitE (parD l)=0∧splitL (parD l)++ [parN l]=splitL l∧nameE (parN l)=0:=by
 have h1:parE l=0:=by unfold parE;rw [if_pos h,if_neg hne]
 have h2:=(split_join h).2
 have h3:=join_split (every_take ((splitL l).length - 1) h2)
 have hl:0 < (splitL l).length:=List.length_pos_iff.2 hne
 have h4:parN l=(splitL l)[(splitL l).length - 1]:=by unfold parN;rw [if_pos h1,List.getD_eq_getElem?_getD,List.getElem?_eq_getElem (by omega)];rfl
 refine ⟨h1,?_,?_,?_⟩
 ·unfold parD;rw [if_pos h1];exact h3.1
 ·have e:splitL (parD l)=(splitL l).take ((splitL l).length - 1):=by unfold parD;rw [if_pos h1];exact h3.2
  rw [e,h4]
  have:=List.take_append_getElem (l:=splitL l) (i:=(splitL l).length - 1) (by omega)
  rw [this,List.take_of_length_le (by omega)]
 ·rw [h4]
  exact first_mem (every_ok h2).1 _ (List.getElem_mem _)
end Go.Proofs.YtjpjafajploiaaaGreatDoor
