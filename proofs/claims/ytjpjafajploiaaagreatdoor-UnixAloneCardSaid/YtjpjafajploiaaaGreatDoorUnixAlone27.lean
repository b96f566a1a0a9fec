/-
  Two lists of integers: are they the same? Conditions: both can be read.
-/
import Derived.Test.YtjpjafajploiaaaGreatDoorProg
import Derived.Test.YtjpjafajploiaaaGreatDoorUnixAlone05
import Derived.Deep.MidRow
import Derived.LoopTactic
import Derived.Handy
import Derived.WalkKit
import Derived.Lib.Hide
import Derived.Deep.QuietTactic
import Derived.BigQuiet
set_option linter.unusedSimpArgs false
set_option linter.unusedVariables false
namespace Go.Proofs.YtjpjafajploiaaaGreatDoor
open Go.RowKit Own RegJ
def RdU (w:World) (v:Value) (xs:List Int):Prop:=∃a c,v= .slice a xs.length c∧xs.length≤maxLen∧∀j,j < xs.length→∃g o,a=some ⟨g,o,none⟩∧w.cell? ⟨g,o+j,none⟩=some (.int .u8 (xs.getD j 0))
theorem RdU.of {w:World} {E:TypeId} {v:Value} {xs:List Int} {b:Option Nat} (h:RowV w E v (ucells xs) b):RdU w v xs:=by
 rcases h with ⟨rfl,h0,rfl⟩ | ⟨g,cap,rest,rfl,rfl,hB,hc,hm⟩
 ·have:xs= []:=by cases xs with | nil=> rfl | cons x r=> cases h0
  subst this
  exact ⟨none,0,rfl,by simp,fun j hj=> by simp at hj⟩
 ·have hl:(ucells xs).length=xs.length:=by simp
  rw [hl]
  refine ⟨_,_,rfl,by rw [hc,List.length_append,hl] at hm;omega,fun j hj=> ⟨g,0,rfl,?_⟩⟩
  rw [hB.rd,Nat.zero_add,List.getElem?_toArray,List.getElem?_append_left (by simpa using hj)]
  simp [ucells,hj]
theorem RdU.keep {w w' :World} {v:Value} {xs:List Int} (h:RdU w v xs) (hk:∀a,(∃x,w.cell? a=some x)→w'.cell? a=w.cell? a):RdU w' v xs:=by
 obtain ⟨a,c,rfl,hm,h⟩:=h
 refine ⟨a,c,rfl,hm,fun j hj=> ?_⟩
 obtain ⟨g,o,h1,h2⟩:=h j hj
 exact ⟨g,o,h1,by rw [hk _ ⟨_,h2⟩];exact h2⟩
theorem RdU.some {w:World} {v:Value} {xs:List Int} (h:RdU w v xs) (hn:0 < xs.length):∃g o c,v= .slice (some ⟨g,o,none⟩) xs.length c∧xs.length≤maxLen∧∀j,j < xs.length→w.cell? ⟨g,o+j,none⟩=some (.int .u8 (xs.getD j 0)):=by
 obtain ⟨a,c,rfl,hm,h⟩:=h
 obtain ⟨g,o,rfl,-⟩:=h 0 hn
 refine ⟨g,o,c,rfl,hm,fun j hj=> ?_⟩
 obtain ⟨g',o',h1,h2⟩:=h j hj
 cases h1;exact h2
end Go.Proofs.YtjpjafajploiaaaGreatDoor
