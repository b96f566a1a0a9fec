/-
  Rows of things of two cells: copy, clear, set apart from any program.
-/
import Derived.Test.YtjpjafajploiaaaGreatDoorUnixAlone06
import Derived.Shelf.Spec.SlicesInsertGrow
set_option linter.unusedSimpArgs false
set_option linter.unusedVariables false
namespace Go.Proofs.YtjpjafajploiaaaGreatDoor.Two
open Go.RowKit Own RegJ
theorem add0 (g o j:Nat):(⟨g,o,none⟩:Addr).add j=⟨g,o+j,none⟩:=by
 unfold Addr.add
 by_cases h0:j=0
 ·subst h0;rfl
 ·rw [if_neg h0]
theorem run_copy2 {P:Program} (w:World) (dT sT ty elem:TypeId) (b o dLen dCap:Nat) (a:Addr) (sLen sCap:Nat) (ys:List V2)
  (hu:P.underlying dT=some (.slice elem)) (hs:(P.info? elem).map (·.size)=some 2) (hn:ys.length=Nat.min sLen dLen)
  (hsrc:∀j v,(cells2 ys)[j]? =some v→w.cell? (a.add j)=some v) (hc:∀j,j < ys.length*2→(w.cell? ⟨b,o+j,none⟩).isSome=true) (hf:∀j,j < ys.length*2→w.frozen? ⟨b,o+j,none⟩=false) (h1:One2 ys):
  (Builtin.copy_ #[dT,sT] ty #[.slice (some ⟨b,o,none⟩) dLen dCap,.slice (some a) sLen sCap]).run P w= .ok (goInt ys.length) (w.setCells b o (cells2 ys)):=by
 have hlen:=cells2_len ys
 have hl:=run_loadCells_list (P:=P) w a (cells2 ys) hsrc
 have hst:=run_storeCells_cells (P:=P) b o (cells2 ys) 0 w (by simpa [hlen] using hc) (by simpa [hlen] using hf) h1.cells
 rw [hlen] at hl
 cases hq:P.info? elem with
 | none=> simp [hq] at hs
 | some i=>
  have hi:i.size=2:=by simpa [hq] using hs
  simp [Builtin.copy_,run_underlying hu,Builtin.lenOf,Builtin.firstCells,sizeOf,typeInfo,hq,hi,←hn,hl,hst]
theorem zeroCells2 (z1 z2:Value) (n:Nat):(Builtin.zeroCells #[z1,z2] n).toList=cells2 (List.replicate n (z1,z2)):=by
 induction n with
 | zero=> simp [Builtin.zeroCells,cells2]
 | succ n ih=>
  have hl:=cells2_len (List.replicate n (z1,z2))
  rw [List.length_replicate] at hl
  rw [List.replicate_succ',cells2_app,←ih]
  apply List.ext_getElem?
  intro j
  simp only [Builtin.zeroCells,Array.toList_ofFn,List.getElem?_append,List.getElem?_ofFn,List.length_ofFn,cells2,List.flatMap_cons,List.flatMap_nil,List.append_nil]
  by_cases h1:j < n*2
  ·have:j < (n+1)*2:=by omega
   simp [h1,this]
  ·by_cases h2:j < (n+1)*2
   ·have h3:j=n*2∨j=n*2+1:=by omega
    rcases h3 with rfl | rfl
    ·simp [h1,h2]
    ·have e1:(n*2+1) % 2=1:=by omega
     have e2:n*2+1 - n*2=1:=by omega
     simp [h1,h2,e1,e2]
   ·have e:j - n*2=(j - n*2 - 2)+2:=by omega
    simp [h1,h2]
    rw [e];simp
theorem run_clear2 {P:Program} (w:World) (t e ty:TypeId) (z1 z2:Value) (ht:P.underlying t=some (.slice e)) (hv:∀w,(zeroValue e).run P w= .ok (.agg #[z1,z2]) w) (h1:z1.oneCell' =true) (h2:z2.oneCell' =true) (b o n c:Nat) (hn:0 < n)
  (hc:∀j,j < n*2→(w.cell? ⟨b,o+j,none⟩).isSome=true) (hf:∀j,j < n*2→w.frozen? ⟨b,o+j,none⟩=false):
  (Builtin.clear_ #[t] ty #[.slice (some ⟨b,o,none⟩) n c]).run P w= .ok (.tuple #[]) (w.setCells b o (cells2 (List.replicate n (z1,z2)))):=by
 have hl:=cells2_len (List.replicate n (z1,z2))
 rw [List.length_replicate] at hl
 have hone:One2 (List.replicate n (z1,z2)):=by
  intro a ha;rw [List.eq_of_mem_replicate ha];exact ⟨h1,h2⟩
 have hst:=run_storeCells_cells (P:=P) b o (cells2 (List.replicate n (z1,z2))) 0 w (by simpa [hl] using hc) (by simpa [hl] using hf) hone.cells
 simp only [Nat.add_zero] at hst
 have hz:=zeroCells2 z1 z2 n
 obtain ⟨m,rfl⟩:∃m,n=m+1:=⟨n - 1,by omega⟩
 simp [Builtin.clear_,run_underlying ht,hv,Value.cells,hz,hst]
end Go.Proofs.YtjpjafajploiaaaGreatDoor.Two
