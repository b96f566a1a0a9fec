/-
  The program's table of nodes, as it lies: which blocks it owns, what they hold; get, Len, the first free place.
-/
import Derived.Test.YtjpjafajploiaaaGreatDoorUnixAlone09
import Derived.Test.YtjpjafajploiaaaGreatDoorUnixAlone13
set_option linter.unusedSimpArgs false
set_option linter.unusedVariables false
namespace Go.Proofs.YtjpjafajploiaaaGreatDoor
open Go.RowKit Own RegJ Two
open Go.Lib hiding intOf
structure Nd where
 dir:Bool
 links:Int
 opens:Int
 es:List En
 bs:List Int
inductive Rl where
 | tab
 | node (i:Nat)
 | ents (i:Nat)
 | st (r:SRl)
abbrev Lo:=Rl→Option Nat
def ptr (o:Option Nat):Value:=match o with | some k=> .pointer (some ⟨k,0,none⟩) | none=> .pointer none
def tabCells (lo:Lo):Array Value:=(ptr (lo (.st .sto))::(List.range 16).map fun i=> ptr (lo (.node i))).toArray
def soOf (lo:Lo):SRl→Option Nat:=fun r=> lo (.st r)
def filesOf (ns:Nat→Option Nd):Sfs:=fun i=> match ns i with
 | some nd=> if nd.dir=true then none else some nd.bs
 | none=> none
structure TB [Inhabited CapT] (w:World) (tb:Nat) (ns:Nat→Option Nd) (lo:Lo) (N:Nat):Prop where
 inj:∀r r' k,lo r=some k→lo r' =some k→r=r'
 lt:∀r k,lo r=some k→k < w.heap.size
 at' :lo .tab=some tb
 sto:St w (soOf lo) (filesOf ns) capN N
 tab:Blk w tb (tabCells lo) 223
 none' :∀i,ns i=none→lo (.node i)=none
 far:∀i,16≤i→ns i=none
 node:∀i nd,ns i=some nd→∃k v,lo (.node i)=some k∧Blk w k #[.bool nd.dir,.int .i64 nd.links,.int .i64 nd.opens,v] 220∧Row2 w 188 v (nd.es.map enV) (lo (.ents i))∧nd.es.length≤8∧Srt nd.es
theorem tab_at (lo:Lo) (i:Nat) (hi:i < 16):(tabCells lo)[i+1]? =some (ptr (lo (.node i))):=by
 unfold tabCells
 simp [hi]
section
variable {w:World} {tb:Nat} {ns:Nat→Option Nd} {lo:Lo} {N:Nat}
theorem TB.cell [Inhabited CapT] (h:TB w tb ns lo N) (i:Nat) (hi:i < 16):w.cell? ⟨tb,1+i,none⟩=some (ptr (lo (.node i))):=by
 rw [h.tab.rd,Nat.add_comm];exact tab_at lo i hi
set_option maxRecDepth 100000 in
theorem get_out (tb:Nat) (id:Int) (hid:id < 0∨16≤id) (w:World):
  Calls Tryz.prog 72 #[.pointer (some ⟨tb,0,none⟩),.int .i64 id] w fun e w' => e= .returned (.pointer none)∧w=w' :=by
 by_cases h0:id < 0
 ·have d1:decide (id < 0)=true:=by simpa using h0
  clear hid h0
  go_enter Tryz.func72,Tryz.ntmps72
  go_wp2
  go_ret
  exact ⟨rfl,rfl⟩
 ·have d1:decide (id < 0)=false:=by simpa using h0
  have d2:decide (id≥16)=true:=by simp;omega
  clear hid h0
  go_enter Tryz.func72,Tryz.ntmps72
  go_wp2
  go_ret
  exact ⟨rfl,rfl⟩
set_option maxRecDepth 100000 in
theorem get_in [Inhabited CapT] (h:TB w tb ns lo N) (i:Nat) (hi:i < 16):
  Calls Tryz.prog 72 #[.pointer (some ⟨tb,0,none⟩),.int .i64 i] w fun e w' => e= .returned (ptr (lo (.node i)))∧w=w' :=by
 have c1:=h.cell i hi
 have d1:decide ((i:Int) < 0)=false:=by simp
 have d2:decide ((i:Int)≥16)=false:=by simp;omega
 have i1:(i:Int) < 16:=by omega
 have i2:(0:Int)≤i:=by omega
 generalize ptr (lo (.node i))=p at*
 clear h hi
 go_enter Tryz.func72,Tryz.ntmps72
 go_wp2
 go_ret
 exact ⟨rfl,rfl⟩
theorem TB.is [Inhabited CapT] (h:TB w tb ns lo N) {i:Nat} {nd:Nd} (hi:ns i=some nd):i < 16∧∃k,lo (.node i)=some k:=by
 refine ⟨?_,?_⟩
 ·rcases Nat.lt_or_ge i 16 with h1 | h1
  ·exact h1
  ·rw [h.far i h1] at hi;cases hi
 ·obtain ⟨k,v,h1,_⟩:=h.node i nd hi
  exact ⟨k,h1⟩
def ndAt (ns:Nat→Option Nd) (id:Int):Option Nd:=if 0≤id then ns id.toNat else none
theorem get_is [Inhabited CapT] (h:TB w tb ns lo N) (id:Int) (p:Option Nat) (hp:match ndAt ns id with | some _=> lo (.node id.toNat)=p | none=> p=none):
  Calls Tryz.prog 72 #[.pointer (some ⟨tb,0,none⟩),.int .i64 id] w fun e w' => e= .returned (ptr p)∧w=w' :=by
 by_cases h0:0≤id∧id < 16
 ·obtain ⟨i,rfl⟩:∃i:Nat,id=i:=⟨id.toNat,by omega⟩
  have:=get_in h i (by omega)
  unfold ndAt at hp
  rw [if_pos h0.1] at hp
  simp only [Int.toNat_natCast] at hp
  cases hn:ns i with
  | none=> rw [hn] at hp;rw [h.none' i hn] at this;rw [hp];exact this
  | some nd=> rw [hn] at hp;rw [←hp];exact this
 ·have hx:ndAt ns id=none:=by
   unfold ndAt
   split
   ·rename_i h1;exact h.far _ (by omega)
   ·rfl
  rw [hx] at hp
  rw [hp]
  exact get_out tb id (by omega) w
def lenN (ns:Nat→Option Nd):Nat→Nat
 | 0=> 0
 | i+1=> lenN ns i+(if (ns i).isSome then 1 else 0)
theorem lenN_le (ns:Nat→Option Nd):∀i,lenN ns i≤i
 | 0=> Nat.le_refl _
 | i+1=> by have:=lenN_le ns i;unfold lenN;split <;> omega
set_option maxRecDepth 100000 in
theorem len_is [Inhabited CapT] (h:TB w tb ns lo N):Calls Tryz.prog 31 #[.pointer (some ⟨tb,0,none⟩)] w fun e w' => e= .returned (.int .i64 (lenN ns 16))∧w=w' :=by
 have H:=Lib.hid h
 clear h
 go_enter Tryz.func31,Tryz.ntmps31
 go_wp2
 go_loopw [3,5] (fun v3 v5 wr=> ∃i:Nat,i≤16∧v5= .int .i64 i∧v3= .int .i64 (lenN ns i)∧wr=w) (fun _ v5 _=> 16 - (intOf v5).toNat)
 case atStart=> exact ⟨0,by omega,rfl,rfl,rfl⟩
 case round=>
  obtain ⟨i,hi,rfl,rfl,rfl⟩:=hrel
  by_cases hil:i < 16
  ·have d1:decide ((i:Int) < 16)=true:=by simp;omega
   have d1n:decide (i < 16)=true:=by simp;omega
   have hg:=get_in H.out i hil
   have hle:=lenN_le ns i
   have e1:lenN ns (i+1)=lenN ns i+(if (ns i).isSome then 1 else 0):=rfl
   generalize lenN ns i=c at*
   cases hn:ns i with
   | none=>
    rw [H.out.none' i hn] at hg
    rw [hn] at e1
    have HE:=Lib.hid e1
    clear e1 hn
    unfold ptr at hg
    go_wp2_with (go_at_call 72;refine hg.mono ?_;rintro e w' ⟨rfl,rfl⟩)
    go_roundw
    case rel=> exact ⟨i+1,by omega,by go_num,by rw [HE.out];rfl,by trivial⟩
    case measure=> simp [intOf];omega
   | some nd=>
    obtain ⟨k,hk⟩:=(H.out.is hn).2
    rw [hk] at hg
    rw [hn] at e1
    have HE:=Lib.hid e1
    clear e1 hn hk
    unfold ptr at hg
    go_wp2_with (go_at_call 72;refine hg.mono ?_;rintro e w' ⟨rfl,rfl⟩)
    go_roundw
    case rel=> exact ⟨i+1,by omega,by go_num,by rw [HE.out];simp,by trivial⟩
    case measure=> simp [intOf];omega
  ·have hie:i=16:=by omega
   subst hie
   go_wp2_with (fail)
   go_ret
   exact ⟨rfl,rfl⟩
def freeI (ns:Nat→Option Nd) (r:Int):Prop:=(r= -1∧∀j,j < 16→ns j≠none)∨∃i:Nat,r=i∧i < 16∧ns i=none∧∀j,j < i→ns j≠none
theorem nil_eq (k:Nat) (w:World):(binOp .eql 145 (.pointer none) (.pointer (some ⟨k,0,none⟩))).run Tryz.prog w= .ok (.bool false) w:=by kernel_rfl
set_option maxRecDepth 100000 in
theorem index_is [Inhabited CapT] (h:TB w tb ns lo N):Calls Tryz.prog 223 #[.slice (some ⟨tb,1,none⟩) 16 16,.pointer none] w fun e w' => (∃r,e= .returned (.int .i64 r)∧freeI ns r)∧Below w.heap.size w w' :=by
 have H:=Lib.hid h
 clear h
 go_enter Tryz.func223,Tryz.ntmps223
 go_wp2
 go_loopw [8] (fun v8 wr=> ∃i:Nat,i≤16∧v8= .int .i64 i∧Hid (∀j,j < i→ns j≠none)∧wr=w) (fun v8 _=> 16 - (intOf v8).toNat)
 case atStart=> exact ⟨0,by omega,rfl,Lib.hid (fun j hj=> by omega),rfl⟩
 case round=>
  obtain ⟨i,hi,rfl,HA,rfl⟩:=hrel
  by_cases hil:i < 16
  ·have d1:decide ((i:Int) < 16)=true:=by simp;omega
   have d1n:decide (i < 16)=true:=by simp;omega
   have i1:(i:Int) < 16:=by omega
   have i2:(0:Int)≤i:=by omega
   have c1:=H.out.cell i hil
   cases hn:ns i with
   | none=>
    rw [H.out.none' i hn] at c1
    have HE:=Lib.hid hn
    clear hn
    unfold ptr at c1
    go_wp2_with (fail)
    go_ret
    exact ⟨⟨_,rfl,Or.inr ⟨i,rfl,hil,HE.out,HA.out⟩⟩,Below.refl _ _⟩
   | some nd=>
    obtain ⟨k,hk⟩:=(H.out.is hn).2
    rw [hk] at c1
    have HE:=Lib.hid hn
    clear hn hk
    unfold ptr at c1
    have hcm:=nil_eq k
    go_wp2_with (fail)
    go_roundw
    case rel=> exact ⟨i+1,by omega,by go_num,Lib.hid (fun j hj=> by
     by_cases hji:j < i
     ·exact HA.out j hji
     ·have:j=i:=by omega
      subst this;rw [HE.out];simp),by trivial⟩
    case measure=> simp [intOf];omega
  ·have hie:i=16:=by omega
   subst hie
   go_wp2_with (fail)
   go_ret
   exact ⟨⟨_,rfl,Or.inl ⟨rfl,HA.out⟩⟩,Below.refl _ _⟩
end
end Go.Proofs.YtjpjafajploiaaaGreatDoor
