/-
  New ones: frames, a store, a table.
-/
import Derived.Test.YtjpjafajploiaaaGreatDoorUnixAlone14
import Derived.Test.YtjpjafajploiaaaGreatDoorUnixAlone02
import Derived.Test.YtjpjafajploiaaaGreatDoorUnixAlone13
import Derived.Deep.CutRange
import Derived.Test.YtjpjafajploiaaaGreatDoorUnixAlone15
import Derived.Deep.RegionLaw
set_option linter.unusedSimpArgs false
set_option linter.unusedVariables false
namespace Go.Proofs.YtjpjafajploiaaaGreatDoor
open Go.RowKit Own RegJ Two
open Go.Lib hiding intOf
theorem store_new (fb:Nat) (w:World):Calls Tryz.prog 73 #[.pointer (some ⟨fb,0,none⟩)] w fun e w' => e= .returned (.pointer (some ⟨w.heap.size+1,0,none⟩))∧w' =(w.alloc (.map #[] 0)).alloc (.cells #[.pointer (some ⟨fb,0,none⟩),.map (some w.heap.size)] 226):=by
 have hmm:= @run_makeMap Tryz.prog
 go_enter Tryz.func73,Tryz.ntmps73
 go_wp2
 go_ret
 exact ⟨rfl,rfl⟩
abbrev tab0 (sb:Nat) (p:Value):Array Value:= #[.pointer (some ⟨sb,0,none⟩),p,.pointer none,.pointer none,.pointer none,.pointer none,.pointer none,.pointer none,.pointer none,.pointer none,.pointer none,.pointer none,.pointer none,.pointer none,.pointer none,.pointer none,.pointer none]
set_option maxRecDepth 100000 in
theorem inode_new (sb:Nat) (w:World):Calls Tryz.prog 74 #[.pointer (some ⟨sb,0,none⟩)] w fun e w' => e= .returned (.pointer (some ⟨w.heap.size,0,none⟩))∧w' =(w.alloc (.cells (tab0 sb (.pointer (some ⟨w.heap.size+1,0,none⟩))) 223)).alloc (.cells #[.bool true,.int .i64 0,.int .i64 0,.slice none 0 0] 220):=by
 go_enter Tryz.func74,Tryz.ntmps74
 go_wp2
 go_ret
 exact ⟨rfl,rfl⟩
theorem TB.upd [Inhabited CapT] {w w' :World} {tb:Nat} {ns:Nat→Option Nd} {lo:Lo} {N:Nat} {F:Nat→Prop} (h:TB w tb ns lo N) (hu:Upd F w w') (hF:∀r k,lo r=some k→¬F k):TB w' tb ns lo N:=by
 refine ⟨h.inj,fun r k hk=> Nat.lt_of_lt_of_le (h.lt r k hk) hu.size,h.at',h.sto.upd hu (fun r k hk=> hF _ _ hk),Blk.upd hu h.tab (hF _ _ h.at'),h.none',h.far,fun i nd hi=> ?_⟩
 obtain ⟨k,v,k1,k2,k3,k4⟩:=h.node i nd hi
 exact ⟨k,v,k1,Blk.upd hu k2 (hF _ _ k1),k3.upd hu (fun g hg=> hF _ _ hg),k4⟩
theorem TB.below [Inhabited CapT] {w w' :World} {tb:Nat} {ns:Nat→Option Nd} {lo:Lo} {N:Nat} (h:TB w tb ns lo N) (hB:Below w.heap.size w w'):TB w' tb ns lo N:=h.upd (Upd.of_below (F:=fun _=> False) hB) (fun _ _ _ h=> h)
def ns0:Nat→Option Nd:=fun i=> if i=0 then some ⟨true,0,0,[],[]⟩ else none
def lo0 (s fb bb kb:Nat):Lo:=fun r=> match r with | .tab=> some (s+2) | .node i=> if i=0 then some (s+3) else none | .ents _=> none | .st r=> so0 s (s+1) fb bb kb r
theorem lo0_st {s fb bb kb:Nat} {r:SRl} {k:Nat} (h:so0 s (s+1) fb bb kb r=some k):k=s∨k=s+1∨k=fb∨k=bb∨k=kb:=by
 cases r <;> simp [so0] at h <;> omega
theorem tb0 [Inhabited CapT] (w:World) (fb bb kb n s:Nat) (hF:FrB w fb bb kb none (fs0 n)) (n1:fb≠bb) (n2:fb≠kb) (n3:bb≠kb) (h1n:1≤n) (hc:capI=capV n) (hs:w.heap.size=s):TB ((((w.alloc (.map #[] 0)).alloc (.cells #[.pointer (some ⟨fb,0,none⟩),.map (some s)] 226)).alloc (.cells (tab0 (s+1) (.pointer (some ⟨s+3,0,none⟩))) 223)).alloc (.cells #[.bool true,.int .i64 0,.int .i64 0,.slice none 0 0] 220)) (s+2) ns0 (lo0 s fb bb kb) 0:=by
 subst hs
 have hl:=hF.lts
 have hS:=st0 hF n1 n2 n3 h1n (fun i hi=> by unfold othN at hi;rw [show (Inhabited.default:CapT)=capV n from hc] at hi;exact hi)
 have e2:((w.alloc (.map #[] 0)).alloc (.cells #[.pointer (some ⟨fb,0,none⟩),.map (some w.heap.size)] 226)).heap.size=w.heap.size+2:=by simp
 have e3:(((w.alloc (.map #[] 0)).alloc (.cells #[.pointer (some ⟨fb,0,none⟩),.map (some w.heap.size)] 226)).alloc (.cells (tab0 (w.heap.size+1) (.pointer (some ⟨w.heap.size+3,0,none⟩))) 223)).heap.size=w.heap.size+3:=by simp
 have hst:=st0 hF n1 n2 n3 h1n (fun i hi=> by unfold othN at hi;rw [show (Inhabited.default:CapT)=capV n from hc] at hi;exact hi)
 obtain ⟨f0,ls0,hI⟩:=hst
 refine ⟨?_,?_,rfl,?_,?_,?_,?_,?_⟩
 ·intro r r' k h1 h2
  cases r with
  | tab=> cases r' with
   | tab=> rfl
   | node i=> simp [lo0] at h1 h2;omega
   | ents i=> simp [lo0] at h2
   | st q=> simp only [lo0,Option.some.injEq] at h1 h2;have:=lo0_st h2;omega
  | node i=> cases r' with
   | tab=> simp [lo0] at h1 h2;omega
   | node j=> simp [lo0] at h1 h2;rw [h1.1,h2.1]
   | ents i=> simp [lo0] at h2
   | st q=>
    have h2' :=lo0_st (s:=w.heap.size) (fb:=fb) (bb:=bb) (kb:=kb) (r:=q) (k:=k) h2
    simp [lo0] at h1;omega
  | ents i=> simp [lo0] at h1
  | st q=> cases r' with
   | tab=>
    have h1' :=lo0_st (s:=w.heap.size) (fb:=fb) (bb:=bb) (kb:=kb) (r:=q) (k:=k) h1
    simp [lo0] at h2;omega
   | node j=>
    have h1' :=lo0_st (s:=w.heap.size) (fb:=fb) (bb:=bb) (kb:=kb) (r:=q) (k:=k) h1
    simp [lo0] at h2;omega
   | ents i=> simp [lo0] at h2
   | st q' => rw [hI.inj q q' k h1 h2]
 ·intro r k h1
  cases r with
  | tab=> simp [lo0] at h1;simp;omega
  | node i=> simp [lo0] at h1;simp;omega
  | ents i=> simp [lo0] at h1
  | st q=>
   have h1' :=lo0_st (s:=w.heap.size) (fb:=fb) (bb:=bb) (kb:=kb) (r:=q) (k:=k) h1
   simp;omega
 ·have e:filesOf ns0=fun _=> none:=by
   funext i
   unfold filesOf ns0
   by_cases h:i=0
   ·rw [if_pos h];rfl
   ·rw [if_neg h]
  rw [e,show capN=n from congrArg CapT.n hc]
  exact hS.upd (((Upd.refl (fun _=> False) _).alloc _).alloc _) (fun _ _ _ h=> h)
 ·exact (Blk.new' e2.symm).alloc _
 ·intro i hi
  unfold ns0 at hi
  split at hi
  ·cases hi
  ·rename_i h;simp [lo0,h]
 ·intro i hi
  unfold ns0
  rw [if_neg (by omega)]
 ·intro i nd hi
  unfold ns0 at hi
  split at hi
  ·rename_i h
   cases hi
   refine ⟨w.heap.size+3,_,by simp [lo0,h],Blk.new' e3.symm,Or.inl ⟨rfl,rfl,rfl⟩,by simp,List.Pairwise.nil⟩
  ·cases hi
end Go.Proofs.YtjpjafajploiaaaGreatDoor
/-
 A file of the store's is looked up,made;a node is made.
-/
namespace Go.Proofs.YtjpjafajploiaaaGreatDoor
open Go.RowKit Own RegJ Two
open Go.Lib hiding intOf
def loAdd (lo:Lo) (i kn:Nat):Lo:=fun r=> match r with
 | .node j=> if j=i then some kn else lo (.node j)
 | .ents j=> if j=i then none else lo (.ents j)
 | .tab=> lo .tab
 | .st q=> lo (.st q)
def loSt (lo:Lo) (so:SRl→Option Nat):Lo:=fun r=> match r with
 | .node j=> lo (.node j)
 | .ents j=> lo (.ents j)
 | .tab=> lo .tab
 | .st q=> so q
theorem loSt_old {lo:Lo} {so:SRl→Option Nat} {r:Rl} {k:Nat} (h:loSt lo so r=some k):(∃q,r= .st q∧so q=some k)∨(lo r=some k∧∀q,r≠ .st q):=by
 cases r <;> simp only [loSt] at h
 ·exact Or.inr ⟨h,by simp⟩
 ·exact Or.inr ⟨h,by simp⟩
 ·exact Or.inr ⟨h,by simp⟩
 ·exact Or.inl ⟨_,rfl,h⟩
def nsPut (ns:Nat→Option Nd) (i:Nat) (nd:Option Nd):Nat→Option Nd:=fun j=> if j=i then nd else ns j
theorem loAdd_old {lo:Lo} {i kn:Nat} {r:Rl} {k:Nat} (h:loAdd lo i kn r=some k):lo r=some k∨(r= .node i∧k=kn):=by
 cases r <;> simp only [loAdd] at h
 ·exact Or.inl h
 ·split at h
  ·rename_i e;subst e;cases h;exact Or.inr ⟨rfl,rfl⟩
  ·exact Or.inl h
 ·split at h
  ·cases h
  ·exact Or.inl h
 ·exact Or.inl h
theorem TB.store [Inhabited CapT] {w w' :World} {tb:Nat} {ns ns' :Nat→Option Nd} {lo:Lo} {N N' :Nat} {so:SRl→Option Nat} (h:TB w tb ns lo N) (hS:St w' so (filesOf ns') capN N') (hF:OFr (soOf lo) so w w') (hs:so .sto=soOf lo .sto)
  (hn:∀i,(ns' i).isSome=(ns i).isSome) (hnd:∀i nd,ns' i=some nd→∃nd0,ns i=some nd0∧nd.dir=nd0.dir∧nd.links=nd0.links∧nd.opens=nd0.opens∧nd.es=nd0.es):TB w' tb ns' (loSt lo so) N' :=by
 have hoth:∀r k,lo r=some k→(∀q,r≠ .st q)→¬∃q,soOf lo q=some k:=fun r k hk h1 ⟨q,hq⟩=> h1 q (h.inj r (.st q) k hk hq)
 have hnew:∀q k,so q=some k→(∃q',lo (.st q')=some k)∨w.heap.size≤k:=fun q k hk=> hF.2 q k hk
 obtain ⟨f,ls,hI⟩:=hS
 have hsz:=hF.1.size
 refine ⟨fun r r' k h1 h2=> ?_,fun r k h1=> ?_,h.at',⟨f,ls,hI⟩,?_,fun j hj=> ?_,fun j hj=> ?_,fun j nd hj=> ?_⟩
 ·rcases loSt_old h1 with ⟨q,rfl,g1⟩ | ⟨g1,e1⟩
  ·rcases loSt_old h2 with ⟨q',rfl,g2⟩ | ⟨g2,e2⟩
   ·rw [hI.inj q q' k g1 g2]
   ·rcases hnew q k g1 with ⟨q',e⟩ | e
    ·exact absurd (h.inj _ _ _ g2 e) (e2 q')
    ·have:=h.lt _ _ g2;omega
  ·rcases loSt_old h2 with ⟨q',rfl,g2⟩ | ⟨g2,e2⟩
   ·rcases hnew q' k g2 with ⟨q,e⟩ | e
    ·exact absurd (h.inj _ _ _ g1 e) (e1 q)
    ·have:=h.lt _ _ g1;omega
   ·exact h.inj r r' k g1 g2
 ·rcases loSt_old h1 with ⟨q,rfl,g1⟩ | ⟨g1,e1⟩
  ·exact hI.lt q k g1
  ·have:=h.lt r k g1;omega
 ·have e:tabCells (loSt lo so)=tabCells lo:=by
   unfold tabCells loSt
   simp only
   rw [hs];rfl
  rw [e]
  exact Blk.upd hF.1 h.tab (hoth _ _ h.at' (by simp))
 ·have:=hn j
  rw [hj] at this
  cases h1:ns j with
  | none=> exact h.none' j h1
  | some x=> rw [h1] at this;cases this
 ·have:=hn j
  rw [h.far j hj] at this
  cases h1:ns' j with
  | none=> rfl
  | some x=> rw [h1] at this;cases this
 ·obtain ⟨nd0,h0,e1,e2,e3,e4⟩:=hnd j nd hj
  obtain ⟨k,v,k1,k2,k3,k4⟩:=h.node j nd0 h0
  rw [e1,e2,e3,e4]
  exact ⟨k,v,k1,Blk.upd hF.1 k2 (hoth _ _ k1 (by simp)),k3.upd hF.1 (fun g hg=> hoth _ _ hg (by simp)),k4⟩
theorem TB.add [Inhabited CapT] {w w' :World} {tb:Nat} {ns:Nat→Option Nd} {lo:Lo} {N N' :Nat} {so:SRl→Option Nat} (h:TB w tb ns lo N) {i:Nat} (hi:i < 16) (hn:ns i=none) (dir:Bool) (kn:Nat)
  (hkn:w.heap.size≤kn) (hkn' :kn < w'.heap.size) (hu:Upd (fun k=> k=tb∨∃q,soOf lo q=some k) w w') (hb:Blk w' kn #[.bool dir,.int .i64 0,.int .i64 1,.slice none 0 0] 220) (ht:Blk w' tb (tabCells (loAdd lo i kn)) 223)
  (hS:St w' so (filesOf (nsPut ns i (some ⟨dir,0,1,[],[]⟩))) capN N') (hs:so .sto=soOf lo .sto) (hso:∀q k,so q=some k→(∃q',lo (.st q')=some k)∨(w.heap.size≤k∧k≠kn)):TB w' tb (nsPut ns i (some ⟨dir,0,1,[],[]⟩)) (loSt (loAdd lo i kn) so) N' :=by
 have hoth:∀r k,lo r=some k→r≠ .tab→(∀q,r≠ .st q)→¬(k=tb∨∃q,soOf lo q=some k):=fun r k hk h1 h2 hh=> by
  rcases hh with hh | ⟨q,hh⟩
  ·exact h1 (h.inj r .tab k hk (by rw [hh];exact h.at'))
  ·exact h2 q (h.inj r (.st q) k hk hh)
 obtain ⟨f,ls,hI⟩:=hS
 have hsz:=hu.size
 refine ⟨fun r r' k h1 h2=> ?_,fun r k h1=> ?_,h.at',⟨f,ls,hI⟩,?_,fun j hj=> ?_,fun j hj=> ?_,fun j nd hj=> ?_⟩
 ·rcases loSt_old h1 with ⟨q,rfl,g1⟩ | ⟨g1,e1⟩
  ·rcases loSt_old h2 with ⟨q',rfl,g2⟩ | ⟨g2,e2⟩
   ·rw [hI.inj q q' k g1 g2]
   ·rcases loAdd_old g2 with g3 | ⟨e3,g3⟩
    ·rcases hso q k g1 with ⟨q',e⟩ | e
     ·exact absurd (h.inj _ _ _ g3 e) (e2 q')
     ·have:=h.lt _ _ g3;omega
    ·rcases hso q k g1 with ⟨q',e⟩ | e
     ·have:=h.lt _ _ e;omega
     ·exact absurd g3 e.2
  ·rcases loSt_old h2 with ⟨q',rfl,g2⟩ | ⟨g2,e2⟩
   ·rcases loAdd_old g1 with g3 | ⟨e3,g3⟩
    ·rcases hso q' k g2 with ⟨q,e⟩ | e
     ·exact absurd (h.inj _ _ _ g3 e) (e1 q)
     ·have:=h.lt _ _ g3;omega
    ·rcases hso q' k g2 with ⟨q,e⟩ | e
     ·have:=h.lt _ _ e;omega
     ·exact absurd g3 e.2
   ·rcases loAdd_old g1 with g3 | ⟨e3,g3⟩
    ·have hl1:=h.lt r k g3
     rcases loAdd_old g2 with g4 | ⟨e4,g4⟩
     ·exact h.inj r r' k g3 g4
     ·omega
    ·rcases loAdd_old g2 with g4 | ⟨e4,g4⟩
     ·have:=h.lt r' k g4;omega
     ·rw [e3,e4]
 ·rcases loSt_old h1 with ⟨q,rfl,g1⟩ | ⟨g1,e1⟩
  ·exact hI.lt q k g1
  ·rcases loAdd_old g1 with g3 | ⟨e3,g3⟩
   ·have:=h.lt r k g3;omega
   ·omega
 ·have e:tabCells (loSt (loAdd lo i kn) so)=tabCells (loAdd lo i kn):=by
   unfold tabCells loSt
   simp only
   rw [hs];rfl
  rw [e];exact ht
 ·unfold nsPut at hj
  split at hj
  ·cases hj
  ·rename_i e;simp only [loSt,loAdd];rw [if_neg e];exact h.none' j hj
 ·unfold nsPut
  rw [if_neg (by omega)];exact h.far j hj
 ·unfold nsPut at hj
  split at hj
  ·rename_i e;subst e;cases hj
   exact ⟨kn,_,by simp [loSt,loAdd],hb,by simp only [loSt,loAdd,if_pos rfl];exact Or.inl ⟨rfl,rfl,rfl⟩,by simp,List.Pairwise.nil⟩
  ·rename_i e
   obtain ⟨k,v,k1,k2,k3,k4⟩:=h.node j nd hj
   refine ⟨k,v,by simp only [loSt,loAdd];rw [if_neg e];exact k1,Blk.upd hu k2 (hoth _ _ k1 (by simp) (by simp)),?_,k4⟩
   simp only [loSt,loAdd]
   rw [if_neg e]
   exact k3.upd hu (fun g hg=> hoth _ _ hg (by simp) (by simp))
theorem files_dir {ns:Nat→Option Nd} {i:Nat} (hn:ns i=none):filesOf (nsPut ns i (some ⟨true,0,1,[],[]⟩))=filesOf ns:=by
 funext j
 unfold filesOf nsPut
 by_cases h:j=i
 ·rw [if_pos h,h,hn];rfl
 ·rw [if_neg h]
theorem files_new (ns:Nat→Option Nd) (i:Nat):filesOf (nsPut ns i (some ⟨false,0,1,[],[]⟩))=fsPut (filesOf ns) i (some []):=by
 funext j
 unfold filesOf nsPut fsPut
 by_cases h:j=i
 ·rw [if_pos h,if_pos h];rfl
 ·rw [if_neg h,if_neg h]
theorem blk_tab {w:World} {tb:Nat} {lo:Lo} {T:TypeId} (h:Blk w tb (tabCells lo) T) (i:Nat) (hi:i < 16):w.cell? ⟨tb,1+i,none⟩=some (ptr (lo (.node i))):=by rw [h.rd,Nat.add_comm];exact tab_at lo i hi
theorem tabCells_set (lo:Lo) (i kn:Nat) (hi:i < 16):(tabCells lo).setIfInBounds (i+1) (.pointer (some ⟨kn,0,none⟩))=tabCells (loAdd lo i kn):=by
 apply Array.ext_getElem?
 intro j
 rw [Array.getElem?_setIfInBounds]
 unfold tabCells
 by_cases hj:i+1=j
 ·subst hj
  simp [hi,loAdd,ptr]
 ·rw [if_neg hj]
  cases j with
  | zero=> simp [loAdd]
  | succ j=>
   have hji:j≠i:=fun e=> hj (by omega)
   simp only [List.getElem?_toArray,List.getElem?_cons_succ,List.getElem?_map]
   by_cases h16:j < 16
   ·simp [h16,loAdd,hji]
   ·simp [h16]
def TFr (lo lo' :Lo) (w w' :World):Prop:=Upd (fun k=> ∃r,lo r=some k) w w' ∧(∀r k,lo' r=some k→(∃r',lo r' =some k)∨w.heap.size≤k)∧lo' (.st .sto)=lo (.st .sto)∧lo' (.st .frm)=lo (.st .frm)
def MakeP [Inhabited CapT] (w:World) (tb:Nat) (ns:Nat→Option Nd) (lo:Lo) (N:Nat) (dir:Bool) (r:Int) (e:Ending) (w' :World):Prop:=
 (r= -1∧e= .returned (.tuple #[.int .i64 0,.int .i64 15])∧TB w' tb ns lo N∧Below w.heap.size w w')∨
 ∃i:Nat,r=i∧e= .returned (.tuple #[.int .i64 i,.int .i64 0])∧∃lo',TB w' tb (nsPut ns i (some ⟨dir,0,1,[],[]⟩)) lo' (N+1)∧TFr lo lo' w w'
set_option maxRecDepth 100000 in
set_option maxHeartbeats 1000000 in
theorem make_is [Inhabited CapT] {w:World} {tb:Nat} {ns:Nat→Option Nd} {lo:Lo} {N:Nat} (h:TB w tb ns lo N) (hN:N≤10000) (dir:Bool):
  Calls Tryz.prog 185 #[.pointer (some ⟨tb,0,none⟩),.bool dir] w fun e w' => ∃r,freeI ns r∧MakeP w tb ns lo N dir r e w' :=by
 have hix:=index_is h
 have H:=Lib.hid h
 clear h
 go_enter Tryz.func185,Tryz.ntmps185
 go_upto_region 4 with (go_at_call 223;refine hix.mono ?_;rintro e w1 ⟨⟨r,rfl,hf⟩,hB⟩;have HF:=Lib.hid (And.intro hf hB);clear hix hf hB)
 have HT:=Lib.hid (H.out.below HF.out.2)
 rcases HF.out.1 with ⟨rfl,hno⟩ | ⟨i,rfl,hi,hn,hall⟩
 ·clear hno
  go_wp2_with (fail)
  go_returns
  exact ⟨-1,HF.out.1,Or.inl ⟨rfl,rfl,HT.out,HF.out.2⟩⟩
 ·have HI:=Lib.hid (And.intro hi (And.intro hn hall))
  have htb:=HT.out.tab.alloc (.cells #[.bool dir,.int .i64 0,.int .i64 1,.slice none 0 0] 220)
  have k0:=blk_tab htb i hi
  have nf:=htb.nf
  clear htb
  have d1:decide ((i:Int) < 0)=false:=by simp
  have i1:(i:Int) < 16:=by omega
  have i2:(0:Int)≤i:=by omega
  rw [HT.out.none' i hn] at k0
  unfold ptr at k0
  clear hall hn hi
  go_upto_region 7 with (fail)
  obtain ⟨sb,s1,hsbl⟩:=HT.out.sto.sto
  have hlt:=HT.out.lt
  have htbl:=hlt _ _ HT.out.at'
  have hst:sb≠tb:=fun e=> by have:=HT.out.inj _ _ _ s1 (e▸HT.out.at');cases this
  have htb2:Blk ((w1.alloc (.cells #[.bool dir,.int .i64 0,.int .i64 1,.slice none 0 0] 220)).setCell ⟨tb,1+i,none⟩ (.pointer (some ⟨w1.heap.size,0,none⟩))) tb ((tabCells lo).setIfInBounds (i+1) (.pointer (some ⟨w1.heap.size,0,none⟩))) 223:=by
   rw [Nat.add_comm i 1];exact (HT.out.tab.alloc _).set _ _
  have hnd2:Blk ((w1.alloc (.cells #[.bool dir,.int .i64 0,.int .i64 1,.slice none 0 0] 220)).setCell ⟨tb,1+i,none⟩ (.pointer (some ⟨w1.heap.size,0,none⟩))) w1.heap.size #[.bool dir,.int .i64 0,.int .i64 1,.slice none 0 0] 220:=(Blk.new _ _ _).set_ne (by show w1.heap.size≠tb;omega) _
  have hu2:Upd (fun k=> k=tb) w1 ((w1.alloc (.cells #[.bool dir,.int .i64 0,.int .i64 1,.slice none 0 0] 220)).setCell ⟨tb,1+i,none⟩ (.pointer (some ⟨w1.heap.size,0,none⟩))):=((Upd.refl (fun k=> k=tb) w1).alloc _).setCell (p:=⟨tb,1+i,none⟩) (fun _=> rfl) _
  generalize (w1.alloc (.cells #[.bool dir,.int .i64 0,.int .i64 1,.slice none 0 0] 220)).setCell ⟨tb,1+i,none⟩ (.pointer (some ⟨w1.heap.size,0,none⟩))=w2 at htb2 hnd2 hu2 ⊢
  have hkn2:=hnd2.lt
  have c0:w2.cell? ⟨tb,0,none⟩=some (.pointer (some ⟨sb,0,none⟩)):=by
   have s1' :lo (.st .sto)=some sb:=s1
   rw [htb2.rd];simp [tabCells,s1',ptr]
  have hS2:St w2 (soOf lo) (filesOf ns) capN N:=HT.out.sto.upd hu2 (fun r k hk e=> by have:=HT.out.inj _ _ _ hk (e▸HT.out.at');cases this)
  have htf0:∀so w3,OFr (soOf lo) so w2 w3→(∀q k,so q=some k→(∃q',lo (.st q')=some k)∨w2.heap.size≤k)→so .sto=soOf lo .sto→so .frm=soOf lo .frm→TFr lo (loSt (loAdd lo i w1.heap.size) so) w w3:=fun so w3 hF hq hs1 hs2=> by
   refine ⟨((Upd.of_below (F:=fun k=> ∃r,lo r=some k) HF.out.2).trans (hu2.mono (fun k _ (e:k=tb)=> ⟨Rl.tab,by rw [e];exact HT.out.at'⟩)) (fun _ _ h=> h)).trans (hF.1.mono (fun k _ ⟨q,hq⟩=> ⟨.st q,hq⟩)) (fun _ _ h=> h),fun r k hr=> ?_,hs1,hs2⟩
   have z1:=HF.out.2.size
   have z2:=hu2.size
   rcases loSt_old hr with ⟨q,_,g⟩ | ⟨g,_⟩
   ·rcases hq q k g with ⟨q',e⟩ | e
    ·exact Or.inl ⟨_,e⟩
    ·exact Or.inr (by omega)
   ·rcases loAdd_old g with g | ⟨_,g⟩
    ·exact Or.inl ⟨r,g⟩
    ·exact Or.inr (by omega)
  have z2:=hu2.size
  cases dir with
  | true=>
   have HG:Hid (∃lo',TB w2 tb (nsPut ns i (some ⟨true,0,1,[],[]⟩)) lo' (N+1)∧TFr lo lo' w w2):=Lib.hid ⟨_,HT.out.add HI.out.1 HI.out.2.1 true w1.heap.size (Nat.le_refl _) hkn2 (hu2.mono (fun k _ e=> Or.inl e)) hnd2 (by rw [←tabCells_set lo i _ HI.out.1];exact htb2) (by rw [files_dir HI.out.2.1];exact hS2.le (by omega)) rfl (fun q k hk=> Or.inl ⟨q,hk⟩),htf0 (soOf lo) w2 (OFr.refl _ _) (fun q k hk=> Or.inl ⟨q,hk⟩) rfl rfl⟩
   clear htb2 hnd2 hu2 hS2 htf0
   go_wp2_with (fail)
   go_returns
   exact ⟨i,HF.out.1,Or.inr ⟨i,rfl,rfl,HG.out⟩⟩
  | false=>
   have hmi:filesOf ns i=none:=by unfold filesOf;rw [HI.out.2.1]
   have hmk:=s_make hS2 sb s1 i HI.out.1 hmi (by omega)
   have HK:=Lib.hid (And.intro htb2 (And.intro hnd2 (And.intro hu2 htf0)))
   clear htb2 hnd2 hu2 hS2 htf0 hmi
   go_wp2_with (go_at_call 224;(with_reducible refine hmk.mono ?_);rintro e w3 ⟨rfl,so,hS3,hF3,hs3,hs4⟩;have H3:=Lib.hid (And.intro hS3 (And.intro hF3 (And.intro hs3 hs4)));clear hmk hS3 hF3 hs3 hs4)
   go_returns
   obtain ⟨htb2,hnd2,hu2,htf0⟩:=HK.out
   obtain ⟨hS3,hF3,hs3,hs4⟩:=H3.out
   have z3:=hF3.1.size
   have hq:∀q k,so q=some k→(∃q',lo (.st q')=some k)∨w2.heap.size≤k:=fun q k hk=> hF3.2 q k hk
   have hnk:∀k,(∃q,soOf lo q=some k)→k < w1.heap.size:=fun k ⟨q,hk⟩=> hlt _ _ hk
   refine ⟨i,HF.out.1,Or.inr ⟨i,rfl,rfl,_,HT.out.add (so:=so) HI.out.1 HI.out.2.1 false w1.heap.size (Nat.le_refl _) (by omega) ((hu2.mono (fun k _ e=> Or.inl e)).trans (hF3.1.mono (fun k _ e=> Or.inr e)) (fun _ _ h=> h)) (Blk.upd hF3.1 hnd2 (fun e=> by have:=hnk _ e;omega)) ?_ (by rw [files_new];exact hS3) hs3 (fun q k hk=> ?_),htf0 so w3 hF3 hq hs3 hs4⟩⟩
   ·rw [←tabCells_set lo i _ HI.out.1]
    exact Blk.upd hF3.1 htb2 (fun ⟨q,e⟩=> by have:=HT.out.inj _ _ _ e HT.out.at';cases this)
   ·rcases hq q k hk with e | e
    ·exact Or.inl e
    ·exact Or.inr (by omega)
end Go.Proofs.YtjpjafajploiaaaGreatDoor
/-
 slices.Insert at entries,at the end.
-/
namespace Go.Proofs.YtjpjafajploiaaaGreatDoor
open Go.RowKit Own RegJ Two
open Go.Lib hiding intOf
theorem infoEntry:(Tryz.prog.info? 188).map (fun i=> (i.zero,i.size,i.bytes))=some (some (.agg #[.string ByteArray.empty,.int .i64 0]),2,24):=by kernel_rfl
def InsP (b:Option Nat) (w:World) (xs:List V2) (n:Nat) (e:Ending) (w' :World):Prop:=∃a c b',e= .returned (.slice a n c)∧Row2 w' 188 (.slice a n c) xs b' ∧(∀g,b' =some g→b=some g∨w.heap.size≤g)∧Upd (fun k=> b=some k) w w'
theorem news_one {w:World} {bx:Nat} {x:V2} {T:TypeId} (hB:Blk w bx #[x.1,x.2] T):∀(j:Nat) (u:Value),(cells2 [x])[j]? =some u→w.cell? ((⟨bx,0,none⟩:Addr).add j)=some u:=by
 intro j u hj
 match j,hj with
 | 0,hj=> simp [cells2] at hj;subst hj;simpa [Addr.add] using (hB.cell (i:=0) rfl)
 | 1,hj=> simp [cells2] at hj;subst hj;simpa [Addr.add] using (hB.cell (i:=1) rfl)
 | (j+2),hj=> simp [cells2] at hj
set_option maxRecDepth 100000 in
theorem insert_end {w:World} {a:Option Addr} {n c:Nat} {xs:List V2} {b:Option Nat} (h:Row2 w 188 (.slice a n c) xs b) (hn:n≤1000) (bx:Nat) (x:V2) (hB:Blk w bx #[x.1,x.2] 188) (h1:One2 [x]):
  Calls Tryz.prog 148 #[.slice a n c,.int .i64 n,.slice (some ⟨bx,0,none⟩) 1 1] w (InsP b w (xs++ [x]) (n+1)):=by
 obtain ⟨hc,hl,hm⟩:=h.cap
 have hm' :=hm
 unfold maxLen at hm'
 have H:=Lib.hid (And.intro h (And.intro hB (And.intro h1 hl)))
 clear h hB h1 hl
 have i1:(0:Int)≤n:=by omega
 have i2:(n:Int)≤n:=by omega
 have i3:(n:Int)≤c:=by omega
 have i4:n≤c:=hc
 go_enter Tryz.func148,Tryz.ntmps148
 go_wp2_with (at_builtin;refine wp_app2 rfl _ _ 64 188 _ 24 infoEntry rfl (by decide) Tryz.underlying64 rfl _ xs b rfl H.out.1 ⟨bx,0,none⟩ 1 1 [x] rfl (by decide) rfl (news_one H.out.2.1) H.out.2.2.1 (by rw [←H.out.2.2.2];simp;omega) ?_;intro v' w1 b' hr hb hu;obtain ⟨a',c',hv'⟩:=hr.slice;rw [show (xs++ [x]).length=n+1 by rw [List.length_append,←H.out.2.2.2];rfl] at hv';subst hv';have HX:=Lib.hid (And.intro hr (And.intro hb hu));clear hr hb hu)
 all_goals go_ret
 all_goals exact ⟨a',c',b',rfl,HX.out.1,HX.out.2.1,HX.out.2.2⟩
end Go.Proofs.YtjpjafajploiaaaGreatDoor
/-
 Where a name stands in a directory;the node that it names.
-/
namespace Go.Proofs.YtjpjafajploiaaaGreatDoor
open Go.RowKit Own RegJ Two
open Go.Lib hiding intOf
def dirAt (ns:Nat→Option Nd) (id:Int):Option Nd:=match ndAt ns id with | some nd=> if nd.dir=true then some nd else none | none=> none
theorem dirAt_some {ns:Nat→Option Nd} {id:Int} {nd:Nd} (h:dirAt ns id=some nd):∃i:Nat,id=i∧ns i=some nd∧nd.dir=true:=by
 unfold dirAt ndAt at h
 by_cases h0:0≤id
 ·rw [if_pos h0] at h
  refine ⟨id.toNat,by omega,?_⟩
  cases hn:ns id.toNat with
  | none=> rw [hn] at h;cases h
  | some m=>
   rw [hn] at h
   simp only at h
   split at h
   ·rename_i hd;cases h;exact ⟨rfl,hd⟩
   ·cases h
 ·rw [if_neg h0] at h;cases h
section
variable {w:World} {tb:Nat} {ns:Nat→Option Nd} {lo:Lo} {N:Nat}
set_option maxRecDepth 100000 in
theorem find_no [Inhabited CapT] (h:TB w tb ns lo N) (dir:Int) (nm:Txt) (hd:dirAt ns dir=none):Calls Tryz.prog 119 #[.pointer (some ⟨tb,0,none⟩),.int .i64 dir,.string (B nm)] w fun e w' => e= .returned (.tuple #[.int .i64 0,.bool false,.int .i64 11])∧w=w' :=by
 cases hx:ndAt ns dir with
 | none=>
  have hg:=get_is h dir none (by rw [hx])
  unfold ptr at hg
  clear h hx hd
  generalize B nm=s at*
  go_enter Tryz.func119,Tryz.ntmps119
  go_wp2_with (go_at_call 72;refine hg.mono ?_;rintro e w' ⟨rfl,rfl⟩)
  go_returns
  exact ⟨rfl,rfl⟩
 | some nd=>
  have hdf:nd.dir=false:=by
   unfold dirAt at hd;rw [hx] at hd
   simp only at hd
   split at hd
   ·cases hd
   ·rename_i e;simpa using e
  have hns:ns dir.toNat=some nd:=by
   unfold ndAt at hx
   split at hx
   ·exact hx
   ·cases hx
  obtain ⟨k,v,k1,k2,_⟩:=h.node _ _ hns
  have hg:=get_is h dir (some k) (by rw [hx];exact k1)
  unfold ptr at hg
  have c1:=k2.rd
  rw [hdf] at c1
  clear h hx hd k2 k1 hns hdf
  generalize B nm=s at*
  go_enter Tryz.func119,Tryz.ntmps119
  go_wp2_with (go_at_call 72;refine hg.mono ?_;rintro e w' ⟨rfl,rfl⟩)
  go_returns
  exact ⟨rfl,rfl⟩
set_option maxRecDepth 100000 in
theorem find_yes [Inhabited CapT] (h:TB w tb ns lo N) (i:Nat) (nm:Txt) (nd:Nd) (hi:ns i=some nd) (hd:nd.dir=true):Calls Tryz.prog 119 #[.pointer (some ⟨tb,0,none⟩),.int .i64 i,.string (B nm)] w fun e w' => ∃j:Nat,e= .returned (.tuple #[.int .i64 j,.bool (isAt nd.es nm j),.int .i64 0])∧At nd.es nm j∧Below w.heap.size w w' :=by
 obtain ⟨k,v,k1,k2,k3,k4,k5⟩:=h.node _ _ hi
 obtain ⟨a,c,rfl⟩:=k3.slice
 have hg:=get_is h i (some k) (by unfold ndAt;rw [if_pos (by omega)];simp only [Int.toNat_natCast];rw [hi];exact k1)
 unfold ptr at hg
 have c1:=k2.rd
 rw [hd] at c1
 have hs:=search_is (w:=w) (nd.es.map enV).length c k3.rd (by rw [List.length_map]) (by rw [List.length_map];omega) k5 nm 0
 generalize (nd.es.map enV).length=n at*
 clear h hi k3 k2 k1 hd
 generalize B nm=s at*
 go_enter Tryz.func119,Tryz.ntmps119
 go_wp2_with (first
  | (go_at_call 72;refine hg.mono ?_;rintro e w' ⟨rfl,rfl⟩)
  | (go_at_call 181;refine hs.mono ?_;rintro e w1 ⟨j,rfl,hA,hB⟩;have HA:=Lib.hid (And.intro hA hB);clear hA hB hs))
 go_returns
 exact ⟨j,rfl,HA.out.1,HA.out.2⟩
set_option maxRecDepth 100000 in
theorem tfind_no [Inhabited CapT] (h:TB w tb ns lo N) (dir:Int) (nm:Txt) (hd:dirAt ns dir=none):Calls Tryz.prog 118 #[.pointer (some ⟨tb,0,none⟩),.int .i64 dir,.string (B nm)] w fun e w' => e= .returned (.tuple #[.int .i64 0,.int .i64 11])∧w=w' :=by
 have hf:=find_no h dir nm hd
 clear h hd
 generalize B nm=s at*
 go_enter Tryz.func118,Tryz.ntmps118
 go_wp2_with (go_at_call 119;refine hf.mono ?_;rintro e w' ⟨rfl,rfl⟩)
 go_returns
 exact ⟨rfl,rfl⟩
set_option maxRecDepth 100000 in
theorem tfind_yes [Inhabited CapT] (h:TB w tb ns lo N) (i:Nat) (nm:Txt) (nd:Nd) (hi:ns i=some nd) (hd:nd.dir=true):Calls Tryz.prog 118 #[.pointer (some ⟨tb,0,none⟩),.int .i64 i,.string (B nm)] w fun e w' => (∃j:Nat,At nd.es nm j∧((isAt nd.es nm j=false∧e= .returned (.tuple #[.int .i64 0,.int .i64 9]))∨∃x,nd.es[j]? =some x∧x.1=nm∧e= .returned (.tuple #[.int .i64 x.2,.int .i64 0])))∧Below w.heap.size w w' :=by
 have hf:=find_yes h i nm nd hi hd
 have H:=Lib.hid (And.intro h hi)
 clear h hi
 generalize hs:B nm=s at*
 clear hs
 go_enter Tryz.func118,Tryz.ntmps118
 go_upto_region 2 with (go_at_call 119;refine hf.mono ?_;rintro e w1 ⟨j,rfl,hA,hB⟩;have HA:=Lib.hid (And.intro hA hB);clear hA hB hf)
 cases hia:isAt nd.es nm j with
 | false=>
  have HI:=Lib.hid hia
  clear hia
  go_wp2_with (fail)
  go_returns
  exact ⟨⟨j,HA.out.1,Or.inl ⟨HI.out,rfl⟩⟩,HA.out.2⟩
 | true=>
  obtain ⟨x,hx,hxn⟩:∃x,nd.es[j]? =some x∧x.1=nm:=by
   unfold isAt at hia
   split at hia
   ·rename_i x hx;exact ⟨x,hx,by simpa using hia⟩
   ·cases hia
  have hT:=H.out.1.below HA.out.2
  obtain ⟨k,v,k1,k2,k3,k4,k5⟩:=hT.node _ _ H.out.2
  obtain ⟨a,c,rfl⟩:=k3.slice
  have hg:=get_is hT i (some k) (by unfold ndAt;rw [if_pos (by omega)];simp only [Int.toNat_natCast];rw [H.out.2];exact k1)
  unfold ptr at hg
  obtain ⟨g,rfl,r1,r2⟩:=k3.rd j (enV x) (by rw [List.getElem?_map,hx];rfl)
  have hjl:j < (nd.es.map enV).length:=by rw [List.length_map];exact (List.getElem?_eq_some_iff.1 hx).1
  generalize (nd.es.map enV).length=n at*
  have i1:(j:Int) < (n:Int):=by omega
  have i2:(0:Int)≤j:=by omega
  have c1:=k2.rd
  have r2' :w1.cell? ⟨g,j*2+1,none⟩=some (.int .i64 x.2):=r2
  have HX:=Lib.hid (And.intro hx hxn)
  clear hia hT k3 k2 k1 hx hxn r1 r2
  go_wp2_with (go_at_call 72;refine hg.mono ?_;rintro e w' ⟨rfl,rfl⟩)
  go_returns
  exact ⟨⟨j,HA.out.1,Or.inr ⟨x,HX.out.1,HX.out.2,rfl⟩⟩,HA.out.2⟩
end
end Go.Proofs.YtjpjafajploiaaaGreatDoor
/-
 An entry more. Conditions:what slices.Insert does at that place is handed in.
-/
namespace Go.Proofs.YtjpjafajploiaaaGreatDoor
open Go.RowKit Own RegJ Two
open Go.Lib hiding intOf
def insE (es:List En) (j:Nat) (x:En):List En:=es.take j++x::es.drop j
theorem insE_srt {es:List En} {j:Nat} {nm:Txt} {id:Int} (hS:Srt es) (hA:At es nm j) (hno:isAt es nm j=false):Srt (insE es j (nm,id)):=by
 unfold Srt insE at*
 rw [List.pairwise_append]
 refine ⟨hS.sublist (List.take_sublist _ _),?_,?_⟩
 ·rw [List.pairwise_cons]
  refine ⟨fun y hy=> ?_,hS.sublist (List.drop_sublist _ _)⟩
  obtain ⟨k,hk,rfl⟩:=List.getElem_of_mem hy
  rw [List.getElem_drop]
  have hk' :j+k < es.length:=by rw [List.length_drop] at hk;omega
  have h1:=hA.2.2 (j+k) es[j+k] (List.getElem?_eq_getElem hk') (by omega)
  cases hl:nlt nm es[j+k].1 with
  | true=> rfl
  | false=>
   have he:=nlt_tot _ _ h1 hl
   exfalso
   by_cases hk0:k=0
   ·subst hk0
    unfold isAt at hno
    rw [List.getElem?_eq_getElem (by omega)] at hno
    simp only [Nat.add_zero] at he
    simp [he] at hno
   ·have hj:j < es.length:=by omega
    have h2:=hA.2.2 j es[j] (List.getElem?_eq_getElem hj) (Nat.le_refl _)
    have h3:=srt_at hS (List.getElem?_eq_getElem hj) (List.getElem?_eq_getElem hk') (by omega)
    rw [he] at h3
    rw [h3] at h2;cases h2
 ·intro x hx y hy
  obtain ⟨k,hk,rfl⟩:=List.getElem_of_mem hx
  rw [List.length_take] at hk
  rw [List.getElem_take]
  have h1:=hA.2.1 k es[k] (List.getElem?_eq_getElem (by omega)) (by omega)
  rw [List.mem_cons] at hy
  rcases hy with rfl | hy
  ·exact h1
  ·obtain ⟨m,hm,rfl⟩:=List.getElem_of_mem hy
   rw [List.getElem_drop]
   exact srt_at hS (List.getElem?_eq_getElem (by omega)) (List.getElem?_eq_getElem (by rw [List.length_drop] at hm;omega)) (by omega)
theorem insE_len (es:List En) (j:Nat) (x:En):(insE es j x).length=es.length+1:=by
 unfold insE
 rw [List.length_append,List.length_cons,List.length_take,List.length_drop];omega
def loEnt (lo:Lo) (i:Nat) (b:Option Nat):Lo:=fun r=> match r with
 | .ents j=> if j=i then b else lo (.ents j)
 | .node j=> lo (.node j)
 | .tab=> lo .tab
 | .st q=> lo (.st q)
theorem loEnt_old {lo:Lo} {i:Nat} {b:Option Nat} {r:Rl} {k:Nat} (h:loEnt lo i b r=some k):(lo r=some k∧r≠ .ents i)∨(r= .ents i∧b=some k):=by
 cases r <;> simp only [loEnt] at h
 ·exact Or.inl ⟨h,by simp⟩
 ·exact Or.inl ⟨h,by simp⟩
 ·split at h
  ·rename_i e;subst e;exact Or.inr ⟨rfl,h⟩
  ·rename_i e;exact Or.inl ⟨h,by simpa using e⟩
 ·exact Or.inl ⟨h,by simp⟩
def setEs (nd:Nd) (es:List En):Nd:= {nd with es:=es}
def addL (nd:Nd) (d:Int):Nd:= {nd with links:=nd.links+d}
section
variable {w w' :World} {tb:Nat} {ns:Nat→Option Nd} {lo:Lo} {N:Nat}
theorem files_same {ns:Nat→Option Nd} {i:Nat} {nd nd' :Nd} (hi:ns i=some nd) (hd:nd'.dir=nd.dir) (hb:nd'.bs=nd.bs):filesOf (nsPut ns i (some nd'))=filesOf ns:=by
 funext j
 unfold filesOf nsPut
 by_cases h:j=i
 ·rw [if_pos h,h,hi];simp only [hd,hb]
 ·rw [if_neg h]
theorem TB.ents [Inhabited CapT] (h:TB w tb ns lo N) {i kn:Nat} {nd:Nd} {v:Value} {es:List En} {b:Option Nat} (hi:ns i=some nd) (hk:lo (.node i)=some kn) (hu:Upd (fun k=> k=kn∨lo (.ents i)=some k) w w') (hb:Blk w' kn #[.bool nd.dir,.int .i64 nd.links,.int .i64 nd.opens,v] 220)
  (hr:Row2 w' 188 v (es.map enV) b) (hbn:∀g,b=some g→lo (.ents i)=some g∨w.heap.size≤g) (h8:es.length≤8) (hS:Srt es):TB w' tb (nsPut ns i (some (setEs nd es))) (loEnt lo i b) N:=by
 have hoth:∀r k,lo r=some k→r≠ .node i→r≠ .ents i→¬(k=kn∨lo (.ents i)=some k):=fun r k hk' h1 h2 hh=> by
  rcases hh with hh | hh
  ·exact h1 (h.inj r _ k hk' (by rw [hh];exact hk))
  ·exact h2 (h.inj r _ k hk' hh)
 have hsz:=hu.size
 refine ⟨fun r r' k h1 h2=> ?_,fun r k h1=> ?_,h.at',?_,?_,fun j hj=> ?_,fun j hj=> ?_,fun j nd' hj=> ?_⟩
 ·rcases loEnt_old h1 with ⟨g1,e1⟩ | ⟨e1,g1⟩
  ·rcases loEnt_old h2 with ⟨g2,e2⟩ | ⟨e2,g2⟩
   ·exact h.inj r r' k g1 g2
   ·rcases hbn k g2 with hb' | hb'
    ·have:=h.inj r _ k g1 hb';exact absurd this e1
    ·have:=h.lt r k g1;omega
  ·rcases loEnt_old h2 with ⟨g2,e2⟩ | ⟨e2,g2⟩
   ·rcases hbn k g1 with hb' | hb'
    ·have:=h.inj r' _ k g2 hb';exact absurd this e2
    ·have:=h.lt r' k g2;omega
   ·rw [e1,e2]
 ·rcases loEnt_old h1 with ⟨g1,e1⟩ | ⟨e1,g1⟩
  ·have:=h.lt r k g1;omega
  ·exact hr.lt k g1
 ·rw [files_same hi (by rfl) (by rfl)]
  exact h.sto.upd hu (fun r k hk=> hoth _ _ hk (by simp) (by simp))
 ·exact Blk.upd hu h.tab (hoth _ _ h.at' (by simp) (by simp))
 ·unfold nsPut at hj
  split at hj
  ·cases hj
  ·exact h.none' j hj
 ·unfold nsPut
  split
  ·rename_i e;subst e;rw [h.far j hj] at hi;cases hi
  ·exact h.far j hj
 ·unfold nsPut at hj
  split at hj
  ·rename_i e;subst e;cases hj
   exact ⟨kn,v,hk,hb,by simp only [loEnt,if_pos rfl];exact hr,h8,hS⟩
  ·rename_i e
   obtain ⟨k,v',k1,k2,k3,k4⟩:=h.node j nd' hj
   refine ⟨k,v',k1,Blk.upd hu k2 (hoth _ _ k1 (by simp;exact e) (by simp)),?_,k4⟩
   simp only [loEnt]
   rw [if_neg e]
   exact k3.upd hu (fun g hg=> hoth _ _ hg (by simp) (by simp;exact e))
theorem TB.num [Inhabited CapT] (h:TB w tb ns lo N) {i kn:Nat} {nd nd' :Nd} (hi:ns i=some nd) (hk:lo (.node i)=some kn) (hd:nd'.dir=nd.dir) (he:nd'.es=nd.es) (hbs:nd'.bs=nd.bs) (hu:Upd (fun k=> k=kn) w w')
  (hb:∀v,Blk w kn #[.bool nd.dir,.int .i64 nd.links,.int .i64 nd.opens,v] 220→Blk w' kn #[.bool nd'.dir,.int .i64 nd'.links,.int .i64 nd'.opens,v] 220):TB w' tb (nsPut ns i (some nd')) lo N:=by
 have hoth:∀r k,lo r=some k→r≠ .node i→¬k=kn:=fun r k hk' h1 hh=> h1 (h.inj r _ k hk' (by rw [hh];exact hk))
 have hsz:=hu.size
 refine ⟨h.inj,fun r k h1=> by have:=h.lt r k h1;omega,h.at',?_,?_,fun j hj=> ?_,fun j hj=> ?_,fun j nd2 hj=> ?_⟩
 ·rw [files_same hi hd hbs]
  exact h.sto.upd hu (fun r k hk=> hoth _ _ hk (by simp))
 ·exact Blk.upd hu h.tab (hoth _ _ h.at' (by simp))
 ·unfold nsPut at hj
  split at hj
  ·cases hj
  ·exact h.none' j hj
 ·unfold nsPut
  split
  ·rename_i e;subst e;rw [h.far j hj] at hi;cases hi
  ·exact h.far j hj
 ·unfold nsPut at hj
  split at hj
  ·rename_i e;subst e;cases hj
   obtain ⟨k,v',k1,k2,k3,k4,k5⟩:=h.node j nd hi
   rw [hk] at k1;cases k1
   exact ⟨kn,v',hk,hb v' k2,by rw [he];exact k3.upd hu (fun g hg=> hoth _ _ hg (by simp)),by rw [he];exact k4,by rw [he];exact k5⟩
  ·rename_i e
   obtain ⟨k,v',k1,k2,k3,k4⟩:=h.node j nd2 hj
   exact ⟨k,v',k1,Blk.upd hu k2 (hoth _ _ k1 (by simp;exact e)),k3.upd hu (fun g hg=> hoth _ _ hg (by simp)),k4⟩
end
end Go.Proofs.YtjpjafajploiaaaGreatDoor
/-
 slices.Insert at entries,ahead of another one.
-/
namespace Go.Proofs.YtjpjafajploiaaaGreatDoor
open Go.RowKit Own RegJ Two
open Go.Lib hiding intOf
theorem underS:Tryz.prog.underlying 64=some (.slice 188):=Tryz.underlying64
theorem sizeEntry:(Tryz.prog.info? 188).map (·.size)=some 2:=by kernel_rfl
theorem shift_list (A C rest X:List Value) (hX:X.length=2) (hr:2≤rest.length):
  (((A++C++rest).take (A.length+2)++C++(A++C++rest).drop (A.length+2+C.length)).take A.length)++X++
   ((A++C++rest).take (A.length+2)++C++(A++C++rest).drop (A.length+2+C.length)).drop (A.length+X.length)=A++X++C++rest.drop 2:=by
 have e1:(A++C++rest).take (A.length+2)=A++(C++rest).take 2:=by
  rw [List.append_assoc,List.take_append,List.take_of_length_le (by omega)];simp
 have e2:(A++C++rest).drop (A.length+2+C.length)=rest.drop 2:=by
  rw [List.drop_append,List.drop_eq_nil_of_le (by rw [List.length_append];omega),List.nil_append];congr 1;rw [List.length_append];omega
 have hD:((C++rest).take 2).length=2:=by rw [List.length_take,List.length_append];omega
 rw [e1,e2]
 generalize (C++rest).take 2=D at*
 have e3:(A++D++C++rest.drop 2).take A.length=A:=by simp
 have e4:(A++D++C++rest.drop 2).drop (A.length+X.length)=C++rest.drop 2:=by
  rw [hX,←hD,←List.length_append,List.append_assoc,List.drop_left]
 rw [e3,e4]
 simp
section
variable {w:World} {xs:List V2} {b:Option Nat}
set_option maxRecDepth 100000 in
set_option maxHeartbeats 2000000 in
theorem insert_shift {g c:Nat} {rest:List Value} (hB:Blk w g (cells2 xs++rest).toArray 188) (hc:c*2=(cells2 xs++rest).length) (hm:c≤maxLen) (n:Nat) (hn:xs.length=n) (hn0:n≤1000) (i:Nat) (hi:i < n) (hroom:n+1≤c)
  (bx:Nat) (x:V2) (hX:Blk w bx #[x.1,x.2] 188) (hbx:bx≠g) (h1:One2 [x]) (hxs:One2 xs):
  Calls Tryz.prog 148 #[.slice (some ⟨g,0,none⟩) n c,.int .i64 i,.slice (some ⟨bx,0,none⟩) 1 1] w fun e w' => e= .returned (.slice (some ⟨g,0,none⟩) (n+1) c)∧w' =(w.drew.setCells g ((i+1)*2) (cells2 (xs.drop i))).setCells g (i*2) (cells2 [x]):=by
 have hm' :=hm
 unfold maxLen at hm'
 have hl:=cells2_len xs
 have hz2:¬((i:Int)=(n:Int)):=by omega
 have hov:∀ad lb cb,ad.block=g→(callFunc 197 #[.slice (some ⟨bx,0,none⟩) 1 1,.slice (some ad) lb cb]).run Tryz.prog w= .ok (.value (.bool false)) w:=fun ad lb cb had=> by
  obtain ⟨ab,ao,asp⟩:=ad
  obtain rfl:ab=g:=had
  rw [run_callFunc_extern (P:=Tryz.prog) Tryz.func197 (by kernel_rfl) (by kernel_rfl) (by kernel_rfl) (e:=Extern.SlicesOverlaps.overlaps #[64,64] #[4]) (by kernel_rfl),
   Lib.run_overlaps_apart w 64 4 188 underS 2 Tryz.sizeOf188 ⟨bx,0,none⟩ ⟨ab,ao,asp⟩ 1 1 lb cb hbx _ _ 2 (cells2 xs++rest).length (by unfold World.shape?;rw [hX];rfl) (by unfold World.shape?;rw [hB];rfl) (by rw [List.length_append];omega) (hX.nf 0) (hX.nf 2)]
  rfl
 have mixed:Tryz.prog.follows .mixedOrders=true:=by kernel_rfl
 have hd:(xs.drop i).length=n - i:=by rw [List.length_drop,hn]
 have hd2:=cells2_len (xs.drop i)
 have hw1:IntKind.i64.wrap ((i:Int)+1)=(i:Int)+1:=by rw [IntKind.wrap_i64];omega
 have hb1:(0:Int)≤(i:Int)+1:=by omega
 have hin:i≤n:=by omega
 have htn:((i:Int)+1).toNat=i+1:=by omega
 have hb2:¬(c=i+1):=by omega
 have hb3:(i:Int)≤(n:Int)+1:=by omega
 have hb4:¬(c=i):=by omega
 have hRd:∀j,j < c*2→(w.cell? ⟨g,j,none⟩).isSome=true:=fun j hj=> by
  rw [hB.rd,Array.getElem?_eq_getElem (by simp;simp at hc;omega)];rfl
 have hcp1:∀ty dc sc,(Builtin.copy_ #[64,64] ty #[.slice (some ⟨g,(i+1)*2,none⟩) (n - i) dc,.slice (some ⟨g,i*2,none⟩) (n+1 - i) sc]).run Tryz.prog w.drew= .ok (goInt (xs.drop i).length) (w.drew.setCells g ((i+1)*2) (cells2 (xs.drop i))):=fun ty dc sc=>
  run_copy2 w.drew _ _ ty 188 g ((i+1)*2) (n - i) dc ⟨g,i*2,none⟩ (n+1 - i) sc (xs.drop i) underS sizeEntry (by rw [hd];simp only [Nat.min_def];split <;> omega)
   (fun j v hj=> by
    have hjl:j < (n - i)*2:=by have:=(List.getElem?_eq_some_iff.1 hj).1;omega
    rw [add0]
    show w.cell? _=_
    rw [hB.rd,List.getElem?_toArray,List.getElem?_append_left (by omega)]
    rw [←List.take_append_drop i xs,cells2_app,List.getElem?_append_right (by rw [cells2_len,List.length_take];omega),cells2_len,List.length_take,show min i xs.length=i by omega,Nat.add_sub_cancel_left]
    exact hj)
   (fun j hj=> hRd _ (by omega)) (fun j hj=> hB.nf _) (fun a ha=> hxs a (List.mem_of_mem_drop ha))
 obtain ⟨W1,hW1⟩:∃W1,W1=w.drew.setCells g ((i+1)*2) (cells2 (xs.drop i)):=⟨_,rfl⟩
 have hsp1:∀k,k < c*2→(W1.cell? ⟨g,k,none⟩).isSome=true:=fun k hk=> by
  rw [hW1]
  exact isSome_setCells g (cells2 (xs.drop i)) ((i+1)*2) w.drew (fun j hj=> hRd _ (by rw [hd2,hd] at hj;omega)) k (hRd k hk)
 have hcp2:∀(W:World),(∀x,W.cell? x=W1.cell? x)→(∀x,W.frozen? x=W1.frozen? x)→∀ty dc,(Builtin.copy_ #[64,64] ty #[.slice (some ⟨g,i*2,none⟩) (n+1 - i) dc,.slice (some ⟨bx,0,none⟩) 1 1]).run Tryz.prog W= .ok (goInt [x].length) (W.setCells g (i*2) (cells2 [x])):=fun W hWc hWf ty dc=>
  run_copy2 W _ _ ty 188 g (i*2) (n+1 - i) dc ⟨bx,0,none⟩ 1 1 [x] underS sizeEntry (by simp only [Nat.min_def,List.length_cons,List.length_nil];split <;> omega)
   (fun j v hj=> by
    rw [add0,hWc,hW1,World.cell?_setCells_out g _ _ _ _ (fun h _=> absurd h hbx)]
    have:=news_one (x:=x) hX j v hj
    rwa [add0] at this)
   (fun j hj=> by rw [hWc];exact hsp1 _ (by simp at hj;omega)) (fun j hj=> by rw [hWf,hW1,World.frozen?_setCells];exact hB.nf _) h1
 rw [←hW1] at hcp1
 have HS:=Lib.hid hW1
 clear hd hd2 hRd hsp1 hB hX hc hW1 hxs h1 hl
 go_enter Tryz.func148,Tryz.ntmps148
 go_wp2_with (simp only [hov])
 go_region_law_o (refine step_copy_runI rfl _ _ 64 64 rfl _ _ (by simp [Act.eval,Act.put]) (by simp [Act.eval,Act.put]) (hcp1 _ _ _) ?_)
 go_wp2_with (at_builtin;refine wpList_copy_runI _ rfl _ _ 64 64 rfl _ _ rfl rfl (hcp2 _ (fun _=> rfl) (fun _=> rfl) _ _) ?_)
 go_ret
 first | exact ⟨rfl,rfl⟩ | exact ⟨rfl,by rw [HS.out]⟩
def growP (w:World) (xs:List V2) (n c i:Nat) (x:V2) (e:Ending) (w' :World):Prop:=∃G ROW,e= .returned (.slice (some ⟨w.heap.size,0,none⟩) (n+1) G)∧G*2=ROW.size∧n+1≤G∧G≤maxLen∧(∃Z Z',ROW.toList=cells2 (xs.take i)++cells2 Z++Z' ∧Z.length=n+1 - i)∧
   w' =(((w.alloc (.cells ROW 188)).drew.setCells w.heap.size (i*2) (cells2 [x])).drew).setCells w.heap.size ((i+1)*2) (cells2 (xs.drop i))
set_option maxRecDepth 100000 in
set_option maxHeartbeats 2000000 in
theorem insert_grow {g c:Nat} {rest:List Value} (hB:Blk w g (cells2 xs++rest).toArray 188) (hc:c*2=(cells2 xs++rest).length) (hm:c≤maxLen) (n:Nat) (hn:xs.length=n) (hn0:n≤1000) (i:Nat) (hi:i < n) (hroom:c < n+1)
  (bx:Nat) (x:V2) (hX:Blk w bx #[x.1,x.2] 188) (hbx:bx≠g) (h1:One2 [x]) (hxs:One2 xs):
  Calls Tryz.prog 148 #[.slice (some ⟨g,0,none⟩) n c,.int .i64 i,.slice (some ⟨bx,0,none⟩) 1 1] w (growP w xs n c i x):=by
 have hm' :=hm
 unfold maxLen at hm'
 have hl:=cells2_len xs
 have hcn:c=n:=by rw [List.length_append] at hc;omega
 have hz2:¬((i:Int)=(n:Int)):=by omega
 have hz3:(c:Int) < (n:Int)+1:=by omega
 obtain ⟨i0,hi0,hz0,hzs,hzb⟩:=info_parts infoEntry
 have hd:(xs.drop i).length=n - i:=by rw [List.length_drop,hn]
 have hd2:=cells2_len (xs.drop i)
 have hk:(xs.take i).length=i:=by rw [List.length_take];omega
 have hk2:=cells2_len (xs.take i)
 have hkk:(n:Int)+1 - (i:Int)=((n+1 - i:Nat):Int):=by omega
 have hik:i+(n+1 - i)=n+1:=by omega
 have hbw:g < w.heap.size:=hB.lt
 have hvw:bx < w.heap.size:=hX.lt
 have hold:(Builtin.firstCells i0.size i (.slice (some ⟨g,0,none⟩) i c)).run Tryz.prog w.drew= .ok (cells2 (xs.take i)).toArray w.drew:=by
  rw [hzs]
  exact run_firstCells_some w.drew 2 i ⟨g,0,none⟩ i c (cells2 (xs.take i)) (by omega) (fun j v hj=> by
   have hjl:j < i*2:=by have:=(List.getElem?_eq_some_iff.1 hj).1;omega
   rw [add0]
   show w.cell? _=_
   rw [Nat.zero_add,hB.rd,List.getElem?_toArray,List.getElem?_append_left (by omega),←List.take_append_drop i xs,cells2_app,List.getElem?_append_left (by omega)]
   exact hj)
 have hrz:∀ty,(Builtin.append_ #[64,3] ty #[.slice (some ⟨g,0,none⟩) i c,.int .i64 ((n:Int)+1 - (i:Int))]).run Tryz.prog w=
   .ok (.slice (some ⟨w.heap.size,0,none⟩) (n+1) (grownCap w (n+1) c 188)) (w.drew.alloc (.cells ((cells2 (xs.take i)).toArray++Builtin.zeroCells #[.string ByteArray.empty,.int .i64 0] (n+1 - i)++Builtin.zeroCells #[.string ByteArray.empty,.int .i64 0] (grownCap w (n+1) c 188 - (n+1))) 188)):=fun ty=> by
  have h:=Lib.run_append_grow_zeros w 64 3 ty 188 i0 _ .i64 .i64 underS Tryz.underlying3 hi0 hz0 (some ⟨g,0,none⟩) i c (cells2 (xs.take i)) hold (n+1 - i) (by omega) (by omega) (by omega) (by omega) (by rw [hzb];omega) (by rw [hzb,hik];exact growslice_fits hroom (by omega))
  rw [hik] at h
  rw [hkk]
  exact h
 have hGn:n+1≤grownCap w (n+1) c 188:=grownCap_ge w _ _ _
 have hG63:=grownCap_le_maxLen w (n+1) c 188 (by unfold maxLen;omega)
 obtain ⟨G,hG⟩:∃G,G=grownCap w (n+1) c 188:=⟨_,rfl⟩
 obtain ⟨ROW,hROW⟩:∃ROW:Array Value,ROW=(cells2 (xs.take i)).toArray++Builtin.zeroCells #[.string ByteArray.empty,.int .i64 0] (n+1 - i)++Builtin.zeroCells #[.string ByteArray.empty,.int .i64 0] (G - (n+1)):=⟨_,rfl⟩
 rw [←hG] at hrz hGn hG63
 rw [←hROW] at hrz
 have hG9:=hG63
 unfold maxLen at hG9
 have hRl:G*2=ROW.size:=by
  rw [hROW]
  simp [Builtin.zeroCells]
  omega
 have hRc:∃Z Z',ROW.toList=cells2 (xs.take i)++cells2 Z++Z' ∧Z.length=n+1 - i:=⟨_,_,by rw [hROW];simp only [Array.toList_append,zeroCells2];rfl,by simp⟩
 obtain ⟨W1,hW1⟩:∃W1,W1=w.drew.alloc (.cells ROW 188):=⟨_,rfl⟩
 rw [←hW1] at hrz
 have hNB:Blk W1 w.heap.size ROW 188:=by rw [hW1];exact Blk.new w.drew _ _
 have hOb:∀j,W1.cell? ⟨g,j,none⟩=w.cell? ⟨g,j,none⟩:=fun j=> by rw [hW1,World.cell?_alloc_past (w:=w.drew) _ g j hbw];rfl
 have hOv:∀j,W1.cell? ⟨bx,j,none⟩=w.cell? ⟨bx,j,none⟩:=fun j=> by rw [hW1,World.cell?_alloc_past (w:=w.drew) _ bx j hvw];rfl
 have hN:∀j,j < G*2→(W1.cell? ⟨w.heap.size,j,none⟩).isSome=true:=fun j hj=> by
  rw [hNB.rd,Array.getElem?_eq_getElem (by omega)];rfl
 have hcpA:∀(W:World),(∀x,W.cell? x=W1.cell? x)→(∀x,W.frozen? x=W1.frozen? x)→∀ty dc,(Builtin.copy_ #[64,64] ty #[.slice (some ⟨w.heap.size,i*2,none⟩) (n+1 - i) dc,.slice (some ⟨bx,0,none⟩) 1 1]).run Tryz.prog W= .ok (goInt [x].length) (W.setCells w.heap.size (i*2) (cells2 [x])):=fun W hWc hWf ty dc=>
  run_copy2 W _ _ ty 188 w.heap.size (i*2) (n+1 - i) dc ⟨bx,0,none⟩ 1 1 [x] underS sizeEntry (by simp only [Nat.min_def,List.length_cons,List.length_nil];split <;> omega)
   (fun j v hj=> by
    have:=news_one (x:=x) hX j v hj
    rw [add0] at this ⊢
    rw [hWc,hOv];exact this)
   (fun j hj=> by rw [hWc];exact hN _ (by simp at hj;omega)) (fun j hj=> by rw [hWf];exact hNB.nf _) h1
 have hbN:g≠w.heap.size:=by omega
 have hcpB:∀(W:World),(∀y,W.cell? y=(W1.setCells w.heap.size (i*2) (cells2 [x])).cell? y)→(∀y,W.frozen? y=(W1.setCells w.heap.size (i*2) (cells2 [x])).frozen? y)→∀ty dc sc,(Builtin.copy_ #[64,64] ty #[.slice (some ⟨w.heap.size,(i+1)*2,none⟩) (n - i) dc,.slice (some ⟨g,i*2,none⟩) (n - i) sc]).run Tryz.prog W= .ok (goInt (xs.drop i).length) (W.setCells w.heap.size ((i+1)*2) (cells2 (xs.drop i))):=fun W hWc hWf ty dc sc=>
  run_copy2 W _ _ ty 188 w.heap.size ((i+1)*2) (n - i) dc ⟨g,i*2,none⟩ (n - i) sc (xs.drop i) underS sizeEntry (by rw [hd];simp only [Nat.min_def];split <;> omega)
   (fun j v hj=> by
    have hjl:j < (n - i)*2:=by have:=(List.getElem?_eq_some_iff.1 hj).1;omega
    rw [add0,hWc,World.cell?_setCells_out _ _ _ _ _ (fun h _=> absurd h hbN),hOb,hB.rd,List.getElem?_toArray,List.getElem?_append_left (by omega)]
    rw [←List.take_append_drop i xs,cells2_app,List.getElem?_append_right (by omega),hk2,hk,Nat.add_sub_cancel_left]
    exact hj)
   (fun j hj=> by rw [hWc];exact isSome_setCells _ (cells2 [x]) (i*2) W1 (fun t ht=> hN _ (by simp [cells2] at ht;omega)) _ (hN _ (by rw [hd] at hj;omega)))
   (fun j hj=> by rw [hWf,World.frozen?_setCells];exact hNB.nf _) (fun a ha=> hxs a (List.mem_of_mem_drop ha))
 have hGi:¬(G=i):=by omega
 have hGim:¬(G=i+1):=by omega
 have hci:¬(c=i):=by omega
 have hic:(i:Int)≤(c:Int):=by omega
 have hnc:n≤c:=by omega
 subst hW1
 have hE1:∀x,((w.alloc (.cells ROW 188)).drew).cell? x=(w.drew.alloc (.cells ROW 188)).cell? x:=fun x=> rfl
 have hE2:∀x,((w.alloc (.cells ROW 188)).drew).frozen? x=(w.drew.alloc (.cells ROW 188)).frozen? x:=fun x=> rfl
 have hF1:∀y,(((w.alloc (.cells ROW 188)).drew.setCells w.heap.size (i*2) (cells2 [x])).drew).cell? y=((w.drew.alloc (.cells ROW 188)).setCells w.heap.size (i*2) (cells2 [x])).cell? y:=fun x=> rfl
 have hF2:∀y,(((w.alloc (.cells ROW 188)).drew.setCells w.heap.size (i*2) (cells2 [x])).drew).frozen? y=((w.drew.alloc (.cells ROW 188)).setCells w.heap.size (i*2) (cells2 [x])).frozen? y:=fun x=> rfl
 have mixed:Tryz.prog.follows .mixedOrders=true:=by kernel_rfl
 have hw1:IntKind.i64.wrap ((i:Int)+1)=(i:Int)+1:=by rw [IntKind.wrap_i64];omega
 have hb1:(0:Int)≤(i:Int)+1:=by omega
 have hin:i≤n:=by omega
 have htn:((i:Int)+1).toNat=i+1:=by omega
 have hb3:(i:Int)≤(n:Int):=by omega
 have HR:=Lib.hid (And.intro hRl (And.intro hRc hG63))
 clear hcn hkk hik hold hROW hG hRl hRc hN hOv hOb hNB hk hk2 hd hd2 hl hB hX hc hi0 hz0 hzs hzb hxs h1 hm' hG63
 go_enter Tryz.func148,Tryz.ntmps148
 go_wp2_with (first
  | (at_builtin;refine Lib.wpList_append_run _ rfl _ _ _ _ rfl _ _ rfl rfl _ _ (hrz _) ?_)
  | (at_builtin;refine wpList_copy_runI _ rfl _ _ 64 64 rfl _ _ rfl rfl (hcpA _ hE1 hE2 _ _) ?_))
 go_region_law_o (refine step_copy_runI rfl _ _ 64 64 rfl (.slice (some ⟨w.heap.size,(i+1)*2,none⟩) (n - i) (G - (i+1))) (.slice (some ⟨g,i*2,none⟩) (n - i) (c - i)) (by simp [Act.eval,Act.put]) (by simp [Act.eval,Act.put]) (hcpB _ hF1 hF2 3 (G - (i+1)) (c - i)) ?_)
 go_wp2
 go_ret
 exact ⟨G,ROW,rfl,HR.out.1,hGn,HR.out.2.2,HR.out.2.1,rfl⟩
theorem row_new {w' :World} {g c:Nat} {ys:List V2} {R:List Value} (hB:Blk w' g (cells2 ys++R).toArray 188) (hc:c*2=(cells2 ys++R).length) (hm:c≤maxLen):Row2 w' 188 (.slice (some ⟨g,0,none⟩) ys.length c) ys (some g):=
 Or.inr ⟨g,c,R,rfl,rfl,hB,hc,hm⟩
theorem insert_any {a:Option Addr} {n c:Nat} (h:Row2 w 188 (.slice a n c) xs b) (hn0:n≤1000) (i:Nat) (hi:i≤n) (bx:Nat) (x:V2) (hX:Blk w bx #[x.1,x.2] 188) (hbx:∀g,b=some g→bx≠g) (h1:One2 [x]) (hxs:One2 xs):
  Calls Tryz.prog 148 #[.slice a n c,.int .i64 i,.slice (some ⟨bx,0,none⟩) 1 1] w (InsP b w (xs.take i++x::xs.drop i) (n+1)):=by
 obtain ⟨_,hn,_⟩:=h.cap
 by_cases hin:i=n
 ·subst hin
  have he:xs.take i++x::xs.drop i=xs++ [x]:=by rw [List.take_of_length_le (by omega),List.drop_eq_nil_of_le (by omega)]
  rw [he]
  exact insert_end h hn0 bx x hX h1
 have hi' :i < n:=by omega
 rcases h with ⟨_,rfl,_⟩ | ⟨g,cap,rest,hv,hb,hB,hc,hm⟩
 ·simp at hn;omega
 simp only [Value.slice.injEq] at hv
 obtain ⟨rfl,-,rfl⟩:=hv
 have hl:=cells2_len xs
 have hd:(xs.drop i).length=n - i:=by rw [List.length_drop,hn]
 have hd2:=cells2_len (xs.drop i)
 have hk:(xs.take i).length=i:=by rw [List.length_take];omega
 have hk2:=cells2_len (xs.take i)
 have hx2:(cells2 [x]).length=2:=rfl
 have hys:(xs.take i++x::xs.drop i).length=n+1:=by rw [List.length_append,List.length_cons,hk,hd];omega
 have hyc:cells2 (xs.take i++x::xs.drop i)=cells2 (xs.take i)++cells2 [x]++cells2 (xs.drop i):=by
  rw [show xs.take i++x::xs.drop i=xs.take i++([x]++xs.drop i) by simp,cells2_app,cells2_app,List.append_assoc]
 have hxc:cells2 xs=cells2 (xs.take i)++cells2 (xs.drop i):=by rw [←cells2_app,List.take_append_drop]
 by_cases hroom:n+1≤c
 ·refine (insert_shift hB hc hm n hn.symm hn0 i hi' hroom bx x hX (hbx g hb) h1 hxs).mono ?_
  rintro e w' ⟨rfl,rfl⟩
  have hr2:2≤rest.length:=by rw [List.length_append] at hc;omega
  have e1:i*2=(cells2 (xs.take i)).length:=by omega
  have e2:(i+1)*2=(cells2 (xs.take i)).length+2:=by omega
  have z0:=Blk.sets (cells2 (xs.drop i)) (cells2 xs++rest) ((i+1)*2) hB.drew (by rw [List.length_append];omega)
  have z1:=Blk.sets (cells2 [x]) _ (i*2) z0 (by simp only [List.length_append,List.length_take,List.length_drop];omega)
  rw [hxc,e1,e2,shift_list _ _ _ _ hx2 hr2,←hyc] at z1
  refine ⟨_,_,some g,rfl,?_,fun g' hg' => Or.inl (by rw [←hg',hb]),?_⟩
  ·rw [←hys]
   refine row_new (R:=rest.drop 2) ?_ ?_ hm
   ·rw [e1,e2];exact z1
   ·rw [List.length_append,cells2_len,hys,List.length_drop];rw [List.length_append] at hc;omega
  ·exact Upd.sets _ _ _ _ (Upd.sets _ _ _ _ ((Upd.refl _ _).drew) (fun _=> hb)) (fun _=> hb)
 ·refine (insert_grow hB hc hm n hn.symm hn0 i hi' (by omega) bx x hX (hbx g hb) h1 hxs).mono ?_
  rintro e w' ⟨G,ROW,rfl,hG,hGn,hGm,⟨Z,Z',hRW,hZ⟩,rfl⟩
  have hz2:=cells2_len Z
  have hZl:2≤(cells2 Z).length:=by omega
  have e1:i*2=(cells2 (xs.take i)).length:=by omega
  have e2:(i+1)*2=(cells2 (xs.take i)).length+2:=by omega
  have hRl:ROW.size=(cells2 (xs.take i)).length+(cells2 Z).length+Z'.length:=by rw [←Array.length_toList,hRW];simp only [List.length_append]
  have z0:Blk ((w.alloc (.cells ROW 188)).drew) w.heap.size (cells2 (xs.take i)++cells2 Z++Z').toArray 188:=by
   rw [←hRW];exact Blk.new w _ _
  have z1:=Blk.sets (cells2 [x]) _ (i*2) z0 (by simp only [List.length_append];omega)
  have z2:=Blk.sets (cells2 (xs.drop i)) _ ((i+1)*2) z1.drew (by simp only [List.length_append,List.length_take,List.length_drop];omega)
  have hfin:∃R,(((cells2 (xs.take i)++cells2 Z++Z').take (i*2)++cells2 [x]++(cells2 (xs.take i)++cells2 Z++Z').drop (i*2+(cells2 [x]).length)).take ((i+1)*2)++cells2 (xs.drop i)++((cells2 (xs.take i)++cells2 Z++Z').take (i*2)++cells2 [x]++(cells2 (xs.take i)++cells2 Z++Z').drop (i*2+(cells2 [x]).length)).drop ((i+1)*2+(cells2 (xs.drop i)).length))=cells2 (xs.take i++x::xs.drop i)++R:=by
   rw [hyc,e1,e2]
   have q1:(cells2 (xs.take i)++cells2 Z++Z').take (cells2 (xs.take i)).length=cells2 (xs.take i):=by rw [List.append_assoc,List.take_left]
   rw [q1]
   generalize (cells2 (xs.take i)++cells2 Z++Z').drop ((cells2 (xs.take i)).length+(cells2 [x]).length)=D
   have q2:(cells2 (xs.take i)++cells2 [x]++D).take ((cells2 (xs.take i)).length+2)=cells2 (xs.take i)++cells2 [x]:=by
    rw [show (cells2 (xs.take i)).length+2=(cells2 (xs.take i)++cells2 [x]).length by rw [List.length_append,hx2],List.take_left]
   rw [q2]
   exact ⟨_,rfl⟩
  obtain ⟨R,hR⟩:=hfin
  have hRlen:=congrArg List.length hR
  rw [hR] at z2
  refine ⟨_,_,some w.heap.size,rfl,?_,fun g' hg' => Or.inr (by cases hg';exact Nat.le_refl _),?_⟩
  ·rw [←hys]
   refine row_new (R:=R) z2 ?_ hGm
   rw [hG,hRl,←hRlen]
   simp only [List.length_append,List.length_take,List.length_drop]
   omega
  ·exact Upd.sets _ _ _ _ ((Upd.sets _ _ _ _ (((Upd.refl _ _).alloc _).drew) (fun hlt=> by omega)).drew) (fun hlt=> by omega)
end
end Go.Proofs.YtjpjafajploiaaaGreatDoor
/-
 slices.Delete of one entry.
-/
namespace Go.Proofs.YtjpjafajploiaaaGreatDoor
open Go.RowKit Own RegJ Two
open Go.Lib hiding intOf
theorem del_list (A X C rest Z:List Value) (hX:X.length=2) (hZ:Z.length=2):
  ((((A++X++C++rest).take A.length++C++(A++X++C++rest).drop (A.length+C.length)).take (A.length+C.length))++Z++
   ((A++X++C++rest).take A.length++C++(A++X++C++rest).drop (A.length+C.length)).drop (A.length+C.length+Z.length))=A++C++(Z++rest):=by
 have e1:(A++X++C++rest).take A.length=A:=by simp
 rw [e1]
 have e2:((A++X++C++rest).drop (A.length+C.length)).drop 2=rest:=by
  rw [List.drop_drop,show A.length+C.length+2=(A++X++C).length by simp only [List.length_append];omega,List.drop_left]
 have e3:(A++C++(A++X++C++rest).drop (A.length+C.length)).take (A.length+C.length)=A++C:=by
  rw [←List.length_append,List.take_left]
 have e4:(A++C++(A++X++C++rest).drop (A.length+C.length)).drop (A.length+C.length+Z.length)=rest:=by
  rw [hZ,←List.drop_drop,←List.length_append,List.drop_left,List.length_append,e2]
 rw [e3,e4]
 simp
section
variable {w:World} {xs:List V2} {b:Option Nat}
abbrev zE:V2:=(.string ByteArray.empty,.int .i64 0)
theorem zeroE (w:World):(zeroValue 188).run Tryz.prog w= .ok (.agg #[zE.1,zE.2]) w:=Tryz.zeroValue188 w
set_option maxRecDepth 100000 in
set_option maxHeartbeats 2000000 in
theorem delete_raw {g c:Nat} {rest:List Value} (hB:Blk w g (cells2 xs++rest).toArray 188) (hc:c*2=(cells2 xs++rest).length) (hm:c≤maxLen) (n:Nat) (hn:xs.length=n) (hn0:n≤1000) (i:Nat) (hi:i < n) (hxs:One2 xs):
  Calls Tryz.prog 232 #[.slice (some ⟨g,0,none⟩) n c,.int .i64 i,.int .i64 ((i:Int)+1)] w fun e w' => e= .returned (.slice (some ⟨g,0,none⟩) (n - 1) c)∧w' =(w.drew.setCells g (i*2) (cells2 (xs.drop (i+1)))).setCells g ((n - 1)*2) (cells2 [zE]):=by
 have hm' :=hm
 unfold maxLen at hm'
 have hl:=cells2_len xs
 have hcn:n≤c:=by rw [List.length_append] at hc;omega
 obtain ⟨i0,hi0,hz0,hzs,hzb⟩:=info_parts infoEntry
 have hd:(xs.drop (i+1)).length=n - (i+1):=by rw [List.length_drop,hn]
 have hd2:=cells2_len (xs.drop (i+1))
 have hRd:∀j,j < c*2→(w.cell? ⟨g,j,none⟩).isSome=true:=fun j hj=> by
  rw [hB.rd,Array.getElem?_eq_getElem (by simp;simp at hc;omega)];rfl
 obtain ⟨A,hA,hsrc⟩:∃A:Addr,(if c=i+1 then some (⟨g,0,none⟩:Addr) else some ⟨g,(i+1)*2,none⟩)=some A∧Hid (∀t u,(cells2 (xs.drop (i+1)))[t]? =some u→w.drew.cell? (A.add t)=some u):=by
  by_cases h:c=i+1
  ·refine ⟨⟨g,0,none⟩,by simp [h],fun t u hu=> ?_⟩
   have h0:(cells2 (xs.drop (i+1))).length=0:=by omega
   rw [List.length_eq_zero_iff.1 h0] at hu
   simp at hu
  ·refine ⟨⟨g,(i+1)*2,none⟩,by simp [h],fun t u hu=> ?_⟩
   have ht:t < (n - (i+1))*2:=by have:=(List.getElem?_eq_some_iff.1 hu).1;omega
   rw [add0]
   show w.cell? _=_
   rw [hB.rd,List.getElem?_toArray,List.getElem?_append_left (by omega),←List.take_append_drop (i+1) xs,cells2_app,List.getElem?_append_right (by rw [cells2_len,List.length_take];omega),cells2_len,List.length_take,show min (i+1) xs.length=i+1 by omega,Nat.add_sub_cancel_left]
   exact hu
 obtain ⟨W1,hW1⟩:∃W1,W1=w.drew.setCells g (i*2) (cells2 (xs.drop (i+1))):=⟨_,rfl⟩
 have s1:Hid ((cells2 (xs.drop (i+1))).length=(n - (i+1))*2):=by show _=_;omega
 have s2:Hid (∀u∈cells2 (xs.drop (i+1)),u.oneCell' =true):=(show One2 (xs.drop (i+1)) from fun a ha=> hxs a (List.mem_of_mem_drop ha)).cells
 have s3:Hid (∀t,t < (cells2 (xs.drop (i+1))).length→(w.drew.cell? ⟨g,0+i*2+t,none⟩).isSome=true∧w.drew.frozen? ⟨g,0+i*2+t,none⟩=false):=fun t ht=> ⟨hRd _ (by omega),hB.nf _⟩
 have hcl:∀ty cc,(Builtin.clear_ #[64] ty #[.slice (some ⟨g,(i+(n - (i+1)))*2,none⟩) (n - (i+(n - (i+1)))) cc]).run Tryz.prog W1= .ok (.tuple #[]) (W1.setCells g ((n - 1)*2) (cells2 [zE])):=fun ty cc=> by
  have e1:i+(n - (i+1))=n - 1:=by omega
  have e2:n - (n - 1)=1:=by omega
  rw [e1,e2]
  exact run_clear2 W1 _ _ ty zE.1 zE.2 underS zeroE rfl rfl g ((n - 1)*2) 1 cc (by omega) (fun j hj=> by
   rw [hW1];exact isSome_setCells g (cells2 (xs.drop (i+1))) (i*2) w.drew (fun j hj=> hRd _ (by omega)) _ (hRd _ (by omega)))
   (fun j hj=> by rw [hW1,World.frozen?_setCells];exact hB.nf _)
 have mixed:Tryz.prog.follows .mixedOrders=true:=by kernel_rfl
 have hW:Hid (W1=w.drew.setCells g (i*2) (cells2 (xs.drop (i+1)))):=hW1
 have hic:i≤c:=by omega
 have hjc:i+1≤c:=by omega
 have hin:(i:Int)+1≤n:=by omega
 have hne:¬((i:Int)=(i:Int)+1):=by omega
 have hw1:IntKind.i64.wrap ((i:Int)+1)=(i:Int)+1:=by rw [IntKind.wrap_i64];omega
 have hb1:(0:Int)≤(i:Int)+1:=by omega
 have htn:((i:Int)+1).toNat=i+1:=by omega
 clear hl hd hd2 hRd hB hc hxs hW1 hzb hz0
 go_enter Tryz.func232,Tryz.ntmps232
 go_wp2_with fail
 go_region_law_o (refine step_append_room rfl (.tmp 22) (.tmp 25) 64 rfl 188 i0 2 underS hi0 hzs g 0 i c (by simp [Act.eval,Act.put]) A (n - (i+1)) (c - (i+1)) (cells2 (xs.drop (i+1))) (by simp [Act.eval,Act.put]) s1.out hsrc.out s2.out (by omega) s3.out ?_;rw [show 0+i*2=i*2 from Nat.zero_add _,←hW.out])
 go_wp2
 go_ret
 exact ⟨by rw [show n - 1=i+(n - (i+1)) by omega];rfl,by rw [hW.out]⟩
def DelP (b:Option Nat) (w:World) (ys:List V2) (n:Nat) (e:Ending) (w' :World):Prop:=∃a c,e= .returned (.slice a n c)∧Row2 w' 188 (.slice a n c) ys b∧Upd (fun k=> b=some k) w w'
theorem delete_one {a:Option Addr} {n c:Nat} (h:Row2 w 188 (.slice a n c) xs b) (hn0:n≤1000) (i:Nat) (hi:i < n) (hxs:One2 xs):
  Calls Tryz.prog 232 #[.slice a n c,.int .i64 i,.int .i64 ((i:Int)+1)] w (DelP b w (xs.take i++xs.drop (i+1)) (n - 1)):=by
 obtain ⟨_,hn,_⟩:=h.cap
 rcases h with ⟨_,rfl,_⟩ | ⟨g,cap,rest,hv,hb,hB,hc,hm⟩
 ·simp at hn;omega
 simp only [Value.slice.injEq] at hv
 obtain ⟨rfl,-,rfl⟩:=hv
 refine (delete_raw hB hc hm n hn.symm hn0 i hi hxs).mono ?_
 rintro e w' ⟨rfl,rfl⟩
 have hl:=cells2_len xs
 obtain ⟨x,hx⟩:∃x,xs[i]? =some x:=⟨_,List.getElem?_eq_getElem (by omega)⟩
 have hsp:xs=xs.take i++x::xs.drop (i+1):=by
  have h1:=List.take_append_drop i xs
  rw [List.drop_eq_getElem_cons (by omega)] at h1
  have h2:=List.getElem?_eq_some_iff.1 hx
  rw [h2.2] at h1
  exact h1.symm
 have hd:(xs.drop (i+1)).length=n - (i+1):=by rw [List.length_drop,hn]
 have hd2:=cells2_len (xs.drop (i+1))
 have hk:(xs.take i).length=i:=by rw [List.length_take];omega
 have hk2:=cells2_len (xs.take i)
 have hx2:(cells2 [x]).length=2:=rfl
 have hxc:cells2 xs=cells2 (xs.take i)++cells2 [x]++cells2 (xs.drop (i+1)):=by
  refine (congrArg cells2 hsp).trans ?_
  rw [show xs.take i++x::xs.drop (i+1)=xs.take i++([x]++xs.drop (i+1)) by simp,cells2_app,cells2_app,List.append_assoc]
 have e1:i*2=(cells2 (xs.take i)).length:=by omega
 have e2:(n - 1)*2=(cells2 (xs.take i)).length+(cells2 (xs.drop (i+1))).length:=by omega
 have z0:=Blk.sets (cells2 (xs.drop (i+1))) (cells2 xs++rest) (i*2) hB.drew (by rw [List.length_append];omega)
 have z1:=Blk.sets (cells2 [zE]) _ ((n - 1)*2) z0 (by simp only [List.length_append,List.length_take,List.length_drop];rw [show (cells2 [zE]).length=2 from rfl];omega)
 rw [hxc,e1,e2,del_list _ _ _ _ _ hx2 rfl,←cells2_app] at z1
 have hys:(xs.take i++xs.drop (i+1)).length=n - 1:=by rw [List.length_append,hk,hd];omega
 refine ⟨_,_,rfl,?_,?_⟩
 ·rw [hb,←hys]
  refine row_new (R:=cells2 [zE]++rest) ?_ ?_ hm
  ·rw [hys,e1,e2];exact z1
  ·rw [List.length_append,cells2_len,hys,List.length_append,show (cells2 [zE]).length=2 from rfl];rw [List.length_append] at hc;omega
 ·exact Upd.sets _ _ _ _ (Upd.sets _ _ _ _ ((Upd.refl _ _).drew) (fun _=> hb)) (fun _=> hb)
end
end Go.Proofs.YtjpjafajploiaaaGreatDoor
/-
 Enter:the walk.
-/
namespace Go.Proofs.YtjpjafajploiaaaGreatDoor
open Go.RowKit Own RegJ Two
open Go.Lib hiding intOf
theorem get_nd [Inhabited CapT] {w:World} {tb:Nat} {ns:Nat→Option Nd} {lo:Lo} {N:Nat} (h:TB w tb ns lo N) (i:Nat) (nd:Nd) (hi:ns i=some nd) (k:Nat) (hk:lo (.node i)=some k):Calls Tryz.prog 72 #[.pointer (some ⟨tb,0,none⟩),.int .i64 i] w fun e w' => e= .returned (.pointer (some ⟨k,0,none⟩))∧w=w' :=by
 have:=get_is h i (some k) (by unfold ndAt;rw [if_pos (by omega)];simp only [Int.toNat_natCast];rw [hi];exact hk)
 unfold ptr at this;exact this
theorem get_no [Inhabited CapT] {w:World} {tb:Nat} {ns:Nat→Option Nd} {lo:Lo} {N:Nat} (h:TB w tb ns lo N) (id:Int) (hi:ndAt ns id=none):Calls Tryz.prog 72 #[.pointer (some ⟨tb,0,none⟩),.int .i64 id] w fun e w' => e= .returned (.pointer none)∧w=w' :=by
 have:=get_is h id none (by rw [hi])
 unfold ptr at this;exact this
theorem ndAt_some {ns:Nat→Option Nd} {id:Int} {nd:Nd} (h:ndAt ns id=some nd):∃i:Nat,id=i∧ns i=some nd:=by
 unfold ndAt at h
 split at h
 ·exact ⟨id.toNat,by omega,h⟩
 ·cases h
section
variable {w:World} {tb:Nat} {ns:Nat→Option Nd} {lo:Lo} {N:Nat}
set_option maxRecDepth 100000 in
theorem enter_nodir [Inhabited CapT] (h:TB w tb ns lo N) (dir id:Int) (nm:Txt) (hd:dirAt ns dir=none):Calls Tryz.prog 89 #[.pointer (some ⟨tb,0,none⟩),.int .i64 dir,.string (B nm),.int .i64 id] w fun e w' => e= .returned (.int .i64 11)∧w=w' :=by
 have hf:=find_no h dir nm hd
 clear h hd
 generalize B nm=s at*
 go_enter Tryz.func89,Tryz.ntmps89
 go_wp2_with (go_at_call 119;refine hf.mono ?_;rintro e w' ⟨rfl,rfl⟩)
 go_ret
 exact ⟨rfl,rfl⟩
theorem one_en (es:List En):One2 (es.map enV):=by
 intro a ha
 rw [List.mem_map] at ha
 obtain ⟨x,_,rfl⟩:=ha
 exact ⟨rfl,rfl⟩
theorem insE_map (es:List En) (j:Nat) (x:En):(insE es j x).map enV=(es.map enV).take j++enV x::(es.map enV).drop j:=by
 unfold insE
 rw [List.map_append,List.map_cons,List.map_take,List.map_drop]
def entR (ns:Nat→Option Nd) (es:List En) (j:Nat) (nm:Txt) (id:Int):Int:=
 if nameE nm≠0 then nameE nm else if id=0∨ndAt ns id=none then 4 else if isAt es nm j=true then 10 else if es.length=8 then 15 else 0
def nsEnt (ns:Nat→Option Nd) (i:Nat) (nd:Nd) (es:List En) (id:Int):Nat→Option Nd:=
 match nsPut ns i (some (setEs nd es)) id.toNat with
 | some m=> nsPut (nsPut ns i (some (setEs nd es))) id.toNat (some (addL m 1))
 | none=> nsPut ns i (some (setEs nd es))
def EntP [Inhabited CapT] (w:World) (tb:Nat) (ns:Nat→Option Nd) (lo:Lo) (N:Nat) (i:Nat) (nd:Nd) (nm:Txt) (id:Int) (e:Ending) (w' :World):Prop:=
 ∃j:Nat,At nd.es nm j∧e= .returned (.int .i64 (entR ns nd.es j nm id))∧((entR ns nd.es j nm id≠0∧Below w.heap.size w w')∨(entR ns nd.es j nm id=0∧∃lo',TB w' tb (nsEnt ns i nd (insE nd.es j (nm,id)) id) lo' N∧TFr lo lo' w w'))
set_option maxRecDepth 100000 in
set_option maxHeartbeats 2000000 in
theorem enter_is [Inhabited CapT] (h:TB w tb ns lo N) (i:Nat) (id:Int) (nm:Txt) (nd:Nd) (hi:ns i=some nd) (hd:nd.dir=true) (hlk:∀m,ndAt ns id=some m→0≤m.links∧m.links≤100000):
  Calls Tryz.prog 89 #[.pointer (some ⟨tb,0,none⟩),.int .i64 i,.string (B nm),.int .i64 id] w (EntP w tb ns lo N i nd nm id):=by
 have hf:=find_yes h i nm nd hi hd
 have hnm:=name_is nm
 have hI:∀(j:Nat) (W:World) a c b bx,At nd.es nm j→Row2 W 188 (.slice a nd.es.length c) (nd.es.map enV) b→(∀g,b=some g→bx≠g)→Blk W bx #[.string (B nm),.int .i64 id] 188→Calls Tryz.prog 148 #[.slice a nd.es.length c,.int .i64 j,.slice (some ⟨bx,0,none⟩) 1 1] W (InsP b W ((insE nd.es j (nm,id)).map enV) (nd.es.length+1)):=fun j W a c b bx hA hr hne hB=> by
  obtain ⟨_,_,_,_,_,h8,_⟩:=h.node i nd hi
  have:=insert_any hr (by omega) j hA.1 bx (enV (nm,id)) hB hne (one_en [(nm,id)]) (one_en nd.es)
  rw [insE_map]
  exact this
 have H:=Lib.hid (And.intro h (And.intro hi (And.intro hd (And.intro hlk hI))))
 clear h hi hd hlk hI
 obtain ⟨s,hs⟩:∃s,B nm=s:=⟨_,rfl⟩
 rw [hs] at hf hnm ⊢
 have HS:=Lib.hid hs
 clear hs
 go_enter Tryz.func89,Tryz.ntmps89
 go_upto_region 4 with (go_at_call 119;refine hf.mono ?_;rintro e w1 ⟨j,rfl,hA,hB⟩;have HA:=Lib.hid (And.intro hA hB);clear hA hB hf)
 by_cases hn0:nameE nm=0
 ·rw [hn0] at hnm
  have hT:=H.out.1.below HA.out.2
  obtain ⟨kd,v,k1,k2,k3,k4,k5⟩:=hT.node _ _ H.out.2.1
  have hgd:=get_nd hT i nd H.out.2.1 kd k1
  have HN:=Lib.hid hn0
  clear hn0
  by_cases hid:id=0∨ndAt ns id=none
  ·have hr:entR ns nd.es j nm id=4:=by unfold entR;rw [if_neg (by simp [HN.out]),if_pos hid]
   have HR:Hid (EntP w tb ns lo N i nd nm id (.returned (.int .i64 4)) w1):=Lib.hid ⟨j,HA.out.1,by rw [hr],Or.inl ⟨by rw [hr];decide,HA.out.2⟩⟩
   cases hx:ndAt ns id with
   | none=>
    have hgi:=get_no hT id hx
    clear hT k2 k3 hid hr
    by_cases hii:id=(i:Int)
    ·exfalso
     rw [hii] at hx
     unfold ndAt at hx
     rw [if_pos (by omega)] at hx
     simp only [Int.toNat_natCast] at hx
     rw [H.out.2.1] at hx;cases hx
    ·clear hii hx
     go_wp2_with (first
      | (go_at_call 147;refine (hnm _).mono ?_;rintro e w' ⟨rfl,rfl⟩)
      | (go_at_call 72;(with_reducible refine hgd.mono ?_);rintro e w' ⟨rfl,rfl⟩)
      | (go_at_call 72;(with_reducible refine hgi.mono ?_);rintro e w' ⟨rfl,rfl⟩))
     go_ret
     exact HR.out
   | some m=>
    have h0:id=0:=by
     rcases hid with h | h
     ·exact h
     ·rw [hx] at h;cases h
    subst h0
    obtain ⟨i2,e2,hm⟩:=ndAt_some hx
    obtain ⟨km,v2,m1,m2,_⟩:=hT.node _ _ hm
    have hgi:=get_nd hT i2 m hm km m1
    rw [←e2] at hgi
    clear hT k2 k3 hid hr m2 hx e2 hm m1
    go_wp2_with (first
     | (go_at_call 147;refine (hnm _).mono ?_;rintro e w' ⟨rfl,rfl⟩)
     | (go_at_call 72;(with_reducible refine hgd.mono ?_);rintro e w' ⟨rfl,rfl⟩)
     | (go_at_call 72;(with_reducible refine hgi.mono ?_);rintro e w' ⟨rfl,rfl⟩))
    go_ret
    exact HR.out
  ·obtain ⟨m,hx⟩:∃m,ndAt ns id=some m:=by
    cases hx:ndAt ns id with
    | none=> exact absurd (Or.inr hx) hid
    | some m=> exact ⟨m,rfl⟩
   have hid0:¬id=0:=fun e=> hid (Or.inl e)
   have hlk:=H.out.2.2.2.1 m hx
   obtain ⟨i2,e2,hm⟩:=ndAt_some hx
   obtain ⟨km,v2,m1,m2,m3,_⟩:=hT.node _ _ hm
   have hgi:=get_nd hT i2 m hm km m1
   rw [←e2] at hgi
   have d3:(id==0)=false:=by simpa using hid0
   obtain ⟨a,c,rfl⟩:=k3.slice
   have c1:=k2.rd
   have hr0:entR ns nd.es j nm id=if isAt nd.es nm j=true then 10 else if nd.es.length=8 then 15 else 0:=by unfold entR;rw [if_neg (by simp [HN.out]),if_neg hid]
   have HE:=Lib.hid (And.intro hx (And.intro e2 (And.intro hm (And.intro m1 hlk))))
   have HK:=Lib.hid (And.intro hT (And.intro k1 (And.intro k2 k3)))
   have hl:(nd.es.map enV).length=nd.es.length:=List.length_map _
   rw [hl] at c1 HK
   obtain ⟨n,hn⟩:∃n,nd.es.length=n:=⟨_,rfl⟩
   rw [hn] at c1 HK hr0 k4
   have HL:=Lib.hid hn
   clear hid hid0 hlk e2 hm m1 m2 m3 hT k2 k3 hx k1 hl hn k5
   cases hia:isAt nd.es nm j with
   | true=>
    rw [hia,if_pos rfl] at hr0
    have HR:Hid (EntP w tb ns lo N i nd nm id (.returned (.int .i64 10)) w1):=Lib.hid ⟨j,HA.out.1,by rw [hr0],Or.inl ⟨by rw [hr0];decide,HA.out.2⟩⟩
    clear hr0 hia
    go_wp2_with (first
     | (go_at_call 147;refine (hnm _).mono ?_;rintro e w' ⟨rfl,rfl⟩)
     | (go_at_call 72;(with_reducible refine hgd.mono ?_);rintro e w' ⟨rfl,rfl⟩)
     | (go_at_call 72;(with_reducible refine hgi.mono ?_);rintro e w' ⟨rfl,rfl⟩))
    go_ret
    exact HR.out
   | false=>
    rw [hia,if_neg (by simp)] at hr0
    by_cases h8:n=8
    ·rw [if_pos h8] at hr0
     have HR:Hid (EntP w tb ns lo N i nd nm id (.returned (.int .i64 15)) w1):=Lib.hid ⟨j,HA.out.1,by rw [hr0],Or.inl ⟨by rw [hr0];decide,HA.out.2⟩⟩
     clear hr0 hia
     subst h8
     go_wp2_with (first
      | (go_at_call 147;refine (hnm _).mono ?_;rintro e w' ⟨rfl,rfl⟩)
      | (go_at_call 72;(with_reducible refine hgd.mono ?_);rintro e w' ⟨rfl,rfl⟩)
      | (go_at_call 72;(with_reducible refine hgi.mono ?_);rintro e w' ⟨rfl,rfl⟩))
     go_ret
     exact HR.out
    ·rw [if_neg h8] at hr0
     have d4:((n:Int)==8)=false:=by simp;omega
     have HR:=Lib.hid (And.intro hr0 (And.intro hia h8))
     clear hr0 hia h8
     go_upto_region 14 with (first
      | (go_at_call 147;refine (hnm _).mono ?_;rintro e w' ⟨rfl,rfl⟩)
      | (go_at_call 72;(with_reducible refine hgd.mono ?_);rintro e w' ⟨rfl,rfl⟩)
      | (go_at_call 72;(with_reducible refine hgi.mono ?_);rintro e w' ⟨rfl,rfl⟩))
     obtain ⟨hT,k1,k2,k3⟩:=HK.out
     have hkl:=hT.lt _ _ k1
     have hW:Below w1.heap.size w1 (w1.alloc (.cells #[.string s,.int .i64 id] 188)):=(Below.refl _ _).alloc (Nat.le_refl _) _
     have hTW:=hT.below hW
     have k2W:=k2.alloc (.cells #[.string s,.int .i64 id] 188)
     have k3W:=k3.below hW
     have hins:=H.out.2.2.2.2 j (w1.alloc (.cells #[.string s,.int .i64 id] 188)) a c (lo (.ents i)) w1.heap.size HA.out.1 (by rw [HL.out];exact k3W) (fun g hg e=> absurd (hT.lt _ _ hg) (by omega)) (by rw [HS.out];exact Blk.new _ _ _)
     rw [HL.out] at hins
     have HW:=Lib.hid (And.intro hTW (And.intro k1 (And.intro k2W (And.intro k3W hW))))
     clear hT k1 k2 k3 hTW k2W k3W hW
     go_upto_region 15 with (go_at_call 148;(with_reducible refine hins.mono ?_);rintro e w2 ⟨a',c',b',rfl,hr,hb,hu⟩;clear hins;have hkb:lo (.ents i)≠some kd:=(fun e=> by have:=HW.out.1.inj _ _ _ e HW.out.2.1;cases this);have hk2:=Blk.upd hu HW.out.2.2.1 hkb;have HX:=Lib.hid (And.intro hr (And.intro hb (And.intro hu hk2)));have c3:=hk2.rd;have nf3:=hk2.nf;clear hr hb hu hk2 hkb)
     obtain ⟨hr,hb,hu,hk2⟩:=HX.out
     have hk3:Blk (w2.setCell ⟨kd,3,none⟩ (.slice a' (n+1) c')) kd #[.bool nd.dir,.int .i64 nd.links,.int .i64 nd.opens,.slice a' (n+1) c'] 220:=Blk.of (hk2.set 3 (.slice a' (n+1) c')) rfl
     have hu3:Upd (fun k=> k=kd∨lo (.ents i)=some k) (w1.alloc (.cells #[.string s,.int .i64 id] 188)) (w2.setCell ⟨kd,3,none⟩ (.slice a' (n+1) c')):=((hu.mono (G:=fun k=> k=kd∨lo (.ents i)=some k) (fun k _ e=> Or.inr e)).setCell (p:=⟨kd,3,none⟩) (fun _=> Or.inl rfl) _)
     have hbk:∀g,b' =some g→g≠kd:=fun g hg e=> by
      rcases hb g hg with h1 | h1
      ·have:=HW.out.1.inj _ _ _ h1 (e▸HW.out.2.1);cases this
      ·have:=HW.out.1.lt _ _ HW.out.2.1;omega
     have hr3:Row2 (w2.setCell ⟨kd,3,none⟩ (.slice a' (n+1) c')) 188 (.slice a' (n+1) c') ((insE nd.es j (nm,id)).map enV) b' :=hr.upd ((Upd.refl (fun k=> k=kd) w2).setCell (p:=⟨kd,3,none⟩) (fun _=> rfl) _) (fun g hg e=> hbk g hg e)
     have hS:=(HW.out.1.node _ _ H.out.2.1)
     obtain ⟨_,_,_,_,_,h8',hSr⟩:=hS
     have hT3:=HW.out.1.ents (v:= .slice a' (n+1) c') (es:=insE nd.es j (nm,id)) (b:=b') H.out.2.1 HW.out.2.1 hu3 hk3 hr3 hb (by rw [insE_len,HL.out];have:=HR.out.2.2;omega) (insE_srt hSr HA.out.1 HR.out.2.1)
     have hfr3:TFr lo (loEnt lo i b') w (w2.setCell ⟨kd,3,none⟩ (.slice a' (n+1) c')):=by
      have z1:=HA.out.2.size
      have z2:=HW.out.2.2.2.2.size
      refine ⟨((Upd.of_below (F:=fun k=> ∃r,lo r=some k) (HA.out.2.trans (HW.out.2.2.2.2.mono z1))).trans (hu3.mono (fun k _ e=> ?_)) (fun _ _ h=> h)),fun r k hk=> ?_,rfl,rfl⟩
      ·rcases e with e | e
       ·exact ⟨_,by rw [e];exact HW.out.2.1⟩
       ·exact ⟨_,e⟩
      ·rcases loEnt_old hk with ⟨g1,_⟩ | ⟨_,g1⟩
       ·exact Or.inl ⟨r,g1⟩
       ·rcases hb k g1 with h1 | h1
        ·exact Or.inl ⟨_,h1⟩
        ·exact Or.inr (by omega)
     generalize w2.setCell ⟨kd,3,none⟩ (.slice a' (n+1) c')=w3 at hk3 hu3 hr3 hT3 hfr3 ⊢
     obtain ⟨hx,e2,hm,m1,hlk⟩:=HE.out
     obtain ⟨m',hm',hml⟩:∃m',nsPut ns i (some (setEs nd (insE nd.es j (nm,id)))) i2=some m' ∧m'.links=m.links:=by
      unfold nsPut
      by_cases hii:i2=i
      ·rw [if_pos hii]
       subst hii
       rw [H.out.2.1] at hm;cases hm
       exact ⟨_,rfl,rfl⟩
      ·rw [if_neg hii];exact ⟨m,hm,rfl⟩
     obtain ⟨km',v3,q1,q2,_⟩:=hT3.node _ _ hm'
     have hkm:km' =km:=by
      have q1' :lo (.node i2)=some km' :=q1
      rw [m1] at q1';cases q1';rfl
     subst hkm
     rw [hml] at q2
     have c5:=q2.rd
     have nf5:=q2.nf
     have l0:=hlk.1
     have l1:=hlk.2
     have HT3:=Lib.hid (And.intro hT3 (And.intro hfr3 (And.intro hm' (And.intro hml (And.intro q1 (And.intro q2 e2))))))
     clear hr hb hu hk2 hk3 hu3 hbk hr3 hSr h8' hT3 hfr3 hx e2 hm m1 hlk hm' hml q1 q2 c3 nf3 c1
     generalize m.links=L at*
     go_wp2_with (fail)
     go_ret
     obtain ⟨hT3,hfr3,hm',hml,q1,q2,e2⟩:=HT3.out
     have hu4:Upd (fun k=> k=km') w3 (w3.setCell ⟨km',1,none⟩ (.int .i64 (L+1))):=(Upd.refl (fun k=> k=km') w3).setCell (p:=⟨km',1,none⟩) (fun _=> rfl) _
     have hT4:=hT3.num (nd' :=addL m' 1) hm' q1 rfl rfl rfl hu4 (fun v hv=> Blk.of (hv.set 1 (.int .i64 (L+1))) (by rw [←hml];rfl))
     have hns:nsEnt ns i nd (insE nd.es j (nm,id)) id=nsPut (nsPut ns i (some (setEs nd (insE nd.es j (nm,id))))) i2 (some (addL m' 1)):=by
      have et:id.toNat=i2:=by omega
      unfold nsEnt
      rw [et,hm']
     refine ⟨j,HA.out.1,by rw [HR.out.1];rfl,Or.inr ⟨HR.out.1,loEnt lo i b',?_,?_⟩⟩
     ·rw [hns];exact hT4
     ·exact ⟨hfr3.1.trans (hu4.mono (G:=fun k=> ∃r,loEnt lo i b' r=some k) (fun k _ (e:k=km')=> ⟨Rl.node i2,e▸q1⟩)) (fun k hk ⟨r,hr⟩=> by
       rcases hfr3.2.1 r k hr with h1 | h1
       ·exact h1
       ·omega),hfr3.2⟩
 ·have hr:entR ns nd.es j nm id=nameE nm:=by unfold entR;rw [if_pos (by simpa using hn0)]
  have HR:Hid (EntP w tb ns lo N i nd nm id (.returned (.int .i64 (nameE nm))) w1):=Lib.hid ⟨j,HA.out.1,by rw [hr],Or.inl ⟨by rw [hr];exact hn0,HA.out.2⟩⟩
  have d1:(nameE nm==0)=false:=by simpa using hn0
  have d2:(nameE nm !=0)=true:=by simpa using hn0
  generalize nameE nm=E at*
  clear hn0 hr
  go_wp2_with (go_at_call 147;refine (hnm _).mono ?_;rintro e w' ⟨rfl,rfl⟩)
  go_ret
  exact HR.out
end
end Go.Proofs.YtjpjafajploiaaaGreatDoor
