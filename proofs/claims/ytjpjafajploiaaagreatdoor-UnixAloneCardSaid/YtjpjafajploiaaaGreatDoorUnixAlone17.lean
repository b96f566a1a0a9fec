/-
  A node that stays; Close of one that stays.
-/
import Derived.Test.YtjpjafajploiaaaGreatDoorUnixAlone16
import Derived.BigQuiet
import Derived.Deep.CutRange
set_option linter.unusedSimpArgs false
set_option linter.unusedVariables false
namespace Go.Proofs.YtjpjafajploiaaaGreatDoor
open Go.RowKit Own RegJ Two
open Go.Lib hiding intOf
def addO (nd:Nd) (d:Int):Nd:= {nd with opens:=nd.opens+d}
section
variable {w:World} {tb:Nat} {ns:Nat→Option Nd} {lo:Lo} {N:Nat}
set_option maxRecDepth 100000 in
theorem settle_stay [Inhabited CapT] (h:TB w tb ns lo N) (i:Nat) (nd:Nd) (hi:ns i=some nd) (hs:i=0∨0 < nd.links∨0 < nd.opens):Calls Tryz.prog 138 #[.pointer (some ⟨tb,0,none⟩),.int .i64 i] w fun e w' => (∃v,e= .returned v)∧w=w' :=by
 obtain ⟨h16,_⟩:=h.is hi
 have ct:=h.cell i h16
 obtain ⟨k,v,k1,k2,_⟩:=h.node _ _ hi
 rw [k1] at ct
 unfold ptr at ct
 have c1:=k2.rd
 have i1:(i:Int) < 16:=by omega
 have i2:(0:Int)≤i:=by omega
 by_cases h0:i=0
 ·subst h0
  clear h hi k2 k1 hs
  go_enter Tryz.func138,Tryz.ntmps138
  go_wp2_with (fail)
  go_returns
  exact ⟨⟨_,rfl⟩,rfl⟩
 ·have d0:((i:Int)==0)=false:=by simp;omega
  by_cases hl:0 < nd.links
  ·have d1:decide (nd.links > 0)=true:=by simpa using hl
   clear h hi k2 k1 hs h0 hl
   generalize nd.links=L at*
   go_enter Tryz.func138,Tryz.ntmps138
   go_wp2_with (fail)
   go_returns
   exact ⟨⟨_,rfl⟩,rfl⟩
  ·have ho:0 < nd.opens:=by omega
   have d1:decide (nd.links > 0)=false:=by simpa using hl
   have d2:decide (nd.opens > 0)=true:=by simpa using ho
   clear h hi k2 k1 hs h0 hl ho
   generalize nd.links=L at*
   generalize nd.opens=O at*
   go_enter Tryz.func138,Tryz.ntmps138
   go_wp2_with (fail)
   go_returns
   exact ⟨⟨_,rfl⟩,rfl⟩
set_option maxRecDepth 100000 in
theorem close_no [Inhabited CapT] (h:TB w tb ns lo N) (id:Int) (hd:∀nd,ndAt ns id=some nd→nd.opens=0):Calls Tryz.prog 82 #[.pointer (some ⟨tb,0,none⟩),.int .i64 id] w fun e w' => e= .returned (.int .i64 4)∧w=w' :=by
 cases hx:ndAt ns id with
 | none=>
  have hg:=get_no h id hx
  clear h hd hx
  go_enter Tryz.func82,Tryz.ntmps82
  go_wp2_with (go_at_call 72;refine hg.mono ?_;rintro e w' ⟨rfl,rfl⟩)
  go_ret
  exact ⟨rfl,rfl⟩
 | some nd=>
  obtain ⟨i,rfl,hi⟩:=ndAt_some hx
  obtain ⟨k,v,k1,k2,_⟩:=h.node _ _ hi
  have hg:=get_nd h i nd hi k k1
  have c1:=k2.rd
  rw [hd nd hx] at c1
  clear h hd hx k2 k1 hi
  go_enter Tryz.func82,Tryz.ntmps82
  go_wp2_with (go_at_call 72;refine hg.mono ?_;rintro e w' ⟨rfl,rfl⟩)
  go_ret
  exact ⟨rfl,rfl⟩
set_option maxRecDepth 100000 in
theorem close_stay [Inhabited CapT] (h:TB w tb ns lo N) (i:Nat) (nd:Nd) (hi:ns i=some nd) (ho:0 < nd.opens) (ho2:nd.opens≤100000) (hs:i=0∨0 < nd.links∨1 < nd.opens):
  Calls Tryz.prog 82 #[.pointer (some ⟨tb,0,none⟩),.int .i64 i] w fun e w' => e= .returned (.int .i64 0)∧TB w' tb (nsPut ns i (some (addO nd (-1)))) lo N∧TFr lo lo w w' :=by
 obtain ⟨k,v,k1,k2,_⟩:=h.node _ _ hi
 have hg:=get_nd h i nd hi k k1
 have c1:=k2.rd
 have nf:=k2.nf
 have d1:(nd.opens==0)=false:=by simp;omega
 have hu:Upd (fun j=> j=k) w (w.setCell ⟨k,2,none⟩ (.int .i64 (nd.opens - 1))):=(Upd.refl (fun j=> j=k) w).setCell (p:=⟨k,2,none⟩) (fun _=> rfl) _
 have hT:=h.num (nd' :=addO nd (-1)) hi k1 rfl rfl rfl hu (fun v hv=> Blk.of (hv.set 2 (.int .i64 (nd.opens - 1))) rfl)
 have hst:=settle_stay hT i (addO nd (-1)) (by unfold nsPut;rw [if_pos rfl]) (by unfold addO;simp only;omega)
 have HT:=Lib.hid (And.intro hT (And.intro hu k1))
 clear h hi k2 k1 hs hT hu
 generalize nd.opens=O at*
 go_enter Tryz.func82,Tryz.ntmps82
 go_wp2_with (first
  | (go_at_call 72;refine hg.mono ?_;rintro e w' ⟨rfl,rfl⟩)
  | (go_at_call 138;(with_reducible refine hst.mono ?_);rintro e w2 ⟨⟨v2,rfl⟩,rfl⟩))
 go_ret
 exact ⟨rfl,HT.out.1,HT.out.2.1.mono (fun j _ e=> ⟨_,e▸HT.out.2.2⟩),fun r k hk=> Or.inl ⟨r,hk⟩,rfl,rfl⟩
end
end Go.Proofs.YtjpjafajploiaaaGreatDoor
/-
 Nodes that go:the plain law. Links are how many entries name a node.
-/
namespace Go.Proofs.YtjpjafajploiaaaGreatDoor
open Go.RowKit Own RegJ Two
open Go.Lib hiding intOf
abbrev NSt:=Nat→Option Nd
def decL (ns:NSt) (m:Nat):NSt:=match ns m with | some k=> nsPut ns m (some (addL k (-1))) | none=> ns
def gone:Nat→NSt→Nat→NSt
 | 0,ns,_=> ns
 | f+1,ns,i=> match ns i with
  | none=> ns
  | some nd=> if i=0∨0 < nd.links∨0 < nd.opens then ns else nd.es.foldl (fun s e=> if (s e.2.toNat).isSome then gone f (decL s e.2.toNat) e.2.toNat else s) (nsPut ns i none)
def goneL (f:Nat) (es:List En) (s:NSt):NSt:=es.foldl (fun s e=> if (s e.2.toNat).isSome then gone f (decL s e.2.toNat) e.2.toNat else s) s
theorem goneL_cons (f:Nat) (e:En) (es:List En) (s:NSt):goneL f (e::es) s=goneL f es (if (s e.2.toNat).isSome then gone f (decL s e.2.toNat) e.2.toNat else s):=rfl
theorem goneL_snoc (f:Nat) (es:List En) (e:En) (s:NSt):goneL f (es++ [e]) s=(if ((goneL f es s) e.2.toNat).isSome then gone f (decL (goneL f es s) e.2.toNat) e.2.toNat else goneL f es s):=by
 unfold goneL;rw [List.foldl_append];rfl
theorem gone_stay {f:Nat} {ns:NSt} {i:Nat} {nd:Nd} (hi:ns i=some nd) (h:i=0∨0 < nd.links∨0 < nd.opens):gone f ns i=ns:=by
 cases f with
 | zero=> rfl
 | succ f=> unfold gone;rw [hi];simp only;rw [if_pos h]
theorem gone_none {f:Nat} {ns:NSt} {i:Nat} (hi:ns i=none):gone f ns i=ns:=by
 cases f with
 | zero=> rfl
 | succ f=> unfold gone;rw [hi]
theorem gone_go {f:Nat} {ns:NSt} {i:Nat} {nd:Nd} (hi:ns i=some nd) (h:¬(i=0∨0 < nd.links∨0 < nd.opens)):gone (f+1) ns i=goneL f nd.es (nsPut ns i none):=by
 unfold gone;rw [hi];simp only;rw [if_neg h];rfl
theorem put_eq (ns:NSt) (i:Nat) (x:Option Nd):nsPut ns i x i=x:=by unfold nsPut;rw [if_pos rfl]
theorem put_ne (ns:NSt) (i:Nat) (x:Option Nd) {j:Nat} (h:j≠i):nsPut ns i x j=ns j:=by unfold nsPut;rw [if_neg h]
def cntE (es:List En) (m:Nat):Nat:=(es.map Prod.snd).count (m:Int)
def cntO (o:Option Nd) (m:Nat):Nat:=match o with | some nd=> cntE nd.es m | none=> 0
def refs (ns:NSt) (m:Nat):Nat→Nat
 | 0=> 0
 | k+1=> refs ns m k+cntO (ns k) m
theorem refs_put_out (ns:NSt) (i:Nat) (x:Option Nd) (m:Nat):∀k,k≤i→refs (nsPut ns i x) m k=refs ns m k
 | 0,_=> rfl
 | k+1,h=> by unfold refs;rw [refs_put_out ns i x m k (by omega),put_ne ns i x (by omega)]
theorem refs_put (ns:NSt) (i:Nat) (x:Option Nd) (m:Nat):∀k,i < k→refs (nsPut ns i x) m k+cntO (ns i) m=refs ns m k+cntO x m
 | 0,h=> by omega
 | k+1,h=> by
  unfold refs
  by_cases hk:i=k
  ·subst hk
   rw [refs_put_out ns i x m i (Nat.le_refl _),put_eq];omega
  ·rw [put_ne ns i x (by omega)]
   have:=refs_put ns i x m k (by omega)
   omega
def one (o:Option Nd):Nat:=if o.isSome then 1 else 0
theorem lenN_put_out (ns:NSt) (i:Nat) (x:Option Nd):∀k,k≤i→lenN (nsPut ns i x) k=lenN ns k
 | 0,_=> rfl
 | k+1,h=> by unfold lenN;rw [lenN_put_out ns i x k (by omega),put_ne ns i x (by omega)]
theorem lenN_put (ns:NSt) (i:Nat) (x:Option Nd):∀k,i < k→lenN (nsPut ns i x) k+one (ns i)=lenN ns k+one x
 | 0,h=> by omega
 | k+1,h=> by
  unfold lenN
  by_cases hk:i=k
  ·subst hk
   rw [lenN_put_out ns i x i (Nat.le_refl _),put_eq];unfold one;omega
  ·rw [put_ne ns i x (by omega)]
   have:=lenN_put ns i x k (by omega)
   omega
def lnk (ns:NSt) (m:Nat):Int:=match ns m with | some nd=> nd.links | none=> 0
structure Inv (ns:NSt) (pend:List Int):Prop where
 ids:∀i nd,ns i=some nd→∀e∈nd.es,1≤e.2∧e.2 < 16
 pids:∀x∈pend,1≤x∧x < 16
 cnt:∀m:Nat,((refs ns m 16+pend.count (m:Int):Nat):Int)=lnk ns m
 far:∀i,16≤i→ns i=none
 opn:∀i nd,ns i=some nd→0≤nd.opens
 bnd:∀i nd,ns i=some nd→nd.links≤100000
section
variable {ns:NSt} {pend:List Int}
theorem Inv.lt (h:Inv ns pend) {i:Nat} {nd:Nd} (hi:ns i=some nd):i < 16:=by
 rcases Nat.lt_or_ge i 16 with h1 | h1
 ·exact h1
 ·rw [h.far i h1] at hi;cases hi
theorem Inv.links (h:Inv ns pend) {i:Nat} {nd:Nd} (hi:ns i=some nd):0≤nd.links:=by
 have:=h.cnt i;unfold lnk at this;rw [hi] at this;simp only at this;omega
theorem Inv.isl (h:Inv ns pend) {x:Int} (hx:x∈pend):∃nd,ns x.toNat=some nd∧1≤nd.links:=by
 have hc:=h.cnt x.toNat
 have hp:=h.pids x hx
 have hm:((x.toNat:Nat):Int)=x:=by omega
 rw [hm] at hc
 have:0 < pend.count x:=List.count_pos_iff.2 hx
 unfold lnk at hc
 cases hn:ns x.toNat with
 | none=> rw [hn] at hc;simp only at hc;omega
 | some nd=> rw [hn] at hc;simp only at hc;exact ⟨nd,rfl,by omega⟩
theorem Inv.dec {x:Int} (h:Inv ns (x::pend)):Inv (decL ns x.toNat) pend∧∃nd,ns x.toNat=some nd∧decL ns x.toNat=nsPut ns x.toNat (some (addL nd (-1))):=by
 obtain ⟨nd,hn,hl⟩:=h.isl (List.mem_cons_self ..)
 have hp:=h.pids x (List.mem_cons_self ..)
 have hd:decL ns x.toNat=nsPut ns x.toNat (some (addL nd (-1))):=by unfold decL;rw [hn]
 refine ⟨?_,nd,hn,hd⟩
 rw [hd]
 have h16:=h.lt hn
 refine ⟨fun i nd' hi=> ?_,fun y hy=> h.pids y (List.mem_cons_of_mem _ hy),fun m=> ?_,fun i hi=> ?_,fun i nd' hi=> ?_,fun i nd' hi=> ?_⟩
 ·by_cases e:i=x.toNat
  ·subst e;rw [put_eq] at hi;cases hi;exact h.ids _ nd hn
  ·rw [put_ne _ _ _ e] at hi;exact h.ids i nd' hi
 ·have hc:=h.cnt m
  have hr:=refs_put ns x.toNat (some (addL nd (-1))) m 16 h16
  have h0:cntO (some (addL nd (-1))) m=cntO (ns x.toNat) m:=by rw [hn];rfl
  rw [h0] at hr
  have hr' :refs (nsPut ns x.toNat (some (addL nd (-1)))) m 16=refs ns m 16:=by omega
  rw [hr']
  rw [List.count_cons] at hc
  unfold lnk at hc ⊢
  by_cases e:m=x.toNat
  ·subst e
   rw [put_eq]
   rw [hn] at hc
   have hm:(x==((x.toNat:Nat):Int))=true:=by simp;omega
   rw [if_pos hm] at hc
   simp only [addL] at hc ⊢
   omega
  ·rw [put_ne _ _ _ e]
   have hm:¬(x==(m:Int))=true:=by simp;omega
   rw [if_neg hm] at hc
   exact hc
 ·rw [put_ne _ _ _ (by omega)];exact h.far i hi
 ·by_cases e:i=x.toNat
  ·subst e;rw [put_eq] at hi;cases hi;exact h.opn _ nd hn
  ·rw [put_ne _ _ _ e] at hi;exact h.opn i nd' hi
 ·by_cases e:i=x.toNat
  ·subst e;rw [put_eq] at hi;cases hi;have:=h.bnd _ nd hn;simp only [addL];omega
  ·rw [put_ne _ _ _ e] at hi;exact h.bnd i nd' hi
theorem Inv.kill (h:Inv ns pend) {i:Nat} {nd:Nd} (hi:ns i=some nd) (hl:¬0 < nd.links):Inv (nsPut ns i none) (nd.es.map Prod.snd++pend):=by
 have h16:=h.lt hi
 refine ⟨fun j nd' hj=> ?_,fun y hy=> ?_,fun m=> ?_,fun j hj=> ?_,fun j nd' hj=> ?_,fun j nd' hj=> ?_⟩
 ·by_cases e:j=i
  ·subst e;rw [put_eq] at hj;cases hj
  ·rw [put_ne _ _ _ e] at hj;exact h.ids j nd' hj
 ·rw [List.mem_append] at hy
  rcases hy with hy | hy
  ·rw [List.mem_map] at hy
   obtain ⟨e,he,rfl⟩:=hy
   exact h.ids i nd hi e he
  ·exact h.pids y hy
 ·have hc:=h.cnt m
  have hr:=refs_put ns i none m 16 h16
  rw [hi] at hr
  have h0:cntO (none:Option Nd) m=0:=rfl
  have h1:cntO (some nd) m=(nd.es.map Prod.snd).count (m:Int):=rfl
  rw [h0,h1] at hr
  rw [List.count_append]
  unfold lnk at hc ⊢
  by_cases e:m=i
  ·subst e
   rw [put_eq]
   rw [hi] at hc
   simp only at hc ⊢
   omega
  ·rw [put_ne _ _ _ e]
   omega
 ·by_cases e:j=i
  ·subst e;rw [put_eq]
  ·rw [put_ne _ _ _ e];exact h.far j hj
 ·by_cases e:j=i
  ·subst e;rw [put_eq] at hj;cases hj
  ·rw [put_ne _ _ _ e] at hj;exact h.opn j nd' hj
 ·by_cases e:j=i
  ·subst e;rw [put_eq] at hj;cases hj
  ·rw [put_ne _ _ _ e] at hj;exact h.bnd j nd' hj
theorem lenN_dec {m:Nat} (ns:NSt) (hm:m < 16):lenN (decL ns m) 16=lenN ns 16:=by
 unfold decL
 cases hn:ns m with
 | none=> rfl
 | some k=>
  simp only
  have:=lenN_put ns m (some (addL k (-1))) 16 hm
  rw [hn] at this
  unfold one at this
  simp at this
  exact this
end
theorem goneL_inv {f:Nat} (ih:∀ns i pend,Inv ns pend→Inv (gone f ns i) pend) {pend:List Int}:∀(es:List En) (s:NSt),Inv s (es.map Prod.snd++pend)→Inv (goneL f es s) pend
 | [],s,h=> h
 | e::es,s,h=> by
  rw [goneL_cons]
  obtain ⟨hd,nd,hn,_⟩:=Inv.dec h
  rw [if_pos (by rw [hn];rfl)]
  exact goneL_inv ih es _ (ih _ _ _ hd)
theorem gone_inv:∀(f:Nat) (ns:NSt) (i:Nat) (pend:List Int),Inv ns pend→Inv (gone f ns i) pend
 | 0,_,_,_,h=> h
 | f+1,ns,i,pend,h=> by
  cases hn:ns i with
  | none=> rw [gone_none hn];exact h
  | some nd=>
   by_cases hs:i=0∨0 < nd.links∨0 < nd.opens
   ·rw [gone_stay hn hs];exact h
   ·rw [gone_go hn hs]
    exact goneL_inv (gone_inv f) nd.es _ (h.kill hn (fun e=> hs (Or.inr (Or.inl e))))
theorem goneL_len {f:Nat} (ih:∀ns i pend,Inv ns pend→lenN (gone f ns i) 16≤lenN ns 16) {pend:List Int}:∀(es:List En) (s:NSt),Inv s (es.map Prod.snd++pend)→lenN (goneL f es s) 16≤lenN s 16
 | [],s,h=> Nat.le_refl _
 | e::es,s,h=> by
  rw [goneL_cons]
  obtain ⟨hd,nd,hn,_⟩:=Inv.dec h
  rw [if_pos (by rw [hn];rfl)]
  refine Nat.le_trans (goneL_len ih es _ (gone_inv f _ _ _ hd)) (Nat.le_trans (ih _ _ _ hd) ?_)
  rw [lenN_dec _ (h.lt hn)];exact Nat.le_refl _
theorem gone_len:∀(f:Nat) (ns:NSt) (i:Nat) (pend:List Int),Inv ns pend→lenN (gone f ns i) 16≤lenN ns 16
 | 0,_,_,_,h=> Nat.le_refl _
 | f+1,ns,i,pend,h=> by
  cases hn:ns i with
  | none=> rw [gone_none hn];exact Nat.le_refl _
  | some nd=>
   by_cases hs:i=0∨0 < nd.links∨0 < nd.opens
   ·rw [gone_stay hn hs];exact Nat.le_refl _
   ·rw [gone_go hn hs]
    refine Nat.le_trans (goneL_len (gone_len f) nd.es _ (h.kill hn (fun e=> hs (Or.inr (Or.inl e))))) ?_
    have:=lenN_put ns i none 16 (h.lt hn)
    have:one (none:Option Nd)=0:=rfl
    omega
theorem kill_len {ns:NSt} {i:Nat} {nd:Nd} (hn:ns i=some nd) (h16:i < 16):lenN (nsPut ns i none) 16+1=lenN ns 16:=by
 have:=lenN_put ns i none 16 h16
 rw [hn] at this
 unfold one at this
 simpa using this
def CleanBut (ns:NSt) (p:Nat→Prop):Prop:=∀j nd,j≠0→¬p j→ns j=some nd→0 < nd.links∨0 < nd.opens
theorem goneL_clean {f:Nat} (ih:∀ns i pend,Inv ns pend→lenN ns 16 < f→CleanBut ns (fun j=> j=i)→CleanBut (gone f ns i) (fun _=> False)) {pend:List Int}:
  ∀(es:List En) (s:NSt),Inv s (es.map Prod.snd++pend)→lenN s 16 < f→CleanBut s (fun _=> False)→CleanBut (goneL f es s) (fun _=> False)
 | [],s,_,_,h=> h
 | e::es,s,h,hf,hc=> by
  rw [goneL_cons]
  obtain ⟨hd,nd,hn,hdd⟩:=Inv.dec h
  rw [if_pos (by rw [hn];rfl)]
  have hl:=lenN_dec s (h.lt hn)
  refine goneL_clean ih es _ (gone_inv f _ _ _ hd) (Nat.lt_of_le_of_lt (gone_len f _ _ _ hd) (by omega)) (ih _ _ _ hd (by omega) ?_)
  intro j nd' hj0 hje hj
  have hje' :j≠e.2.toNat:=hje
  rw [hdd,put_ne _ _ _ hje'] at hj
  exact hc j nd' hj0 (fun h=> h) hj
theorem gone_clean:∀(f:Nat) (ns:NSt) (i:Nat) (pend:List Int),Inv ns pend→lenN ns 16 < f→CleanBut ns (fun j=> j=i)→CleanBut (gone f ns i) (fun _=> False)
 | 0,_,_,_,_,hf,_=> by omega
 | f+1,ns,i,pend,h,hf,hc=> by
  cases hn:ns i with
  | none=>
   rw [gone_none hn]
   intro j nd hj0 _ hj
   exact hc j nd hj0 (fun e=> by rw [e,hn] at hj;cases hj) hj
  | some nd=>
   by_cases hs:i=0∨0 < nd.links∨0 < nd.opens
   ·rw [gone_stay hn hs]
    intro j nd' hj0 _ hj
    by_cases e:j=i
    ·subst e;rw [hn] at hj;cases hj
     rcases hs with hs | hs
     ·exact absurd hs hj0
     ·exact hs
    ·exact hc j nd' hj0 e hj
   ·rw [gone_go hn hs]
    have hk:=kill_len hn (h.lt hn)
    refine goneL_clean (gone_clean f) nd.es _ (h.kill hn (fun e=> hs (Or.inr (Or.inl e)))) (by omega) ?_
    intro j nd' hj0 _ hj
    by_cases e:j=i
    ·subst e;rw [put_eq] at hj;cases hj
    ·rw [put_ne _ _ _ e] at hj;exact hc j nd' hj0 e hj
end Go.Proofs.YtjpjafajploiaaaGreatDoor
/-
 settle:a node goes,and what only it named.
-/
namespace Go.Proofs.YtjpjafajploiaaaGreatDoor
open Go.RowKit Own RegJ Two
open Go.Lib hiding intOf
def loDel (lo:Lo) (i:Nat):Lo:=fun r=> match r with
 | .node j=> if j=i then none else lo (.node j)
 | .ents j=> if j=i then none else lo (.ents j)
 | .tab=> lo .tab
 | .st q=> lo (.st q)
theorem loDel_old {lo:Lo} {i:Nat} {r:Rl} {k:Nat} (h:loDel lo i r=some k):lo r=some k∧r≠ .node i∧r≠ .ents i:=by
 cases r <;> simp only [loDel] at h
 ·exact ⟨h,by simp,by simp⟩
 ·split at h
  ·cases h
  ·rename_i e;exact ⟨h,by simpa using e,by simp⟩
 ·split at h
  ·cases h
  ·rename_i e;exact ⟨h,by simp,by simpa using e⟩
 ·exact ⟨h,by simp,by simp⟩
section
variable {w w' :World} {tb:Nat} {ns:NSt} {lo:Lo} {N:Nat}
theorem TB.kill [Inhabited CapT] (h:TB w tb ns lo N) {i:Nat} {nd:Nd} {so:SRl→Option Nat} (hi:ns i=some nd) (hu:Upd (fun k=> k=tb∨∃q,soOf lo q=some k) w w') (ht:Blk w' tb (tabCells (loDel lo i)) 223)
  (hS:St w' so (filesOf (nsPut ns i none)) capN N) (hs:so .sto=soOf lo .sto) (hso:∀q k,so q=some k→(∃q',lo (.st q')=some k)∨w.heap.size≤k):TB w' tb (nsPut ns i none) (loSt (loDel lo i) so) N:=by
 have hoth:∀r k,lo r=some k→r≠ .tab→(∀q,r≠ .st q)→¬(k=tb∨∃q,soOf lo q=some k):=fun r k hk h1 h2 hh=> by
  rcases hh with hh | ⟨q,hh⟩
  ·exact h1 (h.inj r .tab k hk (by rw [hh];exact h.at'))
  ·exact h2 q (h.inj r (.st q) k hk hh)
 obtain ⟨f,ls,hI⟩:=hS
 have hsz:=hu.size
 refine ⟨fun r r' k h1 h2=> ?_,fun r k h1=> ?_,h.at',⟨f,ls,hI⟩,?_,fun j hj=> ?_,fun j hj=> ?_,fun j nd' hj=> ?_⟩
 ·rcases loSt_old h1 with ⟨q,rfl,g1⟩ | ⟨g1,e1⟩
  ·rcases loSt_old h2 with ⟨q',rfl,g2⟩ | ⟨g2,e2⟩
   ·rw [hI.inj q q' k g1 g2]
   ·have g3:=(loDel_old g2).1
    rcases hso q k g1 with ⟨q',e⟩ | e
    ·exact absurd (h.inj _ _ _ g3 e) (e2 q')
    ·have:=h.lt _ _ g3;omega
  ·have g3:=(loDel_old g1).1
   rcases loSt_old h2 with ⟨q',rfl,g2⟩ | ⟨g2,e2⟩
   ·rcases hso q' k g2 with ⟨q,e⟩ | e
    ·exact absurd (h.inj _ _ _ g3 e) (e1 q)
    ·have:=h.lt _ _ g3;omega
   ·exact h.inj r r' k g3 (loDel_old g2).1
 ·rcases loSt_old h1 with ⟨q,rfl,g1⟩ | ⟨g1,e1⟩
  ·exact hI.lt q k g1
  ·have:=h.lt r k (loDel_old g1).1;omega
 ·have e:tabCells (loSt (loDel lo i) so)=tabCells (loDel lo i):=by
   unfold tabCells loSt
   simp only
   rw [hs];rfl
  rw [e];exact ht
 ·simp only [loSt,loDel]
  split
  ·rfl
  ·rename_i e;rw [put_ne _ _ _ e] at hj;exact h.none' j hj
 ·by_cases e:j=i
  ·subst e;rw [put_eq]
  ·rw [put_ne _ _ _ e];exact h.far j hj
 ·by_cases e:j=i
  ·subst e;rw [put_eq] at hj;cases hj
  ·rw [put_ne _ _ _ e] at hj
   obtain ⟨k,v,k1,k2,k3,k4⟩:=h.node j nd' hj
   refine ⟨k,v,by simp only [loSt,loDel];rw [if_neg e];exact k1,Blk.upd hu k2 (hoth _ _ k1 (by simp) (by simp)),?_,k4⟩
   simp only [loSt,loDel]
   rw [if_neg e]
   exact k3.upd hu (fun g hg=> hoth _ _ hg (by simp) (by simp))
theorem tabCells_del (lo:Lo) (i:Nat) (hi:i < 16):(tabCells lo).setIfInBounds (1+i) (.pointer none)=tabCells (loDel lo i):=by
 apply Array.ext_getElem?
 intro j
 rw [Array.getElem?_setIfInBounds]
 unfold tabCells
 by_cases hj:1+i=j
 ·subst hj
  rw [Nat.add_comm]
  simp [hi,loDel,ptr]
 ·rw [if_neg hj]
  cases j with
  | zero=> simp [loDel]
  | succ j=>
   have hji:j≠i:=fun e=> hj (by omega)
   simp only [List.getElem?_toArray,List.getElem?_cons_succ,List.getElem?_map]
   by_cases h16:j < 16
   ·simp [h16,loDel,hji]
   ·simp [h16]
theorem files_del (ns:NSt) (i:Nat):filesOf (nsPut ns i none)=fsPut (filesOf ns) i none:=by
 funext j
 unfold filesOf nsPut fsPut
 by_cases h:j=i
 ·rw [if_pos h,if_pos h]
 ·rw [if_neg h,if_neg h]
theorem files_deld {ns:NSt} {i:Nat} {nd:Nd} (hn:ns i=some nd) (hd:nd.dir=true):filesOf (nsPut ns i none)=filesOf ns:=by
 funext j
 unfold filesOf nsPut
 by_cases h:j=i
 ·rw [if_pos h,h,hn];simp only [hd,if_pos]
 ·rw [if_neg h]
theorem files_at {ns:NSt} {i:Nat} {nd:Nd} (hn:ns i=some nd) (hd:nd.dir=false):filesOf ns i=some nd.bs:=by
 unfold filesOf;rw [hn];simp [hd]
theorem TFr.refl (lo:Lo) (w:World):TFr lo lo w w:=⟨Upd.refl _ _,fun r k h=> Or.inl ⟨r,h⟩,rfl,rfl⟩
theorem TFr.trans {lo1 lo2 lo3:Lo} {w1 w2 w3:World} (h:TFr lo1 lo2 w1 w2) (g:TFr lo2 lo3 w2 w3):TFr lo1 lo3 w1 w3:=by
 have hs:=h.1.size
 refine ⟨h.1.trans g.1 (fun k hk ⟨r,hr⟩=> ?_),fun r k hk=> ?_,g.2.2.1.trans h.2.2.1,g.2.2.2.trans h.2.2.2⟩
 ·rcases h.2.1 r k hr with h1 | h1
  ·exact h1
  ·omega
 ·rcases g.2.1 r k hk with ⟨r',h1⟩ | h1
  ·exact h.2.1 r' k h1
  ·exact Or.inr (by omega)
theorem TFr.of_below {lo:Lo} {w w' :World} (h:Below w.heap.size w w'):TFr lo lo w w' :=⟨Upd.of_below h,fun r k h=> Or.inl ⟨r,h⟩,rfl,rfl⟩
end
def SetP [Inhabited CapT] (w:World) (tb:Nat) (ns' :NSt) (lo:Lo) (N:Nat) (e:Ending) (w' :World):Prop:=(∃v,e= .returned v)∧∃lo',TB w' tb ns' lo' N∧TFr lo lo' w w'
structure Rnd [Inhabited CapT] (tb:Nat) (lo:Lo) (N f:Nat) (i:Nat) (es:List En) (v:Value) (s0:NSt) (pend:List Int) (w:World) (k:Nat) (wr:World):Prop where
 tab:∃lo',TB wr tb (goneL f (es.take k) s0) lo' N∧TFr lo lo' w wr∧∀r g,lo' r=some g→lo (.ents i)≠some g
 row:Row2 wr 188 v (es.map enV) (lo (.ents i))
 inv:Inv (goneL f (es.take k) s0) ((es.drop k).map Prod.snd++pend)
 len:lenN (goneL f (es.take k) s0) 16 < f
 lt:w.heap.size≤wr.heap.size
 rlt:∀g,lo (.ents i)=some g→g < w.heap.size
set_option maxRecDepth 100000 in
set_option maxHeartbeats 2000000 in
theorem settle_is [Inhabited CapT] (tb N:Nat):∀(f:Nat) (w:World) (ns:NSt) (lo:Lo) (i:Nat) (nd:Nd) (pend:List Int),TB w tb ns lo N→ns i=some nd→Inv ns pend→lenN ns 16 < f→
  Calls Tryz.prog 138 #[.pointer (some ⟨tb,0,none⟩),.int .i64 i] w (SetP w tb (gone f ns i) lo N)
 | 0,_,_,_,_,_,_,_,_,_,hf=> by omega
 | f+1,w,ns,lo,i,nd,pend,h,hi,hV,hf=> by
  by_cases hs:i=0∨0 < nd.links∨0 < nd.opens
  ·rw [gone_stay hi hs]
   refine (settle_stay h i nd hi hs).mono ?_
   rintro e w' ⟨hv,rfl⟩
   exact ⟨hv,lo,h,TFr.refl _ _⟩
  ·rw [gone_go hi hs]
   obtain ⟨h16,_⟩:=h.is hi
   have ct:=h.cell i h16
   obtain ⟨k,v,k1,k2,k3,k4,_⟩:=h.node _ _ hi
   rw [k1] at ct
   unfold ptr at ct
   have c1:=k2.rd
   obtain ⟨a,c,rfl⟩:=k3.slice
   rw [List.length_map] at c1 k2
   have i1:(i:Int) < 16:=by omega
   have i2:(0:Int)≤i:=by omega
   have ft:=h.tab.nf
   have d0:((i:Int)==0)=false:=by simp;omega
   have d1:decide (nd.links > 0)=false:=by simp;omega
   have d2:decide (nd.opens > 0)=false:=by simp;omega
   -- the table without the node
   have hkt:k≠tb:=fun e=> by have:=h.inj _ _ _ k1 (e▸h.at');cases this
   have hu1:Upd (fun j=> j=tb) w (w.setCell ⟨tb,1+i,none⟩ (.pointer none)):=(Upd.refl (fun j=> j=tb) w).setCell (p:=⟨tb,1+i,none⟩) (fun _=> rfl) _
   have ht1:Blk (w.setCell ⟨tb,1+i,none⟩ (.pointer none)) tb (tabCells (loDel lo i)) 223:=Blk.of (h.tab.set (1+i) (.pointer none)) (tabCells_del lo i h16)
   have hkill:∀w2,((∃lo',TB w2 tb (nsPut ns i none) lo' N∧TFr lo lo' w w2∧(∀r g,lo' r=some g→lo (.ents i)≠some g))∧Row2 w2 188 (.slice a nd.es.length c) (nd.es.map enV) (lo (.ents i))∧w.heap.size≤w2.heap.size)→Rnd tb lo N f i nd.es (.slice a nd.es.length c) (nsPut ns i none) pend w 0 w2:=fun w2 ⟨q1,q2,q3⟩=>
    ⟨q1,q2,hV.kill hi (fun e=> hs (Or.inr (Or.inl e))),by have:=kill_len hi h16;show lenN (nsPut ns i none) 16 < f;omega,q3,fun g hg=> h.lt _ _ hg⟩
   have hdR:nd.dir=true→Rnd tb lo N f i nd.es (.slice a nd.es.length c) (nsPut ns i none) pend w 0 (w.setCell ⟨tb,1+i,none⟩ (.pointer none)):=fun hd=>
    hkill (w.setCell ⟨tb,1+i,none⟩ (.pointer none)) ⟨⟨loSt (loDel lo i) (soOf lo),h.kill hi (hu1.mono (fun _ _ e=> Or.inl e)) ht1 (by
      rw [files_deld hi hd]
      exact h.sto.upd hu1 (fun r k hk e=> by have:=h.inj _ _ _ hk (e▸h.at');cases this)) rfl (fun q k hk=> Or.inl ⟨q,hk⟩),
     ⟨hu1.mono (fun _ _ e=> ⟨.tab,e▸h.at'⟩),fun r k hk=> by
      rcases loSt_old hk with ⟨q,rfl,g⟩ | ⟨g,_⟩
      ·exact Or.inl ⟨_,g⟩
      ·exact Or.inl ⟨r,(loDel_old g).1⟩,rfl,rfl⟩,fun r g hr hg=> by
      rcases loSt_old hr with ⟨q,rfl,g1⟩ | ⟨g1,_⟩
      ·have:=h.inj _ _ _ g1 hg;cases this
      ·have:=loDel_old g1
       exact this.2.2 (h.inj _ _ _ this.1 hg)⟩,by rw [List.length_map] at k3;exact k3.upd hu1 (fun g hg e=> by have:=h.inj _ _ _ hg (e▸h.at');cases this),hu1.size⟩
   have k2' :Blk (w.setCell ⟨tb,1+i,none⟩ (.pointer none)) k #[.bool nd.dir,.int .i64 nd.links,.int .i64 nd.opens,.slice a nd.es.length c] 220:=k2.set_ne (by show k≠tb;exact hkt) _
   obtain ⟨sb,s1,hsbl⟩:=h.sto.sto
   have s1' :lo (.st .sto)=some sb:=s1
   have hSB:St (w.setCell ⟨tb,1+i,none⟩ (.pointer none)) (soOf lo) (filesOf ns) capN N:=h.sto.upd hu1 (fun r k hk e=> by have:=h.inj _ _ _ hk (e▸h.at');cases this)
   have cs:(w.setCell ⟨tb,1+i,none⟩ (.pointer none)).cell? ⟨tb,0,none⟩=some (.pointer (some ⟨sb,0,none⟩)):=by rw [ht1.rd];simp [tabCells,loDel,s1',ptr]
   have hfR:nd.dir=false→Calls Tryz.prog 188 #[.pointer (some ⟨sb,0,none⟩),.int .i64 i] (w.setCell ⟨tb,1+i,none⟩ (.pointer none)) (StP (w.setCell ⟨tb,1+i,none⟩ (.pointer none)) (soOf lo) (fsPut (filesOf ns) i none) capN N (.int .i64 0))∧
     ∀w2 so,St w2 so (fsPut (filesOf ns) i none) capN N→OFr (soOf lo) so (w.setCell ⟨tb,1+i,none⟩ (.pointer none)) w2→so .sto=soOf lo .sto→so .frm=soOf lo .frm→Rnd tb lo N f i nd.es (.slice a nd.es.length c) (nsPut ns i none) pend w 0 w2∧Blk w2 k #[.bool nd.dir,.int .i64 nd.links,.int .i64 nd.opens,.slice a nd.es.length c] 220:=fun hd=> by
    refine ⟨s_drop hSB sb s1 i nd.bs (files_at hi hd),fun w2 so hS hF hs4 hs5=> ?_⟩
    have hz1:(w.setCell ⟨tb,1+i,none⟩ (.pointer none)).heap.size=w.heap.size:=by simp
    have hu12:Upd (fun j=> j=tb∨∃q,soOf lo q=some j) w w2:=(hu1.mono (fun _ _ e=> Or.inl e)).trans (hF.1.mono (fun j _ e=> Or.inr e)) (fun _ _ e=> e)
    have hq:∀q k,so q=some k→(∃q',lo (.st q')=some k)∨w.heap.size≤k:=fun q k hk=> by
     rcases hF.2 q k hk with e | e
     ·exact Or.inl e
     ·exact Or.inr (by omega)
    refine ⟨hkill w2 ⟨⟨loSt (loDel lo i) so,h.kill hi hu12 (Blk.upd hF.1 ht1 (fun ⟨q,e⟩=> by have:=h.inj _ _ _ e h.at';cases this)) (by rw [files_del];exact hS) hs4 hq,
     ⟨hu12.mono (fun j _ e=> by rcases e with e | ⟨q,e⟩;exact ⟨.tab,e▸h.at'⟩;exact ⟨_,e⟩),fun r k hk=> by
      rcases loSt_old hk with ⟨q,rfl,g⟩ | ⟨g,_⟩
      ·rcases hq q k g with ⟨q',e⟩ | e
       ·exact Or.inl ⟨_,e⟩
       ·exact Or.inr e
      ·exact Or.inl ⟨r,(loDel_old g).1⟩,hs4,hs5⟩,fun r g hr hg=> by
      rcases loSt_old hr with ⟨q,rfl,g1⟩ | ⟨g1,_⟩
      ·rcases hq q g g1 with ⟨q',e⟩ | e
       ·have:=h.inj _ _ _ e hg;cases this
       ·have:=h.lt _ _ hg;omega
      ·have:=loDel_old g1
       exact this.2.2 (h.inj _ _ _ this.1 hg)⟩,by
      rw [List.length_map] at k3
      exact k3.upd hu12 (fun g hg e=> by
       rcases e with e | ⟨q,e⟩
       ·have:=h.inj _ _ _ hg (e▸h.at');cases this
       ·have:=h.inj _ _ _ hg e;cases this),hu12.size⟩,Blk.upd hF.1 k2' (fun ⟨q,e⟩=> by have:=h.inj _ _ _ k1 e;cases this)⟩
   have HR:=Lib.hid (And.intro hdR (And.intro hfR k2'))
   have H:=Lib.hid (And.intro h (And.intro hi (And.intro hV hf)))
   have hlen:=k4
   have cd:=k2'.rd
   clear hdR hfR hkill k2' hSB ht1 hu1 hi hV hf k3 k2 h hs
   go_enter Tryz.func138,Tryz.ntmps138
   go_upto_if 39 with (fail)
   go_cut [4] from 38 to 45 (fun s4 wx=> s4= .pointer (some ⟨k,0,none⟩)∧Hid (Rnd tb lo N f i nd.es (.slice a nd.es.length c) (nsPut ns i none) pend w 0 wx∧Blk wx k #[.bool nd.dir,.int .i64 nd.links,.int .i64 nd.opens,.slice a nd.es.length c] 220))
   case first=>
    cases hd:nd.dir with
    | true=>
     have X:=And.intro (HR.out.1 hd) HR.out.2.2
     have HX:=Lib.hid X
     clear X hd
     go_wp2_with (fail)
     go_meet
     exact ⟨rfl,HX⟩
    | false=>
     obtain ⟨hdr,hnx⟩:=HR.out.2.1 hd
     have HX:=Lib.hid hnx
     clear hnx hd
     go_wp2_with (go_at_call 188;(with_reducible refine hdr.mono ?_);rintro e w2 ⟨rfl,so,hS,hF2,hs4,hs5⟩;have HY:=Lib.hid (HX.out w2 so hS hF2 hs4 hs5);clear hdr hS hF2 hs4 hs5)
     go_meet
     exact ⟨rfl,HY⟩
   case rest=>
    obtain ⟨rfl,HC⟩:=hcut
    have cw:=HC.out.2.rd
    clear cd c1 ct cs
    go_wp2_with (fail)
    generalize hnn:nd.es.length=n at*
    go_loopw [51] (fun v51 wr=> ∃j:Nat,j≤n∧v51= .int .i64 j∧Hid (Rnd tb lo N f i nd.es (.slice a n c) (nsPut ns i none) pend w j wr)) (fun v51 _=> n - (intOf v51).toNat)
    case atStart=> exact ⟨0,by omega,rfl,Lib.hid HC.out.1⟩
    case round=>
     obtain ⟨j,hjn,rfl,HJ⟩:=hrel
     by_cases hjl:j < n
     ·have d5:decide ((j:Int) < (n:Int))=true:=by simp;omega
      have d5n:decide (j < n)=true:=by simp;omega
      have i5:(j:Int) < (n:Int):=by omega
      have i6:(0:Int)≤j:=by omega
      obtain ⟨⟨nm,x⟩,hx⟩:∃x,nd.es[j]? =some x:=⟨_,List.getElem?_eq_getElem (by omega)⟩
      obtain ⟨g,rfl,r1,r2⟩:=HJ.out.row.rd j (enV (nm,x)) (by rw [List.getElem?_map,hx];rfl)
      have hdrop:nd.es.drop j=(nm,x)::nd.es.drop (j+1):=by
       rw [List.drop_eq_getElem_cons (by omega)]
       congr 1
       exact (List.getElem?_eq_some_iff.1 hx).2
      have hinv:=HJ.out.inv
      rw [hdrop,List.map_cons,List.cons_append] at hinv
      have hxb:=hinv.pids x (List.mem_cons_self ..)
      obtain ⟨m,rfl⟩:∃m:Nat,x=m:=⟨x.toNat,by omega⟩
      obtain ⟨hdec,ndm,hm,hde⟩:=hinv.dec
      simp only [Int.toNat_natCast] at hdec hm hde
      obtain ⟨lo',hT,hF,hD⟩:=HJ.out.tab
      obtain ⟨km,vm,q1,q2,_⟩:=hT.node m ndm hm
      have hm16:=hinv.lt hm
      have hl0:=hinv.links hm
      have hl1:=hinv.bnd m ndm hm
      have ctm:=(hT.below ((Below.refl wr.heap.size wr).alloc (Nat.le_refl _) (.cells #[.string (B nm),.int .i64 m] 188))).cell m hm16
      rw [q1] at ctm
      unfold ptr at ctm
      have i7:(m:Int) < 16:=by omega
      have i8:(0:Int)≤m:=by omega
      have r1' :wr.cell? ⟨g,j*2,none⟩=some (.string (B nm)):=r1
      have r2' :wr.cell? ⟨g,j*2+1,none⟩=some (.int .i64 m):=r2
      have HQ:=Lib.hid (And.intro hx (And.intro hdec (And.intro hde (And.intro hm (And.intro hT (And.intro hF (And.intro hD (And.intro q1 (And.intro q2 hm16)))))))))
      clear r1 r2 hinv hdec hde hT hF hD q2 hdrop hm q1 hx hxb
      generalize hBB:B nm=bs at*
      clear hBB
      go_upto_region 8 with (fail)
      go_quiet (fail)
      obtain ⟨wd,hwd⟩:∃wd,(wr.alloc (.cells #[.string bs,.int .i64 m] 188)).drewN nq=wd:=⟨_,rfl⟩
      rw [hwd]
      obtain ⟨hx,hdec,hde,hm,hT,hF,hD,q1,q2,hm16⟩:=HQ.out
      have hA:Below wr.heap.size wr wd:=by
       rw [←hwd]
       exact (Upd.drewN ((Upd.refl (fun _=> False) wr).alloc _) nq).below (Nat.le_refl _) (fun _ h=> h.elim)
      have hEn:Blk wd wr.heap.size #[.string bs,.int .i64 m] 188:=by rw [←hwd];exact (Blk.new _ _ _).drewN nq
      have hTA:=hT.below hA
      have q2A:=Blk.below hA q2 q2.lt
      have cm:=q2A.rd
      have fm:=q2A.nf
      have hne:wr.heap.size≠km:=by have:=q2.lt;omega
      have hu5:Upd (fun k=> k=km) wd (wd.setCell ⟨km,1,none⟩ (.int .i64 (ndm.links - 1))):=(Upd.refl (fun k=> k=km) _).setCell (p:=⟨km,1,none⟩) (fun _=> rfl) _
      have hT5:=hTA.num (nd' :=addL ndm (-1)) hm q1 rfl rfl rfl hu5 (fun v hv=> Blk.of (hv.set 1 (.int .i64 (ndm.links - 1))) rfl)
      have hE5:=Blk.upd hu5 hEn hne
      rw [hde] at hdec
      have hIH:=settle_is tb N f _ _ lo' m (addL ndm (-1)) _ hT5 (put_eq _ _ _) hdec (by rw [←hde,lenN_dec _ hm16];exact HJ.out.len)
      have HA:=Lib.hid (And.intro hdec (And.intro hA (And.intro hu5 hE5)))
      clear hdec hde hm hx hT hF hD q1 q2 q2A hT5 hu5 hTA hwd hA hEn hE5
      generalize ndm.links=L at*
      go_upto_region 11 with (fail)
      have c5:=HA.out.2.2.2.rd
      have HU:=Lib.hid HA.out.2.2.1
      generalize wd.setCell ⟨km,1,none⟩ (.int .i64 (L - 1))=w5 at*
      go_wp2_with (go_at_call 138;(with_reducible refine hIH.mono ?_);rintro e w6 ⟨⟨v6,rfl⟩,lo6,hT6,hF6⟩;have H6:=Lib.hid (And.intro hT6 hF6);clear hIH hT6 hF6)
      go_roundw
      case rel=>
       refine ⟨j+1,by omega,by go_num,Lib.hid ?_⟩
       obtain ⟨hx,_,hde,hm,hT,hF,hD,q1,q2,hm16⟩:=HQ.out
       obtain ⟨hdec,hA,hu5,_⟩:=HA.out
       have htk:nd.es.take (j+1)=nd.es.take j++ [(nm,(m:Int))]:=by
        rw [List.take_add_one,hx];rfl
       have hgo:goneL f (nd.es.take (j+1)) (nsPut ns i none)=gone f (nsPut (goneL f (nd.es.take j) (nsPut ns i none)) m (some (addL ndm (-1)))) m:=by
        rw [htk,goneL_snoc]
        simp only [Int.toNat_natCast]
        rw [if_pos (by rw [hm];rfl),hde]
       have z1:=hA.size
       have z2:=hu5.size
       have z3:=HJ.out.lt
       have hF5:TFr lo' lo' wr w5:=(TFr.of_below hA).trans ⟨hu5.mono (fun k' _ (e:k' =km)=> ⟨_,e▸q1⟩),fun r k h=> Or.inl ⟨r,h⟩,rfl,rfl⟩
       have hF56:=hF5.trans H6.out.2
       refine ⟨⟨lo6,by rw [hgo];exact H6.out.1,hF.trans hF56,fun r g' hg' e=> ?_⟩,HJ.out.row.upd hF56.1 (fun g' hg' ⟨r,hr⟩=> hD r g' hr hg'),?_,?_,?_,HJ.out.rlt⟩
       ·rcases hF56.2.1 r g' hg' with ⟨r',h1⟩ | h1
        ·exact hD r' g' h1 e
        ·have:=HJ.out.rlt g' e;omega
       ·rw [hgo];exact gone_inv f _ _ _ hdec
       ·rw [hgo]
        refine Nat.lt_of_le_of_lt (gone_len f _ _ _ hdec) ?_
        rw [←hde,lenN_dec _ hm16];exact HJ.out.len
       ·have:=hF56.1.size;omega
      case measure=> simp [intOf];omega
     ·have hje:j=n:=by omega
      subst hje
      go_wp2_with (fail)
      go_returns
      obtain ⟨lo',hT,hF,_⟩:=HJ.out.tab
      rw [List.take_of_length_le (by omega)] at hT
      exact ⟨⟨_,rfl⟩,lo',hT,hF⟩
end Go.Proofs.YtjpjafajploiaaaGreatDoor
/-
 Of no table each call says so.
-/
namespace Go.Proofs.YtjpjafajploiaaaGreatDoor
open Go.RowKit Own RegJ Two
open Go.Lib hiding intOf
section none
variable (w:World)
abbrev in0:Array Value:= #[.int .i64 0,.int .i64 0,.bool false,.int .i64 0]
end none
end Go.Proofs.YtjpjafajploiaaaGreatDoor
/-
 What each call of a table does:Open,Close,Opens,Get,List,Remove.
-/
namespace Go.Proofs.YtjpjafajploiaaaGreatDoor
open Go.RowKit Own RegJ Two
open Go.Lib hiding intOf
theorem qE (w:World) (a:Option Addr) (n c n' c' :Nat):(binOp .eql 64 (.slice a n c) (.slice none n' c')).run Tryz.prog w= .ok (.bool a.isNone) w:=Lib.run_eql_slice_nil w _ _ a n c n' c' underS
def CloneE (xs:List V2) (w:World) (e:Ending) (w' :World):Prop:=∃v b,e= .returned v∧Row2 w' 188 v xs b∧(∀g,b=some g→w.heap.size≤g)∧Below w.heap.size w w'
set_option maxRecDepth 100000 in
theorem clone_is {w:World} {v:Value} {xs:List V2} {b:Option Nat} (h:Row2 w 188 v xs b) (hlen:xs.length≤2000) (hone:One2 xs):
  Calls Tryz.prog 120 #[v] w (CloneE xs w):=by
 have h0:=h
 have q:=qE
 rcases h with ⟨rfl,rfl,rfl⟩ | ⟨g,cap,rest,rfl,rfl,hB,hc,hm⟩
 ·go_enter Tryz.func120,Tryz.ntmps120
  go_wp2
  go_ret
  exact ⟨_,none,rfl,Or.inl ⟨rfl,rfl,rfl⟩,(fun g hg=> by cases hg),Below.refl _ _⟩
 ·obtain ⟨i0,hi,hz0,hz1,hz2⟩:=info_parts infoEntry
  have hp:=cells2_len xs
  have hB1:Blk (w.alloc (.cells #[] 188)) g (cells2 xs++rest).toArray 188:=hB.alloc _
  have hnews:∀(j:Nat) (u:Value),(cells2 xs)[j]? =some u→(w.alloc (.cells #[] 188)).cell? (Addr.add ⟨g,0,none⟩ j)=some u:=by
   intro j u hj
   have hjl:j < (cells2 xs).length:=(List.getElem?_eq_some_iff.1 hj).1
   rw [add0,Nat.zero_add,hB1.rd]
   simp only [List.getElem?_toArray]
   rw [List.getElem?_append_left hjl];exact hj
  have hown:(w.alloc (.cells #[] 188)).ownsRow w.heap.size 188 2 (.slice (some ⟨w.heap.size,0,none⟩) 0 0) 0 []:=
   ⟨rfl,Or.inr ⟨w.heap.size,0,#[],rfl,Nat.le_refl _,Blk.new _ _ _,Nat.le_refl _,by simp,rfl,rfl⟩⟩
  have H:=Lib.hid (And.intro hnews (And.intro hone.cells hown))
  clear hnews hone hown hB hB1 hc h0
  go_enter Tryz.func120,Tryz.ntmps120
  go_wp2_with (at_builtin;refine wpList_append_own _ rfl _ _ 64 rfl w.heap.size 188 i0 _ 2 24 underS hi hz0 hz1 hz2 rfl (by decide) _ 0 [] rfl H.out.2.2 ⟨g,0,none⟩ xs.length cap (cells2 xs) rfl hp H.out.1 H.out.2.1 (by unfold maxLen;omega) (by omega) (by simp) ?_;intro v' w1 h1 h2 _;have H1:=Lib.hid (And.intro h1 h2);clear h1 h2)
  go_ret
  have h1:=H1.out.1
  rw [List.nil_append,Nat.zero_add] at h1
  obtain ⟨b',hI,hb⟩:=Row2.of_own rfl h1
  refine ⟨_,b',rfl,hI,hb,?_⟩
  exact ((Below.refl w.heap.size w).alloc (Nat.le_refl _) (.cells #[] 188)).grown H1.out.2 (by simp) (fun k hk=> by first | (cases hk;exact Nat.le_refl _) | (simp [Value.ownBlock] at hk;subst hk;exact Nat.le_refl _) | (simp [Value.ownBlock] at hk))
section
variable {w:World} {tb:Nat} {ns:NSt} {lo:Lo} {N:Nat}
set_option maxRecDepth 100000 in
theorem open_yes [Inhabited CapT] (h:TB w tb ns lo N) (i:Nat) (nd:Nd) (hi:ns i=some nd) (ho:0≤nd.opens) (ho2:nd.opens≤100000):Calls Tryz.prog 134 #[.pointer (some ⟨tb,0,none⟩),.int .i64 i] w fun e w' => e= .returned (.int .i64 0)∧TB w' tb (nsPut ns i (some (addO nd 1))) lo N∧TFr lo lo w w' :=by
 obtain ⟨k,v,k1,k2,_⟩:=h.node _ _ hi
 have hg:=get_nd h i nd hi k k1
 have c1:=k2.rd
 have nf:=k2.nf
 have hu:Upd (fun j=> j=k) w (w.setCell ⟨k,2,none⟩ (.int .i64 (nd.opens+1))):=(Upd.refl (fun j=> j=k) w).setCell (p:=⟨k,2,none⟩) (fun _=> rfl) _
 have hT:=h.num (nd' :=addO nd 1) hi k1 rfl rfl rfl hu (fun v hv=> Blk.of (hv.set 2 (.int .i64 (nd.opens+1))) rfl)
 have HT:=Lib.hid (And.intro hT (And.intro hu k1))
 clear h hi k2 k1 hT hu
 generalize nd.opens=O at*
 go_enter Tryz.func134,Tryz.ntmps134
 go_wp2_with (first
  | (go_at_call 72;refine hg.mono ?_;rintro e w' ⟨rfl,rfl⟩))
 go_ret
 exact ⟨rfl,HT.out.1,HT.out.2.1.mono (fun j _ e=> ⟨_,e▸HT.out.2.2⟩),fun r k hk=> Or.inl ⟨r,hk⟩,rfl,rfl⟩
set_option maxRecDepth 100000 in
theorem close_any [Inhabited CapT] (h:TB w tb ns lo N) (hV:Inv ns []) (i:Nat) (nd:Nd) (hi:ns i=some nd) (ho:0 < nd.opens) (ho2:nd.opens≤100000) (hV' :Inv (nsPut ns i (some (addO nd (-1)))) []):
  Calls Tryz.prog 82 #[.pointer (some ⟨tb,0,none⟩),.int .i64 i] w fun e w' => e= .returned (.int .i64 0)∧∃lo',TB w' tb (gone 17 (nsPut ns i (some (addO nd (-1)))) i) lo' N∧TFr lo lo' w w' :=by
 obtain ⟨k,v,k1,k2,_⟩:=h.node _ _ hi
 have hg:=get_nd h i nd hi k k1
 have c1:=k2.rd
 have nf:=k2.nf
 have d1:(nd.opens==0)=false:=by simp;omega
 have hu:Upd (fun j=> j=k) w (w.setCell ⟨k,2,none⟩ (.int .i64 (nd.opens - 1))):=(Upd.refl (fun j=> j=k) w).setCell (p:=⟨k,2,none⟩) (fun _=> rfl) _
 have hT:=h.num (nd' :=addO nd (-1)) hi k1 rfl rfl rfl hu (fun v hv=> Blk.of (hv.set 2 (.int .i64 (nd.opens - 1))) rfl)
 have hst:=settle_is tb N 17 _ _ lo i (addO nd (-1)) [] hT (put_eq _ _ _) hV' (by have:=lenN_le (nsPut ns i (some (addO nd (-1)))) 16;omega)
 have HT:=Lib.hid (And.intro hu k1)
 clear h hi k2 k1 hT hu hV hV'
 generalize nd.opens=O at*
 go_enter Tryz.func82,Tryz.ntmps82
 go_wp2_with (first
  | (go_at_call 72;refine hg.mono ?_;rintro e w' ⟨rfl,rfl⟩)
  | (go_at_call 138;(with_reducible refine hst.mono ?_);rintro e w2 ⟨⟨v2,rfl⟩,lo2,hT2,hF2⟩;have H2:=Lib.hid (And.intro hT2 hF2);clear hst hT2 hF2))
 go_ret
 have hF1:TFr lo lo w _:=⟨HT.out.1.mono (fun j _ e=> ⟨_,e▸HT.out.2⟩),fun r k hk=> Or.inl ⟨r,hk⟩,rfl,rfl⟩
 exact ⟨rfl,lo2,H2.out.1,hF1.trans H2.out.2⟩
set_option maxRecDepth 100000 in
theorem list_no [Inhabited CapT] (h:TB w tb ns lo N) (dir:Int) (hd:dirAt ns dir=none):Calls Tryz.prog 71 #[.pointer (some ⟨tb,0,none⟩),.int .i64 dir] w fun e w' => e= .returned (.tuple #[.slice none 0 0,.int .i64 11])∧w=w' :=by
 have hf:=find_no h dir [] hd
 have e0:B []=⟨#[]⟩:=rfl
 rw [e0] at hf
 clear h hd e0
 go_enter Tryz.func71,Tryz.ntmps71
 go_wp2_with (go_at_call 119;refine hf.mono ?_;rintro e w' ⟨rfl,rfl⟩)
 go_returns
 exact ⟨rfl,rfl⟩
def ListP (es:List En) (w:World) (e:Ending) (w' :World):Prop:=∃v b,e= .returned (.tuple #[v,.int .i64 0])∧Row2 w' 188 v (es.map enV) b∧(∀g,b=some g→w.heap.size≤g)∧Below w.heap.size w w'
set_option maxRecDepth 100000 in
theorem list_yes [Inhabited CapT] (h:TB w tb ns lo N) (i:Nat) (nd:Nd) (hi:ns i=some nd) (hd:nd.dir=true):Calls Tryz.prog 71 #[.pointer (some ⟨tb,0,none⟩),.int .i64 i] w (ListP nd.es w):=by
 have hf:=find_yes h i [] nd hi hd
 have e0:B []=⟨#[]⟩:=rfl
 rw [e0] at hf
 have H:=Lib.hid (And.intro h (And.intro hi hd))
 clear h hd hi e0
 go_enter Tryz.func71,Tryz.ntmps71
 go_upto_region 4 with (go_at_call 119;refine hf.mono ?_;rintro e w1 ⟨j,rfl,hA,hB⟩;have HB:=Lib.hid hB;clear hA hB hf)
 have hT:=H.out.1.below HB.out
 obtain ⟨k,v,k1,k2,k3,k4,_⟩:=hT.node _ _ H.out.2.1
 have hg:=get_nd hT i nd H.out.2.1 k k1
 have c1:=k2.rd
 have hc:=clone_is k3 (by rw [List.length_map];omega) (one_en nd.es)
 clear hT k3 k2 k1
 go_wp2_with (first
  | (go_at_call 72;refine hg.mono ?_;rintro e w' ⟨rfl,rfl⟩)
  | (go_at_call 120;(with_reducible refine hc.mono ?_);rintro e w2 ⟨v2,b2,rfl,hr,hb,hB2⟩;have H2:=Lib.hid (And.intro hr (And.intro hb hB2));clear hc hr hb hB2))
 go_returns
 have z:=HB.out.size
 exact ⟨v2,b2,rfl,H2.out.1,fun g hg=> by have:=H2.out.2.1 g hg;omega,HB.out.trans (H2.out.2.2.mono z)⟩
def sizeN (nd:Nd):Int:=if nd.dir=true then nd.es.length else nd.bs.length
def getV (ns:NSt) (id:Int):Value:=match ndAt ns id with
 | some nd=> .tuple #[.agg #[.int .i64 id,.int .i64 nd.links,.bool nd.dir,.int .i64 (sizeN nd)],.bool true]
 | none=> .tuple #[.agg in0,.bool false]
set_option maxRecDepth 100000 in
theorem get_any [Inhabited CapT] (h:TB w tb ns lo N) (id:Int):Calls Tryz.prog 145 #[.pointer (some ⟨tb,0,none⟩),.int .i64 id] w fun e w' => e= .returned (getV ns id)∧Below w.heap.size w w' :=by
 have hW:=(Below.refl w.heap.size w).alloc (Nat.le_refl _) (.cells in0 184)
 have hT:=h.below hW
 have hc0:=Blk.new w in0 184
 have c0:=hc0.rd
 have f0:=hc0.nf
 cases hx:ndAt ns id with
 | none=>
  have hg:=get_no hT id hx
  have HX:=Lib.hid hx
  clear h hT hx
  go_enter Tryz.func145,Tryz.ntmps145
  go_wp2_with (go_at_call 72;refine hg.mono ?_;rintro e w1 ⟨rfl,rfl⟩)
  have hf:=(((hc0.set 0 (.int .i64 0)).set 1 (.int .i64 0)).set 2 (.bool false)).set 3 (.int .i64 0)
  refine bodyPost_ret (v:= .tuple #[.agg in0,.bool false]) (by simp [results,Tryz.results145,go_sem,hf.rd]) rfl ?_
  exact ⟨by unfold getV;rw [HX.out],hW⟩
 | some nd=>
  obtain ⟨i,rfl,hi⟩:=ndAt_some hx
  obtain ⟨k,v,k1,k2,k3,k4,_⟩:=hT.node _ _ hi
  obtain ⟨a,c,rfl⟩:=k3.slice
  rw [List.length_map] at k2
  have hg:=get_nd hT i nd hi k k1
  have c1:=k2.rd
  have hne:w.heap.size≠k:=by obtain ⟨k',v',q1,q2,_⟩:=h.node _ _ hi;rw [k1] at q1;cases q1;have:=q2.lt;omega
  have HX:=Lib.hid (And.intro hx (And.intro hi hT))
  have mixed:Tryz.prog.follows .mixedOrders=true:=by kernel_rfl
  cases hd:nd.dir with
  | true=>
   rw [hd] at c1
   have hs:(nd.es.length:Int)=sizeN nd:=by unfold sizeN;rw [if_pos hd]
   have HD:=Lib.hid (And.intro hs hd)
   clear h hT hx hi k3 k2 k1 hd hs
   generalize hnn:nd.es.length=n at*
   generalize hLL:nd.links=L at*
   have HE:=Lib.hid (And.intro hnn hLL)
   clear hnn hLL
   go_enter Tryz.func145,Tryz.ntmps145
   go_upto_region 7 with (go_at_call 72;refine hg.mono ?_;rintro e w1 ⟨rfl,rfl⟩)
   go_region
   go_wp2
   have hf:=(Blk.new w #[.int .i64 i,.int .i64 L,.bool true,.int .i64 n] 184).drew
   refine bodyPost_ret (v:= .tuple #[.agg #[.int .i64 i,.int .i64 L,.bool true,.int .i64 n],.bool true]) (by simp [results,Tryz.results145,go_sem,hf.rd]) rfl ?_
   refine ⟨?_,((Upd.refl (fun _=> False) w).alloc _).drew.below (Nat.le_refl _) (fun _ h=> h.elim)⟩
   unfold getV
   rw [HX.out.1]
   simp only
   rw [HE.out.2,HD.out.2,←HD.out.1]
  | false=>
   rw [hd] at c1
   obtain ⟨sb,s1,_⟩:=hT.sto.sto
   have s1' :lo (.st .sto)=some sb:=s1
   have hsz:=s_size hT.sto sb s1 i (wf_16 i (hT.is hi).1) nd.bs.length 0 (by unfold sizeV fsAt;rw [if_pos (by omega)];simp only [Int.toNat_natCast];rw [files_at hi hd])
   have c3:(w.alloc (.cells in0 184)).cell? ⟨tb,0,none⟩=some (.pointer (some ⟨sb,0,none⟩)):=by rw [hT.tab.rd];simp [tabCells,s1',ptr]
   have hs:(nd.bs.length:Int)=sizeN nd:=by unfold sizeN;rw [if_neg (by rw [hd];simp)]
   have HD:=Lib.hid (And.intro hs hd)
   clear h hT hx hi k3 k2 k1 hd hs s1 s1'
   generalize nd.es.length=n at*
   generalize nd.bs.length=nb at*
   generalize hLL:nd.links=L at*
   have HE:=Lib.hid hLL
   clear hLL
   go_enter Tryz.func145,Tryz.ntmps145
   go_upto_region 7 with (first
    | (go_at_call 72;refine hg.mono ?_;rintro e w1 ⟨rfl,rfl⟩)
    | (go_at_call 142;refine hsz.mono ?_;rintro e w1 ⟨rfl,rfl⟩))
   go_region
   go_wp2
   have hf:=(Blk.new w #[.int .i64 i,.int .i64 L,.bool false,.int .i64 nb] 184).drew
   refine bodyPost_ret (v:= .tuple #[.agg #[.int .i64 i,.int .i64 L,.bool false,.int .i64 nb],.bool true]) (by simp [results,Tryz.results145,go_sem,hf.rd]) rfl ?_
   refine ⟨?_,((Upd.refl (fun _=> False) w).alloc _).drew.below (Nat.le_refl _) (fun _ h=> h.elim)⟩
   unfold getV
   rw [HX.out.1]
   simp only
   rw [HE.out,HD.out.2,←HD.out.1]
end
end Go.Proofs.YtjpjafajploiaaaGreatDoor
/-
 Remove.
-/
namespace Go.Proofs.YtjpjafajploiaaaGreatDoor
open Go.RowKit Own RegJ Two
open Go.Lib hiding intOf
def delE (es:List En) (j:Nat):List En:=es.take j++es.drop (j+1)
theorem split_at {es:List En} {j:Nat} {x:En} (hx:es[j]? =some x):es=es.take j++x::es.drop (j+1):=by
 obtain ⟨hl,he⟩:=List.getElem?_eq_some_iff.1 hx
 have h1:=List.take_append_drop j es
 rw [List.drop_eq_getElem_cons hl,he] at h1
 exact h1.symm
theorem delE_len {es:List En} {j:Nat} (h:j < es.length):(delE es j).length=es.length - 1:=by
 unfold delE;rw [List.length_append,List.length_take,List.length_drop];omega
theorem delE_srt {es:List En} {j:Nat} (h:Srt es):Srt (delE es j):=by
 by_cases hj:j < es.length
 ·have hs:=split_at (List.getElem?_eq_getElem hj)
  have hsub:(es.take j++es.drop (j+1)).Sublist (es.take j++es[j]::es.drop (j+1)):=List.Sublist.append (List.Sublist.refl _) (List.sublist_cons_self _ _)
  rw [←hs] at hsub
  exact h.sublist hsub
 ·unfold delE
  rw [List.take_of_length_le (by omega),List.drop_eq_nil_of_le (by omega),List.append_nil];exact h
theorem delE_map (es:List En) (j:Nat):(delE es j).map enV=(es.map enV).take j++(es.map enV).drop (j+1):=by
 unfold delE
 rw [List.map_append,List.map_take,List.map_drop]
theorem cnt_del {es:List En} {j:Nat} {x:En} (hx:es[j]? =some x) (m:Nat):cntE es m=cntE (delE es j) m+ [x.2].count (m:Int):=by
 unfold cntE
 have hs:=congrArg (List.map Prod.snd) (split_at hx)
 rw [hs]
 unfold delE
 rw [List.map_append,List.map_append,List.map_cons,List.count_append,List.count_append,List.count_cons,List.count_cons,List.count_nil]
 omega
theorem Inv.del {ns:NSt} (h:Inv ns []) {i:Nat} {nd:Nd} (hi:ns i=some nd) {j:Nat} {x:En} (hx:nd.es[j]? =some x):Inv (nsPut ns i (some (setEs nd (delE nd.es j)))) [x.2]:=by
 have h16:=h.lt hi
 have hxm:x∈nd.es:=List.mem_of_getElem? hx
 refine ⟨fun k nd' hk=> ?_,fun y hy=> ?_,fun m=> ?_,fun k hk=> ?_,fun k nd' hk=> ?_,fun k nd' hk=> ?_⟩
 ·by_cases e:k=i
  ·subst e;rw [put_eq] at hk;cases hk
   intro y hy
   refine h.ids _ nd hi y ?_
   unfold setEs delE at hy
   simp only [List.mem_append] at hy
   rcases hy with hy | hy
   ·exact List.mem_of_mem_take hy
   ·exact List.mem_of_mem_drop hy
  ·rw [put_ne _ _ _ e] at hk;exact h.ids k nd' hk
 ·rw [List.mem_singleton] at hy
  subst hy;exact h.ids i nd hi x hxm
 ·have hc:=h.cnt m
  have hr:=refs_put ns i (some (setEs nd (delE nd.es j))) m 16 h16
  rw [hi] at hr
  have h0:cntO (some (setEs nd (delE nd.es j))) m=cntE (delE nd.es j) m:=rfl
  have h1:cntO (some nd) m=cntE nd.es m:=rfl
  rw [h0,h1,cnt_del hx m] at hr
  rw [List.count_nil] at hc
  have hlk:lnk (nsPut ns i (some (setEs nd (delE nd.es j)))) m=lnk ns m:=by
   unfold lnk
   by_cases e:m=i
   ·subst e;rw [put_eq,hi];rfl
   ·rw [put_ne _ _ _ e]
  rw [hlk];omega
 ·rw [put_ne _ _ _ (by omega)];exact h.far k hk
 ·by_cases e:k=i
  ·subst e;rw [put_eq] at hk;cases hk;exact h.opn _ nd hi
  ·rw [put_ne _ _ _ e] at hk;exact h.opn k nd' hk
 ·by_cases e:k=i
  ·subst e;rw [put_eq] at hk;cases hk;exact h.bnd _ nd hi
  ·rw [put_ne _ _ _ e] at hk;exact h.bnd k nd' hk
section
variable {w:World} {tb:Nat} {ns:NSt} {lo:Lo} {N:Nat}
set_option maxRecDepth 100000 in
theorem remove_no [Inhabited CapT] (h:TB w tb ns lo N) (dir:Int) (nm:Txt) (hd:dirAt ns dir=none):Calls Tryz.prog 199 #[.pointer (some ⟨tb,0,none⟩),.int .i64 dir,.string (B nm)] w fun e w' => e= .returned (.int .i64 11)∧w=w' :=by
 have hf:=find_no h dir nm hd
 clear h hd
 generalize B nm=s at*
 go_enter Tryz.func199,Tryz.ntmps199
 go_wp2_with (go_at_call 119;refine hf.mono ?_;rintro e w' ⟨rfl,rfl⟩)
 go_ret
 exact ⟨rfl,rfl⟩
def nsRem (ns:NSt) (i:Nat) (nd:Nd) (j m:Nat):NSt:=decL (nsPut ns i (some (setEs nd (delE nd.es j)))) m
def RemP [Inhabited CapT] (w:World) (tb:Nat) (ns:NSt) (lo:Lo) (N:Nat) (i:Nat) (nd:Nd) (nm:Txt) (e:Ending) (w' :World):Prop:=
  ∃j:Nat,At nd.es nm j∧((isAt nd.es nm j=false∧e= .returned (.int .i64 9)∧Below w.heap.size w w')∨∃(m:Nat) (ndm:Nd),nd.es[j]? =some (nm,(m:Int))∧ns m=some ndm∧
    ((ndm.dir=true∧ndm.es≠ []∧e= .returned (.int .i64 13)∧Below w.heap.size w w')∨
     (¬(ndm.dir=true∧ndm.es≠ [])∧e= .returned (.int .i64 0)∧∃lo',TB w' tb (gone 17 (nsRem ns i nd j m) m) lo' N∧TFr lo lo' w w')))
set_option maxRecDepth 100000 in
set_option maxHeartbeats 2000000 in
theorem remove_any [Inhabited CapT] (h:TB w tb ns lo N) (hV:Inv ns []) (i:Nat) (nm:Txt) (nd:Nd) (hi:ns i=some nd) (hd:nd.dir=true):
  Calls Tryz.prog 199 #[.pointer (some ⟨tb,0,none⟩),.int .i64 i,.string (B nm)] w (RemP w tb ns lo N i nd nm):=by
 have hf:=find_yes h i nm nd hi hd
 have H:=Lib.hid (And.intro h (And.intro hi (And.intro hd hV)))
 clear h hi hd hV
 generalize B nm=s at*
 go_enter Tryz.func199,Tryz.ntmps199
 go_upto_region 2 with (go_at_call 119;refine hf.mono ?_;rintro e w1 ⟨j,rfl,hA,hB⟩;have HA:=Lib.hid (And.intro hA hB);clear hA hB hf)
 cases hia:isAt nd.es nm j with
 | false=>
  have HI:=Lib.hid hia
  clear hia
  go_wp2_with (fail)
  go_ret
  exact ⟨j,HA.out.1,Or.inl ⟨HI.out,rfl,HA.out.2⟩⟩
 | true=>
  obtain ⟨x,hx,hxn⟩:∃x,nd.es[j]? =some x∧x.1=nm:=by
   unfold isAt at hia
   split at hia
   ·rename_i x hx;exact ⟨x,hx,by simpa using hia⟩
   ·cases hia
  obtain ⟨nm',x⟩:=x
  have hxn' :nm' =nm:=hxn
  subst hxn'
  clear hxn
  have hV:=H.out.2.2.2
  have hxb:=hV.ids i nd H.out.2.1 _ (List.mem_of_getElem? hx)
  simp only at hxb
  obtain ⟨m,rfl⟩:∃m:Nat,x=m:=⟨x.toNat,by omega⟩
  obtain ⟨hdec,ndm',hm',hde⟩:=(hV.del H.out.2.1 hx).dec
  simp only [Int.toNat_natCast] at hdec hm' hde
  obtain ⟨ndm,hm⟩:∃ndm,ns m=some ndm:=by
   by_cases e:m=i
   ·subst e;exact ⟨nd,H.out.2.1⟩
   ·rw [put_ne _ _ _ e] at hm';exact ⟨ndm',hm'⟩
  have hT:=H.out.1.below HA.out.2
  obtain ⟨k,v,k1,k2,k3,k4,k5⟩:=hT.node _ _ H.out.2.1
  obtain ⟨a,c,rfl⟩:=k3.slice
  have hg:=get_nd hT i nd H.out.2.1 k k1
  obtain ⟨km,vm,q1,q2,q3,q4,_⟩:=hT.node _ _ hm
  obtain ⟨am,cm,rfl⟩:=q3.slice
  rw [List.length_map] at q2 q3
  have hgm:=get_nd hT m ndm hm km q1
  obtain ⟨g,rfl,r1,r2⟩:=k3.rd j (enV (nm',(m:Int))) (by rw [List.getElem?_map,hx];rfl)
  have r2' :w1.cell? ⟨g,j*2+1,none⟩=some (.int .i64 m):=r2
  have hjl:j < nd.es.length:=(List.getElem?_eq_some_iff.1 hx).1
  rw [List.length_map] at k2 k3
  have hdl:=delete_one k3 (by omega) j hjl (one_en nd.es)
  rw [←delE_map] at hdl
  have c1:=k2.rd
  have nf1:=k2.nf
  have c2:=q2.rd
  have HK:=Lib.hid (And.intro hT (And.intro k1 (And.intro k2 (And.intro k3 (And.intro q1 (And.intro q2 (And.intro hm (And.intro hx (And.intro hdec (And.intro hde (And.intro hm' (And.intro k4 k5))))))))))))
  have hl0:=hV.links hm
  have hl1:=hV.bnd m ndm hm
  have hnn:0 < nd.es.length:=by omega
  clear hia hT k1 k2 k3 k5 q1 q2 q3 hm hx hxb hdec hde hm' hV r1 r2
  by_cases hne:ndm.dir=true∧ndm.es≠ []
  ·have hd1:=hne.1
   have hle:0 < ndm.es.length:=List.length_pos_iff.2 hne.2
   rw [hd1] at c2
   have d1:decide ((ndm.es.length:Int) > 0)=true:=by simp;omega
   have d1n:decide (ndm.es.length > 0)=true:=by simp;omega
   have HN:=Lib.hid hne
   clear hne hd1
   generalize hnn1:nd.es.length=n at*
   generalize ndm.es.length=nm2 at*
   clear hnn1
   have i1:(j:Int) < (n:Int):=by omega
   have i2:(0:Int)≤j:=by omega
   go_wp2_with (first
    | (go_at_call 72;(with_reducible refine hg.mono ?_);rintro e w' ⟨rfl,rfl⟩)
    | (go_at_call 72;(with_reducible refine hgm.mono ?_);rintro e w' ⟨rfl,rfl⟩))
   go_ret
   obtain ⟨_,_,_,_,_,_,hm,hx,_⟩:=HK.out
   exact ⟨j,HA.out.1,Or.inr ⟨m,ndm,hx,hm,Or.inl ⟨HN.out.1,HN.out.2,rfl,HA.out.2⟩⟩⟩
  ·have hcase:ndm.dir=false∨(ndm.dir=true∧ndm.es.length=0):=by
    cases hD:ndm.dir with
    | false=> exact Or.inl rfl
    | true=>
     refine Or.inr ⟨rfl,?_⟩
     by_cases he:ndm.es= []
     ·rw [he];rfl
     ·exact absurd ⟨hD,he⟩ hne
   have HN:=Lib.hid hne
   clear hne
   generalize hnn1:nd.es.length=n at*
   have i1:(j:Int) < (n:Int):=by omega
   have i2:(0:Int)≤j:=by omega
   have i3:(j:Int)+1≤(n:Int):=by omega
   have hn8:n≤8:=k4
   have HL:=Lib.hid hnn1
   clear hnn1
   go_upto_region 9 with (first
    | (go_at_call 72;(with_reducible refine hg.mono ?_);rintro e w' ⟨rfl,rfl⟩)
    | (go_at_call 72;(with_reducible refine hgm.mono ?_);rintro e w' ⟨rfl,rfl⟩))
   go_cut [53] from 42 to 52 (fun s53 wx=> s53= .bool false∧wx=w1)
   case first=>
    rcases hcase with hD | ⟨hD,hE⟩
    ·rw [hD] at c2
     clear hD
     go_wp2_with (fail)
     go_meet
     exact ⟨rfl,rfl⟩
    ·rw [hD,hE] at c2
     clear hD hE
     go_wp2_with (fail)
     go_meet
     exact ⟨rfl,rfl⟩
   case rest=>
    obtain ⟨rfl,rfl⟩:=hcut
    clear hcase
    go_upto_region 12 with (go_at_call 232;(with_reducible refine hdl.mono ?_);rintro e w2 ⟨a',c',rfl,hr,hu⟩;clear hdl;have hkb:¬(lo (.ents i)=some k):=(fun e=> by have:=HK.out.1.inj _ _ _ e HK.out.2.1;cases this);have hk2:=Blk.upd hu HK.out.2.2.1 hkb;have HX:=Lib.hid (And.intro hr (And.intro hu hk2));have c3:=hk2.rd;have nf3:=hk2.nf;clear hr hu hk2 hkb)
    obtain ⟨hT,k1,k2,k3,q1,q2,hm,hx,hdec,hde,hm',h4,h5⟩:=HK.out
    obtain ⟨hr,hu,hk2⟩:=HX.out
    have hmi:m≠i:=fun e=> by
     subst e
     have:=H.out.2.1
     rw [hm] at this;cases this
     refine HN.out ⟨H.out.2.2.1,fun e=> ?_⟩
     rw [e] at hx;cases hx
    have hndm:ndm' =ndm:=by rw [put_ne _ _ _ hmi,hm] at hm';exact (Option.some.inj hm').symm
    subst hndm
    have hkk:km≠k:=fun e=> by have:=hT.inj _ _ _ q1 (e▸k1);cases this;exact hmi rfl
    have hk3:Blk (w2.setCell ⟨k,3,none⟩ (.slice a' (n - 1) c')) k #[.bool nd.dir,.int .i64 nd.links,.int .i64 nd.opens,.slice a' (n - 1) c'] 220:=Blk.of (hk2.set 3 (.slice a' (n - 1) c')) rfl
    have hu3:Upd (fun j=> j=k∨lo (.ents i)=some j) wc (w2.setCell ⟨k,3,none⟩ (.slice a' (n - 1) c')):=(hu.mono (G:=fun j=> j=k∨lo (.ents i)=some j) (fun j _ e=> Or.inr e)).setCell (p:=⟨k,3,none⟩) (fun _=> Or.inl rfl) _
    have hr3:Row2 (w2.setCell ⟨k,3,none⟩ (.slice a' (n - 1) c')) 188 (.slice a' (n - 1) c') ((delE nd.es j).map enV) (lo (.ents i)):=hr.upd ((Upd.refl (fun j=> j=k) w2).setCell (p:=⟨k,3,none⟩) (fun _=> rfl) _) (fun g' hg' e=> by have:=hT.inj _ _ _ hg' (e▸k1);cases this)
    have hT3:=hT.ents (v:= .slice a' (n - 1) c') (es:=delE nd.es j) (b:=lo (.ents i)) H.out.2.1 k1 hu3 hk3 hr3 (fun g' hg' => Or.inl hg') (by rw [delE_len (by rw [HL.out];exact hjl),HL.out];omega) (delE_srt h5)
    have hfr3:TFr lo (loEnt lo i (lo (.ents i))) w (w2.setCell ⟨k,3,none⟩ (.slice a' (n - 1) c')):=by
     refine ⟨(Upd.of_below (F:=fun k=> ∃r,lo r=some k) HA.out.2).trans (hu3.mono (fun j _ e=> ?_)) (fun _ _ h=> h),fun r j' hj' => ?_,rfl,rfl⟩
     ·rcases e with e | e
      ·exact ⟨_,by rw [e];exact k1⟩
      ·exact ⟨_,e⟩
     ·rcases loEnt_old hj' with ⟨g1,_⟩ | ⟨_,g1⟩
      ·exact Or.inl ⟨r,g1⟩
      ·exact Or.inl ⟨_,g1⟩
    obtain ⟨km2,v3,p1,p2,_⟩:=hT3.node m ndm' (by rw [put_ne _ _ _ hmi];exact hm)
    have hkm2:km2=km:=by
     have p1' :lo (.node m)=some km2:=p1
     rw [q1] at p1';cases p1';rfl
    subst hkm2
    have c5:=p2.rd
    have nf5:=p2.nf
    have HT3:=Lib.hid (And.intro hT3 (And.intro hfr3 (And.intro p1 (And.intro p2 (And.intro hde (And.intro hdec (And.intro hm (And.intro hx (And.intro hmi hm')))))))))
    clear hT k1 k2 k3 q1 q2 hm hx hdec hde h4 h5 hr hu hk2 hk3 hu3 hr3 hT3 hfr3 p1 p2 c3 nf3 c1 nf1 c2 r2' hkk hmi hm'
    generalize w2.setCell ⟨k,3,none⟩ (.slice a' (n - 1) c')=w3 at*
    obtain ⟨hT3,hfr3,p1,p2,hde,hdec,hm,hx,hmi,hm'⟩:=HT3.out
    have hu4:Upd (fun j=> j=km2) w3 (w3.setCell ⟨km2,1,none⟩ (.int .i64 (ndm'.links - 1))):=(Upd.refl (fun j=> j=km2) w3).setCell (p:=⟨km2,1,none⟩) (fun _=> rfl) _
    have hT4:=hT3.num (nd:=ndm') (nd' :=addL ndm' (-1)) (by rw [put_ne _ _ _ hmi];exact hm) p1 rfl rfl rfl hu4 (fun v hv=> Blk.of (hv.set 1 (.int .i64 (ndm'.links - 1))) rfl)
    rw [←hde] at hT4
    have hst:=settle_is tb N 17 _ _ _ m (addL ndm' (-1)) [] hT4 (by rw [hde,put_eq]) hdec (by have:=lenN_le (decL (nsPut ns i (some (setEs nd (delE nd.es j)))) m) 16;omega)
    have H4:=Lib.hid (And.intro hu4 p1)
    clear hT3 hfr3 p1 p2 hde hdec hm hx hmi hu4 hT4 hm'
    generalize ndm'.links=L at*
    go_wp2_with (go_at_call 138;(with_reducible refine hst.mono ?_);rintro e w5 ⟨⟨v5,rfl⟩,lo5,hT5,hF5⟩;have H5:=Lib.hid (And.intro hT5 hF5);clear hst hT5 hF5)
    go_ret
    obtain ⟨_,hfr3,_,_,_,_,hm,hx,_,_⟩:=HT3.out
    have hF4:TFr (loEnt lo i (lo (.ents i))) (loEnt lo i (lo (.ents i))) w3 _:=⟨H4.out.1.mono (fun j' _ e=> ⟨_,e▸H4.out.2⟩),fun r k hk=> Or.inl ⟨r,hk⟩,rfl,rfl⟩
    exact ⟨j,HA.out.1,Or.inr ⟨m,ndm',hx,hm,Or.inr ⟨HN.out,rfl,lo5,H5.out.1,(hfr3.trans hF4).trans H5.out.2⟩⟩⟩
end
end Go.Proofs.YtjpjafajploiaaaGreatDoor
/-
 What every table of nodes keeps,act by act:the plain law.
-/
namespace Go.Proofs.YtjpjafajploiaaaGreatDoor
open Go.RowKit Own RegJ Two
open Go.Lib hiding intOf
theorem at_uniq {es:List En} {nm:Txt} {i j:Nat} (h:At es nm i) (h' :At es nm j):i=j:=by
 rcases Nat.lt_trichotomy i j with e | e | e
 ·have hl:i < es.length:=by have:=h'.1;omega
  have h1:=h'.2.1 i es[i] (List.getElem?_eq_getElem hl) e
  have h2:=h.2.2 i es[i] (List.getElem?_eq_getElem hl) (Nat.le_refl _)
  rw [h1] at h2;cases h2
 ·exact e
 ·have hl:j < es.length:=by have:=h.1;omega
  have h1:=h.2.1 j es[j] (List.getElem?_eq_getElem hl) e
  have h2:=h'.2.2 j es[j] (List.getElem?_eq_getElem hl) (Nat.le_refl _)
  rw [h1] at h2;cases h2
theorem at_ex {es:List En} (hS:Srt es) (nm:Txt):∃j,At es nm j:=by
 refine ⟨es.findIdx (fun x=> !nlt x.1 nm),List.findIdx_le_length,fun k x hx hk=> ?_,fun k x hx hk=> ?_⟩
 ·have hl:=(List.getElem?_eq_some_iff.1 hx)
  have:=List.not_of_lt_findIdx hk
  rw [hl.2] at this
  simpa using this
 ·have hl:=(List.getElem?_eq_some_iff.1 hx)
  have hf:es.findIdx (fun x=> !nlt x.1 nm) < es.length:=by have:=hl.1;omega
  have hp:=List.findIdx_getElem (w:=hf)
  simp only [Bool.not_eq_true'] at hp
  by_cases e:es.findIdx (fun x=> !nlt x.1 nm)=k
  ·have:es[es.findIdx (fun x=> !nlt x.1 nm)]=x:=by rw [←hl.2];congr 1
   rw [this] at hp;exact hp
  ·have h1:=srt_at hS (List.getElem?_eq_getElem hf) hx (by omega)
   cases hn:nlt x.1 nm with
   | false=> rfl
   | true=> rw [nlt_trans _ _ _ h1 hn] at hp;cases hp
theorem refs_le {ns:NSt} (h:∀i nd,ns i=some nd→nd.es.length≤8) (m:Nat):∀k,refs ns m k≤k*8
 | 0=> Nat.le_refl _
 | k+1=> by
  unfold refs
  have:=refs_le h m k
  have:cntO (ns k) m≤8:=by
   unfold cntO
   cases hn:ns k with
   | none=> simp
   | some nd=>
    simp only
    unfold cntE
    exact Nat.le_trans List.count_le_length (by rw [List.length_map];exact h k nd hn)
  omega
def Sub (ns ns' :NSt):Prop:=∀j nd',ns' j=some nd' →∃nd,ns j=some nd∧nd'.dir=nd.dir∧nd'.es=nd.es∧nd'.opens=nd.opens
theorem Sub.refl (ns:NSt):Sub ns ns:=fun j nd' h=> ⟨nd',h,rfl,rfl,rfl⟩
theorem Sub.trans {a b c:NSt} (h:Sub a b) (k:Sub b c):Sub a c:=fun j nd' hj=> by
 obtain ⟨nd,h1,h2,h3,h4⟩:=k j nd' hj
 obtain ⟨nd0,g1,g2,g3,g4⟩:=h j nd h1
 exact ⟨nd0,g1,h2.trans g2,h3.trans g3,h4.trans g4⟩
theorem sub_dec (ns:NSt) (m:Nat):Sub ns (decL ns m):=fun j nd' hj=> by
 unfold decL at hj
 cases hm:ns m with
 | none=> rw [hm] at hj;exact ⟨nd',hj,rfl,rfl,rfl⟩
 | some k=>
  rw [hm] at hj
  simp only at hj
  by_cases e:j=m
  ·subst e;rw [put_eq] at hj;cases hj;exact ⟨k,hm,rfl,rfl,rfl⟩
  ·rw [put_ne _ _ _ e] at hj;exact ⟨nd',hj,rfl,rfl,rfl⟩
theorem sub_put (ns:NSt) (i:Nat):Sub ns (nsPut ns i none):=fun j nd' hj=> by
 by_cases e:j=i
 ·subst e;rw [put_eq] at hj;cases hj
 ·rw [put_ne _ _ _ e] at hj;exact ⟨nd',hj,rfl,rfl,rfl⟩
theorem goneL_sub {f:Nat} (ih:∀ns i,Sub ns (gone f ns i)):∀(es:List En) (s:NSt),Sub s (goneL f es s)
 | [],s=> Sub.refl s
 | e::es,s=> by
  rw [goneL_cons]
  split
  ·exact ((sub_dec s _).trans (ih _ _)).trans (goneL_sub ih es _)
  ·exact goneL_sub ih es s
theorem gone_sub:∀(f:Nat) (ns:NSt) (i:Nat),Sub ns (gone f ns i)
 | 0,ns,_=> Sub.refl ns
 | f+1,ns,i=> by
  cases hn:ns i with
  | none=> rw [gone_none hn];exact Sub.refl ns
  | some nd=>
   by_cases hs:i=0∨0 < nd.links∨0 < nd.opens
   ·rw [gone_stay hn hs];exact Sub.refl ns
   ·rw [gone_go hn hs]
    exact (sub_put ns i).trans (goneL_sub (gone_sub f) nd.es _)
def Rt (ns:NSt):Prop:=(ns 0).isSome=true
theorem rt_put {ns:NSt} (h:Rt ns) (i:Nat) (x:Option Nd) (hx:i=0→x.isSome=true):Rt (nsPut ns i x):=by
 unfold Rt nsPut at*
 split
 ·rename_i e;exact hx e.symm
 ·exact h
theorem rt_dec {ns:NSt} (h:Rt ns) (m:Nat):Rt (decL ns m):=by
 unfold decL
 cases hm:ns m with
 | none=> exact h
 | some k=> exact rt_put h _ _ (fun _=> rfl)
theorem goneL_rt {f:Nat} (ih:∀ns i,Rt ns→Rt (gone f ns i)):∀(es:List En) (s:NSt),Rt s→Rt (goneL f es s)
 | [],s,h=> h
 | e::es,s,h=> by
  rw [goneL_cons]
  split
  ·exact goneL_rt ih es _ (ih _ _ (rt_dec h _))
  ·exact goneL_rt ih es s h
theorem gone_rt:∀(f:Nat) (ns:NSt) (i:Nat),Rt ns→Rt (gone f ns i)
 | 0,ns,_,h=> h
 | f+1,ns,i,h=> by
  cases hn:ns i with
  | none=> rw [gone_none hn];exact h
  | some nd=>
   by_cases hs:i=0∨0 < nd.links∨0 < nd.opens
   ·rw [gone_stay hn hs];exact h
   ·rw [gone_go hn hs]
    exact goneL_rt (gone_rt f) nd.es _ (rt_put h _ _ (fun e=> absurd (Or.inl e) hs))
structure IV (ns:NSt) (c:Nat):Prop where
 inv:Inv ns []
 root:Rt ns
 len:∀i nd,ns i=some nd→nd.es.length≤8
 srt:∀i nd,ns i=some nd→Srt nd.es
 opn:∀i nd,ns i=some nd→nd.opens≤c
 clean:CleanBut ns (fun _=> False)
 fil:∀i nd,ns i=some nd→nd.dir=false→nd.es= []
theorem Inv.bd {ns:NSt} (h:Inv ns []) (h8:∀i nd,ns i=some nd→nd.es.length≤8) {i:Nat} {nd:Nd} (hi:ns i=some nd):nd.links≤128:=by
 have h1:=h.cnt i
 have h2:=refs_le h8 i 16
 unfold lnk at h1
 rw [hi] at h1
 simp only [List.count_nil] at h1
 omega
theorem IV.le {ns:NSt} {c d:Nat} (h:IV ns c) (hcd:c≤d):IV ns d:=⟨h.inv,h.root,h.len,h.srt,fun i nd hi=> by have:=h.opn i nd hi;omega,h.clean,h.fil⟩
theorem Inv.opens {ns:NSt} {pend:List Int} (h:Inv ns pend) {i:Nat} {nd nd' :Nd} (hi:ns i=some nd) (hl:nd'.links=nd.links) (he:nd'.es=nd.es) (ho:0≤nd'.opens):Inv (nsPut ns i (some nd')) pend:=by
 have h16:=h.lt hi
 refine ⟨fun k nd2 hk=> ?_,h.pids,fun m=> ?_,fun k hk=> ?_,fun k nd2 hk=> ?_,fun k nd2 hk=> ?_⟩
 ·by_cases e:k=i
  ·subst e;rw [put_eq] at hk;cases hk;rw [he];exact h.ids _ nd hi
  ·rw [put_ne _ _ _ e] at hk;exact h.ids k nd2 hk
 ·have hc:=h.cnt m
  have hr:=refs_put ns i (some nd') m 16 h16
  have h0:cntO (some nd') m=cntO (ns i) m:=by rw [hi];unfold cntO;simp only;rw [he]
  rw [h0] at hr
  have hlk:lnk (nsPut ns i (some nd')) m=lnk ns m:=by
   unfold lnk
   by_cases e:m=i
   ·subst e;rw [put_eq,hi];exact hl
   ·rw [put_ne _ _ _ e]
  rw [hlk];omega
 ·rw [put_ne _ _ _ (by omega)];exact h.far k hk
 ·by_cases e:k=i
  ·subst e;rw [put_eq] at hk;cases hk;exact ho
  ·rw [put_ne _ _ _ e] at hk;exact h.opn k nd2 hk
 ·by_cases e:k=i
  ·subst e;rw [put_eq] at hk;cases hk;rw [hl];exact h.bnd _ nd hi
  ·rw [put_ne _ _ _ e] at hk;exact h.bnd k nd2 hk
theorem Inv.make {ns:NSt} (h:Inv ns []) {i:Nat} (h16:i < 16) (hn:ns i=none) (dir:Bool):Inv (nsPut ns i (some ⟨dir,0,1,[],[]⟩)) []:=by
 have hci:=h.cnt i
 refine ⟨fun k nd2 hk=> ?_,h.pids,fun m=> ?_,fun k hk=> ?_,fun k nd2 hk=> ?_,fun k nd2 hk=> ?_⟩
 ·by_cases e:k=i
  ·subst e;rw [put_eq] at hk;cases hk;intro y hy;cases hy
  ·rw [put_ne _ _ _ e] at hk;exact h.ids k nd2 hk
 ·have hc:=h.cnt m
  have hr:=refs_put ns i (some ⟨dir,0,1,[],[]⟩) m 16 h16
  have h0:cntO (some ⟨dir,0,1,[],[]⟩) m=0:=rfl
  have h1:cntO (ns i) m=0:=by rw [hn];rfl
  rw [h0,h1] at hr
  have hlk:lnk (nsPut ns i (some ⟨dir,0,1,[],[]⟩)) m=lnk ns m:=by
   unfold lnk
   by_cases e:m=i
   ·subst e;rw [put_eq,hn]
   ·rw [put_ne _ _ _ e]
  rw [hlk];omega
 ·rw [put_ne _ _ _ (by omega)];exact h.far k hk
 ·by_cases e:k=i
  ·subst e;rw [put_eq] at hk;cases hk;exact Int.le_of_lt Int.one_pos
  ·rw [put_ne _ _ _ e] at hk;exact h.opn k nd2 hk
 ·by_cases e:k=i
  ·subst e;rw [put_eq] at hk;cases hk;simp
  ·rw [put_ne _ _ _ e] at hk;exact h.bnd k nd2 hk
theorem cnt_ins (es:List En) (j:Nat) (x:En) (m:Nat):cntE (insE es j x) m=cntE es m+ [x.2].count (m:Int):=by
 unfold cntE
 have hs:es.map Prod.snd=(es.take j).map Prod.snd++(es.drop j).map Prod.snd:=by rw [←List.map_append,List.take_append_drop]
 rw [hs]
 unfold insE
 rw [List.map_append,List.map_cons,List.count_append,List.count_append,List.count_cons,List.count_cons,List.count_nil]
 omega
theorem nsEnt_eq {ns:NSt} {i k:Nat} {nd nk:Nd} (es:List En) (hi:ns i=some nd) (hk:ns k=some nk):∃nk',nsPut ns i (some (setEs nd es)) k=some nk' ∧nk'.links=nk.links∧nk'.opens=nk.opens∧nsEnt ns i nd es k=nsPut (nsPut ns i (some (setEs nd es))) k (some (addL nk' 1)):=by
 obtain ⟨nk',hk',hl',ho'⟩:∃nk',nsPut ns i (some (setEs nd es)) k=some nk' ∧nk'.links=nk.links∧nk'.opens=nk.opens:=by
  by_cases e:k=i
  ·subst e;rw [hi] at hk;cases hk;exact ⟨_,put_eq _ _ _,rfl,rfl⟩
  ·exact ⟨nk,by rw [put_ne _ _ _ e];exact hk,rfl,rfl⟩
 refine ⟨nk',hk',hl',ho',?_⟩
 unfold nsEnt
 simp only [Int.toNat_natCast]
 rw [hk']
theorem put_some {ns:NSt} {i j:Nat} {x nd:Nd} (h:nsPut ns i (some x) j=some nd):(j=i∧nd=x)∨(j≠i∧ns j=some nd):=by
 by_cases e:j=i
 ·subst e;rw [put_eq] at h;cases h;exact Or.inl ⟨rfl,rfl⟩
 ·rw [put_ne _ _ _ e] at h;exact Or.inr ⟨e,h⟩
theorem Inv.enter {ns:NSt} (h:Inv ns []) (h8:∀i nd,ns i=some nd→nd.es.length≤8) {i k:Nat} {nd nk:Nd} (hi:ns i=some nd) (hk:ns k=some nk) (hk0:k≠0) (j:Nat) (nm:Txt):Inv (nsEnt ns i nd (insE nd.es j (nm,(k:Int))) k) []:=by
 have hi16:=h.lt hi
 have hk16:=h.lt hk
 obtain ⟨nk',hk',hl',ho',he⟩:=nsEnt_eq (insE nd.es j (nm,(k:Int))) hi hk
 rw [he]
 have hbd:=h.bd h8 hk
 refine ⟨fun l nd2 hl=> ?_,h.pids,fun m=> ?_,fun l hl=> ?_,fun l nd2 hl=> ?_,fun l nd2 hl=> ?_⟩
 ·have key:∀l nd3,nsPut ns i (some (setEs nd (insE nd.es j (nm,(k:Int))))) l=some nd3→∀e∈nd3.es,1≤e.2∧e.2 < 16:=fun l nd3 hl3=> by
   rcases put_some hl3 with ⟨rfl,rfl⟩ | ⟨e,h3⟩
   ·intro y hy
    unfold setEs insE at hy
    simp only [List.mem_append,List.mem_cons] at hy
    rcases hy with hy | rfl | hy
    ·exact h.ids _ nd hi y (List.mem_of_mem_take hy)
    ·simp only;omega
    ·exact h.ids _ nd hi y (List.mem_of_mem_drop hy)
   ·exact h.ids l nd3 h3
  rcases put_some hl with ⟨rfl,rfl⟩ | ⟨e,h3⟩
  ·exact key _ nk' hk'
  ·exact key l nd2 h3
 ·have hc:=h.cnt m
  have hr:=refs_put ns i (some (setEs nd (insE nd.es j (nm,(k:Int))))) m 16 hi16
  rw [hi] at hr
  have h0:cntO (some (setEs nd (insE nd.es j (nm,(k:Int))))) m=cntE (insE nd.es j (nm,(k:Int))) m:=rfl
  have h1:cntO (some nd) m=cntE nd.es m:=rfl
  rw [h0,h1,cnt_ins] at hr
  dsimp only at hr
  have hr2:=refs_put (nsPut ns i (some (setEs nd (insE nd.es j (nm,(k:Int)))))) k (some (addL nk' 1)) m 16 hk16
  have h2:cntO (some (addL nk' 1)) m=cntO (nsPut ns i (some (setEs nd (insE nd.es j (nm,(k:Int))))) k) m:=by rw [hk'];rfl
  rw [h2] at hr2
  rw [List.count_nil] at hc ⊢
  have hlk:lnk (nsPut (nsPut ns i (some (setEs nd (insE nd.es j (nm,(k:Int)))))) k (some (addL nk' 1))) m=lnk ns m+ [(k:Int)].count (m:Int):=by
   unfold lnk
   by_cases e:m=k
   ·subst e;rw [put_eq,hk];simp only [addL,List.count_singleton_self];rw [hl'];rfl
   ·rw [put_ne _ _ _ e]
    have: [(k:Int)].count (m:Int)=0:=by rw [List.count_eq_zero];simp;omega
    rw [this]
    by_cases e2:m=i
    ·subst e2;rw [put_eq,hi];simp [setEs]
    ·rw [put_ne _ _ _ e2];simp
  rw [hlk];omega
 ·rw [put_ne _ _ _ (by omega),put_ne _ _ _ (by omega)];exact h.far l hl
 ·rcases put_some hl with ⟨rfl,rfl⟩ | ⟨e,h3⟩
  ·show 0≤nk'.opens
   rw [ho'];exact h.opn _ nk hk
  ·rcases put_some h3 with ⟨rfl,rfl⟩ | ⟨e,h3⟩
   ·exact h.opn _ nd hi
   ·exact h.opn l nd2 h3
 ·rcases put_some hl with ⟨rfl,rfl⟩ | ⟨e,h3⟩
  ·show nk'.links+1≤100000
   rw [hl'];omega
  ·rcases put_some h3 with ⟨rfl,rfl⟩ | ⟨e,h3⟩
   ·exact h.bnd _ nd hi
   ·exact h.bnd l nd2 h3
theorem iv_gone {ns:NSt} {c i:Nat} (hV:Inv ns []) (hr:Rt ns) (h8:∀i nd,ns i=some nd→nd.es.length≤8) (hS:∀i nd,ns i=some nd→Srt nd.es) (ho:∀i nd,ns i=some nd→nd.opens≤c) (hc:CleanBut ns (fun j=> j=i)) (hf:∀i nd,ns i=some nd→nd.dir=false→nd.es= []):IV (gone 17 ns i) c:=by
 have hsb:=gone_sub 17 ns i
 refine ⟨gone_inv 17 ns i [] hV,gone_rt 17 ns i hr,fun j nd hj=> ?_,fun j nd hj=> ?_,fun j nd hj=> ?_,gone_clean 17 ns i [] hV (by have:=lenN_le ns 16;omega) hc,fun j nd hj hd=> ?_⟩
 ·obtain ⟨nd0,h1,_,h2,_⟩:=hsb j nd hj;rw [h2];exact h8 j nd0 h1
 ·obtain ⟨nd0,h1,_,h2,_⟩:=hsb j nd hj;rw [h2];exact hS j nd0 h1
 ·obtain ⟨nd0,h1,_,_,h2⟩:=hsb j nd hj;rw [h2];exact ho j nd0 h1
 ·obtain ⟨nd0,h1,h2,h3,_⟩:=hsb j nd hj;rw [h3];exact hf j nd0 h1 (by rw [←h2];exact hd)
section
variable {ns:NSt} {c:Nat}
theorem IV.make (h:IV ns c) {i:Nat} (h16:i < 16) (hn:ns i=none) (dir:Bool):IV (nsPut ns i (some ⟨dir,0,1,[],[]⟩)) (c+1):=by
 refine ⟨h.inv.make h16 hn dir,rt_put h.root _ _ (fun _=> rfl),fun j nd hj=> ?_,fun j nd hj=> ?_,fun j nd hj=> ?_,fun j nd hj0 _ hj=> ?_,fun j nd hj hd=> by
   rcases put_some hj with ⟨rfl,rfl⟩ | ⟨e,h3⟩
   ·rfl
   ·exact h.fil j nd h3 hd⟩
 ·rcases put_some hj with ⟨rfl,rfl⟩ | ⟨e,h3⟩
  ·exact Nat.zero_le _
  ·exact h.len j nd h3
 ·rcases put_some hj with ⟨rfl,rfl⟩ | ⟨e,h3⟩
  ·exact List.Pairwise.nil
  ·exact h.srt j nd h3
 ·rcases put_some hj with ⟨rfl,rfl⟩ | ⟨e,h3⟩
  ·simp only;omega
  ·have:=h.opn j nd h3;omega
 ·rcases put_some hj with ⟨rfl,rfl⟩ | ⟨e,h3⟩
  ·exact Or.inr Int.one_pos
  ·exact h.clean j nd hj0 (fun h=> h) h3
theorem IV.opened (h:IV ns c) {i:Nat} {nd:Nd} (hi:ns i=some nd):IV (nsPut ns i (some (addO nd 1))) (c+1):=by
 have h0:=h.inv.opn i nd hi
 have h1:=h.opn i nd hi
 refine ⟨h.inv.opens hi rfl rfl (by simp only [addO];omega),rt_put h.root _ _ (fun _=> rfl),fun j nd2 hj=> ?_,fun j nd2 hj=> ?_,fun j nd2 hj=> ?_,fun j nd2 hj0 _ hj=> ?_,fun j nd2 hj hd2=> by
   rcases put_some hj with ⟨rfl,rfl⟩ | ⟨e,h3⟩
   ·exact h.fil _ nd hi hd2
   ·exact h.fil j nd2 h3 hd2⟩
 ·rcases put_some hj with ⟨rfl,rfl⟩ | ⟨e,h3⟩
  ·exact h.len _ nd hi
  ·exact h.len j nd2 h3
 ·rcases put_some hj with ⟨rfl,rfl⟩ | ⟨e,h3⟩
  ·exact h.srt _ nd hi
  ·exact h.srt j nd2 h3
 ·rcases put_some hj with ⟨rfl,rfl⟩ | ⟨e,h3⟩
  ·simp only [addO];omega
  ·have:=h.opn j nd2 h3;omega
 ·rcases put_some hj with ⟨rfl,rfl⟩ | ⟨e,h3⟩
  ·exact Or.inr (by simp only [addO];omega)
  ·exact h.clean j nd2 hj0 (fun h=> h) h3
theorem IV.closed1 (h:IV ns c) {i:Nat} {nd:Nd} (hi:ns i=some nd) (ho:0 < nd.opens):Inv (nsPut ns i (some (addO nd (-1)))) []:=h.inv.opens hi rfl rfl (by simp only [addO];omega)
theorem IV.closed (h:IV ns c) {i:Nat} {nd:Nd} (hi:ns i=some nd) (ho:0 < nd.opens):IV (gone 17 (nsPut ns i (some (addO nd (-1)))) i) (c+1):=by
 have h1:=h.opn i nd hi
 refine iv_gone (h.closed1 hi ho) (rt_put h.root _ _ (fun _=> rfl)) (fun j nd2 hj=> ?_) (fun j nd2 hj=> ?_) (fun j nd2 hj=> ?_) (fun j nd2 hj0 hji hj=> ?_) (fun j nd2 hj hd2=> by
   rcases put_some hj with ⟨rfl,rfl⟩ | ⟨e,h3⟩
   ·exact h.fil _ nd hi hd2
   ·exact h.fil j nd2 h3 hd2)
 ·rcases put_some hj with ⟨rfl,rfl⟩ | ⟨e,h3⟩
  ·exact h.len _ nd hi
  ·exact h.len j nd2 h3
 ·rcases put_some hj with ⟨rfl,rfl⟩ | ⟨e,h3⟩
  ·exact h.srt _ nd hi
  ·exact h.srt j nd2 h3
 ·rcases put_some hj with ⟨rfl,rfl⟩ | ⟨e,h3⟩
  ·simp only [addO];omega
  ·have:=h.opn j nd2 h3;omega
 ·rcases put_some hj with ⟨rfl,rfl⟩ | ⟨e,h3⟩
  ·exact absurd rfl hji
  ·exact h.clean j nd2 hj0 (fun h=> h) h3
theorem IV.entered (h:IV ns c) {i k:Nat} {nd nk:Nd} (hi:ns i=some nd) (hd:nd.dir=true) (hk:ns k=some nk) (hk0:k≠0) {j:Nat} {nm:Txt} (hA:At nd.es nm j) (hno:isAt nd.es nm j=false) (h8:nd.es.length≠8):IV (nsEnt ns i nd (insE nd.es j (nm,(k:Int))) k) (c+1):=by
 have hl8:=h.len i nd hi
 obtain ⟨nk',hk',hl',ho',he⟩:=nsEnt_eq (insE nd.es j (nm,(k:Int))) hi hk
 have hlk:=h.inv.links hk
 have key0:∀l nd3,nsPut ns i (some (setEs nd (insE nd.es j (nm,(k:Int))))) l=some nd3→nd3.dir=false→nd3.es= []:=fun l nd3 hl3 hd3=> by
  rcases put_some hl3 with ⟨rfl,rfl⟩ | ⟨e,h3⟩
  ·have:nd.dir=false:=hd3
   rw [hd] at this;cases this
  ·exact h.fil l nd3 h3 hd3
 refine ⟨h.inv.enter h.len hi hk hk0 j nm,?_,fun l nd2 hl=> ?_,fun l nd2 hl=> ?_,fun l nd2 hl=> ?_,fun l nd2 hl0 _ hl=> ?_,fun l nd2 hl hd2=> by
  rw [he] at hl
  rcases put_some hl with ⟨rfl,rfl⟩ | ⟨e,h3⟩
  ·exact key0 _ nk' hk' hd2
  ·exact key0 l nd2 h3 hd2⟩
 ·rw [he];exact rt_put (rt_put h.root _ _ (fun _=> rfl)) _ _ (fun _=> rfl)
 ·rw [he] at hl
  have key:∀l nd3,nsPut ns i (some (setEs nd (insE nd.es j (nm,(k:Int))))) l=some nd3→nd3.es.length≤8:=fun l nd3 hl3=> by
   rcases put_some hl3 with ⟨rfl,rfl⟩ | ⟨e,h3⟩
   ·show (insE nd.es j (nm,(k:Int))).length≤8
    rw [insE_len];omega
   ·exact h.len l nd3 h3
  rcases put_some hl with ⟨rfl,rfl⟩ | ⟨e,h3⟩
  ·exact key _ nk' hk'
  ·exact key l nd2 h3
 ·rw [he] at hl
  have key:∀l nd3,nsPut ns i (some (setEs nd (insE nd.es j (nm,(k:Int))))) l=some nd3→Srt nd3.es:=fun l nd3 hl3=> by
   rcases put_some hl3 with ⟨rfl,rfl⟩ | ⟨e,h3⟩
   ·exact insE_srt (h.srt _ nd hi) hA hno
   ·exact h.srt l nd3 h3
  rcases put_some hl with ⟨rfl,rfl⟩ | ⟨e,h3⟩
  ·exact key _ nk' hk'
  ·exact key l nd2 h3
 ·rw [he] at hl
  rcases put_some hl with ⟨rfl,rfl⟩ | ⟨e,h3⟩
  ·show nk'.opens≤_
   rw [ho'];have:=h.opn _ nk hk;omega
  ·rcases put_some h3 with ⟨rfl,rfl⟩ | ⟨e,h3⟩
   ·have:=h.opn _ nd hi;simp only [setEs];omega
   ·have:=h.opn l nd2 h3;omega
 ·rw [he] at hl
  rcases put_some hl with ⟨rfl,rfl⟩ | ⟨e,h3⟩
  ·refine Or.inl ?_
   show 0 < nk'.links+1
   rw [hl'];omega
  ·rcases put_some h3 with ⟨rfl,rfl⟩ | ⟨e,h3⟩
   ·exact h.clean _ nd hl0 (fun h=> h) hi
   ·exact h.clean l nd2 hl0 (fun h=> h) h3
theorem IV.removed (h:IV ns c) {i k:Nat} {nd nk:Nd} (hi:ns i=some nd) (hd:nd.dir=true) (hk:ns k=some nk) {j:Nat} {nm:Txt} (hx:nd.es[j]? =some (nm,(k:Int))):IV (gone 17 (nsRem ns i nd j k) k) (c+1):=by
 obtain ⟨hdec,nk',hk',hde⟩:=(h.inv.del hi hx).dec
 simp only [Int.toNat_natCast] at hdec hk' hde
 have hjl:j < nd.es.length:=(List.getElem?_eq_some_iff.1 hx).1
 have hrt:Rt (nsRem ns i nd j k):=rt_dec (rt_put h.root _ _ (fun _=> rfl)) _
 have hsub:Sub (nsPut ns i (some (setEs nd (delE nd.es j)))) (nsRem ns i nd j k):=sub_dec _ _
 refine iv_gone hdec hrt (fun l nd2 hl=> ?_) (fun l nd2 hl=> ?_) (fun l nd2 hl=> ?_) (fun l nd2 hl0 hlk hl=> ?_) (fun l nd2 hl hd2=> by
  obtain ⟨nd3,h3,g1,g2,_⟩:=hsub l nd2 hl
  rw [g2]
  rw [g1] at hd2
  rcases put_some h3 with ⟨rfl,rfl⟩ | ⟨e,h3⟩
  ·have:nd.dir=false:=hd2
   rw [hd] at this;cases this
  ·exact h.fil l nd3 h3 hd2)
 ·obtain ⟨nd3,h3,_,h4,_⟩:=hsub l nd2 hl
  rw [h4]
  rcases put_some h3 with ⟨rfl,rfl⟩ | ⟨e,h3⟩
  ·have:=h.len _ nd hi
   show (delE nd.es j).length≤8
   rw [delE_len hjl];omega
  ·exact h.len l nd3 h3
 ·obtain ⟨nd3,h3,_,h4,_⟩:=hsub l nd2 hl
  rw [h4]
  rcases put_some h3 with ⟨rfl,rfl⟩ | ⟨e,h3⟩
  ·exact delE_srt (h.srt _ nd hi)
  ·exact h.srt l nd3 h3
 ·obtain ⟨nd3,h3,_,_,h4⟩:=hsub l nd2 hl
  rw [h4]
  rcases put_some h3 with ⟨rfl,rfl⟩ | ⟨e,h3⟩
  ·have:=h.opn _ nd hi;simp only [setEs];omega
  ·have:=h.opn l nd3 h3;omega
 ·have hl' :nsPut (nsPut ns i (some (setEs nd (delE nd.es j)))) k (some (addL nk' (-1))) l=some nd2:=by rw [←hde];exact hl
  rcases put_some hl' with ⟨rfl,rfl⟩ | ⟨e,h3⟩
  ·exact absurd rfl hlk
  ·rcases put_some h3 with ⟨rfl,rfl⟩ | ⟨e,h3⟩
   ·exact h.clean _ nd hl0 (fun h=> h) hi
   ·exact h.clean l nd2 hl0 (fun h=> h) h3
theorem IV.zero:IV ns0 0:=by
 have h0:∀i nd,ns0 i=some nd→i=0∧nd=⟨true,0,0,[],[]⟩:=fun i nd hi=> by
  unfold ns0 at hi
  split at hi
  ·rename_i e;cases hi;exact ⟨e,rfl⟩
  ·cases hi
 refine ⟨⟨fun i nd hi e he=> ?_,fun x hx=> (by cases hx),fun m=> ?_,fun i hi=> ?_,fun i nd hi=> ?_,fun i nd hi=> ?_⟩,rfl,fun i nd hi=> ?_,fun i nd hi=> ?_,fun i nd hi=> ?_,fun i nd hi0 _ hi=> ?_,fun i nd hi _=> by obtain ⟨_,rfl⟩:=h0 i nd hi;rfl⟩
 ·obtain ⟨_,rfl⟩:=h0 i nd hi;cases he
 ·have hr:refs ns0 m 16=0:=by
   have:∀k,refs ns0 m k=0:=by
    intro k
    induction k with
    | zero=> rfl
    | succ k ih=>
     unfold refs
     rw [ih]
     cases hk:ns0 k with
     | none=> rfl
     | some nd=> obtain ⟨_,rfl⟩:=h0 k nd hk;rfl
   exact this 16
  rw [hr]
  unfold lnk
  cases hm:ns0 m with
  | none=> rfl
  | some nd=> obtain ⟨_,rfl⟩:=h0 m nd hm;rfl
 ·unfold ns0;rw [if_neg (by omega)]
 ·obtain ⟨_,rfl⟩:=h0 i nd hi;exact Int.le_refl _
 ·obtain ⟨_,rfl⟩:=h0 i nd hi;simp
 ·obtain ⟨_,rfl⟩:=h0 i nd hi;exact Nat.zero_le _
 ·obtain ⟨_,rfl⟩:=h0 i nd hi;exact List.Pairwise.nil
 ·obtain ⟨_,rfl⟩:=h0 i nd hi;exact Int.le_refl _
 ·exact absurd (h0 i nd hi).1 hi0
end
end Go.Proofs.YtjpjafajploiaaaGreatDoor
