/-
  The vfs with its bytes: what is written, read; a vfs of the call's own (DV), and what each call makes of it.
-/
import Derived.Test.YtjpjafajploiaaaGreatDoorUnixAlone22
set_option linter.unusedSimpArgs false
set_option linter.unusedVariables false
namespace Go.Proofs.YtjpjafajploiaaaGreatDoor
open Go.RowKit Own RegJ Two
open Go.Lib hiding intOf
def setB (nd:Nd) (bs:List Int):Nd:= {nd with bs:=bs}
theorem files_put {ns:NSt} {i:Nat} {nd:Nd} (hi:ns i=some nd) (hd:nd.dir=false) (bs:List Int):filesOf (nsPut ns i (some (setB nd bs)))=fsPut (filesOf ns) i (some bs):=by
 funext j
 unfold filesOf nsPut fsPut setB
 by_cases h:j=i
 ·rw [if_pos h,if_pos h];simp [hd]
 ·rw [if_neg h,if_neg h]
theorem fsAt_files (ns:NSt) (id:Int):fsAt (filesOf ns) id=(match ndAt ns id with | some nd=> if nd.dir=true then none else some nd.bs | none=> none):=by
 unfold fsAt filesOf ndAt
 by_cases h:0≤id
 ·simp only [if_pos h]
  cases ns id.toNat <;> rfl
 ·simp only [if_neg h]
def wrF (ns:NSt) (F:Nat) (id off:Int) (b:List Int):Int×NSt:=match ndAt ns id with
 | none=> (4,ns)
 | some nd=> if nd.dir=true then (4,ns) else if off < 0 then (19,ns) else if b.length=0 then (0,ns) else if 512 < b.length∨512 - (b.length:Int) < off then (15,ns)
  else if F+(nd.bs.length+63) / 64 < usedN (filesOf ns) 16+(max nd.bs.length (off.toNat+b.length)+63) / 64 then (15,ns)
  else (0,nsPut ns id.toNat (some (setB nd (writeB nd.bs off.toNat b))))
def SameN (ns ns' :NSt):Prop:=ns' =ns∨∃i nd bs,ns i=some nd∧nd.dir=false∧ns' =nsPut ns i (some (setB nd bs))
theorem wrF_is (ns:NSt) (F:Nat) (id off:Int) (b:List Int):writeR (filesOf ns) F id off b=((wrF ns F id off b).1,filesOf (wrF ns F id off b).2)∧SameN ns (wrF ns F id off b).2:=by
 unfold writeR wrF
 rw [fsAt_files]
 cases hn:ndAt ns id with
 | none=> exact ⟨rfl,Or.inl rfl⟩
 | some nd=>
  obtain ⟨i,rfl,hi⟩:=ndAt_some hn
  cases hd:nd.dir with
  | true=>
   simp only [hd,if_true]
   exact ⟨trivial,Or.inl rfl⟩
  | false=>
   simp only [hd,Int.toNat_natCast,Bool.false_eq_true,if_false]
   by_cases h1:off < 0
   ·rw [if_pos h1,if_pos h1];exact ⟨rfl,Or.inl rfl⟩
   ·rw [if_neg h1,if_neg h1]
    by_cases h2:b.length=0
    ·rw [if_pos h2,if_pos h2];exact ⟨rfl,Or.inl rfl⟩
    ·rw [if_neg h2,if_neg h2]
     by_cases h3:512 < b.length∨512 - (b.length:Int) < off
     ·rw [if_pos h3,if_pos h3];exact ⟨rfl,Or.inl rfl⟩
     ·rw [if_neg h3,if_neg h3]
      by_cases h4:F+(nd.bs.length+63) / 64 < usedN (filesOf ns) 16+(max nd.bs.length (off.toNat+b.length)+63) / 64
      ·rw [if_pos h4,if_pos h4];exact ⟨rfl,Or.inl rfl⟩
      ·rw [if_neg h4,if_neg h4]
       exact ⟨by rw [files_put hi hd],Or.inr ⟨i,nd,_,hi,hd,rfl⟩⟩
theorem SameN.iv {ns ns' :NSt} {c:Nat} (h:SameN ns ns') (hV:IV ns c):IV ns' c:=by
 rcases h with rfl | ⟨i,nd,bs,hi,hd,rfl⟩
 ·exact hV
 ·have hp:∀j x,nsPut ns i (some (setB nd bs)) j=some x→∃y,ns j=some y∧x.dir=y.dir∧x.links=y.links∧x.opens=y.opens∧x.es=y.es:=fun j x hx=> by
   rcases put_some hx with ⟨rfl,rfl⟩ | ⟨_,hx⟩
   ·exact ⟨nd,hi,rfl,rfl,rfl,rfl⟩
   ·exact ⟨x,hx,rfl,rfl,rfl,rfl⟩
  refine ⟨hV.inv.opens hi rfl rfl (hV.inv.opn i nd hi),rt_put hV.root i _ (fun _=> rfl),fun j x hx=> ?_,fun j x hx=> ?_,fun j x hx=> ?_,?_,fun j x hx hxd=> ?_⟩
  ·obtain ⟨y,hy,_,_,_,e⟩:=hp j x hx
   rw [e];exact hV.len j y hy
  ·obtain ⟨y,hy,_,_,_,e⟩:=hp j x hx
   rw [e];exact hV.srt j y hy
  ·obtain ⟨y,hy,_,_,e,_⟩:=hp j x hx
   rw [e];exact hV.opn j y hy
  ·intro j x hj0 hjf hx
   obtain ⟨y,hy,e1,e2,e3,e4⟩:=hp j x hx
   rw [e2,e3];exact hV.clean j y hj0 hjf hy
  ·obtain ⟨y,hy,e1,_,_,e⟩:=hp j x hx
   rw [e];exact hV.fil j y hy (by rw [←e1];exact hxd)
theorem SameN.cond {ns ns' :NSt} (h:SameN ns ns'):(∀i,(ns' i).isSome=(ns i).isSome)∧∀i nd,ns' i=some nd→∃nd0,ns i=some nd0∧nd.dir=nd0.dir∧nd.links=nd0.links∧nd.opens=nd0.opens∧nd.es=nd0.es:=by
 rcases h with rfl | ⟨i,nd,bs,hi,hd,rfl⟩
 ·exact ⟨fun _=> rfl,fun i nd h=> ⟨nd,h,rfl,rfl,rfl,rfl⟩⟩
 ·refine ⟨fun j=> ?_,fun j x hx=> ?_⟩
  ·by_cases e:j=i
   ·subst e;rw [put_eq,hi];rfl
   ·rw [put_ne _ _ _ e]
  ·rcases put_some hx with ⟨rfl,rfl⟩ | ⟨_,hx⟩
   ·exact ⟨nd,hi,rfl,rfl,rfl,rfl⟩
   ·exact ⟨x,hx,rfl,rfl,rfl,rfl⟩
def DV [Inhabited CapT] (w0:World) (vb tb fb sb:Nat) (ns:NSt) (c:Nat) (w:World):Prop:=∃lo,VV w vb tb ns lo c∧Below w0.heap.size w0 w∧(∀r k,lo r=some k→w0.heap.size≤k)∧lo (.st .frm)=some fb∧lo (.st .sto)=some sb
section
variable {w0 w w' :World} {vb tb fb sb:Nat} {ns ns' ns2:NSt} {lo:Lo} {c d:Nat}
theorem DV.fr [Inhabited CapT] {lo lo' :Lo} (hV:VV w' vb tb ns' lo' c) (hF:TFr lo lo' w w') (hB:Below w0.heap.size w0 w) (hb:∀r k,lo r=some k→w0.heap.size≤k) (h1:lo (.st .frm)=some fb) (h2:lo (.st .sto)=some sb):DV w0 vb tb fb sb ns' c w' :=by
 obtain ⟨b1,b2⟩:=hF.below hb hB.size
 exact ⟨lo',hV,hB.trans b1,b2,hF.2.2.2.trans h1,hF.2.2.1.trans h2⟩
theorem DV.far [Inhabited CapT] (h:DV w0 vb tb fb sb ns c w):∀j,16≤j→ns j=none:=by
 obtain ⟨lo,h1,_⟩:=h
 exact h1.1.2.1.far
theorem d_nodes [Inhabited CapT] (h:DV w0 vb tb fb sb ns c w):Calls Tryz.prog 30 #[.pointer (some ⟨vb,0,none⟩)] w fun e w' => e= .returned (.pointer (some ⟨tb,0,none⟩))∧w=w' :=by
 obtain ⟨lo,h1,h2,h3⟩:=h
 have c0:=h1.1.cell
 clear h1 h2 h3
 go_enter Tryz.func30,Tryz.ntmps30
 go_wp2
 go_ret
 exact ⟨rfl,rfl⟩
theorem d_store [Inhabited CapT] (h:DV w0 vb tb fb sb ns c w):Calls Tryz.prog 141 #[.pointer (some ⟨vb,0,none⟩)] w fun e w' => e= .returned (.pointer (some ⟨sb,0,none⟩))∧w=w' :=by
 obtain ⟨lo,h1,h2,h3,h4,h5⟩:=h
 obtain ⟨sb',k1,c0⟩:=h1.1.cell0
 obtain rfl:sb=sb' :=by rw [h5] at k1;exact Option.some.inj k1
 clear h1 h2 h3 h4 h5 k1
 go_enter Tryz.func141,Tryz.ntmps141
 go_wp2
 go_ret
 exact ⟨rfl,rfl⟩
theorem d_size [Inhabited CapT] (h:DV w0 vb tb fb sb ns c w) (id:Int) (hw:(Lit.int .i64 id).wf=true) (r1 r2:Int) (hr:sizeV (filesOf ns) id=(r1,r2)):Calls Tryz.prog 142 #[.pointer (some ⟨sb,0,none⟩),.int .i64 id] w fun e w' => e= .returned (.tuple #[.int .i64 r1,.int .i64 r2])∧w=w' :=by
 obtain ⟨lo,h1,h2,h3,h4,h5⟩:=h
 exact s_size h1.1.2.1.sto sb h5 id hw r1 r2 hr
def ArgB (w0:World) (v:Value) (b:List Int):Prop:=∃a c,v= .slice a b.length c∧b.length≤c∧(0 < b.length→∃g q,a=some ⟨g,q,none⟩∧RdV w0 (some ⟨g,q,none⟩) (ucells b)∧g < w0.heap.size)
theorem rdv_far {b:List Int} {g q:Nat} (h:RdV w0 (some ⟨g,q,none⟩) (ucells b)) (hg:g < w0.heap.size) (hB:Below w0.heap.size w0 w):RdV w (some ⟨g,q,none⟩) (ucells b):=by
 intro j u hj
 obtain ⟨A,e,h2⟩:=h j u hj
 cases e
 refine ⟨_,rfl,?_⟩
 rw [←h2]
 exact hB.cell (by rw [Addr.add_mid];exact hg)
end
end Go.Proofs.YtjpjafajploiaaaGreatDoor
