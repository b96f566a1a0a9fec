/-
  The vfs as it lies; where a path leads (Walk); is a node a directory.
-/
import Derived.Test.YtjpjafajploiaaaGreatDoorUnixAlone17
import Derived.Test.YtjpjafajploiaaaGreatDoorUnixAlone21
import Derived.Laws.StructEq
set_option linter.unusedSimpArgs false
set_option linter.unusedVariables false
namespace Go.Proofs.YtjpjafajploiaaaGreatDoor
open Go.RowKit Own RegJ Two
open Go.Lib hiding intOf
def ML (w:World) (lo:Lo):Prop:=(∃m0,w.cell? ⟨0,0,none⟩=some (.int .i64 m0))∧∀r,lo r≠some 0
theorem cell_upd {F:Nat→Prop} {w w' :World} (hu:Upd F w w') {a:Addr} {v:Value} (h:w.cell? a=some v) (hf:¬F a.block):w'.cell? a=some v:=by
 have hl:=cell_lt' h
 unfold World.cell? at*
 rw [hu.block a.block hl hf]
 exact h
theorem ML.step {w w' :World} {lo lo' :Lo} (h:ML w lo) (hF:TFr lo lo' w w'):ML w' lo' :=by
 obtain ⟨⟨m0,h1⟩,h2⟩:=h
 refine ⟨⟨m0,cell_upd hF.1 h1 (fun ⟨r,hr⟩=> h2 r hr)⟩,fun r hr=> ?_⟩
 rcases hF.2.1 r _ hr with ⟨r',h3⟩ | h3
 ·exact h2 r' h3
 ·have h4:=cell_lt' h1
  simp only at h4
  omega
def VB [Inhabited CapT] (w:World) (vb tb:Nat) (ns:NSt) (lo:Lo) (N:Nat):Prop:=(∃sb,lo (.st .sto)=some sb∧Blk w vb #[.pointer (some ⟨sb,0,none⟩),.pointer (some ⟨tb,0,none⟩)] 143)∧TB w tb ns lo N∧(∀r,lo r≠some vb)∧ML w lo
section
variable {w w' :World} {vb tb:Nat} {ns ns' :NSt} {lo lo' :Lo} {N N' :Nat}
theorem VB.below [Inhabited CapT] (h:VB w vb tb ns lo N) (hB:Below w.heap.size w w'):VB w' vb tb ns lo N:=by
 obtain ⟨⟨sp,h0,h1⟩,h2,h3,h4⟩:=h
 exact ⟨⟨sp,h0,Blk.below hB h1 h1.lt⟩,h2.below hB,h3,h4.step (TFr.of_below hB)⟩
theorem VB.step [Inhabited CapT] (h:VB w vb tb ns lo N) (hT:TB w' tb ns' lo' N') (hF:TFr lo lo' w w'):VB w' vb tb ns' lo' N' :=by
 obtain ⟨⟨sp,h0,h1⟩,h2,h3,h4⟩:=h
 refine ⟨⟨sp,hF.2.2.1.trans h0,Blk.upd hF.1 h1 (fun ⟨r,hr⟩=> h3 r hr)⟩,hT,fun r hr=> ?_,h4.step hF⟩
 rcases hF.2.1 r vb hr with ⟨r',h⟩ | h
 ·exact h3 r' h
 ·have:=h1.lt;omega
theorem VB.cell [Inhabited CapT] (h:VB w vb tb ns lo N):w.cell? ⟨vb,1,none⟩=some (.pointer (some ⟨tb,0,none⟩)):=by
 obtain ⟨⟨sp,_,h1⟩,_⟩:=h
 exact h1.cell rfl
theorem VB.cell0 [Inhabited CapT] (h:VB w vb tb ns lo N):∃sb,lo (.st .sto)=some sb∧w.cell? ⟨vb,0,none⟩=some (.pointer (some ⟨sb,0,none⟩)):=by
 obtain ⟨⟨sp,h0,h1⟩,_⟩:=h
 exact ⟨sp,h0,h1.cell rfl⟩
end
def fndE (es:List En) (nm:Txt):Option Int:=(es.find? fun x=> decide (x.1=nm)).map Prod.snd
def findR (ns:NSt) (id:Int) (nm:Txt):Int×Int:=match dirAt ns id with
 | none=> (0,11)
 | some nd=> match fndE nd.es nm with
  | some k=> (k,0)
  | none=> (0,9)
def walkL (ns:NSt) (id:Int):List Txt→Int×Int
 | []=> (id,0)
 | x::r=> if (findR ns id x).2=0 then walkL ns (findR ns id x).1 r else (0,(findR ns id x).2)
def walkR (ns:NSt) (l:Txt):Int×Int:=if splitE l=0 then walkL ns 0 (splitL l) else (0,splitE l)
def isDirF (ns:NSt) (id:Int):Bool:=match ndAt ns id with
 | some nd=> nd.dir
 | none=> false
theorem fnd_no {es:List En} {nm:Txt} {j:Nat} (hS:Srt es) (hA:At es nm j) (hno:isAt es nm j=false):fndE es nm=none:=by
 have:es.find? (fun x=> decide (x.1=nm))=none:=List.find?_eq_none.2 fun x hx hd=> by
  have hd:=of_decide_eq_true hd
  obtain ⟨k,hk,hkx⟩:=List.getElem_of_mem hx
  have hkx:es[k]? =some x:=by rw [List.getElem?_eq_getElem hk,hkx]
  rcases Nat.lt_trichotomy k j with e | e | e
  ·have:=hA.2.1 k x hkx e
   rw [hd,nlt_irr] at this;cases this
  ·subst e
   rw [isAt_some hkx] at hno
   simp [hd] at hno
  ·obtain ⟨y,hy⟩:∃y,es[j]? =some y:=⟨_,List.getElem?_eq_getElem (by omega)⟩
   have h1:=srt_at hS hy hkx e
   have h2:=hA.2.2 j y hy (Nat.le_refl _)
   rw [hd,h2] at h1;cases h1
 unfold fndE
 rw [this]
 rfl
theorem fnd_yes {es:List En} {j:Nat} {x:En} (hS:Srt es) (hx:es[j]? =some x):fndE es x.1=some x.2:=by
 unfold fndE
 cases hf:es.find? (fun y=> decide (y.1=x.1)) with
 | none=> exact absurd (List.find?_eq_none.1 hf x (List.mem_of_getElem? hx)) (by simp)
 | some y=>
  have h1:y.1=x.1:=by have:=List.find?_some hf;simpa using this
  obtain ⟨k,hk,hky⟩:=List.getElem_of_mem (List.mem_of_find?_eq_some hf)
  have hky:es[k]? =some y:=by rw [List.getElem?_eq_getElem hk,hky]
  rcases Nat.lt_trichotomy k j with e | e | e
  ·have:=srt_at hS hky hx e
   rw [h1,nlt_irr] at this;cases this
  ·subst e
   rw [hx] at hky;cases hky;rfl
  ·have:=srt_at hS hx hky e
   rw [h1,nlt_irr] at this;cases this
section
variable {w:World} {vb tb:Nat} {ns:NSt} {lo:Lo} {N:Nat}
theorem tfind_is [Inhabited CapT] (h:TB w tb ns lo N) (id:Int) (nm:Txt) (f1 f2:Int) (hf:findR ns id nm=(f1,f2)):Calls Tryz.prog 118 #[.pointer (some ⟨tb,0,none⟩),.int .i64 id,.string (B nm)] w fun e w' => e= .returned (.tuple #[.int .i64 f1,.int .i64 f2])∧Below w.heap.size w w' :=by
 unfold findR at hf
 cases hd:dirAt ns id with
 | none=>
  rw [hd] at hf;cases hf
  refine (tfind_no h id nm hd).mono ?_
  rintro e w' ⟨rfl,rfl⟩
  exact ⟨rfl,Below.refl _ _⟩
 | some nd=>
  rw [hd] at hf
  simp only at hf
  obtain ⟨i,rfl,hi,hdir⟩:=dirAt_some hd
  obtain ⟨k,v,_,_,_,_,hS⟩:=h.node _ _ hi
  refine (tfind_yes h i nm nd hi hdir).mono ?_
  rintro e w' ⟨⟨j,hA,hq⟩,hB⟩
  rcases hq with ⟨hno,rfl⟩ | ⟨x,hx,rfl,rfl⟩
  ·rw [fnd_no hS hA hno] at hf
   cases hf
   exact ⟨rfl,hB⟩
  ·rw [fnd_yes hS hx] at hf
   cases hf
   exact ⟨rfl,hB⟩
set_option maxRecDepth 100000 in
theorem isdir_is [Inhabited CapT] (h:VB w vb tb ns lo N) (id:Int) (b:Bool) (hb:isDirF ns id=b):Calls Tryz.prog 86 #[.pointer (some ⟨vb,0,none⟩),.int .i64 id] w fun e w' => e= .returned (.bool b)∧Below w.heap.size w w' :=by
 have c1:=h.cell
 have hg:=get_any h.2.1 id
 clear h
 unfold isDirF at hb
 unfold getV at hg
 cases hn:ndAt ns id with
 | none=>
  rw [hn] at hb hg
  simp only at hb hg
  subst hb
  unfold in0 at hg
  clear hn
  go_enter Tryz.func86,Tryz.ntmps86
  go_wp2_with (go_at_call 145;(with_reducible refine hg.mono ?_);rintro e w1 ⟨rfl,hB⟩;have H1:=Lib.hid hB;clear hB hg)
  go_ret
  exact ⟨rfl,H1.out.alloc H1.out.size _⟩
 | some nd=>
  rw [hn] at hb hg
  simp only at hb hg
  subst hb
  generalize sizeN nd=sz at*
  generalize nd.dir=b at*
  generalize nd.links=k at*
  clear hn
  go_enter Tryz.func86,Tryz.ntmps86
  go_wp2_with (go_at_call 145;(with_reducible refine hg.mono ?_);rintro e w1 ⟨rfl,hB⟩;have H1:=Lib.hid hB;clear hB hg)
  go_ret
  exact ⟨rfl,H1.out.alloc H1.out.size _⟩
set_option maxRecDepth 100000 in
set_option maxHeartbeats 1000000 in
theorem walk_is [Inhabited CapT] (h:VB w vb tb ns lo N) (l:Txt) (hl:l.length≤100000) (r1 r2:Int) (hr:walkR ns l=(r1,r2)):
  Calls Tryz.prog 70 #[.pointer (some ⟨vb,0,none⟩),.string (B l)] w fun e w' => e= .returned (.tuple #[.int .i64 r1,.int .i64 r2])∧Below w.heap.size w w' :=by
 obtain ⟨m0,hm0⟩:=h.2.2.2.1
 have hs:=split_is l w hl m0 hm0
 obtain ⟨n,hn⟩:∃n,(splitL l).length=n:=⟨_,rfl⟩
 obtain ⟨E,hE⟩:∃E,splitE l=E:=⟨_,rfl⟩
 have hn6:=splitL_len l
 rw [hn] at hn6
 unfold walkR at hr
 have H:=Lib.hid h
 have HN:=Lib.hid hn
 have HE:=Lib.hid hE
 by_cases hE0:E=0
 ·subst hE0
  rw [if_pos hE] at hr
  have HR:=Lib.hid hr
  clear h hm0 hl hr hn hE
  go_enter Tryz.func70,Tryz.ntmps70
  go_wp2_with (go_at_call 117;refine hs.mono ?_;intro e w1 hq;obtain ⟨a,c,b,rfl,hTx,hb,hB⟩:=hq.at HN.out HE.out;have H1:=Lib.hid (And.intro hTx hB);clear hs hTx hB hq hb)
  go_loopw [7,8,20] (fun v7 v8 v20 wr=> ∃(i:Nat) (id:Int),i≤n∧v20= .int .i64 i∧v8= .int .i64 id∧v7= .int .i64 0∧Hid (walkL ns id ((splitL l).drop i)=(r1,r2))∧Below w1.heap.size w1 wr) (fun _ _ v20 _=> n - (intOf v20).toNat)
  case atStart=> exact ⟨0,0,Nat.zero_le _,rfl,rfl,rfl,Lib.hid HR.out,Below.refl _ _⟩
  case round=>
   obtain ⟨i,id,hi,rfl,rfl,rfl,HW,hBr⟩:=hrel
   have hBw:Below w.heap.size w wr:=H1.out.2.trans (hBr.mono H1.out.2.size)
   by_cases hil:i < n
   ·obtain ⟨x,hx⟩:∃x,(splitL l)[i]? =some x:=⟨_,List.getElem?_eq_getElem (by rw [HN.out];exact hil)⟩
    obtain ⟨g,o,rfl,k0⟩:=(RdT.below H1.out.1.rd hBr) i x hx
    have d1:decide ((i:Int) < (n:Int))=true:=by simp;omega
    have i1:(i:Int) < (n:Int):=by omega
    have i2:(0:Int)≤i:=by omega
    have c1:=(H.out.below hBw).cell
    have hdr:(splitL l).drop i=x::(splitL l).drop (i+1):=by
     obtain ⟨h1,h2⟩:=List.getElem?_eq_some_iff.1 hx
     rw [List.drop_eq_getElem_cons h1,h2]
    obtain ⟨f1,f2,hf⟩:∃f1 f2,findR ns id x=(f1,f2):=⟨_,_,rfl⟩
    have hfi:=tfind_is (H.out.below hBw).2.1 id x f1 f2 hf
    have hW:=HW.out
    rw [hdr] at hW
    unfold walkL at hW
    rw [hf] at hW
    simp only at hW
    have HBB:=Lib.hid (And.intro hBr hBw)
    clear hx hdr hf HW hBr hBw
    by_cases hf0:f2=0
    ·subst hf0
     rw [if_pos rfl] at hW
     have HW:=Lib.hid hW
     clear hW
     go_wp2_with (go_at_call 118;(with_reducible refine hfi.mono ?_);rintro e w2 ⟨rfl,hB2⟩;have H2:=Lib.hid (HBB.out.1.trans (hB2.mono HBB.out.1.size));clear hB2 hfi)
     go_roundw
     case rel=> exact ⟨i+1,f1,by omega,by go_num,rfl,rfl,Lib.hid HW.out,H2.out⟩
     case measure=> simp [intOf];omega
    ·rw [if_neg hf0] at hW
     have e1:(f2 !=0)=true:=by simpa using hf0
     have HW:=Lib.hid hW
     clear hW hf0
     go_wp2_with (go_at_call 118;(with_reducible refine hfi.mono ?_);rintro e w2 ⟨rfl,hB2⟩;have H2:=Lib.hid (HBB.out.2.trans (hB2.mono HBB.out.2.size));clear hB2 hfi)
     go_returns
     have:=HW.out
     cases this
     exact ⟨rfl,H2.out⟩
   ·have d1:decide ((i:Int) < (n:Int))=false:=by simp;omega
    have hW:=HW.out
    rw [List.drop_of_length_le (by rw [HN.out];omega)] at hW
    unfold walkL at hW
    have HW2:=Lib.hid (And.intro hW hBw)
    clear hW HW hBr hBw
    go_wp2_with (fail)
    go_returns
    have:=HW2.out.1
    cases this
    exact ⟨rfl,HW2.out.2⟩
 ·have hsl:=splitL_bad (l:=l) (by rw [hE];exact hE0)
  rw [if_neg (by rw [hE];exact hE0),hE] at hr
  have e1:(E !=0)=true:=by simpa using hE0
  obtain rfl:n=0:=by rw [←hn,hsl];rfl
  have HR:=Lib.hid hr
  clear h hm0 hl hr hn hE hE0 hsl
  go_enter Tryz.func70,Tryz.ntmps70
  go_wp2_with (go_at_call 117;refine hs.mono ?_;intro e w1 hq;obtain ⟨a,c,b,rfl,hTx,hb,hB⟩:=hq.at HN.out HE.out;have H1:=Lib.hid (And.intro hTx hB);clear hs hTx hB hq hb)
  go_loopw [7,8,20] (fun v7 v8 v20 wr=> v20= .int .i64 0∧v7= .int .i64 E∧v8= .int .i64 0∧wr=w1) (fun _ _ _ _=> 0)
  case atStart=> exact ⟨rfl,rfl,rfl,rfl⟩
  case round=>
   obtain ⟨rfl,rfl,rfl,rfl⟩:=hrel
   go_wp2_with (fail)
   go_returns
   have:=HR.out
   cases this
   exact ⟨rfl,H1.out.2⟩
end
end Go.Proofs.YtjpjafajploiaaaGreatDoor
/-
 The vfs:a node is made and entered.
-/
namespace Go.Proofs.YtjpjafajploiaaaGreatDoor
open Go.RowKit Own RegJ Two
open Go.Lib hiding intOf
def plc (es:List En) (nm:Txt):Nat:=es.findIdx fun x=> !(nlt x.1 nm)
theorem plc_at {es:List En} (hS:Srt es) (nm:Txt):At es nm (plc es nm):=by
 obtain ⟨j,hj⟩:=at_ex hS nm
 have h1:plc es nm=j:=by
  have hle:plc es nm≤es.length:=List.findIdx_le_length
  rcases Nat.lt_trichotomy (plc es nm) j with e | e | e
  ·have h2:plc es nm < es.length:=by have:=hj.1;omega
   have:=List.findIdx_getElem (p:=fun x:En=> !(nlt x.1 nm)) (w:=h2)
   have h3:=hj.2.1 (plc es nm) _ (List.getElem?_eq_getElem h2) e
   unfold plc at h3
   simp only [Bool.not_eq_true'] at this
   rw [h3] at this;cases this
  ·exact e
  ·have h2:j < es.length:=by omega
   have:=List.not_of_lt_findIdx (p:=fun x:En=> !(nlt x.1 nm)) e
   have h3:=hj.2.2 j _ (List.getElem?_eq_getElem h2) (Nat.le_refl _)
   simp [h3] at this
 rw [h1];exact hj
def freeF (ns:NSt):Option Nat:=(List.range 16).find? fun i=> (ns i).isNone
theorem freeF_some {ns:NSt} {i:Nat} (h:freeF ns=some i):i < 16∧ns i=none:=by
 have h1:=List.find?_some h
 have h2:=List.mem_of_find?_eq_some h
 exact ⟨List.mem_range.1 h2,by simpa using h1⟩
theorem freeF_none {ns:NSt} (h:freeF ns=none):∀j,j < 16→ns j≠none:=fun j hj hn=> by
 have:=List.find?_eq_none.1 h j (List.mem_range.2 hj)
 simp [hn] at this
theorem freeF_first {ns:NSt} {i:Nat} (h16:i < 16) (hn:ns i=none) (hall:∀j,j < i→ns j≠none):freeF ns=some i:=by
 cases hf:freeF ns with
 | none=> exact absurd hn (freeF_none hf i h16)
 | some k=>
  obtain ⟨k1,k2⟩:=freeF_some hf
  rcases Nat.lt_trichotomy k i with e | e | e
  ·exact absurd k2 (hall k e)
  ·rw [e]
  ·exfalso
   unfold freeF at hf
   rw [List.find?_eq_some_iff_append] at hf
   obtain ⟨_,pre,bs,hab,hno⟩:=hf
   have hlen:pre.length=k:=by
    have h1:(List.range 16)[pre.length]? =some k:=by rw [hab];simp
    rw [List.getElem?_range (by have:=congrArg List.length hab;simp at this;omega)] at h1
    exact Option.some.inj h1
   have hmem:i∈pre:=by
    have h1:(List.range 16)[i]? =some i:=List.getElem?_range (by omega)
    rw [hab,List.getElem?_append_left (by omega)] at h1
    exact List.mem_of_getElem? h1
   have:=hno i hmem
   simp [hn] at this
def VV [Inhabited CapT] (w:World) (vb tb:Nat) (ns:NSt) (lo:Lo) (c:Nat):Prop:=VB w vb tb ns lo c∧IV ns c
theorem TB.le [Inhabited CapT] {w:World} {tb:Nat} {ns:NSt} {lo:Lo} {N M:Nat} (h:TB w tb ns lo N) (hNM:N≤M):TB w tb ns lo M:=by
 exact ⟨h.inj,h.lt,h.at',h.sto.le hNM,h.tab,h.none',h.far,h.node⟩
section
variable {w w' :World} {vb tb:Nat} {ns ns' :NSt} {lo lo' :Lo} {N c d:Nat}
theorem VB.le [Inhabited CapT] (h:VB w vb tb ns lo c) (hcd:c≤d):VB w vb tb ns lo d:=⟨h.1,h.2.1.le hcd,h.2.2⟩
theorem VV.le [Inhabited CapT] (h:VV w vb tb ns lo c) (hcd:c≤d):VV w vb tb ns lo d:=⟨h.1.le hcd,h.2.le hcd⟩
theorem VV.below [Inhabited CapT] (h:VV w vb tb ns lo c) (hB:Below w.heap.size w w'):VV w' vb tb ns lo c:=⟨h.1.below hB,h.2⟩
theorem make_full [Inhabited CapT] (h:TB w tb ns lo N) (hN:N≤10000) (dir:Bool) (hf:freeF ns=none):Calls Tryz.prog 185 #[.pointer (some ⟨tb,0,none⟩),.bool dir] w fun e w' => e= .returned (.tuple #[.int .i64 0,.int .i64 15])∧Below w.heap.size w w' :=by
 refine (make_is h hN dir).mono ?_
 rintro e w' ⟨r,hr,hq⟩
 rcases hq with ⟨_,rfl,_,hB⟩ | ⟨i,rfl,_⟩
 ·exact ⟨rfl,hB⟩
 ·rcases hr with ⟨hr,_⟩ | ⟨k,hk,h16,hn,_⟩
  ·omega
  ·obtain rfl:i=k:=by omega
   exact absurd hn (freeF_none hf i h16)
theorem make_some [Inhabited CapT] (h:TB w tb ns lo N) (hN:N≤10000) (dir:Bool) (i:Nat) (hf:freeF ns=some i):Calls Tryz.prog 185 #[.pointer (some ⟨tb,0,none⟩),.bool dir] w fun e w' => e= .returned (.tuple #[.int .i64 i,.int .i64 0])∧∃lo',TB w' tb (nsPut ns i (some ⟨dir,0,1,[],[]⟩)) lo' (N+1)∧TFr lo lo' w w' :=by
 obtain ⟨f1,f2⟩:=freeF_some hf
 refine (make_is h hN dir).mono ?_
 rintro e w' ⟨r,hr,hq⟩
 rcases hr with ⟨rfl,hall⟩ | ⟨k,rfl,h16,hn,hall⟩
 ·exact absurd f2 (hall i f1)
 ·have:=freeF_first h16 hn hall
  rw [hf] at this
  cases this
  rcases hq with ⟨h0,_⟩ | ⟨i',hi',rfl,hq⟩
  ·omega
  ·obtain rfl:i=i' :=by omega
   exact ⟨rfl,hq⟩
def entF (ns:NSt) (i:Nat) (nd:Nd) (nm:Txt) (id:Int):Int×NSt:=if entR ns nd.es (plc nd.es nm) nm id=0 then (0,nsEnt ns i nd (insE nd.es (plc nd.es nm) (nm,id)) id) else (entR ns nd.es (plc nd.es nm) nm id,ns)
theorem enter_f [Inhabited CapT] (h:TB w tb ns lo N) (i:Nat) (id:Int) (nm:Txt) (nd:Nd) (hi:ns i=some nd) (hd:nd.dir=true) (hlk:∀m,ndAt ns id=some m→0≤m.links∧m.links≤100000) (r:Int) (ns' :NSt) (hr:entF ns i nd nm id=(r,ns')):
  Calls Tryz.prog 89 #[.pointer (some ⟨tb,0,none⟩),.int .i64 i,.string (B nm),.int .i64 id] w fun e w' => e= .returned (.int .i64 r)∧∃lo',TB w' tb ns' lo' N∧TFr lo lo' w w' :=by
 obtain ⟨k,v,_,_,_,_,hS⟩:=h.node _ _ hi
 refine (enter_is h i id nm nd hi hd hlk).mono ?_
 rintro e w' ⟨j,hA,rfl,hq⟩
 obtain rfl:=at_uniq hA (plc_at hS nm)
 unfold entF at hr
 rcases hq with ⟨hne,hB⟩ | ⟨h0,lo',hT,hF⟩
 ·rw [if_neg hne] at hr
  cases hr
  exact ⟨rfl,lo,h.below hB,TFr.of_below hB⟩
 ·rw [if_pos h0] at hr
  cases hr
  exact ⟨by rw [h0],lo',hT,hF⟩
def closeF (ns:NSt) (id:Int):Int×NSt:=match ndAt ns id with
 | some nd=> if 0 < nd.opens then (0,gone 17 (nsPut ns id.toNat (some (addO nd (-1)))) id.toNat) else (4,ns)
 | none=> (4,ns)
theorem close_f [Inhabited CapT] (h:TB w tb ns lo N) (hV:IV ns c) (hc:c≤100000) (id:Int) (r:Int) (ns' :NSt) (hr:closeF ns id=(r,ns')):
  Calls Tryz.prog 82 #[.pointer (some ⟨tb,0,none⟩),.int .i64 id] w fun e w' => e= .returned (.int .i64 r)∧∃lo',TB w' tb ns' lo' N∧TFr lo lo' w w' :=by
 unfold closeF at hr
 cases hn:ndAt ns id with
 | none=>
  rw [hn] at hr;cases hr
  refine (close_no h id (fun nd hd=> by rw [hn] at hd;cases hd)).mono ?_
  rintro e w' ⟨rfl,rfl⟩
  exact ⟨rfl,lo,h,TFr.refl _ _⟩
 | some nd=>
  rw [hn] at hr
  simp only at hr
  obtain ⟨i,rfl,hi⟩:=ndAt_some hn
  by_cases ho:0 < nd.opens
  ·rw [if_pos ho] at hr
   simp only [Int.toNat_natCast] at hr
   cases hr
   exact close_any h hV.inv i nd hi ho (by have:=hV.opn i nd hi;omega) (hV.closed1 hi ho)
  ·rw [if_neg ho] at hr
   cases hr
   refine (close_no h i (fun nd' hd=> ?_)).mono ?_
   ·rw [hn] at hd;cases hd
    have:=hV.inv.opn i nd hi
    omega
   ·rintro e w' ⟨rfl,rfl⟩
    exact ⟨rfl,lo,h,TFr.refl _ _⟩
theorem closeF_iv (hV:IV ns c) (id:Int):IV (closeF ns id).2 (c+1):=by
 unfold closeF
 cases hn:ndAt ns id with
 | none=> exact hV.le (by omega)
 | some nd=>
  simp only
  obtain ⟨i,rfl,hi⟩:=ndAt_some hn
  by_cases ho:0 < nd.opens
  ·rw [if_pos ho]
   exact hV.closed hi ho
  ·rw [if_neg ho]
   exact hV.le (by omega)
theorem entF_iv (hV:IV ns c) {i:Nat} {nd:Nd} (hi:ns i=some nd) (hd:nd.dir=true) (nm:Txt) (id:Int):IV (entF ns i nd nm id).2 (c+1):=by
 unfold entF
 by_cases h0:entR ns nd.es (plc nd.es nm) nm id=0
 ·rw [if_pos h0]
  have hA:=plc_at (hV.srt i nd hi) nm
  unfold entR at h0
  split at h0
  ·omega
  ·split at h0
   ·omega
   ·rename_i h2
    split at h0
    ·omega
    ·rename_i h3
     split at h0
     ·omega
     ·rename_i h4
      have h5:id≠0:=fun e=> h2 (Or.inl e)
      cases hn:ndAt ns id with
      | none=> exact absurd (Or.inr hn) h2
      | some nk=>
       obtain ⟨k,rfl,hk⟩:=ndAt_some hn
       exact hV.entered hi hd hk (by omega) hA (by cases hh:isAt nd.es nm (plc nd.es nm) with | false=> rfl | true=> exact absurd hh h3) h4
 ·rw [if_neg h0]
  exact hV.le (by omega)
def madeF (ns:NSt) (dir:Int) (nm:Txt) (isD:Bool):Int×Int×NSt:=match dirAt ns dir with
 | none=> (0,11,ns)
 | some nd=> match freeF ns with
  | none=> (0,15,ns)
  | some i=> if (entF (nsPut ns i (some ⟨isD,0,1,[],[]⟩)) dir.toNat nd nm i).1=0 then (i,0,(entF (nsPut ns i (some ⟨isD,0,1,[],[]⟩)) dir.toNat nd nm i).2)
   else (0,(entF (nsPut ns i (some ⟨isD,0,1,[],[]⟩)) dir.toNat nd nm i).1,(closeF (entF (nsPut ns i (some ⟨isD,0,1,[],[]⟩)) dir.toNat nd nm i).2 i).2)
def MadP [Inhabited CapT] (w:World) (vb tb:Nat) (ns' :NSt) (lo:Lo) (c:Nat) (v:Value) (e:Ending) (w' :World):Prop:=e= .returned v∧∃lo',VV w' vb tb ns' lo' c∧TFr lo lo' w w'
theorem isDirF_dirAt (ns:NSt) (id:Int):isDirF ns id=(dirAt ns id).isSome:=by
 unfold isDirF dirAt ndAt
 by_cases h0:0≤id
 ·simp only [if_pos h0]
  cases h:ns id.toNat with
  | none=> rfl
  | some nd=> cases hd:nd.dir <;> simp [hd]
 ·simp only [if_neg h0]
  rfl
set_option maxRecDepth 100000 in
theorem made_is [Inhabited CapT] (h:VV w vb tb ns lo c) (hc:c≤9000) (dir:Int) (nm:Txt) (isD:Bool) (r1 r2:Int) (ns' :NSt) (hr:madeF ns dir nm isD=(r1,r2,ns')):
  Calls Tryz.prog 132 #[.pointer (some ⟨vb,0,none⟩),.int .i64 dir,.string (B nm),.bool isD] w (MadP w vb tb ns' lo (c+3) (.tuple #[.int .i64 r1,.int .i64 r2])):=by
 have c0:=h.1.cell
 have hdd:=isDirF_dirAt ns dir
 unfold madeF at hr
 cases hd:dirAt ns dir with
 | none=>
  rw [hd] at hr hdd
  cases hr
  have hid:=isdir_is h.1 dir false hdd
  have H:=Lib.hid h
  clear h hdd hd
  go_enter Tryz.func132,Tryz.ntmps132
  go_wp2_with (go_at_call 86;(with_reducible refine hid.mono ?_);rintro e w1 ⟨rfl,hB⟩;have H1:=Lib.hid hB;clear hB hid)
  go_returns
  exact ⟨rfl,lo,(H.out.below H1.out).le (by omega),TFr.of_below H1.out⟩
 | some nd=>
  rw [hd] at hr hdd
  simp only at hr
  obtain ⟨i0,rfl,hi0,hdir⟩:=dirAt_some hd
  simp only [Int.toNat_natCast] at hr
  have hid:=isdir_is h.1 (i0:Int) true hdd
  cases hf:freeF ns with
  | none=>
   rw [hf] at hr
   cases hr
   have H:=Lib.hid (And.intro h hf)
   clear h hdd hd hf hi0
   go_enter Tryz.func132,Tryz.ntmps132
   go_wp2_with (first
    | (go_at_call 86;(with_reducible refine hid.mono ?_);rintro e w1 ⟨rfl,hB⟩;have h1:=H.out.1.below hB;clear c0;have c0:=h1.1.cell;have hmk:=make_full h1.1.2.1 (by omega) isD H.out.2;have H1:=Lib.hid (And.intro h1 hB);clear hB hid h1)
    | (go_at_call 185;(with_reducible refine hmk.mono ?_);rintro e w2 ⟨rfl,hB⟩;have H2:=Lib.hid hB;clear hB hmk))
   go_returns
   exact ⟨rfl,lo,(H1.out.1.below H2.out).le (by omega),(TFr.of_below H1.out.2).trans (TFr.of_below H2.out)⟩
  | some i=>
   rw [hf] at hr
   simp only at hr
   obtain ⟨h16,hni⟩:=freeF_some hf
   have hne:i0≠i:=fun e=> by rw [e,hni] at hi0;cases hi0
   obtain ⟨e1,ns2,hE⟩:∃e1 ns2,entF (nsPut ns i (some ⟨isD,0,1,[],[]⟩)) i0 nd nm i=(e1,ns2):=⟨_,_,rfl⟩
   have hV1:=h.2.make h16 hni isD
   have hi1:nsPut ns i (some ⟨isD,0,1,[],[]⟩) i0=some nd:=by rw [put_ne _ _ _ hne];exact hi0
   have hV2:=entF_iv hV1 hi1 hdir nm i
   rw [hE] at hr hV2
   simp only at hr hV2
   have hlk:∀m,ndAt (nsPut ns i (some ⟨isD,0,1,[],[]⟩)) (i:Int)=some m→0≤m.links∧m.links≤100000:=fun m hm=> by
    obtain ⟨k,hk,hkk⟩:=ndAt_some hm
    exact ⟨hV1.inv.links hkk,hV1.inv.bnd k m hkk⟩
   have H:=Lib.hid (And.intro h (And.intro hf (And.intro hi1 (And.intro hdir (And.intro hlk hE)))))
   have HV:=Lib.hid (And.intro hV1 hV2)
   clear h hdd hd hf hi0 hni hne hV1 hV2 hi1 hlk hE hdir
   by_cases he:e1=0
   ·subst he
    rw [if_pos rfl] at hr
    cases hr
    go_enter Tryz.func132,Tryz.ntmps132
    go_wp2_with (first
     | (go_at_call 86;(with_reducible refine hid.mono ?_);rintro e w1 ⟨rfl,hB⟩;have h1:=H.out.1.below hB;clear c0;have c0:=h1.1.cell;have hmk:=make_some h1.1.2.1 (by omega) isD i H.out.2.1;have H1:=Lib.hid (And.intro h1 hB);clear hB hid h1)
     | (go_at_call 185;(with_reducible refine hmk.mono ?_);rintro e w2 ⟨rfl,lo2,hT,hF⟩;have h2:=H1.out.1.1.step hT hF;clear c0;have c0:=h2.cell;have hen:=enter_f hT i0 i nm nd H.out.2.2.1 H.out.2.2.2.1 H.out.2.2.2.2.1 _ _ H.out.2.2.2.2.2;have H2:=Lib.hid (And.intro h2 hF);clear hmk hT hF h2)
     | (go_at_call 89;(with_reducible refine hen.mono ?_);rintro e w3 ⟨rfl,lo3,hT,hF⟩;have H3:=Lib.hid (And.intro hT hF);clear hen hT hF))
    go_returns
    exact ⟨rfl,lo3,⟨(H2.out.1.step H3.out.1 H3.out.2).le (by omega),HV.out.2.le (by omega)⟩,((TFr.of_below H1.out.2).trans H2.out.2).trans H3.out.2⟩
   ·rw [if_neg he] at hr
    cases hr
    have d1:(r2 !=0)=true:=by simpa using he
    clear he
    obtain ⟨e2,ns3,hC⟩:∃e2 ns3,closeF ns2 i=(e2,ns3):=⟨_,_,rfl⟩
    have hV3:=closeF_iv HV.out.2 i
    rw [hC] at hV3 ⊢
    simp only at hV3 ⊢
    have HC:=Lib.hid (And.intro hC hV3)
    clear hC hV3
    go_enter Tryz.func132,Tryz.ntmps132
    go_wp2_with (first
     | (go_at_call 86;(with_reducible refine hid.mono ?_);rintro e w1 ⟨rfl,hB⟩;have h1:=H.out.1.below hB;clear c0;have c0:=h1.1.cell;have hmk:=make_some h1.1.2.1 (by omega) isD i H.out.2.1;have H1:=Lib.hid (And.intro h1 hB);clear hB hid h1)
     | (go_at_call 185;(with_reducible refine hmk.mono ?_);rintro e w2 ⟨rfl,lo2,hT,hF⟩;have h2:=H1.out.1.1.step hT hF;clear c0;have c0:=h2.cell;have hen:=enter_f hT i0 i nm nd H.out.2.2.1 H.out.2.2.2.1 H.out.2.2.2.2.1 _ _ H.out.2.2.2.2.2;have H2:=Lib.hid (And.intro h2 hF);clear hmk hT hF h2)
     | (go_at_call 89;(with_reducible refine hen.mono ?_);rintro e w3 ⟨rfl,lo3,hT,hF⟩;have h3:=H2.out.1.step hT hF;clear c0;have c0:=h3.cell;have hcl:=close_f hT HV.out.2 (by omega) i _ _ HC.out.1;have H3:=Lib.hid (And.intro h3 hF);clear hen hT hF h3)
     | (go_at_call 82;(with_reducible refine hcl.mono ?_);rintro e w4 ⟨rfl,lo4,hT,hF⟩;have H4:=Lib.hid (And.intro hT hF);clear hcl hT hF))
    go_returns
    exact ⟨rfl,lo4,⟨(H3.out.1.step H4.out.1 H4.out.2).le (by omega),HC.out.2⟩,(((TFr.of_below H1.out.2).trans H2.out.2).trans H3.out.2).trans H4.out.2⟩
end
end Go.Proofs.YtjpjafajploiaaaGreatDoor
/-
 The vfs:what is done at the directory of a path's last name;Mkdir,Unlink,Rmdir,Link.
-/
namespace Go.Proofs.YtjpjafajploiaaaGreatDoor
open Go.RowKit Own RegJ Two
open Go.Lib hiding intOf
def parEr (ns:NSt) (l:Txt):Int:=if parE l=0 then (walkR ns (parD l)).2 else parE l
def parDi (ns:NSt) (l:Txt):Int:=(walkR ns (parD l)).1
theorem parD_len (l:Txt):(parD l).length≤100000:=by
 unfold parD
 split
 ·rename_i h
  have hs:splitE l=0:=by
   unfold parE at h
   split at h
   ·assumption
   ·exact h
  have h1:=every_take ((splitL l).length - 1) (split_join hs).2
  have h2:=ljoin_len _ h1
  have h3:=congrArg List.length (ljoin ((splitL l).take ((splitL l).length - 1)))
  simp only [List.length_cons] at h3
  omega
 ·simp
section
variable {w w' :World} {vb tb:Nat} {ns ns' :NSt} {lo lo' :Lo} {N c d:Nat}
set_option maxRecDepth 100000 in
theorem par_mkdir [Inhabited CapT] (h:VV w vb tb ns lo c) (l:Txt) (hl:l.length≤100000) (P:Int→World→Prop) (he:∀E w1,Below w.heap.size w w1→parEr ns l=E→E≠0→P E w1)
  (hk:parEr ns l=0→∀w1,Below w.heap.size w w1→Calls Tryz.prog 91 #[.pointer (some ⟨vb,0,none⟩),.int .i64 (parDi ns l),.string (B (parN l))] w1 fun e w2=> ∃r,e= .returned (.int .i64 r)∧P r w2):
  Calls Tryz.prog 87 #[.pointer (some ⟨vb,0,none⟩),.string (B l),.func (.func 91) #[.pointer (some ⟨vb,0,none⟩)] #[]] w fun e w2=> ∃r,e= .returned (.int .i64 r)∧P r w2:=by
 obtain ⟨m0,hm0⟩:=h.1.2.2.2.1
 have hp:=par_is l w hl m0 hm0
 unfold parEr at he hk
 unfold parDi at hk
 obtain ⟨p,hpp⟩:∃p,parE l=p:=⟨_,rfl⟩
 obtain ⟨d,f,hw⟩:∃d f,walkR ns (parD l)=(d,f):=⟨_,_,rfl⟩
 unfold ParV at hp
 rw [hpp] at hp he hk
 rw [hw] at he hk
 simp only at he hk
 have hwk:∀w1,Below w.heap.size w w1→Calls Tryz.prog 70 #[.pointer (some ⟨vb,0,none⟩),.string (B (parD l))] w1 fun e w' => e= .returned (.tuple #[.int .i64 d,.int .i64 f])∧Below w1.heap.size w1 w' :=fun w1 hB=> walk_is (h.1.below hB) (parD l) (parD_len l) d f hw
 generalize B (parD l)=D at*
 generalize B (parN l)=M at*
 clear h hm0 hpp hw hl
 by_cases hp0:p=0
 ·subst hp0
  rw [if_pos rfl] at he hk
  by_cases hf0:f=0
  ·subst hf0
   have HK:=Lib.hid (hk rfl)
   clear he hk
   go_enter Tryz.func87,Tryz.ntmps87
   go_wp2_with (first
    | (go_at_call 146;(with_reducible refine hp.mono ?_);rintro e w1 ⟨rfl,hB⟩;have hw1:=hwk w1 hB;have H1:=Lib.hid hB;clear hB hp hwk)
    | (go_at_call 70;(with_reducible refine hw1.mono ?_);rintro e w2 ⟨rfl,hB⟩;have hk2:=HK.out w2 (H1.out.trans (hB.mono H1.out.size));clear hB hw1)
    | (go_at_call 91;(with_reducible refine hk2.mono ?_);rintro e w3 ⟨r,rfl,hP⟩;have HP:=Lib.hid hP;clear hP hk2))
   go_ret
   exact ⟨r,rfl,HP.out⟩
  ·have d1:(f !=0)=true:=by simpa using hf0
   have HE:=Lib.hid (And.intro he hf0)
   clear he hk hf0
   go_enter Tryz.func87,Tryz.ntmps87
   go_wp2_with (first
    | (go_at_call 146;(with_reducible refine hp.mono ?_);rintro e w1 ⟨rfl,hB⟩;have hw1:=hwk w1 hB;have H1:=Lib.hid hB;clear hB hp hwk)
    | (go_at_call 70;(with_reducible refine hw1.mono ?_);rintro e w2 ⟨rfl,hB⟩;have H2:=Lib.hid (H1.out.trans (hB.mono H1.out.size));clear hB hw1))
   go_ret
   exact ⟨f,rfl,HE.out.1 f w2 H2.out rfl HE.out.2⟩
 ·rw [if_neg hp0] at he
  have d1:(p !=0)=true:=by simpa using hp0
  have HE:=Lib.hid (And.intro he hp0)
  clear he hk hp0 hwk
  go_enter Tryz.func87,Tryz.ntmps87
  go_wp2_with (go_at_call 146;(with_reducible refine hp.mono ?_);rintro e w1 ⟨rfl,hB⟩;have H1:=Lib.hid hB;clear hB hp)
  go_ret
  exact ⟨p,rfl,HE.out.1 p w1 H1.out rfl HE.out.2⟩
set_option maxRecDepth 100000 in
theorem par_unlink [Inhabited CapT] (h:VV w vb tb ns lo c) (l:Txt) (hl:l.length≤100000) (P:Int→World→Prop) (he:∀E w1,Below w.heap.size w w1→parEr ns l=E→E≠0→P E w1)
  (hk:parEr ns l=0→∀w1,Below w.heap.size w w1→Calls Tryz.prog 90 #[.pointer (some ⟨vb,0,none⟩),.int .i64 (parDi ns l),.string (B (parN l))] w1 fun e w2=> ∃r,e= .returned (.int .i64 r)∧P r w2):
  Calls Tryz.prog 87 #[.pointer (some ⟨vb,0,none⟩),.string (B l),.func (.func 90) #[.pointer (some ⟨vb,0,none⟩)] #[]] w fun e w2=> ∃r,e= .returned (.int .i64 r)∧P r w2:=by
 obtain ⟨m0,hm0⟩:=h.1.2.2.2.1
 have hp:=par_is l w hl m0 hm0
 unfold parEr at he hk
 unfold parDi at hk
 obtain ⟨p,hpp⟩:∃p,parE l=p:=⟨_,rfl⟩
 obtain ⟨d,f,hw⟩:∃d f,walkR ns (parD l)=(d,f):=⟨_,_,rfl⟩
 unfold ParV at hp
 rw [hpp] at hp he hk
 rw [hw] at he hk
 simp only at he hk
 have hwk:∀w1,Below w.heap.size w w1→Calls Tryz.prog 70 #[.pointer (some ⟨vb,0,none⟩),.string (B (parD l))] w1 fun e w' => e= .returned (.tuple #[.int .i64 d,.int .i64 f])∧Below w1.heap.size w1 w' :=fun w1 hB=> walk_is (h.1.below hB) (parD l) (parD_len l) d f hw
 generalize B (parD l)=D at*
 generalize B (parN l)=M at*
 clear h hm0 hpp hw hl
 by_cases hp0:p=0
 ·subst hp0
  rw [if_pos rfl] at he hk
  by_cases hf0:f=0
  ·subst hf0
   have HK:=Lib.hid (hk rfl)
   clear he hk
   go_enter Tryz.func87,Tryz.ntmps87
   go_wp2_with (first
    | (go_at_call 146;(with_reducible refine hp.mono ?_);rintro e w1 ⟨rfl,hB⟩;have hw1:=hwk w1 hB;have H1:=Lib.hid hB;clear hB hp hwk)
    | (go_at_call 70;(with_reducible refine hw1.mono ?_);rintro e w2 ⟨rfl,hB⟩;have hk2:=HK.out w2 (H1.out.trans (hB.mono H1.out.size));clear hB hw1)
    | (go_at_call 90;(with_reducible refine hk2.mono ?_);rintro e w3 ⟨r,rfl,hP⟩;have HP:=Lib.hid hP;clear hP hk2))
   go_ret
   exact ⟨r,rfl,HP.out⟩
  ·have d1:(f !=0)=true:=by simpa using hf0
   have HE:=Lib.hid (And.intro he hf0)
   clear he hk hf0
   go_enter Tryz.func87,Tryz.ntmps87
   go_wp2_with (first
    | (go_at_call 146;(with_reducible refine hp.mono ?_);rintro e w1 ⟨rfl,hB⟩;have hw1:=hwk w1 hB;have H1:=Lib.hid hB;clear hB hp hwk)
    | (go_at_call 70;(with_reducible refine hw1.mono ?_);rintro e w2 ⟨rfl,hB⟩;have H2:=Lib.hid (H1.out.trans (hB.mono H1.out.size));clear hB hw1))
   go_ret
   exact ⟨f,rfl,HE.out.1 f w2 H2.out rfl HE.out.2⟩
 ·rw [if_neg hp0] at he
  have d1:(p !=0)=true:=by simpa using hp0
  have HE:=Lib.hid (And.intro he hp0)
  clear he hk hp0 hwk
  go_enter Tryz.func87,Tryz.ntmps87
  go_wp2_with (go_at_call 146;(with_reducible refine hp.mono ?_);rintro e w1 ⟨rfl,hB⟩;have H1:=Lib.hid hB;clear hB hp)
  go_ret
  exact ⟨p,rfl,HE.out.1 p w1 H1.out rfl HE.out.2⟩
set_option maxRecDepth 100000 in
theorem par_rmdir [Inhabited CapT] (h:VV w vb tb ns lo c) (l:Txt) (hl:l.length≤100000) (P:Int→World→Prop) (he:∀E w1,Below w.heap.size w w1→parEr ns l=E→E≠0→P E w1)
  (hk:parEr ns l=0→∀w1,Below w.heap.size w w1→Calls Tryz.prog 92 #[.pointer (some ⟨vb,0,none⟩),.int .i64 (parDi ns l),.string (B (parN l))] w1 fun e w2=> ∃r,e= .returned (.int .i64 r)∧P r w2):
  Calls Tryz.prog 87 #[.pointer (some ⟨vb,0,none⟩),.string (B l),.func (.func 92) #[.pointer (some ⟨vb,0,none⟩)] #[]] w fun e w2=> ∃r,e= .returned (.int .i64 r)∧P r w2:=by
 obtain ⟨m0,hm0⟩:=h.1.2.2.2.1
 have hp:=par_is l w hl m0 hm0
 unfold parEr at he hk
 unfold parDi at hk
 obtain ⟨p,hpp⟩:∃p,parE l=p:=⟨_,rfl⟩
 obtain ⟨d,f,hw⟩:∃d f,walkR ns (parD l)=(d,f):=⟨_,_,rfl⟩
 unfold ParV at hp
 rw [hpp] at hp he hk
 rw [hw] at he hk
 simp only at he hk
 have hwk:∀w1,Below w.heap.size w w1→Calls Tryz.prog 70 #[.pointer (some ⟨vb,0,none⟩),.string (B (parD l))] w1 fun e w' => e= .returned (.tuple #[.int .i64 d,.int .i64 f])∧Below w1.heap.size w1 w' :=fun w1 hB=> walk_is (h.1.below hB) (parD l) (parD_len l) d f hw
 generalize B (parD l)=D at*
 generalize B (parN l)=M at*
 clear h hm0 hpp hw hl
 by_cases hp0:p=0
 ·subst hp0
  rw [if_pos rfl] at he hk
  by_cases hf0:f=0
  ·subst hf0
   have HK:=Lib.hid (hk rfl)
   clear he hk
   go_enter Tryz.func87,Tryz.ntmps87
   go_wp2_with (first
    | (go_at_call 146;(with_reducible refine hp.mono ?_);rintro e w1 ⟨rfl,hB⟩;have hw1:=hwk w1 hB;have H1:=Lib.hid hB;clear hB hp hwk)
    | (go_at_call 70;(with_reducible refine hw1.mono ?_);rintro e w2 ⟨rfl,hB⟩;have hk2:=HK.out w2 (H1.out.trans (hB.mono H1.out.size));clear hB hw1)
    | (go_at_call 92;(with_reducible refine hk2.mono ?_);rintro e w3 ⟨r,rfl,hP⟩;have HP:=Lib.hid hP;clear hP hk2))
   go_ret
   exact ⟨r,rfl,HP.out⟩
  ·have d1:(f !=0)=true:=by simpa using hf0
   have HE:=Lib.hid (And.intro he hf0)
   clear he hk hf0
   go_enter Tryz.func87,Tryz.ntmps87
   go_wp2_with (first
    | (go_at_call 146;(with_reducible refine hp.mono ?_);rintro e w1 ⟨rfl,hB⟩;have hw1:=hwk w1 hB;have H1:=Lib.hid hB;clear hB hp hwk)
    | (go_at_call 70;(with_reducible refine hw1.mono ?_);rintro e w2 ⟨rfl,hB⟩;have H2:=Lib.hid (H1.out.trans (hB.mono H1.out.size));clear hB hw1))
   go_ret
   exact ⟨f,rfl,HE.out.1 f w2 H2.out rfl HE.out.2⟩
 ·rw [if_neg hp0] at he
  have d1:(p !=0)=true:=by simpa using hp0
  have HE:=Lib.hid (And.intro he hp0)
  clear he hk hp0 hwk
  go_enter Tryz.func87,Tryz.ntmps87
  go_wp2_with (go_at_call 146;(with_reducible refine hp.mono ?_);rintro e w1 ⟨rfl,hB⟩;have H1:=Lib.hid hB;clear hB hp)
  go_ret
  exact ⟨p,rfl,HE.out.1 p w1 H1.out rfl HE.out.2⟩
set_option maxRecDepth 100000 in
theorem par_OpenF [Inhabited CapT] (h:VV w vb tb ns lo c) (l:Txt) (hl:l.length≤100000) (u1 u2:Value) (P:Int→World→Prop) (he:∀E w1,Below w.heap.size w w1→parEr ns l=E→E≠0→P E w1)
  (hk:parEr ns l=0→∀w1,Below w.heap.size w w1→Calls Tryz.prog 131 #[.int .i64 (parDi ns l),.string (B (parN l)),u1,u2] w1 fun e w2=> ∃r,e= .returned (.int .i64 r)∧P r w2):
  Calls Tryz.prog 87 #[.pointer (some ⟨vb,0,none⟩),.string (B l),.func (.func 131) #[] #[u1,u2]] w fun e w2=> ∃r,e= .returned (.int .i64 r)∧P r w2:=by
 obtain ⟨m0,hm0⟩:=h.1.2.2.2.1
 have hp:=par_is l w hl m0 hm0
 unfold parEr at he hk
 unfold parDi at hk
 obtain ⟨p,hpp⟩:∃p,parE l=p:=⟨_,rfl⟩
 obtain ⟨d,f,hw⟩:∃d f,walkR ns (parD l)=(d,f):=⟨_,_,rfl⟩
 unfold ParV at hp
 rw [hpp] at hp he hk
 rw [hw] at he hk
 simp only at he hk
 have hwk:∀w1,Below w.heap.size w w1→Calls Tryz.prog 70 #[.pointer (some ⟨vb,0,none⟩),.string (B (parD l))] w1 fun e w' => e= .returned (.tuple #[.int .i64 d,.int .i64 f])∧Below w1.heap.size w1 w' :=fun w1 hB=> walk_is (h.1.below hB) (parD l) (parD_len l) d f hw
 generalize B (parD l)=D at*
 generalize B (parN l)=M at*
 clear h hm0 hpp hw hl
 by_cases hp0:p=0
 ·subst hp0
  rw [if_pos rfl] at he hk
  by_cases hf0:f=0
  ·subst hf0
   have HK:=Lib.hid (hk rfl)
   clear he hk
   go_enter Tryz.func87,Tryz.ntmps87
   go_wp2_with (first
    | (go_at_call 146;(with_reducible refine hp.mono ?_);rintro e w1 ⟨rfl,hB⟩;have hw1:=hwk w1 hB;have H1:=Lib.hid hB;clear hB hp hwk)
    | (go_at_call 70;(with_reducible refine hw1.mono ?_);rintro e w2 ⟨rfl,hB⟩;have hk2:=HK.out w2 (H1.out.trans (hB.mono H1.out.size));clear hB hw1)
    | (go_at_call 131;(with_reducible refine hk2.mono ?_);rintro e w3 ⟨r,rfl,hP⟩;have HP:=Lib.hid hP;clear hP hk2))
   go_ret
   exact ⟨r,rfl,HP.out⟩
  ·have d1:(f !=0)=true:=by simpa using hf0
   have HE:=Lib.hid (And.intro he hf0)
   clear he hk hf0
   go_enter Tryz.func87,Tryz.ntmps87
   go_wp2_with (first
    | (go_at_call 146;(with_reducible refine hp.mono ?_);rintro e w1 ⟨rfl,hB⟩;have hw1:=hwk w1 hB;have H1:=Lib.hid hB;clear hB hp hwk)
    | (go_at_call 70;(with_reducible refine hw1.mono ?_);rintro e w2 ⟨rfl,hB⟩;have H2:=Lib.hid (H1.out.trans (hB.mono H1.out.size));clear hB hw1))
   go_ret
   exact ⟨f,rfl,HE.out.1 f w2 H2.out rfl HE.out.2⟩
 ·rw [if_neg hp0] at he
  have d1:(p !=0)=true:=by simpa using hp0
  have HE:=Lib.hid (And.intro he hp0)
  clear he hk hp0 hwk
  go_enter Tryz.func87,Tryz.ntmps87
  go_wp2_with (go_at_call 146;(with_reducible refine hp.mono ?_);rintro e w1 ⟨rfl,hB⟩;have H1:=Lib.hid hB;clear hB hp)
  go_ret
  exact ⟨p,rfl,HE.out.1 p w1 H1.out rfl HE.out.2⟩
set_option maxRecDepth 100000 in
theorem par_LinkF [Inhabited CapT] (h:VV w vb tb ns lo c) (l:Txt) (hl:l.length≤100000) (u1 u2:Value) (P:Int→World→Prop) (he:∀E w1,Below w.heap.size w w1→parEr ns l=E→E≠0→P E w1)
  (hk:parEr ns l=0→∀w1,Below w.heap.size w w1→Calls Tryz.prog 88 #[.int .i64 (parDi ns l),.string (B (parN l)),u1,u2] w1 fun e w2=> ∃r,e= .returned (.int .i64 r)∧P r w2):
  Calls Tryz.prog 87 #[.pointer (some ⟨vb,0,none⟩),.string (B l),.func (.func 88) #[] #[u1,u2]] w fun e w2=> ∃r,e= .returned (.int .i64 r)∧P r w2:=by
 obtain ⟨m0,hm0⟩:=h.1.2.2.2.1
 have hp:=par_is l w hl m0 hm0
 unfold parEr at he hk
 unfold parDi at hk
 obtain ⟨p,hpp⟩:∃p,parE l=p:=⟨_,rfl⟩
 obtain ⟨d,f,hw⟩:∃d f,walkR ns (parD l)=(d,f):=⟨_,_,rfl⟩
 unfold ParV at hp
 rw [hpp] at hp he hk
 rw [hw] at he hk
 simp only at he hk
 have hwk:∀w1,Below w.heap.size w w1→Calls Tryz.prog 70 #[.pointer (some ⟨vb,0,none⟩),.string (B (parD l))] w1 fun e w' => e= .returned (.tuple #[.int .i64 d,.int .i64 f])∧Below w1.heap.size w1 w' :=fun w1 hB=> walk_is (h.1.below hB) (parD l) (parD_len l) d f hw
 generalize B (parD l)=D at*
 generalize B (parN l)=M at*
 clear h hm0 hpp hw hl
 by_cases hp0:p=0
 ·subst hp0
  rw [if_pos rfl] at he hk
  by_cases hf0:f=0
  ·subst hf0
   have HK:=Lib.hid (hk rfl)
   clear he hk
   go_enter Tryz.func87,Tryz.ntmps87
   go_wp2_with (first
    | (go_at_call 146;(with_reducible refine hp.mono ?_);rintro e w1 ⟨rfl,hB⟩;have hw1:=hwk w1 hB;have H1:=Lib.hid hB;clear hB hp hwk)
    | (go_at_call 70;(with_reducible refine hw1.mono ?_);rintro e w2 ⟨rfl,hB⟩;have hk2:=HK.out w2 (H1.out.trans (hB.mono H1.out.size));clear hB hw1)
    | (go_at_call 88;(with_reducible refine hk2.mono ?_);rintro e w3 ⟨r,rfl,hP⟩;have HP:=Lib.hid hP;clear hP hk2))
   go_ret
   exact ⟨r,rfl,HP.out⟩
  ·have d1:(f !=0)=true:=by simpa using hf0
   have HE:=Lib.hid (And.intro he hf0)
   clear he hk hf0
   go_enter Tryz.func87,Tryz.ntmps87
   go_wp2_with (first
    | (go_at_call 146;(with_reducible refine hp.mono ?_);rintro e w1 ⟨rfl,hB⟩;have hw1:=hwk w1 hB;have H1:=Lib.hid hB;clear hB hp hwk)
    | (go_at_call 70;(with_reducible refine hw1.mono ?_);rintro e w2 ⟨rfl,hB⟩;have H2:=Lib.hid (H1.out.trans (hB.mono H1.out.size));clear hB hw1))
   go_ret
   exact ⟨f,rfl,HE.out.1 f w2 H2.out rfl HE.out.2⟩
 ·rw [if_neg hp0] at he
  have d1:(p !=0)=true:=by simpa using hp0
  have HE:=Lib.hid (And.intro he hp0)
  clear he hk hp0 hwk
  go_enter Tryz.func87,Tryz.ntmps87
  go_wp2_with (go_at_call 146;(with_reducible refine hp.mono ?_);rintro e w1 ⟨rfl,hB⟩;have H1:=Lib.hid hB;clear hB hp)
  go_ret
  exact ⟨p,rfl,HE.out.1 p w1 H1.out rfl HE.out.2⟩
end
end Go.Proofs.YtjpjafajploiaaaGreatDoor
/-
 The vfs:Mkdir,Unlink,Rmdir,Link,Stat.
-/
namespace Go.Proofs.YtjpjafajploiaaaGreatDoor
open Go.RowKit Own RegJ Two
open Go.Lib hiding intOf
def mkdirF (ns:NSt) (d:Int) (nm:Txt):Int×NSt:=if (findR ns d nm).2=0 then (10,ns) else if (findR ns d nm).2=11 then (11,ns) else if (madeF ns d nm true).2.1=0 then (0,(closeF (madeF ns d nm true).2.2 (madeF ns d nm true).1).2) else ((madeF ns d nm true).2.1,(madeF ns d nm true).2.2)
def rmvF (ns:NSt) (d:Int) (nm:Txt):Int×NSt:=match dirAt ns d with
 | none=> (11,ns)
 | some nd=> match nd.es[plc nd.es nm]? with
  | none=> (9,ns)
  | some x=> if x.1=nm then (match ns x.2.toNat with
   | some ndm=> if ndm.dir=true∧ndm.es≠ [] then (13,ns) else (0,gone 17 (nsRem ns d.toNat nd (plc nd.es nm) x.2.toNat) x.2.toNat)
   | none=> (0,ns)) else (9,ns)
def remF (ns:NSt) (d:Int) (nm:Txt) (isD:Bool) (other:Int):Int×NSt:=if (findR ns d nm).2≠0 then ((findR ns d nm).2,ns) else if isDirF ns (findR ns d nm).1≠isD then (other,ns) else rmvF ns d nm
def atPar (ns:NSt) (l:Txt) (k:Int→Txt→Int×NSt):Int×NSt:=if parEr ns l=0 then k (parDi ns l) (parN l) else (parEr ns l,ns)
section
variable {w w' :World} {vb tb:Nat} {ns ns' :NSt} {lo lo' :Lo} {N c d:Nat}
theorem remove_f [Inhabited CapT] (h:TB w tb ns lo N) (hV:IV ns c) (d:Int) (nm:Txt) (r:Int) (ns' :NSt) (hr:rmvF ns d nm=(r,ns')):
  Calls Tryz.prog 199 #[.pointer (some ⟨tb,0,none⟩),.int .i64 d,.string (B nm)] w fun e w' => e= .returned (.int .i64 r)∧∃lo',TB w' tb ns' lo' N∧TFr lo lo' w w' :=by
 unfold rmvF at hr
 cases hd:dirAt ns d with
 | none=>
  rw [hd] at hr;cases hr
  refine (remove_no h d nm hd).mono ?_
  rintro e w' ⟨rfl,rfl⟩
  exact ⟨rfl,lo,h,TFr.refl _ _⟩
 | some nd=>
  rw [hd] at hr
  simp only at hr
  obtain ⟨i,rfl,hi,hdir⟩:=dirAt_some hd
  simp only [Int.toNat_natCast] at hr
  have hS:=hV.srt i nd hi
  refine (remove_any h hV.inv i nm nd hi hdir).mono ?_
  rintro e w' ⟨j,hA,hq⟩
  obtain rfl:=at_uniq hA (plc_at hS nm)
  rcases hq with ⟨hno,rfl,hB⟩ | ⟨m,ndm,hx,hm,hq⟩
  ·have:(9,ns)=(r,ns'):=by
    cases hx:nd.es[plc nd.es nm]? with
    | none=> rw [hx] at hr;exact hr
    | some x=>
     rw [hx] at hr
     rw [isAt_some hx] at hno
     simp only at hr
     rw [if_neg (of_decide_eq_false hno)] at hr
     exact hr
   cases this
   exact ⟨rfl,lo,h.below hB,TFr.of_below hB⟩
  ·rw [hx] at hr
   simp only at hr
   rw [if_pos trivial] at hr
   simp only [Int.toNat_natCast] at hr
   rw [hm] at hr
   simp only at hr
   rcases hq with ⟨k1,k2,rfl,hB⟩ | ⟨k1,rfl,lo',hT,hF⟩
   ·rw [if_pos ⟨k1,k2⟩] at hr
    cases hr
    exact ⟨rfl,lo,h.below hB,TFr.of_below hB⟩
   ·rw [if_neg k1] at hr
    cases hr
    exact ⟨rfl,lo',hT,hF⟩
theorem rmvF_iv (hV:IV ns c) (d:Int) (nm:Txt):IV (rmvF ns d nm).2 (c+1):=by
 unfold rmvF
 cases hd:dirAt ns d with
 | none=> exact hV.le (by omega)
 | some nd=>
  simp only
  obtain ⟨i,rfl,hi,hdir⟩:=dirAt_some hd
  simp only [Int.toNat_natCast]
  cases hx:nd.es[plc nd.es nm]? with
  | none=> exact hV.le (by omega)
  | some x=>
   simp only
   by_cases he:x.1=nm
   ·rw [if_pos he]
    have hid:=hV.inv.ids i nd hi x (List.mem_of_getElem? hx)
    cases hm:ns x.2.toNat with
    | none=> exact hV.le (by omega)
    | some ndm=>
     simp only
     by_cases hk:ndm.dir=true∧ndm.es≠ []
     ·rw [if_pos hk];exact hV.le (by omega)
     ·rw [if_neg hk]
      have hx' :nd.es[plc nd.es nm]? =some (nm,((x.2.toNat:Nat):Int)):=by
       rw [hx,←he,Int.toNat_of_nonneg (by omega)]
      exact hV.removed hi hdir hm hx'
   ·rw [if_neg he];exact hV.le (by omega)
set_option maxRecDepth 100000 in
theorem mkdir_is [Inhabited CapT] (h:VV w vb tb ns lo c) (hc:c≤9000) (d:Int) (nm:Txt) (r:Int) (ns' :NSt) (hr:mkdirF ns d nm=(r,ns')):
  Calls Tryz.prog 91 #[.pointer (some ⟨vb,0,none⟩),.int .i64 d,.string (B nm)] w (MadP w vb tb ns' lo (c+4) (.int .i64 r)):=by
 have c0:=h.1.cell
 obtain ⟨f1,f2,hf⟩:∃f1 f2,findR ns d nm=(f1,f2):=⟨_,_,rfl⟩
 have hfi:=tfind_is h.1.2.1 d nm f1 f2 hf
 unfold mkdirF at hr
 rw [hf] at hr
 simp only at hr
 have H:=Lib.hid h
 clear h hf
 by_cases h0:f2=0
 ·subst h0
  rw [if_pos rfl] at hr
  cases hr
  go_enter Tryz.func91,Tryz.ntmps91
  go_wp2_with (go_at_call 118;(with_reducible refine hfi.mono ?_);rintro e w1 ⟨rfl,hB⟩;have H1:=Lib.hid hB;clear hB hfi)
  go_ret
  exact ⟨rfl,lo,(H.out.below H1.out).le (by omega),TFr.of_below H1.out⟩
 ·by_cases h1:f2=11
  ·subst h1
   rw [if_neg h0,if_pos rfl] at hr
   cases hr
   clear h0
   go_enter Tryz.func91,Tryz.ntmps91
   go_wp2_with (go_at_call 118;(with_reducible refine hfi.mono ?_);rintro e w1 ⟨rfl,hB⟩;have H1:=Lib.hid hB;clear hB hfi)
   go_ret
   exact ⟨rfl,lo,(H.out.below H1.out).le (by omega),TFr.of_below H1.out⟩
  ·rw [if_neg h0,if_neg h1] at hr
   obtain ⟨m1,m2,nsm,hm⟩:∃m1 m2 nsm,madeF ns d nm true=(m1,m2,nsm):=⟨_,_,_,rfl⟩
   rw [hm] at hr
   simp only at hr
   have d1:(f2==0)=false:=by simpa using h0
   have d2:(f2==11)=false:=by simpa using h1
   have HM:=Lib.hid hm
   clear h0 h1 hm
   by_cases hm0:m2=0
   ·subst hm0
    rw [if_pos rfl] at hr
    obtain ⟨x1,hcl⟩:∃x1,closeF nsm m1=(x1,ns'):=⟨(closeF nsm m1).1,by rw [Prod.mk.injEq] at hr;rw [←hr.2]⟩
    obtain rfl:r=0:=by rw [Prod.mk.injEq] at hr;exact hr.1.symm
    have HC:=Lib.hid hcl
    clear hr hcl
    go_enter Tryz.func91,Tryz.ntmps91
    go_wp2_with (first
     | (go_at_call 118;(with_reducible refine hfi.mono ?_);rintro e w1 ⟨rfl,hB⟩;have hmk:=made_is (H.out.below hB) hc d nm true _ _ _ HM.out;have H1:=Lib.hid hB;clear hB hfi)
     | (go_at_call 132;(with_reducible refine hmk.mono ?_);rintro e w2 ⟨rfl,lo2,hV,hF⟩;clear c0;have c0:=hV.1.cell;have hcl:=close_f hV.1.2.1 hV.2 (by omega) m1 _ _ HC.out;have H2:=Lib.hid (And.intro hV hF);clear hmk hV hF)
     | (go_at_call 82;(with_reducible refine hcl.mono ?_);rintro e w3 ⟨rfl,lo3,hT,hF⟩;have H3:=Lib.hid (And.intro hT hF);clear hcl hT hF))
    go_ret
    have hiv:=closeF_iv H2.out.1.2 m1
    rw [HC.out] at hiv
    exact ⟨rfl,lo3,⟨(H2.out.1.1.step H3.out.1 H3.out.2).le (by omega),hiv⟩,((TFr.of_below H1.out).trans H2.out.2).trans H3.out.2⟩
   ·rw [if_neg hm0] at hr
    cases hr
    have d3:(r==0)=false:=by simpa using hm0
    clear hm0
    go_enter Tryz.func91,Tryz.ntmps91
    go_wp2_with (first
     | (go_at_call 118;(with_reducible refine hfi.mono ?_);rintro e w1 ⟨rfl,hB⟩;have hmk:=made_is (H.out.below hB) hc d nm true _ _ _ HM.out;have H1:=Lib.hid hB;clear hB hfi)
     | (go_at_call 132;(with_reducible refine hmk.mono ?_);rintro e w2 ⟨rfl,lo2,hV,hF⟩;have H2:=Lib.hid (And.intro hV hF);clear hmk hV hF))
    go_ret
    exact ⟨rfl,lo2,H2.out.1.le (by omega),(TFr.of_below H1.out).trans H2.out.2⟩
set_option maxRecDepth 100000 in
theorem rem_is [Inhabited CapT] (h:VV w vb tb ns lo c) (hc:c≤9000) (d:Int) (nm:Txt) (isD:Bool) (other:Int) (r:Int) (ns' :NSt) (hr:remF ns d nm isD other=(r,ns')):
  Calls Tryz.prog 149 #[.pointer (some ⟨vb,0,none⟩),.int .i64 d,.string (B nm),.bool isD,.int .i64 other] w (MadP w vb tb ns' lo (c+1) (.int .i64 r)):=by
 have c0:=h.1.cell
 obtain ⟨f1,f2,hf⟩:∃f1 f2,findR ns d nm=(f1,f2):=⟨_,_,rfl⟩
 have hfi:=tfind_is h.1.2.1 d nm f1 f2 hf
 unfold remF at hr
 rw [hf] at hr
 simp only at hr
 have H:=Lib.hid h
 clear h hf
 by_cases h0:f2=0
 ·subst h0
  rw [if_neg (by simp)] at hr
  obtain ⟨b,hb⟩:∃b,isDirF ns f1=b:=⟨_,rfl⟩
  rw [hb] at hr
  have HB:=Lib.hid hb
  clear hb
  by_cases hbi:b=isD
  ·subst hbi
   rw [if_neg (by simp)] at hr
   have HR:=Lib.hid hr
   clear hr
   go_enter Tryz.func149,Tryz.ntmps149
   go_wp2_with (first
    | (go_at_call 118;(with_reducible refine hfi.mono ?_);rintro e w1 ⟨rfl,hB⟩;have h1:=H.out.below hB;have hid:=isdir_is h1.1 f1 b HB.out;have H1:=Lib.hid (And.intro h1 hB);clear hB hfi h1)
    | (go_at_call 86;(with_reducible refine hid.mono ?_);rintro e w2 ⟨rfl,hB⟩;have h2:=H1.out.1.below hB;clear c0;have c0:=h2.1.cell;have hrm:=remove_f h2.1.2.1 h2.2 d nm _ _ HR.out;have H2:=Lib.hid (And.intro h2 hB);clear hB hid h2)
    | (go_at_call 199;(with_reducible refine hrm.mono ?_);rintro e w3 ⟨rfl,lo3,hT,hF⟩;have H3:=Lib.hid (And.intro hT hF);clear hrm hT hF))
   go_ret
   have hiv:=rmvF_iv H.out.2 d nm
   rw [HR.out] at hiv
   exact ⟨rfl,lo3,⟨(H2.out.1.1.step H3.out.1 H3.out.2).le (by omega),hiv⟩,((TFr.of_below H1.out.2).trans (TFr.of_below H2.out.2)).trans H3.out.2⟩
  ·rw [if_pos hbi] at hr
   cases hr
   have d1:(!b==isD)=true:=by cases b <;> cases isD <;> simp_all
   clear hbi
   go_enter Tryz.func149,Tryz.ntmps149
   go_wp2_with (first
    | (go_at_call 118;(with_reducible refine hfi.mono ?_);rintro e w1 ⟨rfl,hB⟩;have h1:=H.out.below hB;have hid:=isdir_is h1.1 f1 b HB.out;have H1:=Lib.hid (And.intro h1 hB);clear hB hfi h1)
    | (go_at_call 86;(with_reducible refine hid.mono ?_);rintro e w2 ⟨rfl,hB⟩;have H2:=Lib.hid (And.intro (H1.out.1.below hB) hB);clear hB hid))
   go_ret
   exact ⟨rfl,lo,H2.out.1.le (by omega),(TFr.of_below H1.out.2).trans (TFr.of_below H2.out.2)⟩
 ·rw [if_pos h0] at hr
  cases hr
  have d1:(r !=0)=true:=by simpa using h0
  clear h0
  go_enter Tryz.func149,Tryz.ntmps149
  go_wp2_with (go_at_call 118;(with_reducible refine hfi.mono ?_);rintro e w1 ⟨rfl,hB⟩;have H1:=Lib.hid hB;clear hB hfi)
  go_ret
  exact ⟨rfl,lo,(H.out.below H1.out).le (by omega),TFr.of_below H1.out⟩
theorem MadP.ahead [Inhabited CapT] {v:Value} {e:Ending} {w1 w2:World} (hB:Below w.heap.size w w1) (h:MadP w1 vb tb ns' lo c v e w2):MadP w vb tb ns' lo c v e w2:=by
 obtain ⟨h1,lo',h2,h3⟩:=h
 exact ⟨h1,lo',h2,(TFr.of_below hB).trans h3⟩
def ParP [Inhabited CapT] (w:World) (vb tb:Nat) (ns' :NSt) (lo:Lo) (c:Nat) (r0:Int) (r:Int) (w' :World):Prop:=r=r0∧∃lo',VV w' vb tb ns' lo' c∧TFr lo lo' w w'
set_option maxRecDepth 100000 in
theorem Mkdir_is [Inhabited CapT] (h:VV w vb tb ns lo c) (hc:c≤9000) (l:Txt) (hl:l.length≤100000) (r:Int) (ns' :NSt) (hr:atPar ns l (mkdirF ns)=(r,ns')):
  Calls Tryz.prog 50 #[.pointer (some ⟨vb,0,none⟩),.string (B l)] w (MadP w vb tb ns' lo (c+4) (.int .i64 r)):=by
 unfold atPar at hr
 have hp:=par_mkdir h l hl (ParP w vb tb ns' lo (c+4) r)
  (fun E w1 hB hE hE0=> by rw [if_neg (by rw [hE];exact hE0),hE] at hr;cases hr;exact ⟨rfl,lo,(h.below hB).le (by omega),TFr.of_below hB⟩)
  (fun hE w1 hB=> by
   rw [if_pos hE] at hr
   refine (mkdir_is (h.below hB) hc (parDi ns l) (parN l) r ns' hr).mono ?_
   intro e w2 hq
   obtain ⟨h1,lo',h2,h3⟩:=MadP.ahead hB hq
   exact ⟨r,h1,rfl,lo',h2,h3⟩)
 clear h hl hr
 generalize B l=L at*
 go_enter Tryz.func50,Tryz.ntmps50
 go_wp2_with (go_at_call 87;(with_reducible refine hp.mono ?_);rintro e w1 ⟨r1,rfl,rfl,hq⟩;have H1:=Lib.hid hq;clear hp hq)
 go_ret
 exact ⟨rfl,H1.out⟩
set_option maxRecDepth 100000 in
theorem unlink_is [Inhabited CapT] (h:VV w vb tb ns lo c) (hc:c≤9000) (d:Int) (nm:Txt) (r:Int) (ns' :NSt) (hr:remF ns d nm false 12=(r,ns')):
  Calls Tryz.prog 90 #[.pointer (some ⟨vb,0,none⟩),.int .i64 d,.string (B nm)] w (MadP w vb tb ns' lo (c+1) (.int .i64 r)):=by
 have hrm:=rem_is h hc d nm false 12 r ns' hr
 clear h hr
 generalize B nm=L at*
 go_enter Tryz.func90,Tryz.ntmps90
 go_wp2_with (go_at_call 149;(with_reducible refine hrm.mono ?_);rintro e w1 ⟨rfl,hq⟩;have H1:=Lib.hid hq;clear hrm hq)
 go_ret
 exact ⟨rfl,H1.out⟩
set_option maxRecDepth 100000 in
theorem Unlink_is [Inhabited CapT] (h:VV w vb tb ns lo c) (hc:c≤9000) (l:Txt) (hl:l.length≤100000) (r:Int) (ns' :NSt) (hr:atPar ns l (fun d nm=> remF ns d nm false 12)=(r,ns')):
  Calls Tryz.prog 49 #[.pointer (some ⟨vb,0,none⟩),.string (B l)] w (MadP w vb tb ns' lo (c+1) (.int .i64 r)):=by
 unfold atPar at hr
 have hp:=par_unlink h l hl (ParP w vb tb ns' lo (c+1) r)
  (fun E w1 hB hE hE0=> by rw [if_neg (by rw [hE];exact hE0),hE] at hr;cases hr;exact ⟨rfl,lo,(h.below hB).le (by omega),TFr.of_below hB⟩)
  (fun hE w1 hB=> by
   rw [if_pos hE] at hr
   refine (unlink_is (h.below hB) hc (parDi ns l) (parN l) r ns' hr).mono ?_
   intro e w2 hq
   obtain ⟨h1,lo',h2,h3⟩:=MadP.ahead hB hq
   exact ⟨r,h1,rfl,lo',h2,h3⟩)
 clear h hl hr
 generalize B l=L at*
 go_enter Tryz.func49,Tryz.ntmps49
 go_wp2_with (go_at_call 87;(with_reducible refine hp.mono ?_);rintro e w1 ⟨r1,rfl,rfl,hq⟩;have H1:=Lib.hid hq;clear hp hq)
 go_ret
 exact ⟨rfl,H1.out⟩
set_option maxRecDepth 100000 in
theorem rmdir_is [Inhabited CapT] (h:VV w vb tb ns lo c) (hc:c≤9000) (d:Int) (nm:Txt) (r:Int) (ns' :NSt) (hr:remF ns d nm true 11=(r,ns')):
  Calls Tryz.prog 92 #[.pointer (some ⟨vb,0,none⟩),.int .i64 d,.string (B nm)] w (MadP w vb tb ns' lo (c+1) (.int .i64 r)):=by
 have hrm:=rem_is h hc d nm true 11 r ns' hr
 clear h hr
 generalize B nm=L at*
 go_enter Tryz.func92,Tryz.ntmps92
 go_wp2_with (go_at_call 149;(with_reducible refine hrm.mono ?_);rintro e w1 ⟨rfl,hq⟩;have H1:=Lib.hid hq;clear hrm hq)
 go_ret
 exact ⟨rfl,H1.out⟩
set_option maxRecDepth 100000 in
theorem Rmdir_is [Inhabited CapT] (h:VV w vb tb ns lo c) (hc:c≤9000) (l:Txt) (hl:l.length≤100000) (r:Int) (ns' :NSt) (hr:atPar ns l (fun d nm=> remF ns d nm true 11)=(r,ns')):
  Calls Tryz.prog 51 #[.pointer (some ⟨vb,0,none⟩),.string (B l)] w (MadP w vb tb ns' lo (c+1) (.int .i64 r)):=by
 unfold atPar at hr
 have hp:=par_rmdir h l hl (ParP w vb tb ns' lo (c+1) r)
  (fun E w1 hB hE hE0=> by rw [if_neg (by rw [hE];exact hE0),hE] at hr;cases hr;exact ⟨rfl,lo,(h.below hB).le (by omega),TFr.of_below hB⟩)
  (fun hE w1 hB=> by
   rw [if_pos hE] at hr
   refine (rmdir_is (h.below hB) hc (parDi ns l) (parN l) r ns' hr).mono ?_
   intro e w2 hq
   obtain ⟨h1,lo',h2,h3⟩:=MadP.ahead hB hq
   exact ⟨r,h1,rfl,lo',h2,h3⟩)
 clear h hl hr
 generalize B l=L at*
 go_enter Tryz.func51,Tryz.ntmps51
 go_wp2_with (go_at_call 87;(with_reducible refine hp.mono ?_);rintro e w1 ⟨r1,rfl,rfl,hq⟩;have H1:=Lib.hid hq;clear hp hq)
 go_ret
 exact ⟨rfl,H1.out⟩
end
end Go.Proofs.YtjpjafajploiaaaGreatDoor
/-
 The vfs:Open of a new file;Stat;a new vfs.
-/
namespace Go.Proofs.YtjpjafajploiaaaGreatDoor
open Go.RowKit Own RegJ Two
open Go.Lib hiding intOf
section
variable {w w' :World} {vb tb:Nat} {ns ns' :NSt} {lo lo' :Lo} {N c d:Nat}
theorem VV.upd [Inhabited CapT] {F:Nat→Prop} (h:VV w vb tb ns lo c) (hu:Upd F w w') (h1:¬F vb) (h2:∀r k,lo r=some k→¬F k) (h3:¬F 0):VV w' vb tb ns lo c:=by
 obtain ⟨⟨⟨sp,k0,k1⟩,k2,k3,⟨m0,k4⟩,k5⟩,k6⟩:=h
 exact ⟨⟨⟨sp,k0,Blk.upd hu k1 h1⟩,k2.upd hu h2,k3,⟨m0,cell_upd hu k4 h3⟩,k5⟩,k6⟩
theorem VV.lts [Inhabited CapT] (h:VV w vb tb ns lo c):vb < w.heap.size∧(∀r k,lo r=some k→k < w.heap.size)∧0 < w.heap.size:=by
 obtain ⟨⟨⟨sp,k0,k1⟩,k2,k3,⟨m0,k4⟩,k5⟩,k6⟩:=h
 exact ⟨k1.lt,fun r k hk=> k2.lt r k hk,cell_lt' k4⟩
def OKP [Inhabited CapT] (w:World) (vb tb:Nat) (ns' :NSt) (lo:Lo) (c bi:Nat) (m1 m2:Int) (r:Int) (w' :World):Prop:=r=m2∧w'.cell? ⟨bi,0,none⟩=some (.int .i64 m1)∧∃lo',VV w' vb tb ns' lo' c∧Upd (fun k=> (∃r,lo r=some k)∨k=bi) w w' ∧(∀r k,lo' r=some k→(∃r',lo r' =some k)∨w.heap.size≤k)∧lo' (.st .sto)=lo (.st .sto)∧lo' (.st .frm)=lo (.st .frm)
set_option maxRecDepth 100000 in
theorem openK_is [Inhabited CapT] (h:VV w vb tb ns lo c) (hc:c≤9000) (bv bi:Nat) (hv:w.cell? ⟨bv,0,none⟩=some (.pointer (some ⟨vb,0,none⟩))) (hi:∃u,Blk w bi #[u] 3) (hlo:∀r,lo r≠some bi) (hne:bi≠vb) (hg:bi≠0)
  (d:Int) (nm:Txt) (m1 m2:Int) (ns' :NSt) (hm:madeF ns d nm false=(m1,m2,ns')):
  Calls Tryz.prog 131 #[.int .i64 d,.string (B nm),.pointer (some ⟨bv,0,none⟩),.pointer (some ⟨bi,0,none⟩)] w fun e w' => ∃r,e= .returned (.int .i64 r)∧OKP w vb tb ns' lo (c+3) bi m1 m2 r w' :=by
 have hmk:=made_is h hc d nm false m1 m2 ns' hm
 obtain ⟨u,hi⟩:=hi
 have H:=Lib.hid (And.intro h (And.intro hi (And.intro hlo (And.intro hne hg))))
 clear h hi hlo hne hg hm
 generalize B nm=L at*
 go_enter Tryz.func131,Tryz.ntmps131
 go_wp2_with (go_at_call 132;(with_reducible refine hmk.mono ?_);rintro e w1 ⟨rfl,lo1,hV,hF⟩;have hb1:=Blk.upd hF.1 H.out.2.1 (fun ⟨r,hr⟩=> H.out.2.2.1 r hr);have c1:=hb1.rd;have f1:=hb1.nf;have H1:=Lib.hid (And.intro hV (And.intro hF hb1));clear hmk hV hF hb1)
 go_ret
 refine ⟨m2,rfl,rfl,Blk.cell (Blk.of (H1.out.2.2.set 0 (.int .i64 m1)) rfl) rfl,lo1,?_,?_,H1.out.2.1.2⟩
 ·have hu:Upd (fun k=> k=bi) w1 (w1.setCell ⟨bi,0,none⟩ (.int .i64 m1)):=(Upd.refl (fun k=> k=bi) w1).setCell (p:=⟨bi,0,none⟩) (fun _=> rfl) _
  refine H1.out.1.upd hu (fun e=> H.out.2.2.2.1 e.symm) (fun r k hk e=> ?_) (fun e=> H.out.2.2.2.2 e.symm)
  subst e
  have hl:=H.out.2.1.lt
  rcases H1.out.2.1.2.1 r k hk with ⟨r',h1⟩ | h1
  ·exact H.out.2.2.1 r' h1
  ·omega
 ·exact Upd.setCell (F:=fun k=> (∃r,lo r=some k)∨k=bi) (H1.out.2.1.1.mono (fun _ _ e=> Or.inl e)) (p:=⟨bi,0,none⟩) (fun _=> Or.inr rfl) _
def newF (ns:NSt) (l:Txt):Int×Int×NSt:=if parEr ns l=0 then madeF ns (parDi ns l) (parN l) false else (0,parEr ns l,ns)
def getA (ns:NSt) (id:Int):Array Value:=match ndAt ns id with
 | some nd=> #[.int .i64 id,.int .i64 nd.links,.bool nd.dir,.int .i64 (sizeN nd)]
 | none=> in0
set_option maxRecDepth 100000 in
theorem stat_yes [Inhabited CapT] (h:VV w vb tb ns lo c) (l:Txt) (hl:l.length≤100000) (id:Int) (hw:walkR ns l=(id,0)) (nd:Nd) (hn:ndAt ns id=some nd):
  Calls Tryz.prog 94 #[.pointer (some ⟨vb,0,none⟩),.string (B l)] w fun e w' => e= .returned (.tuple #[.agg #[.int .i64 id,.int .i64 nd.links,.bool nd.dir,.int .i64 (sizeN nd)],.int .i64 0])∧Below w.heap.size w w' :=by
 have hB0:Below w.heap.size w (w.alloc (.cells in0 184)):=(Below.refl _ _).alloc (Nat.le_refl _) _
 have hb0:=Blk.new w in0 184
 have hwk:=walk_is (h.below hB0).1 l hl id 0 hw
 have hget:∀w1,Below w.heap.size w w1→Calls Tryz.prog 145 #[.pointer (some ⟨tb,0,none⟩),.int .i64 id] w1 fun e w' => e= .returned (.tuple #[.agg #[.int .i64 id,.int .i64 nd.links,.bool nd.dir,.int .i64 (sizeN nd)],.bool true])∧Below w1.heap.size w1 w' :=fun w1 hB=> by
  have:=get_any (h.below hB).1.2.1 id
  unfold getV at this
  rw [hn] at this
  exact this
 unfold in0 at*
 have H:=Lib.hid (And.intro h (And.intro hB0 (And.intro hget hb0)))
 clear h hB0 hget hl hw hn hb0
 generalize B l=L at*
 generalize sizeN nd=sz at*
 generalize nd.links=lk at*
 generalize nd.dir=dr at*
 go_enter Tryz.func94,Tryz.ntmps94
 go_wp2_with (first
  | (go_at_call 70;(with_reducible refine hwk.mono ?_);rintro e w1 ⟨rfl,hB⟩;have hb1:=H.out.2.1.trans (hB.mono H.out.2.1.size);have hk1:=Blk.below hB H.out.2.2.2 H.out.2.2.2.lt;have c0:=(H.out.1.below hb1).1.cell;have hg:=H.out.2.2.1 w1 hb1;have H1:=Lib.hid (And.intro hb1 hk1);clear hB hwk hb1 hk1)
  | (go_at_call 145;(with_reducible refine hg.mono ?_);rintro e w2 ⟨rfl,hB⟩;have hk2:=(Blk.below hB H1.out.2 H1.out.2.lt).alloc (.cells #[.int .i64 id,.int .i64 lk,.bool dr,.int .i64 sz] 184);have f2:=hk2.nf;have c2:=hk2.rd;have H2:=Lib.hid (And.intro (H1.out.1.trans (hB.mono H1.out.1.size)) (And.intro hB True.intro));clear hB hg hk2))
 have hk2:=(Blk.below H2.out.2.1 H1.out.2 H1.out.2.lt).alloc (.cells #[.int .i64 id,.int .i64 lk,.bool dr,.int .i64 sz] 184)
 have hk3:Blk (((((w2.alloc (.cells #[.int .i64 id,.int .i64 lk,.bool dr,.int .i64 sz] 184)).setCell ⟨w.heap.size,0,none⟩ (.int .i64 id)).setCell ⟨w.heap.size,1,none⟩ (.int .i64 lk)).setCell ⟨w.heap.size,2,none⟩ (.bool dr)).setCell ⟨w.heap.size,3,none⟩ (.int .i64 sz)) w.heap.size #[.int .i64 id,.int .i64 lk,.bool dr,.int .i64 sz] 184:=Blk.of ((((hk2.set 0 (.int .i64 id)).set 1 (.int .i64 lk)).set 2 (.bool dr)).set 3 (.int .i64 sz)) rfl
 have hu:=((((Upd.refl (fun k=> k=w.heap.size) (w2.alloc (.cells #[.int .i64 id,.int .i64 lk,.bool dr,.int .i64 sz] 184))).setCell (p:=⟨w.heap.size,0,none⟩) (fun _=> rfl) (.int .i64 id)).setCell (p:=⟨w.heap.size,1,none⟩) (fun _=> rfl) (.int .i64 lk)).setCell (p:=⟨w.heap.size,2,none⟩) (fun _=> rfl) (.bool dr)).setCell (p:=⟨w.heap.size,3,none⟩) (fun _=> rfl) (.int .i64 sz)
 have hb:=H2.out.1.alloc H2.out.1.size (.cells #[.int .i64 id,.int .i64 lk,.bool dr,.int .i64 sz] 184)
 have hbb:Below w.heap.size w (((((w2.alloc (.cells #[.int .i64 id,.int .i64 lk,.bool dr,.int .i64 sz] 184)).setCell ⟨w.heap.size,0,none⟩ (.int .i64 id)).setCell ⟨w.heap.size,1,none⟩ (.int .i64 lk)).setCell ⟨w.heap.size,2,none⟩ (.bool dr)).setCell ⟨w.heap.size,3,none⟩ (.int .i64 sz)):=hb.trans (hu.below hb.size (fun k hk=> by omega))
 clear hk2 hu hb
 generalize (((((w2.alloc (.cells #[.int .i64 id,.int .i64 lk,.bool dr,.int .i64 sz] 184)).setCell ⟨w.heap.size,0,none⟩ (.int .i64 id)).setCell ⟨w.heap.size,1,none⟩ (.int .i64 lk)).setCell ⟨w.heap.size,2,none⟩ (.bool dr)).setCell ⟨w.heap.size,3,none⟩ (.int .i64 sz))=w9 at hk3 hbb ⊢
 have c9:=hk3.rd
 try simp only [Exit.inBlock,Exit.then]
 refine bodyPost_ret (by simp [results,Tryz.results94,go_sem,c9];try rfl) rfl ?_
 exact ⟨rfl,hbb⟩
end
end Go.Proofs.YtjpjafajploiaaaGreatDoor
/-
 The vfs:a new one;awake;of no vfs.
-/
namespace Go.Proofs.YtjpjafajploiaaaGreatDoor
open Go.RowKit Own RegJ Two
open Go.Lib hiding intOf
theorem TFr.below {lo lo' :Lo} {w w' :World} {B0:Nat} (h:TFr lo lo' w w') (hb:∀r k,lo r=some k→B0≤k) (hs:B0≤w.heap.size):Below B0 w w' ∧∀r k,lo' r=some k→B0≤k:=by
 refine ⟨h.1.below hs (fun k ⟨r,hr⟩=> hb r k hr),fun r k hk=> ?_⟩
 rcases h.2.1 r k hk with ⟨r',h1⟩ | h1
 ·exact hb r' k h1
 ·omega
def MC (w:World):Prop:=∃m0,w.cell? ⟨0,0,none⟩=some (.int .i64 m0)
theorem MC.below {w w' :World} (h:MC w) (hB:Below w.heap.size w w'):MC w' :=by
 obtain ⟨m0,h1⟩:=h
 exact ⟨m0,cell_upd (Upd.of_below (F:=fun _=> False) hB) h1 (fun h=> h)⟩
def VnP [Inhabited CapT] (B0 fb:Nat) (w:World) (e:Ending) (w' :World):Prop:=∃vb tb lo,e= .returned (.pointer (some ⟨vb,0,none⟩))∧VV w' vb tb ns0 lo 0∧Below w.heap.size w w' ∧(∀r k,lo r=some k→B0≤k)∧lo (.st .frm)=some fb
set_option maxRecDepth 100000 in
theorem vnew_is [Inhabited CapT] (fb bb kb n:Nat) (w:World) (hF:FrB w fb bb kb none (fs0 n)) (n1:fb≠bb) (n2:fb≠kb) (n3:bb≠kb) (h1n:1≤n) (hc:capI=capV n) (hm:MC w) (B0:Nat) (hb1:B0≤fb) (hb2:B0≤bb) (hb3:B0≤kb) (hbw:B0≤w.heap.size) (hml:0 < B0):Calls Tryz.prog 33 #[.pointer (some ⟨fb,0,none⟩)] w (VnP B0 fb w):=by
 have hT:=tb0 w fb bb kb n w.heap.size hF n1 n2 n3 h1n hc rfl
 have hl:=hF.lts
 have H:=Lib.hid (And.intro hT (And.intro hl (And.intro hm (And.intro hml (And.intro hb1 (And.intro hb2 (And.intro hb3 hbw)))))))
 clear hT hl hm hF n1 n2 n3 h1n hc hml hb1 hb2 hb3 hbw
 go_enter Tryz.func33,Tryz.ntmps33
 go_wp2_with (first
  | (go_at_call 73;refine (store_new _ _).mono ?_;rintro e w' ⟨rfl,rfl⟩)
  | (go_at_call 74;refine (inode_new _ _).mono ?_;rintro e w' ⟨rfl,rfl⟩))
 go_ret
 obtain ⟨hT,hl,hm,hml,hb1,hb2,hb3,hbw⟩:=H.out
 have hB:Below w.heap.size w ((((w.alloc (.map #[] 0)).alloc (.cells #[.pointer (some ⟨fb,0,none⟩),.map (some w.heap.size)] 226)).alloc (.cells (tab0 (w.heap.size+1) (.pointer (some ⟨w.heap.size+3,0,none⟩))) 223)).alloc (.cells #[.bool true,.int .i64 0,.int .i64 0,.slice none 0 0] 220)):=((((Below.refl _ _).alloc (Nat.le_refl _) _).alloc (by simp) _).alloc (by simp;omega) _).alloc (by simp;omega) _
 have hs4:((((w.alloc (.map #[] 0)).alloc (.cells #[.pointer (some ⟨fb,0,none⟩),.map (some w.heap.size)] 226)).alloc (.cells (tab0 (w.heap.size+1) (.pointer (some ⟨w.heap.size+3,0,none⟩))) 223)).alloc (.cells #[.bool true,.int .i64 0,.int .i64 0,.slice none 0 0] 220)).heap.size=w.heap.size+4:=by simp
 have hm4:MC ((((w.alloc (.map #[] 0)).alloc (.cells #[.pointer (some ⟨fb,0,none⟩),.map (some w.heap.size)] 226)).alloc (.cells (tab0 (w.heap.size+1) (.pointer (some ⟨w.heap.size+3,0,none⟩))) 223)).alloc (.cells #[.bool true,.int .i64 0,.int .i64 0,.slice none 0 0] 220)):=MC.below hm hB
 generalize hw4:(((w.alloc (.map #[] 0)).alloc (.cells #[.pointer (some ⟨fb,0,none⟩),.map (some w.heap.size)] 226)).alloc (.cells (tab0 (w.heap.size+1) (.pointer (some ⟨w.heap.size+3,0,none⟩))) 223)).alloc (.cells #[.bool true,.int .i64 0,.int .i64 0,.slice none 0 0] 220)=w4 at*
 have hA:Below w4.heap.size w4 (w4.alloc (.cells #[.pointer (some ⟨w.heap.size+1,0,none⟩),.pointer (some ⟨w.heap.size+2,0,none⟩)] 143)):=(Below.refl _ _).alloc (Nat.le_refl _) _
 have hlo:∀r k,lo0 w.heap.size fb bb kb r=some k→B0≤k∧k < w.heap.size+4:=fun r k hk=> by
  cases r with
  | tab=> simp [lo0] at hk;omega
  | node i=> simp [lo0] at hk;omega
  | ents i=> simp [lo0] at hk
  | st q=>
   have:=lo0_st (s:=w.heap.size) (fb:=fb) (bb:=bb) (kb:=kb) (r:=q) (k:=k) hk
   omega
 have hbv:=Blk.new w4 #[.pointer (some ⟨w.heap.size+1,0,none⟩),.pointer (some ⟨w.heap.size+2,0,none⟩)] 143
 rw [hs4] at hbv
 refine ⟨w.heap.size+4,w.heap.size+2,lo0 w.heap.size fb bb kb,by first | rfl | (rw [hs4]),⟨⟨⟨_,rfl,hbv⟩,hT.below hA,fun r hr=> ?_,hm4.below hA,fun r hr=> ?_⟩,IV.zero⟩,hB.trans (hA.mono hB.size),fun r k hk=> (hlo r k hk).1,rfl⟩
 ·have:=hlo r _ hr;omega
 ·have:=hlo r _ hr;omega
theorem MC.lt {w:World} (h:MC w):0 < w.heap.size:=by
 obtain ⟨m0,h1⟩:=h
 exact cell_lt' h1
section none
variable (w:World)
end none
end Go.Proofs.YtjpjafajploiaaaGreatDoor
