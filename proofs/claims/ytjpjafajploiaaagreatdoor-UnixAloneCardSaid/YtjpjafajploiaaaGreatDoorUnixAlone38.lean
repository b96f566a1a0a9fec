/-
  Link at the program's vfs.
-/
import Derived.Test.YtjpjafajploiaaaGreatDoorUnixAlone17
import Derived.Test.YtjpjafajploiaaaGreatDoorUnixAlone06
import Derived.Lib.BufferRead
import Derived.Laws.StructEq
import Derived.Test.YtjpjafajploiaaaGreatDoorUnixAlone21
import Derived.Test.YtjpjafajploiaaaGreatDoorUnixAlone35
import Derived.Test.YtjpjafajploiaaaGreatDoorUnixAlone19
import Derived.Test.YtjpjafajploiaaaGreatDoorUnixAlone04
set_option linter.unusedSimpArgs false
set_option linter.unusedVariables false
namespace Go.Proofs.YtjpjafajploiaaaGreatDoor
open Go.RowKit Own RegJ Two
open Go.Lib hiding intOf
section
variable {w w' :World} {vb tb:Nat} {ns ns' :NSt} {lo lo' :Lo} {N c d:Nat}
def linkE(ns:NSt)(d:Int)(nm:Txt)(id:Int):Int×NSt:=match dirAt ns d with
 | none=> (11,ns)
 | some nd=> entF ns d.toNat nd nm id
def linkF(ns:NSt)(s t:Txt):Int×NSt:=if(walkR ns s).2≠0 then((walkR ns s).2,ns)else if isDirF ns(walkR ns s).1=true then(6,ns)else atPar ns t fun d nm=> linkE ns d nm(walkR ns s).1
theorem linkE_is [Inhabited CapT](h:VV w vb tb ns lo c)(d:Int)(nm:Txt)(id r:Int)(ns' :NSt)(hr:linkE ns d nm id=(r,ns')):
  Calls Tryz.prog 89 #[.pointer(some⟨tb,0,none⟩),.int .i64 d,.string(B nm),.int .i64 id]w fun e w' => e= .returned(.int .i64 r)∧∃lo',VV w' vb tb ns' lo' (c+1)∧TFr lo lo' w w' :=by
 unfold linkE at hr
 cases hd:dirAt ns d with
 | none=>
  rw [hd]at hr;cases hr
  refine(enter_nodir h.1.2.1 d id nm hd).mono ?_
  rintro e w' ⟨rfl,rfl⟩
  exact⟨rfl,lo,h.le(by omega),TFr.refl _ _⟩
 | some nd=>
  rw [hd]at hr
  simp only at hr
  obtain⟨i,rfl,hi,hdir⟩:=dirAt_some hd
  simp only [Int.toNat_natCast]at hr
  have hiv:=entF_iv h.2 hi hdir nm id
  rw [hr]at hiv
  refine(enter_f h.1.2.1 i id nm nd hi hdir(fun m hm=> ?_)r ns' hr).mono ?_
  ·obtain⟨k,hk,hkk⟩:=ndAt_some hm
   exact⟨h.2.inv.links hkk,h.2.inv.bnd k m hkk⟩
  ·rintro e w' ⟨rfl,lo',hT,hF⟩
   exact⟨rfl,lo',⟨(h.1.step hT hF).le(by omega),hiv⟩,hF⟩
set_option maxRecDepth 100000 in
theorem linkK_is [Inhabited CapT](h:VV w vb tb ns lo c)(bv bi:Nat)(hv:w.cell? ⟨bv,0,none⟩=some(.pointer(some⟨vb,0,none⟩)))(id:Int)(hi:w.cell? ⟨bi,0,none⟩=some(.int .i64 id))
  (d:Int)(nm:Txt)(r0:Int)(ns' :NSt)(hr:linkE ns d nm id=(r0,ns')):
  Calls Tryz.prog 88 #[.int .i64 d,.string(B nm),.pointer(some⟨bv,0,none⟩),.pointer(some⟨bi,0,none⟩)]w fun e w' => ∃r,e= .returned(.int .i64 r)∧ParP w vb tb ns' lo(c+1)r0 r w' :=by
 have hB:Below w.heap.size w w.drew:=(Below.refl _ _).drew
 have hen:=linkE_is(h.below hB)d nm id r0 ns' hr
 have cv:=h.1.cell
 have H:=Lib.hid hB
 clear h hr hB
 generalize B nm=L at*
 go_enter Tryz.func88,Tryz.ntmps88
 go_wp2
 go_still_tail 7,(by kernel_rfl)
 change wpList _ _ _ _ _ w.drew
 clear hv hi cv
 generalize w.drew=w3 at*
 go_wp2_with(go_at_call 89;(with_reducible refine hen.mono ?_);rintro e w4⟨rfl,lo4,hV,hF⟩;have H4:=Lib.hid(And.intro hV hF);clear hen hV hF)
 go_returns
 exact⟨r0,rfl,rfl,lo4,H4.out.1,(TFr.of_below H.out).trans H4.out.2⟩
set_option maxRecDepth 100000 in
theorem Link_is [Inhabited CapT](h:VV w vb tb ns lo c)(l l2:Txt)(hl:l.length≤100000)(hl2:l2.length≤100000)(r0:Int)(ns' :NSt)(hm:linkF ns l l2=(r0,ns')):
  Calls Tryz.prog 48 #[.pointer(some⟨vb,0,none⟩),.string(B l),.string(B l2)]w(MadP w vb tb ns' lo(c+1)(.int .i64 r0)):=by
 have hl0:=h.lts
 have hB0:Below w.heap.size w(w.alloc(.cells #[.pointer(some⟨vb,0,none⟩)]66)):=(Below.refl _ _).alloc(Nat.le_refl _)_
 obtain⟨a,e0,hw⟩:∃a e0,walkR ns l=(a,e0):=⟨_,_,rfl⟩
 have hwk:=walk_is(h.below hB0).1 l hl a e0 hw
 have hbv:=Blk.new w #[.pointer(some⟨vb,0,none⟩)]66
 have c0:=hbv.rd
 unfold linkF at hm
 rw [hw]at hm
 simp only at hm
 by_cases h0:e0=0
 ·subst h0
  rw [if_neg(by simp)]at hm
  by_cases hd:isDirF ns a=true
  ·rw [if_pos hd]at hm;cases hm
   have H:=Lib.hid(And.intro hB0(And.intro hbv(And.intro h hd)))
   clear h hB0 hbv hl hl2 hw hd hl0
   generalize B l=L at*
   generalize B l2=L2 at*
   go_enter Tryz.func48,Tryz.ntmps48
   go_wp2_with(first
    | (go_at_call 70;(with_reducible refine hwk.mono ?_);rintro e w1⟨rfl,hB⟩;have hb1:=(Blk.below hB H.out.2.1 H.out.2.1.lt).alloc(.cells #[.int .i64 a]3);clear c0;have c0:=hb1.rd;have c1:=(Blk.new w1 #[.int .i64 a]3).rd;have hb:=H.out.1.trans(hB.mono H.out.1.size);have hb2:=hb.alloc hb.size(.cells #[.int .i64 a]3);have hid:=isdir_is(H.out.2.2.1.below hb2).1 a true H.out.2.2.2;have H1:=Lib.hid hb2;clear hB hwk hb1 hb hb2)
    | (go_at_call 86;(with_reducible refine hid.mono ?_);rintro e w2⟨rfl,hB⟩;have H2:=Lib.hid hB;clear hB hid))
   go_returns
   have hb:=H1.out.trans(H2.out.mono H1.out.size)
   exact⟨rfl,lo,(H.out.2.2.1.below hb).le(by omega),TFr.of_below hb⟩
  ·rw [if_neg hd]at hm
   unfold atPar at hm
   have hpar:∀w1 b1,Below w.heap.size w w1→w1.cell? ⟨w.heap.size,0,none⟩=some(.pointer(some⟨vb,0,none⟩))→w1.cell? ⟨b1,0,none⟩=some(.int .i64 a)→Calls Tryz.prog 87 #[.pointer(some⟨vb,0,none⟩),.string(B l2),.func(.func 88) #[] #[.pointer(some⟨w.heap.size,0,none⟩),.pointer(some⟨b1,0,none⟩)]]w1
     fun e w2=> ∃r,e= .returned(.int .i64 r)∧ParP w1 vb tb ns' lo(c+1)r0 r w2:=fun w1 b1 hB1 hcv hci=> by
    have h2:=h.below hB1
    refine par_LinkF h2 l2 hl2 _ _ _(fun E w3 hB3 hE hE0=> ?_)(fun hE w3 hB3=> ?_)
    ·rw [if_neg(by rw [hE];exact hE0),hE]at hm
     cases hm
     exact⟨rfl,lo,(h2.below hB3).le(by omega),TFr.of_below hB3⟩
    ·rw [if_pos hE]at hm
     have f1:w3.cell? ⟨w.heap.size,0,none⟩=some(.pointer(some⟨vb,0,none⟩)):=cell_upd(Upd.of_below(F:=fun _=> False)hB3)hcv(fun h=> h)
     have f2:w3.cell? ⟨b1,0,none⟩=some(.int .i64 a):=cell_upd(Upd.of_below(F:=fun _=> False)hB3)hci(fun h=> h)
     refine(linkK_is(h2.below hB3)w.heap.size b1 f1 a f2(parDi ns l2)(parN l2)r0 ns' hm).mono ?_
     rintro e w4⟨r,rfl,rfl,lo',h3,h4⟩
     exact⟨r,rfl,rfl,lo',h3,(TFr.of_below hB3).trans h4⟩
   have H:=Lib.hid(And.intro hB0(And.intro hbv(And.intro h(And.intro(by simpa using hd:isDirF ns a=false)hpar))))
   clear h hB0 hbv hl hl2 hw hd hl0 hpar hm
   generalize B l=L at*
   generalize B l2=L2 at*
   go_enter Tryz.func48,Tryz.ntmps48
   go_wp2_with(first
    | (go_at_call 70;(with_reducible refine hwk.mono ?_);rintro e w1⟨rfl,hB⟩;have hb1:=(Blk.below hB H.out.2.1 H.out.2.1.lt).alloc(.cells #[.int .i64 a]3);clear c0;have c0:=hb1.rd;have c1:=(Blk.new w1 #[.int .i64 a]3).rd;have hb:=H.out.1.trans(hB.mono H.out.1.size);have hb2:=hb.alloc hb.size(.cells #[.int .i64 a]3);have hid:=isdir_is(H.out.2.2.1.below hb2).1 a false H.out.2.2.2.1;have H1:=Lib.hid(And.intro hb2 hb1);clear hB hwk hb1 hb hb2)
    | (go_at_call 86;(with_reducible refine hid.mono ?_);rintro e w2⟨rfl,hB⟩;have hb:=H1.out.1.trans(hB.mono H1.out.1.size);have k0:=Blk.below hB H1.out.2 H1.out.2.lt;have k1:=Blk.below hB(Blk.new w1 #[.int .i64 a]3)(Blk.new w1 #[.int .i64 a]3).lt;clear c0 c1;have c0:=k0.rd;have hp:=H.out.2.2.2.2 w2 w1.heap.size hb(k0.rd 0)(k1.rd 0);have H2:=Lib.hid hb;clear hB hid hb k0 k1)
    | (go_at_call 87;(with_reducible refine hp.mono ?_);rintro e w3⟨r,rfl,rfl,hq⟩;have H3:=Lib.hid hq;clear hp hq))
   go_returns
   obtain⟨lo',h3,h4⟩:=H3.out
   exact⟨rfl,lo',h3,(TFr.of_below H2.out).trans h4⟩
 ·rw [if_pos h0]at hm;cases hm
  have H:=Lib.hid(And.intro hB0(And.intro hbv h))
  clear h hB0 hbv hl hl2 hw hl0
  generalize B l=L at*
  generalize B l2=L2 at*
  go_enter Tryz.func48,Tryz.ntmps48
  go_wp2_with(go_at_call 70;(with_reducible refine hwk.mono ?_);rintro e w1⟨rfl,hB⟩;have H1:=Lib.hid hB;clear hB hwk)
  go_returns
  have hb:=H.out.1.trans(H1.out.mono H.out.1.size)
  have hb2:=hb.alloc hb.size(.cells #[.int .i64 a]3)
  exact⟨rfl,lo,(H.out.2.2.below hb2).le(by omega),TFr.of_below hb2⟩
end
end Go.Proofs.YtjpjafajploiaaaGreatDoor
/-
 Stat of a path that leads nowhere;Stat of a vfs of the call's own.
-/
namespace Go.Proofs.YtjpjafajploiaaaGreatDoor
open Go.RowKit Own RegJ Two
open Go.Lib hiding intOf
section
variable {w w' :World} {vb tb:Nat} {ns ns' :NSt} {lo lo' :Lo} {N c d:Nat}
set_option maxRecDepth 100000 in
theorem stat_no [Inhabited CapT](h:VV w vb tb ns lo c)(l:Txt)(hl:l.length≤100000)(a e0:Int)(hw:walkR ns l=(a,e0))(he:e0≠0):
  Calls Tryz.prog 94 #[.pointer(some⟨vb,0,none⟩),.string(B l)]w fun e w' => e= .returned(.tuple #[.agg in0,.int .i64 e0])∧Below w.heap.size w w' :=by
 have hB0:Below w.heap.size w(w.alloc(.cells in0 184)):=(Below.refl _ _).alloc(Nat.le_refl _)_
 have hb0:=Blk.new w in0 184
 have hwk:=walk_is(h.below hB0).1 l hl a e0 hw
 unfold in0 at*
 have H:=Lib.hid(And.intro hB0 hb0)
 clear h hB0 hl hw hb0
 generalize B l=L at*
 go_enter Tryz.func94,Tryz.ntmps94
 go_wp2_with(go_at_call 70;(with_reducible refine hwk.mono ?_);rintro e w1⟨rfl,hB⟩;have hk1:=Blk.below hB H.out.2 H.out.2.lt;have c1:=hk1.rd;have f1:=hk1.nf;have H1:=Lib.hid(And.intro hB hk1);clear hB hwk hk1)
 have hk3:Blk((((w1.setCell⟨w.heap.size,0,none⟩(.int .i64 0)).setCell⟨w.heap.size,1,none⟩(.int .i64 0)).setCell⟨w.heap.size,2,none⟩(.bool false)).setCell⟨w.heap.size,3,none⟩(.int .i64 0))w.heap.size #[.int .i64 0,.int .i64 0,.bool false,.int .i64 0]184:=Blk.of((((H1.out.2.set 0(.int .i64 0)).set 1(.int .i64 0)).set 2(.bool false)).set 3(.int .i64 0))rfl
 have hu:=((((Upd.refl(fun k=> k=w.heap.size)w1).setCell(p:=⟨w.heap.size,0,none⟩)(fun _=> rfl)(.int .i64 0)).setCell(p:=⟨w.heap.size,1,none⟩)(fun _=> rfl)(.int .i64 0)).setCell(p:=⟨w.heap.size,2,none⟩)(fun _=> rfl)(.bool false)).setCell(p:=⟨w.heap.size,3,none⟩)(fun _=> rfl)(.int .i64 0)
 have hb:=H.out.1.trans(H1.out.1.mono H.out.1.size)
 have hbb:Below w.heap.size w((((w1.setCell⟨w.heap.size,0,none⟩(.int .i64 0)).setCell⟨w.heap.size,1,none⟩(.int .i64 0)).setCell⟨w.heap.size,2,none⟩(.bool false)).setCell⟨w.heap.size,3,none⟩(.int .i64 0)):=hb.trans(hu.below hb.size(fun k hk=> by omega))
 clear hu hb
 generalize((((w1.setCell⟨w.heap.size,0,none⟩(.int .i64 0)).setCell⟨w.heap.size,1,none⟩(.int .i64 0)).setCell⟨w.heap.size,2,none⟩(.bool false)).setCell⟨w.heap.size,3,none⟩(.int .i64 0))=w9 at hk3 hbb ⊢
 have c9:=hk3.rd
 try simp only [Exit.inBlock,Exit.then]
 refine bodyPost_ret(by simp [results,Tryz.results94,go_sem,c9];try rfl)rfl ?_
 exact⟨rfl,hbb⟩
def statF(ns:NSt)(l:Txt):Array Value×Int:=if(walkR ns l).2≠0 then(in0,(walkR ns l).2)else(getA ns(walkR ns l).1,0)
theorem Stat_is [Inhabited CapT](h:VV w vb tb ns lo c)(l:Txt)(hl:l.length≤100000)(A:Array Value)(r:Int)(hr:statF ns l=(A,r)):
  Calls Tryz.prog 94 #[.pointer(some⟨vb,0,none⟩),.string(B l)]w fun e w' => e= .returned(.tuple #[.agg A,.int .i64 r])∧Below w.heap.size w w' :=by
 obtain⟨a,e0,hw⟩:∃a e0,walkR ns l=(a,e0):=⟨_,_,rfl⟩
 unfold statF at hr
 rw [hw]at hr
 simp only at hr
 by_cases h0:e0=0
 ·subst h0
  rw [if_neg(by simp)]at hr
  obtain⟨k,nk,rfl,hk⟩:=walkR_nd h.2 hw
  have hnd:ndAt ns(k:Int)=some nk:=by unfold ndAt;simp [hk]
  unfold getA at hr
  rw [hnd]at hr
  cases hr
  exact stat_yes h l hl _ hw nk hnd
 ·rw [if_pos h0]at hr
  cases hr
  exact stat_no h l hl a _ hw h0
end
end Go.Proofs.YtjpjafajploiaaaGreatDoor
namespace Go.Proofs.YtjpjafajploiaaaGreatDoor
open Go.RowKit Own RegJ
open Go.Lib
abbrev resV(c v:Int)(s:ByteArray):Value:= .agg #[.int .i64 c,.int .i64 v,.string s]
section
variable {w:World}
set_option maxRecDepth 100000 in
theorem plain_is(v e0 r1 r2:Int)(hr:(if e0=0 then(0,v)else(e0,0))=(r1,r2))(w:World):Calls Tryz.prog 41 #[.int .i64 v,.int .i64 e0]w fun e w' => e= .returned(resV r1 r2⟨#[]⟩)∧Below w.heap.size w w' :=by
 by_cases h0:e0=0
 ·subst h0
  rw [if_pos rfl]at hr
  cases hr
  go_enter Tryz.func41,Tryz.ntmps41
  go_wp2_with(fail)
  exact bodyPost_ret(v:=resV 0 v⟨#[]⟩)(by simp [results,Tryz.results41,go_sem])rfl⟨rfl,(Below.refl _ _).alloc(Nat.le_refl _)_⟩
 ·rw [if_neg h0]at hr
  cases hr
  have d1:(e0==0)=false:=by simpa using h0
  have d2:(e0 !=0)=true:=by simpa using h0
  clear h0
  go_enter Tryz.func41,Tryz.ntmps41
  go_wp2_with(fail)
  exact bodyPost_ret(v:=resV e0 0⟨#[]⟩)(by simp [results,Tryz.results41,go_sem])rfl⟨rfl,(Below.refl _ _).alloc(Nat.le_refl _)_⟩
end
end Go.Proofs.YtjpjafajploiaaaGreatDoor
namespace Go.Proofs.YtjpjafajploiaaaGreatDoor
open Go.RowKit Own RegJ Two
open Go.Lib hiding intOf
structure UX [Inhabited CapT](w0:World)(O:Nat→Prop)(fdb vb tb fb sb pb mb:Nat)(ns:NSt)(c N:Nat)(S:FS)(syb qb qm M:Nat)(m:PrM)(w:World):Prop where
 fx:FX w0 O fdb vb tb fb sb pb mb ns c N S w
 sy:Blk w syb #[.pointer(some⟨fb,0,none⟩),.pointer(some⟨vb,0,none⟩),.pointer(some⟨fdb,0,none⟩),.pointer(some⟨qb,0,none⟩)]83
 pr:PrB w qb qm M m
 lo:w0.heap.size≤syb∧w0.heap.size≤qb∧w0.heap.size≤qm
 no:¬O syb∧¬O qb∧¬O qm
 ne:syb≠qm∧vb≠qm
 mc:0 < w0.heap.size
theorem FX.beside' {C:Inhabited CapT} {w0 w w' :World} {O:Nat→Prop} {fdb vb tb fb sb pb mb:Nat} {ns:NSt} {c N:Nat} {S:FS} {F:Nat→Prop}(h:FX w0 O fdb vb tb fb sb pb mb ns c N S w)(hmc:0 < w0.heap.size)(hu:Upd F w w')(hF:∀k,F k→w0.heap.size≤k∧¬O k∧k≠vb):FX w0 O fdb vb tb fb sb pb mb ns c N S w' :=by
 obtain⟨lo,h1,h2,h3,h4,h5,h6,h7,h8⟩:=h
 exact⟨lo,h1.upd hu(fun hk=> (hF _ hk).2.2 rfl)(fun r k hr hk=> (hF k hk).2.1(h4 r k hr))(fun hk=> by have:=(hF _ hk).1;omega),h2.trans(hu.below h2.size(fun k hk=> (hF k hk).1)),fun k hk=> ⟨(h3 k hk).1,Nat.lt_of_lt_of_le(h3 k hk).2 hu.size⟩,h4,h5,h6,h7.upd hu(fun k hk hf=> (hF k hf).2.1(h8 k hk).1),h8⟩
section
variable {w0 w w' :World} {O O' :Nat→Prop} {fdb vb tb fb sb pb mb:Nat} {ns ns' :NSt} {c c' N N' :Nat} {S S' :FS} {syb qb qm M M' :Nat} {m m' :PrM}
theorem UX.below [Inhabited CapT](h:UX w0 O fdb vb tb fb sb pb mb ns c N S syb qb qm M m w)(hB:Below w.heap.size w w'):UX w0 O fdb vb tb fb sb pb mb ns c N S syb qb qm M m w' :=
 ⟨h.fx.below hB,Blk.below hB h.sy h.sy.lt,h.pr.below hB,h.lo,h.no,h.ne,h.mc⟩
theorem UX.step [Inhabited CapT](h:UX w0 O fdb vb tb fb sb pb mb ns c N S syb qb qm M m w)(hU:Upd O w w')(hX:FX w0 O' fdb vb tb fb sb pb mb ns' c' N' S' w')(hO:∀k,O' k→O k∨w.heap.size≤k):UX w0 O' fdb vb tb fb sb pb mb ns' c' N' S' syb qb qm M m w' :=by
 obtain⟨l1,l2⟩:=h.pr.lt
 have l3:=h.sy.lt
 have hn:=h.no
 refine⟨hX,Blk.upd hU h.sy hn.1,h.pr.upd hU hn.2.1 hn.2.2,h.lo,⟨fun hk=> ?_,fun hk=> ?_,fun hk=> ?_⟩,h.ne,h.mc⟩
 ·rcases hO _ hk with hk | hk
  ·exact hn.1 hk
  ·omega
 ·rcases hO _ hk with hk | hk
  ·exact hn.2.1 hk
  ·omega
 ·rcases hO _ hk with hk | hk
  ·exact hn.2.2 hk
  ·omega
theorem UX.proc [Inhabited CapT](h:UX w0 O fdb vb tb fb sb pb mb ns c N S syb qb qm M m w)(hP:PrB w' qb qm M' m')(hu:Upd(fun k=> k=qm)w w'):UX w0 O fdb vb tb fb sb pb mb ns c N S syb qb qm M' m' w' :=
 ⟨h.fx.beside' h.mc hu(fun k hk=> by subst hk;exact⟨h.lo.2.2,h.no.2.2,fun e=> h.ne.2 e.symm⟩),Blk.upd hu h.sy h.ne.1,hP,h.lo,h.no,h.ne,h.mc⟩
def UP [Inhabited CapT](w0:World)(O:Nat→Prop)(fdb vb tb fb sb pb mb:Nat)(ns:NSt)(c N:Nat)(S:FS)(syb qb qm M:Nat)(m:PrM)(w:World)(v:Value)(e:Ending)(w' :World):Prop:=
 e= .returned v∧Upd(fun k=> O k∨k=qm)w w' ∧∃O',UX w0 O' fdb vb tb fb sb pb mb ns c N S syb qb qm M m w' ∧∀k,O' k→O k∨w.heap.size≤k
end
theorem v_newN [Inhabited CapT] {w w1 W:World}(n:Nat)(hn:1≤n)(hm:MC w)(hc:capI=capV n)(fb bb kb:Nat)(hF:FrB w1 fb bb kb none(fs0 n))(hB:Below w.heap.size w w1)(g1:w.heap.size≤fb)(g2:w.heap.size≤bb)(g3:w.heap.size≤kb)(n1:fb≠bb)(n2:fb≠kb)(n3:bb≠kb)(hW:Below w1.heap.size w1 W):
  Calls Tryz.prog 33 #[.pointer(some⟨fb,0,none⟩)]W(VnP w.heap.size fb W):=
 vnew_is fb bb kb n W(hF.below hW)n1 n2 n3 hn hc(hm.below(hB.trans(hW.mono hB.size)))w.heap.size g1 g2 g3(hB.trans(hW.mono hB.size)).size hm.lt
def UNewP [Inhabited CapT](w:World)(e:Ending)(w' :World):Prop:=∃syb fdb vb tb fb sb pb mb qb qm O,e= .returned(.tuple #[.pointer(some⟨syb,0,none⟩),.int .i64 0])∧UX w O fdb vb tb fb sb pb mb ns0 0 0 fs00 syb qb qm 0(fun _=> none)w'
set_option maxRecDepth 100000 in
set_option maxHeartbeats 2000000 in
theorem unew_is [Inhabited CapT](n:Nat)(h1:1≤n)(h64:n≤64)(w:World)(hm:MC w)(hc:capI=capV n):Calls Tryz.prog 10 #[.int .i64 n]w(UNewP w):=by
 have hfn:Calls Tryz.prog 32 #[.int .i64 n]w(FNewP w n):=fnew_is n h1 h64 w
 have HM:=Lib.hid(And.intro hm(And.intro hc h1))
 clear hm hc h1 h64
 go_enter Tryz.func10,Tryz.ntmps10
 go_wp2_with(first
  | (go_at_call 32;(with_reducible refine hfn.mono ?_);rintro e w1⟨fb,bb,kb,rfl,hFr,hB,g1,g2,g3,g4,g5,g6⟩;have hvn:=fun W(hW:Below w1.heap.size w1 W)=> v_newN n HM.out.2.2 HM.out.1 HM.out.2.1 fb bb kb hFr hB g1 g2 g3 g4 g5 g6 hW;have H1:=Lib.hid hB;clear hB hFr g1 g2 g3 g4 g5 g6 hfn)
  | (go_at_call 33;refine(hvn _(Below.refl _ _)).mono ?_;rintro e w4⟨vb,tb,lo,rfl,hV,hB',hb,hf⟩;have H4:=Lib.hid(And.intro hV(And.intro hB' (And.intro hb hf)));clear hV hB' hb hf hvn;have hs:=slabnew_any fb w4)
  | (go_at_call 36;refine hs.mono ?_;rintro e w5⟨⟨k5,rfl⟩,hB⟩;have H5:=Lib.hid hB;clear hB hs;have hp:=pipenew_any k5 w5)
  | (go_at_call 35;refine hp.mono ?_;rintro e w6⟨⟨k6,rfl⟩,hB⟩;have H6:=Lib.hid(H5.out.trans(hB.mono H5.out.size));clear hB hp;have hd:=fdnew_is vb k6 w6)
  | (go_at_call 34;refine hd.mono ?_;rintro e w7⟨fdb,mb,rfl,hB,h1,h2,hF⟩;have H7:=Lib.hid(And.intro hB(And.intro h1(And.intro h2 hF)));clear hB h1 h2 hF hd;have hq:=procnew_is w7)
  | (go_at_call 37;refine hq.mono ?_;rintro e w8⟨qb,qm,rfl,hB,h1,h2,hF⟩;have H8:=Lib.hid(And.intro hB(And.intro h1(And.intro h2 hF)));clear hB h1 h2 hF hq))
 go_returns
 obtain⟨hV,hB4,hb,hf⟩:=H4.out
 obtain⟨hB7,h1,h2,hF⟩:=H7.out
 obtain⟨hB8,q1,q2,hQ⟩:=H8.out
 have hB6:=H6.out
 have hB47:Below w4.heap.size w4 w7:=hB6.trans(hB7.mono hB6.size)
 have hB17:Below w1.heap.size w1 w7:=hB4.trans(hB47.mono hB4.size)
 have hB07:Below w.heap.size w w7:=H1.out.trans(hB17.mono H1.out.size)
 obtain⟨sb,hs,_⟩:=hV.1.cell0
 obtain⟨l1,l2,l3⟩:=hV.lts
 have hV7:=hV.below hB47
 have z1:=H1.out.size
 have z4:=hB4.size
 have z6:=hB6.size
 have z47:=hB47.size
 have z7:=hB07.size
 have zm:=HM.out.1.lt
 obtain⟨lq1,lq2⟩:=hQ.lt
 have hX:FX w(fun k=> w.heap.size≤k∧k < w7.heap.size)fdb vb tb fb sb k6 mb ns0 0 0 fs00 w7:=by
  refine⟨lo,hV7,hB07,fun k hk=> hk,fun r k hk=> ⟨hb r k hk,?_⟩,hf,hs,hF,fun k hk=> ?_⟩
  ·have:=l2 r k hk;omega
  ·have hk2:w6.heap.size≤k:=by
    rcases hk with rfl | rfl | ⟨i,hi⟩ | hx
    ·exact h1
    ·exact h2
    ·cases hi
    ·cases hx
   have hk3:=hF.lt hk
   exact⟨⟨by omega,hk3⟩,fun r hr=> by have:=l2 r k hr;omega,by omega,by omega⟩
 have hal:Below w8.heap.size w8(w8.alloc(.cells #[.pointer(some⟨fb,0,none⟩),.pointer(some⟨vb,0,none⟩),.pointer(some⟨fdb,0,none⟩),.pointer(some⟨qb,0,none⟩)]83)):=(Below.refl _ _).alloc(Nat.le_refl _)_
 have z8:=hB8.size
 refine⟨w8.heap.size,fdb,vb,tb,fb,sb,k6,mb,qb,qm,_,rfl,hX.below(hB8.trans(hal.mono hB8.size)),Blk.new w8 _ _,hQ.below hal,⟨by omega,by omega,by omega⟩,⟨fun hk=> by have:=hk.2;omega,fun hk=> by have:=hk.2;omega,fun hk=> by have:=hk.2;omega⟩,⟨by omega,by omega⟩,by omega⟩
section
variable {w0 w w' :World} {O O' :Nat→Prop} {fdb vb tb fb sb pb mb:Nat} {ns ns' :NSt} {c c' N N' :Nat} {S S' :FS} {syb qb qm M M' :Nat} {m m' :PrM}
set_option maxRecDepth 100000 in
theorem ustart_is [Inhabited CapT](h:UX w0 O fdb vb tb fb sb pb mb ns c N S syb qb qm M m w)(hN:N≤100000)(hM:M≤10000)(pid:Int)(hw:(Lit.int .i64 pid).wf=true)(h0:0≤pid)(hp:m pid=none)(hs:S.pr pid=none):
  Calls Tryz.prog 11 #[.pointer(some⟨syb,0,none⟩),.int .i64 pid]w fun e w' => ∃b,w.heap.size≤b∧UP w0 O fdb vb tb fb sb pb mb ns c(N+1)(S.start pid b)syb qb qm(M+1)(prPut m pid(some⟨-1,0,false⟩))w(.int .i64 0)e w' :=by
 have hps:=pstart_one h.pr hM pid hw h0 hp
 have c3:=h.sy.rd 3
 have H:=Lib.hid(And.intro h(And.intro hN(And.intro hw(And.intro h0 hs))))
 clear h hN hw h0 hs hp
 go_enter Tryz.func11,Tryz.ntmps11
 go_wp2_with(first
  | (go_at_call 38;refine hps.mono ?_;rintro e w1⟨rfl,hP,hu⟩;have h1:=H.out.1.proc hP hu;have c2:=h1.sy.rd 2;have hks:=k_start h1.fx H.out.2.1 pid H.out.2.2.1 H.out.2.2.2.1 H.out.2.2.2.2;have H1:=Lib.hid(And.intro h1 hu);clear hps c3 h1 hP hu)
  | (go_at_call 39;refine hks.mono ?_;rintro e w2⟨b,hb,rfl,hU,O2,hD,hO⟩;have H2:=Lib.hid(And.intro hb(And.intro hU(And.intro hD hO)));clear hks hb hU hD hO c2))
 go_ret
 obtain⟨h1,hu⟩:=H1.out
 obtain⟨hb,hU,hD,hO⟩:=H2.out
 have hz:=hu.size
 exact⟨b,by omega,rfl,(hu.mono(fun k _ hk=> .inr hk)).trans hU(fun k _ hk=> .inl hk),O2,h1.step hU hD hO,fun k hk=> (hO k hk).imp(fun h=> h)(fun h=> by omega)⟩
end
end Go.Proofs.YtjpjafajploiaaaGreatDoor
namespace Go.Proofs.YtjpjafajploiaaaGreatDoor
open Go.RowKit Own RegJ
def UJ(A B S:Nat)(md:Region.Mode)(ops:Array Oper)(W:World)(R1 R2 R3:World→Prop)(f:Nat→Bool)(w:World):Prop:=
 RegF.Closed md ops f∧if f S then R3 w else if f B then R2 w else if f A then R1 w else w=W
section
variable {A B S k:Nat} {md:Region.Mode} {ops:Array Oper} {W w w' :World} {R1 R2 R3:World→Prop} {f:Nat→Bool} {o:Oper}
theorem UJ.other(h:UJ A B S md ops W R1 R2 R3 f w)(ho:ops[k]? =some o)(hf:Up md k o f)(h1:k≠A)(h2:k≠B)(h3:k≠S):UJ A B S md ops W R1 R2 R3(fset f k)w:=by
 refine⟨RegF.Closed.fset ho⟨hf,h.1⟩,?_⟩
 rw [fset_ne h1,fset_ne h2,fset_ne h3];exact h.2
theorem UJ.atA(h:UJ A B S md ops W R1 R2 R3 f w)(hA:f A=false)(hB:f B=false)(hS:f S=false):w=W:=by have:=h.2;rw [hA,hB,hS]at this;exact this
theorem UJ.atB(h:UJ A B S md ops W R1 R2 R3 f w)(hA:f A=true)(hB:f B=false)(hS:f S=false):R1 w:=by have:=h.2;rw [hA,hB,hS]at this;exact this
theorem UJ.atS(h:UJ A B S md ops W R1 R2 R3 f w)(hB:f B=true)(hS:f S=false):R2 w:=by have:=h.2;rw [hB,hS]at this;exact this
theorem UJ.fin(h:UJ A B S md ops W R1 R2 R3 f w)(hS:f S=true):R3 w:=by have:=h.2;rw [hS]at this;exact this
theorem UJ.goA(h:UJ A B S md ops W R1 R2 R3 f w)(ho:ops[A]? =some o)(hf:Up md A o f)(hB:f B=false)(hS:f S=false)(h1:A≠B)(h2:A≠S)(hq:R1 w'):UJ A B S md ops W R1 R2 R3(fset f A)w' :=by
 refine⟨RegF.Closed.fset ho⟨hf,h.1⟩,?_⟩
 rw [fset_eq,fset_ne h1,fset_ne h2,hB,hS];exact hq
theorem UJ.goB(h:UJ A B S md ops W R1 R2 R3 f w)(ho:ops[B]? =some o)(hf:Up md B o f)(hS:f S=false)(h2:B≠S)(hq:R2 w'):UJ A B S md ops W R1 R2 R3(fset f B)w' :=by
 refine⟨RegF.Closed.fset ho⟨hf,h.1⟩,?_⟩
 rw [fset_eq,fset_ne h2,hS];exact hq
theorem UJ.goS(h:UJ A B S md ops W R1 R2 R3 f w)(ho:ops[S]? =some o)(hf:Up md S o f)(hq:R3 w'):UJ A B S md ops W R1 R2 R3(fset f S)w' :=by
 refine⟨RegF.Closed.fset ho⟨hf,h.1⟩,?_⟩
 rw [fset_eq];exact hq
end
theorem region_U {P:Program} {id:Nat} {Q:Exit→Act→World→Prop} {a:Act} {w:World} {l:List Oper}(A B S:Nat)(W:World)(R1 R2 R3:World→Prop)(hW:w.drew=W)(hm:P.follows .mixedOrders=true)(hB:Region.lexB .any l.toArray=true)
  (h:wpJ P .any l.toArray(UJ A B S .any l.toArray W R1 R2 R3)a.tmps.size(fun s a' => ∀w',UJ A B S .any l.toArray W R1 R2 R3(flags s)w' →Q .normal a' w')0 l(Array.replicate l.length false)a):(Code.region id l.toArray true).wp P Q a w:=
 region_J(UJ A B S .any l.toArray W R1 R2 R3)hm hB⟨fun k o ho h=> (by cases h),hW⟩h
open RegF in
def LJ(W:World)(A S d:Nat)(zs cs:Array Value)(T:TypeId)(f:Nat→Bool)(a:Act)(w:World):Prop:=
 Below W.heap.size W w∧(f A=true→∃b,slot a d= .pointer(some⟨b,0,none⟩)∧W.heap.size≤b∧Blk w b(if f S then cs else zs)T)
section
open RegF
variable {W w w' :World} {A S d:Nat} {zs cs:Array Value} {T:TypeId} {f f' :Nat→Bool} {a a' :Act}
theorem LJ.start(a:Act)(hw:w=W):LJ W A S d zs cs T(fun _=> false)a w:=by subst hw;exact⟨Below.refl _ _,fun h=> by cases h⟩
theorem LJ.put(h:LJ W A S d zs cs T f a w)(e1:f' A=f A)(e2:f' S=f S)(s:slot a' d=slot a d):LJ W A S d zs cs T f' a' w:=by
 unfold LJ at*
 rw [e1,e2,s];exact h
theorem LJ.call(h:LJ W A S d zs cs T f a w)(e1:f' A=f A)(e2:f' S=f S)(s:slot a' d=slot a d)(hB:Below w.heap.size w w'):LJ W A S d zs cs T f' a' w' :=by
 refine⟨h.1.trans(hB.mono h.1.size),fun hA=> ?_⟩
 rw [e1]at hA
 obtain⟨b,h1,h2,h3⟩:=h.2 hA
 rw [e2,s]
 exact⟨b,h1,h2,Blk.below hB h3 h3.lt⟩
theorem LJ.alloc(h:LJ W A S d zs cs T f a w)(e1:f' A=true)(e2:f' S=false)(s:slot a' d= .pointer(some⟨w.heap.size,0,none⟩)):LJ W A S d zs cs T f' a' (w.alloc(.cells zs T)):=by
 refine⟨h.1.trans(((Below.refl _ _).alloc(Nat.le_refl _)_).mono h.1.size),fun _=> ⟨w.heap.size,s,h.1.size,?_⟩⟩
 rw [e2]
 exact Blk.new w zs T
theorem LJ.at' (h:LJ W A S d zs cs T f a w)(hA:f A=true) {b:Nat}(hs:slot a d= .pointer(some⟨b,0,none⟩)):W.heap.size≤b∧Blk w b(if f S then cs else zs)T:=by
 obtain⟨b',h1,h2,h3⟩:=h.2 hA
 rw [hs]at h1
 cases h1
 exact⟨h2,h3⟩
theorem LJ.store(h:LJ W A S d zs cs T f a w)(e1:f' A=f A)(e2:f' S=true)(s:slot a' d=slot a d) {b:Nat}(hA:f A=true)(hb:slot a d= .pointer(some⟨b,0,none⟩))(hB:Blk w' b cs T)(hu:Upd(fun k=> k=b)w w'):LJ W A S d zs cs T f' a' w' :=by
 obtain⟨h2,h3⟩:=h.at' hA hb
 refine⟨h.1.trans((hu.below(B:=W.heap.size)h.1.size(fun k hk=> by omega))),fun _=> ⟨b,by rw [s];exact hb,h2,?_⟩⟩
 rw [e2]
 exact hB
end
end Go.Proofs.YtjpjafajploiaaaGreatDoor
namespace Go.Proofs.YtjpjafajploiaaaGreatDoor
open Go.RowKit
def withinB(x l m:Int):Bool:=decide(l≤x) && decide(x≤m)
def pathB(s:ByteArray):Bool:=decide(s.size≤100)
def emp(s:ByteArray):Bool:=s.toList.isEmpty
def mayB(sys a b:Int)(s t:ByteArray):Bool:=
 if sys=1 then pathB s && withinB a 0 7 && decide(0=b) && emp t
 else if sys=2 then withinB a 0 7 && decide(0=b) && emp s && emp t
 else if sys=3 then withinB a 0 7 && withinB b 0 512 && emp s && emp t
 else if sys=4 then withinB a 0 7 && decide((s.size:Int)≤512) && decide(0=b) && emp t
 else if sys=5 then withinB a 0 7 && withinB b 0 512 && emp s && emp t
 else if sys=6 then withinB a 0 7 && decide(0=b) && emp s && emp t
 else if sys=7 then pathB s && pathB t && decide(0=a) && decide(0=b)
 else if sys=8 then pathB s && decide(0=a) && decide(0=b) && emp t
 else if sys=9 then pathB s && decide(0=a) && decide(0=b) && emp t
 else if sys=10 then pathB s && decide(0=a) && decide(0=b) && emp t
 else if sys=11 then decide(0=a) && decide(0=b) && emp s && emp t
 else if sys=12 then pathB s && decide(0=a) && decide(0=b) && emp t
 else if sys=13 then pathB s && decide(0=a) && decide(0=b) && emp t
 else if sys=14 then withinB a 0 39 && decide(0=b) && emp s && emp t
 else if sys=15 then withinB a 0 255 && decide(0=b) && emp s && emp t
 else if sys=16 then decide(0=a) && decide(0=b) && emp s && emp t
 else if sys=17 then decide(0=a) && decide(0=b) && emp s && emp t
 else false
theorem mayB_1(a b:Int)(s t:ByteArray):mayB 1 a b s t=(pathB s && withinB a 0 7 && decide(0=b) && emp t):=rfl
theorem mayB_2(a b:Int)(s t:ByteArray):mayB 2 a b s t=(withinB a 0 7 && decide(0=b) && emp s && emp t):=rfl
theorem mayB_3(a b:Int)(s t:ByteArray):mayB 3 a b s t=(withinB a 0 7 && withinB b 0 512 && emp s && emp t):=rfl
theorem mayB_4(a b:Int)(s t:ByteArray):mayB 4 a b s t=(withinB a 0 7 && decide((s.size:Int)≤512) && decide(0=b) && emp t):=rfl
theorem mayB_5(a b:Int)(s t:ByteArray):mayB 5 a b s t=(withinB a 0 7 && withinB b 0 512 && emp s && emp t):=rfl
theorem mayB_6(a b:Int)(s t:ByteArray):mayB 6 a b s t=(withinB a 0 7 && decide(0=b) && emp s && emp t):=rfl
theorem mayB_7(a b:Int)(s t:ByteArray):mayB 7 a b s t=(pathB s && pathB t && decide(0=a) && decide(0=b)):=rfl
theorem mayB_8(a b:Int)(s t:ByteArray):mayB 8 a b s t=(pathB s && decide(0=a) && decide(0=b) && emp t):=rfl
theorem mayB_9(a b:Int)(s t:ByteArray):mayB 9 a b s t=(pathB s && decide(0=a) && decide(0=b) && emp t):=rfl
theorem mayB_10(a b:Int)(s t:ByteArray):mayB 10 a b s t=(pathB s && decide(0=a) && decide(0=b) && emp t):=rfl
theorem mayB_11(a b:Int)(s t:ByteArray):mayB 11 a b s t=(decide(0=a) && decide(0=b) && emp s && emp t):=rfl
theorem mayB_12(a b:Int)(s t:ByteArray):mayB 12 a b s t=(pathB s && decide(0=a) && decide(0=b) && emp t):=rfl
theorem mayB_13(a b:Int)(s t:ByteArray):mayB 13 a b s t=(pathB s && decide(0=a) && decide(0=b) && emp t):=rfl
theorem mayB_14(a b:Int)(s t:ByteArray):mayB 14 a b s t=(withinB a 0 39 && decide(0=b) && emp s && emp t):=rfl
theorem mayB_15(a b:Int)(s t:ByteArray):mayB 15 a b s t=(withinB a 0 255 && decide(0=b) && emp s && emp t):=rfl
theorem mayB_16(a b:Int)(s t:ByteArray):mayB 16 a b s t=(decide(0=a) && decide(0=b) && emp s && emp t):=rfl
theorem mayB_17(a b:Int)(s t:ByteArray):mayB 17 a b s t=(decide(0=a) && decide(0=b) && emp s && emp t):=rfl
theorem mayB_x {sys:Int}(h:sys < 1∨17 < sys)(a b:Int)(s t:ByteArray):mayB sys a b s t=false:=by
 unfold mayB
 repeat(rw [if_neg(by omega)])
end Go.Proofs.YtjpjafajploiaaaGreatDoor
