/-
  The vfs with its bytes: what is written, read; a vfs of the call's own (DV), and what each call makes of it.
-/
import Derived.Test.YtjpjafajploiaaaGreatDoorUnixAlone16
import Derived.StillTailTactics
set_option linter.unusedSimpArgs false
set_option linter.unusedVariables false
namespace Go.Proofs.YtjpjafajploiaaaGreatDoor
open Go.RowKit Own RegJ Two
open Go.Lib hiding intOf
def setB(nd:Nd)(bs:List Int):Nd:= {nd with bs:=bs}
theorem files_put {ns:NSt} {i:Nat} {nd:Nd}(hi:ns i=some nd)(hd:nd.dir=false)(bs:List Int):filesOf(nsPut ns i(some(setB nd bs)))=fsPut(filesOf ns)i(some bs):=by
 funext j
 unfold filesOf nsPut fsPut setB
 by_cases h:j=i
 ·rw [if_pos h,if_pos h];simp [hd]
 ·rw [if_neg h,if_neg h]
theorem fsAt_files(ns:NSt)(id:Int):fsAt(filesOf ns)id=(match ndAt ns id with | some nd=> if nd.dir=true then none else some nd.bs | none=> none):=by
 unfold fsAt filesOf ndAt
 by_cases h:0≤id
 ·simp only [if_pos h]
  cases ns id.toNat <;> rfl
 ·simp only [if_neg h]
def wrF(ns:NSt)(F:Nat)(id off:Int)(b:List Int):Int×NSt:=match ndAt ns id with
 | none=> (4,ns)
 | some nd=> if nd.dir=true then(4,ns)else if off < 0 then(19,ns)else if b.length=0 then(0,ns)else if 512 < b.length∨512 - (b.length:Int) < off then(15,ns)
  else if F+(nd.bs.length+63) / 64 < usedN(filesOf ns)16+(max nd.bs.length(off.toNat+b.length)+63) / 64 then(15,ns)
  else(0,nsPut ns id.toNat(some(setB nd(writeB nd.bs off.toNat b))))
def SameN(ns ns' :NSt):Prop:=ns' =ns∨∃i nd bs,ns i=some nd∧nd.dir=false∧ns' =nsPut ns i(some(setB nd bs))
theorem wrF_is(ns:NSt)(F:Nat)(id off:Int)(b:List Int):writeR(filesOf ns)F id off b=((wrF ns F id off b).1,filesOf(wrF ns F id off b).2)∧SameN ns(wrF ns F id off b).2:=by
 unfold writeR wrF
 rw [fsAt_files]
 cases hn:ndAt ns id with
 | none=> exact⟨rfl,Or.inl rfl⟩
 | some nd=>
  obtain⟨i,rfl,hi⟩:=ndAt_some hn
  cases hd:nd.dir with
  | true=>
   simp only [hd,if_true]
   exact⟨trivial,Or.inl rfl⟩
  | false=>
   simp only [hd,Int.toNat_natCast,Bool.false_eq_true,if_false]
   by_cases h1:off < 0
   ·rw [if_pos h1,if_pos h1];exact⟨rfl,Or.inl rfl⟩
   ·rw [if_neg h1,if_neg h1]
    by_cases h2:b.length=0
    ·rw [if_pos h2,if_pos h2];exact⟨rfl,Or.inl rfl⟩
    ·rw [if_neg h2,if_neg h2]
     by_cases h3:512 < b.length∨512 - (b.length:Int) < off
     ·rw [if_pos h3,if_pos h3];exact⟨rfl,Or.inl rfl⟩
     ·rw [if_neg h3,if_neg h3]
      by_cases h4:F+(nd.bs.length+63) / 64 < usedN(filesOf ns)16+(max nd.bs.length(off.toNat+b.length)+63) / 64
      ·rw [if_pos h4,if_pos h4];exact⟨rfl,Or.inl rfl⟩
      ·rw [if_neg h4,if_neg h4]
       exact⟨by rw [files_put hi hd],Or.inr⟨i,nd,_,hi,hd,rfl⟩⟩
theorem SameN.iv {ns ns' :NSt} {c:Nat}(h:SameN ns ns')(hV:IV ns c):IV ns' c:=by
 rcases h with rfl | ⟨i,nd,bs,hi,hd,rfl⟩
 ·exact hV
 ·have hp:∀j x,nsPut ns i(some(setB nd bs))j=some x→∃y,ns j=some y∧x.dir=y.dir∧x.links=y.links∧x.opens=y.opens∧x.es=y.es:=fun j x hx=> by
   rcases put_some hx with⟨rfl,rfl⟩ | ⟨_,hx⟩
   ·exact⟨nd,hi,rfl,rfl,rfl,rfl⟩
   ·exact⟨x,hx,rfl,rfl,rfl,rfl⟩
  refine⟨hV.inv.opens hi rfl rfl(hV.inv.opn i nd hi),rt_put hV.root i _(fun _=> rfl),fun j x hx=> ?_,fun j x hx=> ?_,fun j x hx=> ?_,?_,fun j x hx hxd=> ?_⟩
  ·obtain⟨y,hy,_,_,_,e⟩:=hp j x hx
   rw [e];exact hV.len j y hy
  ·obtain⟨y,hy,_,_,_,e⟩:=hp j x hx
   rw [e];exact hV.srt j y hy
  ·obtain⟨y,hy,_,_,e,_⟩:=hp j x hx
   rw [e];exact hV.opn j y hy
  ·intro j x hj0 hjf hx
   obtain⟨y,hy,e1,e2,e3,e4⟩:=hp j x hx
   rw [e2,e3];exact hV.clean j y hj0 hjf hy
  ·obtain⟨y,hy,e1,_,_,e⟩:=hp j x hx
   rw [e];exact hV.fil j y hy(by rw [←e1];exact hxd)
theorem SameN.cond {ns ns' :NSt}(h:SameN ns ns'):(∀i,(ns' i).isSome=(ns i).isSome)∧∀i nd,ns' i=some nd→∃nd0,ns i=some nd0∧nd.dir=nd0.dir∧nd.links=nd0.links∧nd.opens=nd0.opens∧nd.es=nd0.es:=by
 rcases h with rfl | ⟨i,nd,bs,hi,hd,rfl⟩
 ·exact⟨fun _=> rfl,fun i nd h=> ⟨nd,h,rfl,rfl,rfl,rfl⟩⟩
 ·refine⟨fun j=> ?_,fun j x hx=> ?_⟩
  ·by_cases e:j=i
   ·subst e;rw [put_eq,hi];rfl
   ·rw [put_ne _ _ _ e]
  ·rcases put_some hx with⟨rfl,rfl⟩ | ⟨_,hx⟩
   ·exact⟨nd,hi,rfl,rfl,rfl,rfl⟩
   ·exact⟨x,hx,rfl,rfl,rfl,rfl⟩
def DV [Inhabited CapT](w0:World)(vb tb fb sb:Nat)(ns:NSt)(c:Nat)(w:World):Prop:=∃lo,VV w vb tb ns lo c∧Below w0.heap.size w0 w∧(∀r k,lo r=some k→w0.heap.size≤k)∧lo(.st .frm)=some fb∧lo(.st .sto)=some sb
section
variable {w0 w w' :World} {vb tb fb sb:Nat} {ns ns' ns2:NSt} {lo:Lo} {c d:Nat}
theorem DV.fr [Inhabited CapT] {lo lo' :Lo}(hV:VV w' vb tb ns' lo' c)(hF:TFr lo lo' w w')(hB:Below w0.heap.size w0 w)(hb:∀r k,lo r=some k→w0.heap.size≤k)(h1:lo(.st .frm)=some fb)(h2:lo(.st .sto)=some sb):DV w0 vb tb fb sb ns' c w' :=by
 obtain⟨b1,b2⟩:=hF.below hb hB.size
 exact⟨lo',hV,hB.trans b1,b2,hF.2.2.2.trans h1,hF.2.2.1.trans h2⟩
theorem DV.far [Inhabited CapT](h:DV w0 vb tb fb sb ns c w):∀j,16≤j→ns j=none:=by
 obtain⟨lo,h1,_⟩:=h
 exact h1.1.2.1.far
theorem d_nodes [Inhabited CapT](h:DV w0 vb tb fb sb ns c w):Calls Tryz.prog 30 #[.pointer(some⟨vb,0,none⟩)]w fun e w' => e= .returned(.pointer(some⟨tb,0,none⟩))∧w=w' :=by
 obtain⟨lo,h1,h2,h3⟩:=h
 have c0:=h1.1.cell
 clear h1 h2 h3
 go_enter Tryz.func30,Tryz.ntmps30
 go_wp2
 go_ret
 exact⟨rfl,rfl⟩
theorem d_store [Inhabited CapT](h:DV w0 vb tb fb sb ns c w):Calls Tryz.prog 141 #[.pointer(some⟨vb,0,none⟩)]w fun e w' => e= .returned(.pointer(some⟨sb,0,none⟩))∧w=w' :=by
 obtain⟨lo,h1,h2,h3,h4,h5⟩:=h
 obtain⟨sb',k1,c0⟩:=h1.1.cell0
 obtain rfl:sb=sb' :=by rw [h5]at k1;exact Option.some.inj k1
 clear h1 h2 h3 h4 h5 k1
 go_enter Tryz.func141,Tryz.ntmps141
 go_wp2
 go_ret
 exact⟨rfl,rfl⟩
theorem d_size [Inhabited CapT](h:DV w0 vb tb fb sb ns c w)(id:Int)(hw:(Lit.int .i64 id).wf=true)(r1 r2:Int)(hr:sizeV(filesOf ns)id=(r1,r2)):Calls Tryz.prog 142 #[.pointer(some⟨sb,0,none⟩),.int .i64 id]w fun e w' => e= .returned(.tuple #[.int .i64 r1,.int .i64 r2])∧w=w' :=by
 obtain⟨lo,h1,h2,h3,h4,h5⟩:=h
 exact s_size h1.1.2.1.sto sb h5 id hw r1 r2 hr
def ArgB(w0:World)(v:Value)(b:List Int):Prop:=∃a c,v= .slice a b.length c∧b.length≤c∧(0 < b.length→∃g q,a=some⟨g,q,none⟩∧RdV w0(some⟨g,q,none⟩)(ucells b)∧g < w0.heap.size)
theorem rdv_far {b:List Int} {g q:Nat}(h:RdV w0(some⟨g,q,none⟩)(ucells b))(hg:g < w0.heap.size)(hB:Below w0.heap.size w0 w):RdV w(some⟨g,q,none⟩)(ucells b):=by
 intro j u hj
 obtain⟨A,e,h2⟩:=h j u hj
 cases e
 refine⟨_,rfl,?_⟩
 rw [←h2]
 exact hB.cell(by rw [Addr.add_mid];exact hg)
end
end Go.Proofs.YtjpjafajploiaaaGreatDoor
namespace Go.Proofs.YtjpjafajploiaaaGreatDoor
open Go.RowKit Own RegJ Two
open Go.Lib hiding intOf
section
variable {w w' :World} {vb tb:Nat} {ns ns' :NSt} {lo lo' :Lo} {N c d:Nat}
abbrev flA(n:Int):Bool:=Go.bits Go.BinOp.and Go.IntKind.i64 n 1 !=0
abbrev flB(n:Int):Bool:=Go.bits Go.BinOp.and Go.IntKind.i64 n 2 !=0
set_option maxRecDepth 100000 in
theorem open_bad(vb:Nat)(s:ByteArray)(n:Int)(hn:n < 0∨7 < n):Calls Tryz.prog 79 #[.pointer(some⟨vb,0,none⟩),.string s,.int .i64 n]w fun e w' => e= .returned(.tuple #[.int .i64 0,.int .i64 19])∧Below w.heap.size w w' :=by
 have hB:Below w.heap.size w(w.alloc(.cells #[.pointer(some⟨vb,0,none⟩)]66)):=(Below.refl _ _).alloc(Nat.le_refl _)_
 have c0:=(Blk.new w #[.pointer(some⟨vb,0,none⟩)]66).rd
 rcases hn with hn | hn
 ·go_enter Tryz.func79,Tryz.ntmps79
  go_wp2
  go_returns
  exact⟨rfl,hB⟩
 ·have hn2:¬n < 0:=by omega
  go_enter Tryz.func79,Tryz.ntmps79
  go_wp2
  go_returns
  exact⟨rfl,hB⟩
set_option maxRecDepth 100000 in
theorem open_err [Inhabited CapT](h:VV w vb tb ns lo c)(l:Txt)(hl:l.length≤100000)(a e0:Int)(hw:walkR ns l=(a,e0))(he:e0≠0)(n:Int)(hn:0≤n∧n≤7)(hf:e0=9→flA n=false):Calls Tryz.prog 79 #[.pointer(some⟨vb,0,none⟩),.string(B l),.int .i64 n]w fun e w' => e= .returned(.tuple #[.int .i64 0,.int .i64 e0])∧Below w.heap.size w w' :=by
 have hB0:Below w.heap.size w(w.alloc(.cells #[.pointer(some⟨vb,0,none⟩)]66)):=(Below.refl _ _).alloc(Nat.le_refl _)_
 have hwk:=walk_is(h.below hB0).1 l hl a e0 hw
 have hbv:=Blk.new w #[.pointer(some⟨vb,0,none⟩)]66
 have c0:=hbv.rd
 have n1:¬n < 0:=by omega
 have n2:¬7 < n:=by omega
 have H:=Lib.hid(And.intro hB0 hbv)
 clear h hB0 hbv hl hw hn
 generalize B l=L at*
 unfold flA at hf
 by_cases h9:e0=9
 ·have hf9:=hf h9
  subst h9
  clear hf he
  go_enter Tryz.func79,Tryz.ntmps79
  go_wp2_with(go_at_call 70;(with_reducible refine hwk.mono ?_);rintro e w1⟨rfl,hB⟩;have hb1:=(Blk.below hB H.out.2 H.out.2.lt).alloc(.cells #[.int .i64 a]3);clear c0;have c0:=hb1.rd;have H1:=Lib.hid hB;clear hB hwk hb1)
  go_returns
  have hb:=H.out.1.trans(H1.out.mono H.out.1.size)
  exact⟨rfl,hb.alloc hb.size _⟩
 ·clear hf
  go_enter Tryz.func79,Tryz.ntmps79
  go_wp2_with(go_at_call 70;(with_reducible refine hwk.mono ?_);rintro e w1⟨rfl,hB⟩;have hb1:=(Blk.below hB H.out.2 H.out.2.lt).alloc(.cells #[.int .i64 a]3);clear c0;have c0:=hb1.rd;have H1:=Lib.hid hB;clear hB hwk hb1)
  go_returns
  have hb:=H.out.1.trans(H1.out.mono H.out.1.size)
  exact⟨rfl,hb.alloc hb.size _⟩
set_option maxRecDepth 100000 in
theorem open_dir [Inhabited CapT](h:VV w vb tb ns lo c)(l:Txt)(hl:l.length≤100000)(a:Int)(hw:walkR ns l=(a,0))(hd:isDirF ns a=true)(n:Int)(hn:0≤n∧n≤7):Calls Tryz.prog 79 #[.pointer(some⟨vb,0,none⟩),.string(B l),.int .i64 n]w fun e w' => e= .returned(.tuple #[.int .i64 0,.int .i64 12])∧Below w.heap.size w w' :=by
 have hB0:Below w.heap.size w(w.alloc(.cells #[.pointer(some⟨vb,0,none⟩)]66)):=(Below.refl _ _).alloc(Nat.le_refl _)_
 have hwk:=walk_is(h.below hB0).1 l hl a 0 hw
 have hbv:=Blk.new w #[.pointer(some⟨vb,0,none⟩)]66
 have c0:=hbv.rd
 have n1:¬n < 0:=by omega
 have n2:¬7 < n:=by omega
 have H:=Lib.hid(And.intro hB0(And.intro hbv(And.intro h hd)))
 clear h hB0 hbv hl hw hn hd
 generalize B l=L at*
 go_enter Tryz.func79,Tryz.ntmps79
 go_wp2_with(first
  | (go_at_call 70;(with_reducible refine hwk.mono ?_);rintro e w1⟨rfl,hB⟩;have hb1:=(Blk.below hB H.out.2.1 H.out.2.1.lt).alloc(.cells #[.int .i64 a]3);clear c0;have c0:=hb1.rd;have c1:=(Blk.new w1 #[.int .i64 a]3).rd;have hb:=H.out.1.trans(hB.mono H.out.1.size);have hb2:=hb.alloc hb.size(.cells #[.int .i64 a]3);have hid:=isdir_is(H.out.2.2.1.below hb2).1 a true H.out.2.2.2;have H1:=Lib.hid hb2;clear hB hwk hb1 hb hb2)
  | (go_at_call 86;(with_reducible refine hid.mono ?_);rintro e w2⟨rfl,hB⟩;have H2:=Lib.hid hB;clear hB hid))
 go_returns
 exact⟨rfl,H1.out.trans(H2.out.mono H1.out.size)⟩
end
end Go.Proofs.YtjpjafajploiaaaGreatDoor
/-
 Open of a file as it is(no FlagFresh).
-/
namespace Go.Proofs.YtjpjafajploiaaaGreatDoor
open Go.RowKit Own RegJ Two
open Go.Lib hiding intOf
section
variable {w w' :World} {vb tb:Nat} {ns ns' :NSt} {lo lo' :Lo} {N c d:Nat}
set_option maxRecDepth 100000 in
theorem open_old [Inhabited CapT](h:VV w vb tb ns lo c)(hc:c≤9000)(l:Txt)(hl:l.length≤100000)(i:Nat)(hw:walkR ns l=((i:Int),0))(nd:Nd)(hi:ns i=some nd)(hd:isDirF ns i=false)(n:Int)(hn:0≤n∧n≤7)(hf:flB n=false):Calls Tryz.prog 79 #[.pointer(some⟨vb,0,none⟩),.string(B l),.int .i64 n]w(MadP w vb tb(nsPut ns i(some(addO nd 1)))lo(c+1)(.tuple #[.int .i64 i,.int .i64 0])):=by
 have hB0:Below w.heap.size w(w.alloc(.cells #[.pointer(some⟨vb,0,none⟩)]66)):=(Below.refl _ _).alloc(Nat.le_refl _)_
 have hwk:=walk_is(h.below hB0).1 l hl i 0 hw
 have hbv:=Blk.new w #[.pointer(some⟨vb,0,none⟩)]66
 have c0:=hbv.rd
 have n1:¬n < 0:=by omega
 have n2:¬7 < n:=by omega
 have ho:0≤nd.opens∧nd.opens≤100000:=⟨h.2.inv.opn i nd hi,by have:=h.2.opn i nd hi;omega⟩
 have hop:∀W,Below w.heap.size w W→Calls Tryz.prog 134 #[.pointer(some⟨tb,0,none⟩),.int .i64 i]W fun e w' => e= .returned(.int .i64 0)∧∃lo',VV w' vb tb(nsPut ns i(some(addO nd 1)))lo' (c+1)∧TFr lo lo' W w' :=fun W hB=> by
  have hW:=h.below hB
  refine(open_yes hW.1.2.1 i nd hi ho.1 ho.2).mono ?_
  rintro e w' ⟨rfl,hT,hF⟩
  exact⟨rfl,lo,⟨(hW.1.step hT hF).le(by omega),h.2.opened hi⟩,hF⟩
 have H:=Lib.hid(And.intro hB0(And.intro hbv(And.intro h(And.intro hd hop))))
 clear h hB0 hbv hl hw hn hd hop hi ho
 generalize B l=L at*
 generalize hI:(i:Int)=I at*
 unfold flB at hf
 go_enter Tryz.func79,Tryz.ntmps79
 go_wp2_with(first
  | (go_at_call 70;(with_reducible refine hwk.mono ?_);rintro e w1⟨rfl,hB⟩;have hb1:=(Blk.below hB H.out.2.1 H.out.2.1.lt).alloc(.cells #[.int .i64 I]3);clear c0;have c0:=hb1.rd;have c1:=(Blk.new w1 #[.int .i64 I]3).rd;have hz1:=(Blk.below hB H.out.2.1 H.out.2.1.lt).lt;have hb:=H.out.1.trans(hB.mono H.out.1.size);have hb2:=hb.alloc hb.size(.cells #[.int .i64 I]3);have hid:=isdir_is(H.out.2.2.1.below hb2).1 I false H.out.2.2.2.1;have H1:=Lib.hid(And.intro hb2 hb1);clear hB hwk hb1 hb hb2)
  | (go_at_call 86;(with_reducible refine hid.mono ?_);rintro e w2⟨rfl,hB⟩;have hb:=H1.out.1.trans(hB.mono H1.out.1.size);have k0:=Blk.below hB H1.out.2 H1.out.2.lt;have k1:=Blk.below hB(Blk.new w1 #[.int .i64 I]3)(Blk.new w1 #[.int .i64 I]3).lt;have cv:=(H.out.2.2.1.below hb).1.cell;have c0:=k0.rd;have c1:=k1.rd;have f0:=k0.nf;have H2:=Lib.hid hb;clear hB hid hb k0 k1))
 go_still_tail 5,(by kernel_rfl)
 change wpList _ _ _ _ _ w2.drew
 have hbd:Below w.heap.size w w2.drew:=H2.out.drew
 have hop:=H.out.2.2.2.2 _ hbd
 have c1' :w2.drew.cell? ⟨w1.heap.size,0,none⟩=some(.int .i64 I):=c1 0
 have hlt:=H.out.2.2.1.lts.2.1
 have H3:=Lib.hid hbd
 clear hbd c0 c1 cv f0
 generalize w2.drew=w3 at*
 go_wp2_with(go_at_call 134;(with_reducible refine hop.mono ?_);rintro e w4⟨rfl,lo4,hV,hF⟩;have c4:w4.cell? ⟨w1.heap.size,0,none⟩=some(.int .i64 I):=cell_upd hF.1 c1' (fun⟨r,hr⟩=> by have:w1.heap.size < w.heap.size:=hlt r _ hr;omega);have H4:=Lib.hid(And.intro hV hF);clear hop hV hF)
 go_returns
 exact⟨rfl,lo4,H4.out.1,(TFr.of_below H3.out).trans H4.out.2⟩
end
end Go.Proofs.YtjpjafajploiaaaGreatDoor
/-
 Open of a file,cut(FlagFresh).
-/
namespace Go.Proofs.YtjpjafajploiaaaGreatDoor
open Go.RowKit Own RegJ Two
open Go.Lib hiding intOf
section
variable {w w' :World} {vb tb:Nat} {ns ns' :NSt} {lo lo' :Lo} {N c d:Nat}
theorem cut_f [Inhabited CapT](h:VV w vb tb ns lo c)(sb:Nat)(hsb:lo(.st .sto)=some sb)(i:Nat)(nd:Nd)(hi:ns i=some nd)(hd:nd.dir=false):
  Calls Tryz.prog 133 #[.pointer(some⟨sb,0,none⟩),.int .i64 i]w fun e w' => e= .returned(.int .i64 0)∧∃lo',VV w' vb tb(nsPut ns i(some(setB nd [])))lo' c∧TFr lo lo' w w' :=by
 have hfs:filesOf ns i=some nd.bs:=by unfold filesOf;rw [hi];simp [hd]
 have hSN:SameN ns(nsPut ns i(some(setB nd []))):=Or.inr⟨i,nd,[],hi,hd,rfl⟩
 have hcut:=s_cut h.1.2.1.sto sb hsb i nd.bs hfs
 rw [←files_put hi hd []]at hcut
 refine hcut.mono ?_
 rintro e w' ⟨rfl,so,hS,hF,hs1,hs2⟩
 have hT:=h.1.2.1.store hS hF hs1 hSN.cond.1 hSN.cond.2
 have hTF:TFr lo(loSt lo so)w w' :=by
  refine⟨hF.1.mono(fun k _⟨q,hq⟩=> ⟨.st q,hq⟩),fun r k hk=> ?_,hs1,hs2⟩
  rcases loSt_old hk with⟨q,rfl,e⟩ | ⟨e,_⟩
  ·rcases hF.2 q k e with⟨q',e⟩ | e
   ·exact Or.inl⟨.st q',e⟩
   ·exact Or.inr e
  ·exact Or.inl⟨r,e⟩
 exact⟨rfl,_,⟨h.1.step hT hTF,hSN.iv h.2⟩,hTF⟩
set_option maxRecDepth 100000 in
theorem open_fresh [Inhabited CapT](h:VV w vb tb ns lo c)(hc:c≤9000)(l:Txt)(hl:l.length≤100000)(i:Nat)(hw:walkR ns l=((i:Int),0))(nd:Nd)(hi:ns i=some nd)(hd:nd.dir=false)(n:Int)(hn:0≤n∧n≤7)(hf:flB n=true):Calls Tryz.prog 79 #[.pointer(some⟨vb,0,none⟩),.string(B l),.int .i64 n]w(MadP w vb tb(nsPut ns i(some(addO(setB nd [])1)))lo(c+1)(.tuple #[.int .i64 i,.int .i64 0])):=by
 have hB0:Below w.heap.size w(w.alloc(.cells #[.pointer(some⟨vb,0,none⟩)]66)):=(Below.refl _ _).alloc(Nat.le_refl _)_
 have hwk:=walk_is(h.below hB0).1 l hl i 0 hw
 have hbv:=Blk.new w #[.pointer(some⟨vb,0,none⟩)]66
 have c0:=hbv.rd
 have n1:¬n < 0:=by omega
 have n2:¬7 < n:=by omega
 have hdir:isDirF ns i=false:=by unfold isDirF;rw [(by unfold ndAt;simp [hi]:ndAt ns(i:Int)=some nd)];exact hd
 obtain⟨sb,hsb,_⟩:=h.1.cell0
 have hct:∀W,Below w.heap.size w W→W.cell? ⟨vb,0,none⟩=some(.pointer(some⟨sb,0,none⟩))∧Calls Tryz.prog 133 #[.pointer(some⟨sb,0,none⟩),.int .i64 i]W fun e w' => e= .returned(.int .i64 0)∧∃lo',VV w' vb tb(nsPut ns i(some(setB nd [])))lo' c∧TFr lo lo' W w' :=fun W hB=> by
  have hW:=h.below hB
  obtain⟨sb2,h1,h2⟩:=hW.1.cell0
  rw [hsb]at h1;cases h1
  exact⟨h2,cut_f hW sb hsb i nd hi hd⟩
 have hop:∀W lo1,VV W vb tb(nsPut ns i(some(setB nd [])))lo1 c→Calls Tryz.prog 134 #[.pointer(some⟨tb,0,none⟩),.int .i64 i]W fun e w' => e= .returned(.int .i64 0)∧∃lo',VV w' vb tb(nsPut ns i(some(addO(setB nd [])1)))lo' (c+1)∧TFr lo1 lo' W w' :=fun W lo1 hW=> by
  have hi2:nsPut ns i(some(setB nd []))i=some(setB nd []):=put_eq _ _ _
  have e2:nsPut(nsPut ns i(some(setB nd [])))i(some(addO(setB nd [])1))=nsPut ns i(some(addO(setB nd [])1)):=by
   funext j
   by_cases hj:j=i
   ·subst hj;rw [put_eq,put_eq]
   ·rw [put_ne _ _ _ hj,put_ne _ _ _ hj,put_ne _ _ _ hj]
  refine(open_yes hW.1.2.1 i _ hi2(hW.2.inv.opn i _ hi2)(by have:=hW.2.opn i _ hi2;omega)).mono ?_
  rintro e w' ⟨rfl,hT,hF⟩
  have hV:=(⟨(hW.1.step hT hF).le(by omega),hW.2.opened hi2⟩:VV w' vb tb _ lo1(c+1))
  rw [e2]at hV
  exact⟨rfl,lo1,hV,hF⟩
 have H:=Lib.hid(And.intro hB0(And.intro hbv(And.intro h(And.intro hdir(And.intro hct hop)))))
 clear h hB0 hbv hl hw hn hd hop hi hdir hct hsb
 generalize B l=L at*
 generalize hI:(i:Int)=I at*
 unfold flB at hf
 go_enter Tryz.func79,Tryz.ntmps79
 go_wp2_with(first
  | (go_at_call 70;(with_reducible refine hwk.mono ?_);rintro e w1⟨rfl,hB⟩;have hb1:=(Blk.below hB H.out.2.1 H.out.2.1.lt).alloc(.cells #[.int .i64 I]3);clear c0;have c0:=hb1.rd;have c1:=(Blk.new w1 #[.int .i64 I]3).rd;have hz1:=(Blk.below hB H.out.2.1 H.out.2.1.lt).lt;have hb:=H.out.1.trans(hB.mono H.out.1.size);have hb2:=hb.alloc hb.size(.cells #[.int .i64 I]3);have hid:=isdir_is(H.out.2.2.1.below hb2).1 I false H.out.2.2.2.1;have H1:=Lib.hid(And.intro hb2 hb1);clear hB hwk hb1 hb hb2)
  | (go_at_call 86;(with_reducible refine hid.mono ?_);rintro e w2⟨rfl,hB⟩;have hb:=H1.out.1.trans(hB.mono H1.out.1.size);have k0:=Blk.below hB H1.out.2 H1.out.2.lt;have k1:=Blk.below hB(Blk.new w1 #[.int .i64 I]3)(Blk.new w1 #[.int .i64 I]3).lt;have cv:=(H.out.2.2.2.2.1 _ hb).1;have c0:=k0.rd;have c1:=k1.rd;have f0:=k0.nf;have hz2:=k1.lt;have H2:=Lib.hid hb;clear hB hid hb k0 k1))
 go_still_tail 5,(by kernel_rfl)
 change wpList _ _ _ _ _ w2.drew
 have hbd:Below w.heap.size w w2.drew:=H2.out.drew
 have hcut:=(H.out.2.2.2.2.1 _ hbd).2
 have c0' :w2.drew.cell? ⟨w.heap.size,0,none⟩=some(.pointer(some⟨vb,0,none⟩)):=c0 0
 have c1' :w2.drew.cell? ⟨w1.heap.size,0,none⟩=some(.int .i64 I):=c1 0
 have hlt:=H.out.2.2.1.lts.2.1
 have hzz:w1.heap.size < w2.drew.heap.size:=hz2
 have H3:=Lib.hid hbd
 clear hbd c0 c1 cv f0
 generalize w2.drew=w3 at*
 go_wp2_with(go_at_call 133;(with_reducible refine hcut.mono ?_);rintro e w4⟨rfl,lo4,hV,hF⟩;have c4:w4.cell? ⟨w1.heap.size,0,none⟩=some(.int .i64 I):=cell_upd hF.1 c1' (fun⟨r,hr⟩=> by have:w1.heap.size < w.heap.size:=hlt r _ hr;omega);have c5:w4.cell? ⟨w.heap.size,0,none⟩=some(.pointer(some⟨vb,0,none⟩)):=cell_upd hF.1 c0' (fun⟨r,hr⟩=> by have:w.heap.size < w.heap.size:=hlt r _ hr;omega);have cv:=hV.1.cell;have hlt4:∀r k,lo4 r=some k→k≠w1.heap.size:=(fun r k hk e=> (hF.2.1 r k hk).elim(fun⟨r',hr'⟩=> by have:=hlt r' _ hr';omega)(fun h=> by omega));have H4:=Lib.hid(And.intro hV hF);clear hcut hV hF c0' c1')
 go_still_tail 5,(by kernel_rfl)
 change wpList _ _ _ _ _ w4.drew
 have hop:=H.out.2.2.2.2.2 w4.drew lo4(H4.out.1.below(Below.refl _ _).drew)
 have c4' :w4.drew.cell? ⟨w1.heap.size,0,none⟩=some(.int .i64 I):=c4
 have hF4:TFr lo lo4 w3 w4.drew:=H4.out.2.trans(TFr.of_below(Below.refl _ _).drew)
 have H5:=Lib.hid hF4
 clear c4 c5 cv hF4
 generalize w4.drew=w5 at*
 go_wp2_with(go_at_call 134;(with_reducible refine hop.mono ?_);rintro e w6⟨rfl,lo6,hV,hF⟩;have c6:w6.cell? ⟨w1.heap.size,0,none⟩=some(.int .i64 I):=cell_upd hF.1 c4' (fun⟨r,hr⟩=> hlt4 r _ hr rfl);have H6:=Lib.hid(And.intro hV hF);clear hop hV hF)
 go_returns
 exact⟨rfl,lo6,H6.out.1,((TFr.of_below H3.out).trans H5.out).trans H6.out.2⟩
end
end Go.Proofs.YtjpjafajploiaaaGreatDoor
/-
 Open that makes a file,with any flags;Open of any path(openF).
-/
namespace Go.Proofs.YtjpjafajploiaaaGreatDoor
open Go.RowKit Own RegJ Two
open Go.Lib hiding intOf
section
variable {w w' :World} {vb tb:Nat} {ns ns' :NSt} {lo lo' :Lo} {N c d:Nat}
theorem refs_ge {ns:NSt} {i:Nat} {nd:Nd}(hi:ns i=some nd)(m:Nat):∀k,i < k→cntE nd.es m≤refs ns m k
 | 0,h=> by omega
 | k+1,h=> by
  unfold refs
  by_cases e:i=k
  ·subst e;rw [hi];unfold cntO;simp
  ·have:=refs_ge hi m k(by omega);omega
theorem entry_live(hV:IV ns c) {i:Nat} {nd:Nd}(hi:ns i=some nd) {x:En}(hx:x∈nd.es):∃k nk,x.2=((k:Nat):Int)∧ns k=some nk:=by
 have hid:=hV.inv.ids i nd hi x hx
 refine⟨x.2.toNat,?_⟩
 have h16:i < 16:=Nat.lt_of_not_le fun h=> by rw [hV.inv.far i h]at hi;cases hi
 cases hk:ns x.2.toNat with
 | some nk=> exact⟨nk,by omega,rfl⟩
 | none=>
  exfalso
  have h1:=hV.inv.cnt x.2.toNat
  have h2:=refs_ge hi x.2.toNat 16 h16
  unfold lnk at h1
  rw [hk]at h1
  have h3:0 < cntE nd.es x.2.toNat:=by
   unfold cntE
   rw [List.count_pos_iff,Int.toNat_of_nonneg(by omega)]
   exact List.mem_map_of_mem hx
  simp only [List.count_nil]at h1
  omega
theorem walkL_nd(hV:IV ns c):∀(l:List Txt)(i:Nat)(nd:Nd),ns i=some nd→∀a,walkL ns i l=(a,0)→∃k nk,a=((k:Nat):Int)∧ns k=some nk
 | [],i,nd,hi,a,h=> by unfold walkL at h;cases h;exact⟨i,nd,rfl,hi⟩
 | x::r,i,nd,hi,a,h=> by
  unfold walkL at h
  by_cases h0:(findR ns i x).2=0
  ·rw [if_pos h0]at h
   unfold findR at h0 h
   cases hd:dirAt ns i with
   | none=> rw [hd]at h0;simp at h0
   | some nd2=>
    rw [hd]at h0 h
    simp only at h0 h
    obtain⟨i2,e2,hi2,_⟩:=dirAt_some hd
    cases hf:fndE nd2.es x with
    | none=> rw [hf]at h0;simp at h0
    | some k=>
     rw [hf]at h
     simp only at h
     unfold fndE at hf
     rw [Option.map_eq_some_iff]at hf
     obtain⟨y,hy,rfl⟩:=hf
     obtain⟨k,nk,e,hk⟩:=entry_live hV hi2(List.mem_of_find?_eq_some hy)
     rw [e]at h
     exact walkL_nd hV r k nk hk a h
  ·rw [if_neg h0]at h
   exact absurd(congrArg Prod.snd h)h0
theorem walkR_nd(hV:IV ns c) {l:Txt} {a:Int}(h:walkR ns l=(a,0)):∃k nk,a=((k:Nat):Int)∧ns k=some nk:=by
 unfold walkR at h
 by_cases h0:splitE l=0
 ·rw [if_pos h0]at h
  obtain⟨nd,hr⟩:=Option.isSome_iff_exists.mp hV.root
  exact walkL_nd hV _ 0 nd hr a h
 ·rw [if_neg h0]at h
  exact absurd(congrArg Prod.snd h)h0
theorem walkL_no {ns:NSt}:∀(l:List Txt)(id a e0:Int),walkL ns id l=(a,e0)→e0≠0→a=0
 | [],id,a,e0,h,he=> by unfold walkL at h;exact absurd(congrArg Prod.snd h).symm he
 | x::r,id,a,e0,h,he=> by
  unfold walkL at h
  by_cases h0:(findR ns id x).2=0
  ·rw [if_pos h0]at h;exact walkL_no r _ a e0 h he
  ·rw [if_neg h0]at h;exact(congrArg Prod.fst h).symm
theorem walkR_no {ns:NSt} {l:Txt} {a e0:Int}(h:walkR ns l=(a,e0))(he:e0≠0):a=0:=by
 unfold walkR at h
 by_cases h0:splitE l=0
 ·rw [if_pos h0]at h;exact walkL_no _ _ _ _ h he
 ·rw [if_neg h0]at h;exact(congrArg Prod.fst h).symm
set_option maxRecDepth 100000 in
theorem open_made [Inhabited CapT](h:VV w vb tb ns lo c)(hc:c≤9000)(l:Txt)(hl:l.length≤100000)(hw:walkR ns l=(0,9))(n:Int)(hn:0≤n∧n≤7)(hf:flA n=true)(m1 m2:Int)(ns' :NSt)(hm:newF ns l=(m1,m2,ns')):
  Calls Tryz.prog 79 #[.pointer(some⟨vb,0,none⟩),.string(B l),.int .i64 n]w(MadP w vb tb ns' lo(c+3)(.tuple #[.int .i64 m1,.int .i64 m2])):=by
 have n1:¬n < 0:=by omega
 have n2:¬7 < n:=by omega
 unfold flA at hf
 have hl0:=h.lts
 have hB0:Below w.heap.size w(w.alloc(.cells #[.pointer(some⟨vb,0,none⟩)]66)):=(Below.refl _ _).alloc(Nat.le_refl _)_
 have hwk:=walk_is(h.below hB0).1 l hl 0 9 hw
 have hbv:=Blk.new w #[.pointer(some⟨vb,0,none⟩)]66
 have c0:=hbv.rd
 have hpar:∀w1,Below w.heap.size(w.alloc(.cells #[.pointer(some⟨vb,0,none⟩)]66))w1→w1.cell? ⟨w.heap.size,0,none⟩=some(.pointer(some⟨vb,0,none⟩))→w.heap.size < w1.heap.size→Calls Tryz.prog 87 #[.pointer(some⟨vb,0,none⟩),.string(B l),.func(.func 131) #[] #[.pointer(some⟨w.heap.size,0,none⟩),.pointer(some⟨w1.heap.size,0,none⟩)]](w1.alloc(.cells #[.int .i64 0]3))
   fun e w2=> ∃r,e= .returned(.int .i64 r)∧OKP(w1.alloc(.cells #[.int .i64 0]3))vb tb ns' lo(c+3)w1.heap.size m1 m2 r w2:=fun w1 hB1 hcv hsz=> by
  have hBw:Below w.heap.size w w1:=hB0.trans hB1
  have hBn:=hBw.alloc hBw.size(.cells #[.int .i64 0]3)
  have h2:=h.below hBn
  have hbi:=Blk.new w1 #[.int .i64 0]3
  refine par_OpenF h2 l hl _ _ _(fun E w3 hB3 hE hE0=> ?_)(fun hE w3 hB3=> ?_)
  ·unfold newF at hm
   rw [if_neg(by rw [hE];exact hE0),hE]at hm
   cases hm
   exact⟨rfl,(Blk.below hB3 hbi hbi.lt).cell rfl,lo,(h2.below hB3).le(by omega),Upd.of_below hB3,fun r k hk=> Or.inl⟨r,hk⟩,rfl,rfl⟩
  ·unfold newF at hm
   rw [if_pos hE]at hm
   have hcv2:w3.cell? ⟨w.heap.size,0,none⟩=some(.pointer(some⟨vb,0,none⟩)):=cell_upd(Upd.of_below(F:=fun _=> False)hB3)(cell_upd((Upd.refl(fun _=> False)w1).alloc _)hcv(fun h=> h))(fun h=> h)
   refine(openK_is(h2.below hB3)hc w.heap.size w1.heap.size hcv2⟨_,Blk.below hB3 hbi hbi.lt⟩(fun r hr=> ?_)(by omega)(by omega)_ _ m1 m2 ns' hm).mono ?_
   ·have:=hl0.2.1 r _ hr;omega
   ·rintro e w4⟨r,rfl,h1,h2,lo',h3,h4,h5⟩
    have hz:=hB3.size
    exact⟨r,rfl,h1,h2,lo',h3,(Upd.of_below hB3).trans h4(fun _ _ e=> e),fun r k hk=> (h5.1 r k hk).elim Or.inl(fun e=> Or.inr(by omega)),h5.2⟩
 have H:=Lib.hid(And.intro h(And.intro hB0(And.intro hpar(And.intro hbv hl0))))
 clear h hB0 hpar hbv hl hw hm hl0
 generalize B l=L at*
 go_enter Tryz.func79,Tryz.ntmps79
 go_wp2_with(first
  | (go_at_call 70;(with_reducible refine hwk.mono ?_);rintro e w1⟨rfl,hB⟩;have hb1:=Blk.below hB H.out.2.2.2.1 H.out.2.2.2.1.lt;clear c0;have c0:=(hb1.alloc(.cells #[.int .i64 0]3)).rd;have hbw:Below w.heap.size(w.alloc(.cells #[.pointer(some⟨vb,0,none⟩)]66))w1:=hB.mono(by simp);have hp:=H.out.2.2.1 w1 hbw(hb1.cell rfl)hb1.lt;have H1:=Lib.hid(And.intro hbw hb1);clear hB hwk hb1 hbw)
  | (go_at_call 87;(with_reducible refine hp.mono ?_);rintro e w2⟨r,rfl,rfl,c2,hq⟩;have H2:=Lib.hid hq;clear hp hq))
 go_returns
 obtain⟨lo',h3,h4,h5⟩:=H2.out
 have hz1:=H1.out.2.lt
 refine⟨rfl,lo',h3,?_,fun r k hk=> (h5.1 r k hk).elim Or.inl(fun e=> Or.inr ?_),h5.2⟩
 ·have hBw:Below w.heap.size w w1:=H.out.2.1.trans H1.out.1
  exact(Upd.of_below(hBw.alloc hBw.size(.cells #[.int .i64 0]3))).trans h4(fun i hi e=> e.elim id(fun e=> by omega))
 ·simp at e;omega
def openF(ns:NSt)(l:Txt)(n:Int):Int×Int×NSt:=if n < 0∨7 < n then(0,19,ns)else if(walkR ns l).2=9∧flA n=true then newF ns l else if(walkR ns l).2≠0 then(0,(walkR ns l).2,ns)else match ndAt ns(walkR ns l).1 with
 | none=> (0,0,ns)
 | some nd=> if nd.dir=true then(0,12,ns)else((walkR ns l).1,0,nsPut ns(walkR ns l).1.toNat(some(addO(if flB n=true then setB nd []else nd)1)))
theorem Open_is [Inhabited CapT](h:VV w vb tb ns lo c)(hc:c≤9000)(l:Txt)(hl:l.length≤100000)(n m1 m2:Int)(ns' :NSt)(hm:openF ns l n=(m1,m2,ns')):
  Calls Tryz.prog 79 #[.pointer(some⟨vb,0,none⟩),.string(B l),.int .i64 n]w(MadP w vb tb ns' lo(c+3)(.tuple #[.int .i64 m1,.int .i64 m2])):=by
 have hquiet:∀ {v:Value} {e:Ending} {w2:World},e= .returned v∧Below w.heap.size w w2→MadP w vb tb ns lo(c+3)v e w2:=fun {v e w2}hh=> ⟨hh.1,lo,(h.below hh.2).le(by omega),TFr.of_below hh.2⟩
 unfold openF at hm
 by_cases hb:n < 0∨7 < n
 ·rw [if_pos hb]at hm;cases hm
  exact(open_bad vb(B l)n hb).mono fun e w2 hh=> hquiet hh
 ·rw [if_neg hb]at hm
  obtain⟨a,e0,hw⟩:∃a e0,walkR ns l=(a,e0):=⟨_,_,rfl⟩
  rw [hw]at hm
  simp only at hm
  by_cases h9:e0=9∧flA n=true
  ·rw [if_pos h9]at hm
   obtain⟨rfl,hf⟩:=h9
   have ha:a=0:=walkR_no hw(by decide)
   subst ha
   exact open_made h hc l hl hw n(by omega)hf m1 m2 ns' hm
  ·rw [if_neg h9]at hm
   by_cases h0:e0=0
   ·subst h0
    rw [if_neg(by simp)]at hm
    obtain⟨k,nk,rfl,hk⟩:=walkR_nd h.2 hw
    have hnd:ndAt ns(k:Int)=some nk:=by unfold ndAt;simp [hk]
    rw [hnd]at hm
    simp only [Int.toNat_natCast]at hm
    by_cases hd:nk.dir=true
    ·rw [if_pos hd]at hm;cases hm
     exact(open_dir h l hl _ hw(by unfold isDirF;rw [hnd];exact hd)n(by omega)).mono fun e w2 hh=> hquiet hh
    ·have hd' :nk.dir=false:=by simpa using hd
     rw [if_neg hd]at hm
     by_cases hf:flB n=true
     ·rw [if_pos hf]at hm;cases hm
      refine(open_fresh h hc l hl k hw nk hk hd' n(by omega)hf).mono ?_
      rintro e w2⟨g1,lo2,g2,g3⟩
      exact⟨g1,lo2,g2.le(by omega),g3⟩
     ·rw [if_neg hf]at hm;cases hm
      refine(open_old h hc l hl k hw nk hk(by unfold isDirF;rw [hnd];exact hd')n(by omega)(by simpa using hf)).mono ?_
      rintro e w2⟨g1,lo2,g2,g3⟩
      exact⟨g1,lo2,g2.le(by omega),g3⟩
   ·rw [if_pos h0]at hm;cases hm
    refine(open_err h l hl a _ hw h0 n(by omega)(fun e=> ?_)).mono fun e w2 hh=> hquiet hh
    cases hx:flA n with
    | false=> rfl
    | true=> exact absurd⟨e,hx⟩h9
end
end Go.Proofs.YtjpjafajploiaaaGreatDoor
