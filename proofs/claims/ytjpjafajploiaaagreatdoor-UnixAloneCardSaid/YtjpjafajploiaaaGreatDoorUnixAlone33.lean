/-
  Descriptors beside pipes: what is refused; calls of files at it.
-/
import Derived.Test.YtjpjafajploiaaaGreatDoorUnixAlone29
import Derived.Test.YtjpjafajploiaaaGreatDoorUnixAlone31
import Derived.Test.YtjpjafajploiaaaGreatDoorUnixAlone32
import Derived.Test.YtjpjafajploiaaaGreatDoorUnixAlone22
import Derived.Test.YtjpjafajploiaaaGreatDoorUnixAlone30
set_option linter.unusedSimpArgs false
set_option linter.unusedVariables false
namespace Go.Proofs.YtjpjafajploiaaaGreatDoor
open Go.RowKit Own RegJ Two
open Go.Lib hiding intOf
section
variable {cap:Nat} {w0 w w1 w2 w' :World} {O O1:Nat→Prop} {fdb vb tb fb sb pb mb:Nat} {ns ns' :NSt} {c c' N N' M M' :Nat} {S S' :FS} {ps ps' :PS} {po:PRl→Option Nat} {fo:Nat→Nat}
set_option maxRecDepth 100000 in
set_option maxHeartbeats 2000000 in
theorem kp_wrerr(h:EX cap w0 O fdb vb tb fb sb pb mb ns c N M S ps w)(hmc:0 < w0.heap.size)(pid:Int)(hw:(Lit.int .i64 pid).wf=true)(b:Nat)(hb:S.pr pid=some b)(d x:Nat)(hd:d < 8)(hx:S.sl b d=some x)(t:Th)(ht:S.th x=some t)(hpp:t.pp=true)(hwr:t.wr=true)(bs:List Int)(m cp:Nat)(a:Option Addr)(hm:bs.length=m)(hv:SrcF O w(.slice a m cp)bs)(r:Int)(hr:pwriteF ps t.id bs=(r,ps'))(hr0:r≠0):
  Calls Tryz.prog 45 #[.pointer(some⟨fdb,0,none⟩),.int .i64 pid,.int .i64 d,.slice a m cp]w(EP cap w0 O fdb vb tb fb sb pb mb ns c N M S ps' w(.tuple #[.int .i64 0,.int .i64 r])):=by
 have hg:=k_get h.fd pid hw b hb d x hd hx
 have hB:=h.fd.x x t ht
 have c0:w.cell? ⟨x,0,none⟩=some(.bool true):=by rw [←hpp];exact hB.rd 0
 have c1:w.cell? ⟨x,1,none⟩=some(.bool true):=by rw [←hwr];exact hB.rd 1
 have hfw:=kp_write h hmc x t ht bs m cp a hm hv r hr
 have dr1:(r==0)=false:=by simpa using hr0
 have dr2:(r !=0)=true:=by simpa using hr0
 clear h hB ht hb hx hpp hwr hr hv hr0
 go_enter Tryz.func45,Tryz.ntmps45
 go_wp2_with(first
  | (go_at_call 80;refine hg.mono ?_;rintro e w1⟨rfl,rfl⟩)
  | (go_at_call 85;refine hfw.mono ?_;rintro e w2⟨rfl,hq⟩;have HF:=Lib.hid hq;clear hq hfw))
 go_ret2
 exact⟨rfl,HF.out⟩
set_option maxRecDepth 100000 in
set_option maxHeartbeats 2000000 in
theorem k_pipeerr(h:EX cap w0 O fdb vb tb fb sb pb mb ns c N M S ps w)(hmc:0 < w0.heap.size)(hM:M≤10000)(pid:Int)(hw:(Lit.int .i64 pid).wf=true)(b:Nat)(hb:S.pr pid=some b)(d1 d2:Int)(fr:List Int)(hfr:freeL(S.sl b)8=d1::d2::fr)(v r:Int)(hr:pmakeF(cap - psN ps 4 - usedN(filesOf ns)16)ps=(v,r,ps'))(h0:r≠0):
  Calls Tryz.prog 52 #[.pointer(some⟨fdb,0,none⟩),.int .i64 pid]w(EP cap w0 O fdb vb tb fb sb pb mb ns c N(M+1)S ps' w(.tuple #[.int .i64 0,.int .i64 r])):=by
 have hfree:=k_free h.fd pid hw b hb 2(.int .i64 0)0(fun e w' => FreeP w(d1::d2::fr)e w')(fun _ e w' hp=> by rw [hfr]at hp;exact hp)(fun hlt=> by rw [hfr]at hlt;simp only [List.length_cons]at hlt;omega)
 obtain⟨m,hm⟩:∃m,fr.length+2=m:=⟨_,rfl⟩
 have c0:∀w1,Below w.heap.size w w1→w1.cell? ⟨fdb,1,none⟩=some(.pointer(some⟨pb,0,none⟩)):=fun w1 hB=> (h.fd.below hB).f.rd 1
 have hop:=fun w1(hB:Below w.heap.size w w1)=> pp_make(h.below hB)hM hmc v r hr
 have dr1:(r==0)=false:=by simpa using h0
 have dr2:(r !=0)=true:=by simpa using h0
 clear h hb hw hr hfr h0
 go_enter Tryz.func52,Tryz.ntmps52
 go_wp2_with(first
  | (go_at_call 78;refine hfree.mono ?_;rintro e w1⟨a,cp,gr,rfl,hR,hgO,hB1⟩;have c1:=c0 w1 hB1;rw [show(d1::d2::fr).length=m from by rw [←hm];rfl]at hR ⊢;have ho:=hop w1 hB1;have H1:=Lib.hid hB1;clear hfree hop c0 hR hB1 hgO)
  | (go_at_call 93;refine ho.mono ?_;rintro e w2 hq;obtain rfl:=hq.1;have H2:=Lib.hid hq;clear hq ho c1))
 go_ret2
 have hq:=EP.ahead H1.out H2.out
 exact⟨rfl,hq.2⟩
theorem k_copybad(h:FdB w fdb vb pb mb N S)(pid:Int)(hw:(Lit.int .i64 pid).wf=true)(b:Nat)(hb:S.pr pid=some b)(q r:Int)(hst:Calls Tryz.prog 39 #[.pointer(some⟨fdb,0,none⟩),.int .i64 q]w fun e w' => e= .returned(.int .i64 r)∧w=w')(h0:r≠0):
  Calls Tryz.prog 56 #[.pointer(some⟨fdb,0,none⟩),.int .i64 pid,.int .i64 q]w fun e w' => e= .returned(.int .i64 r)∧w=w' :=by
 have hq:=k_proc h pid hw(some b)hb 0(by unfold procR;rw [hb])
 have dr1:(r==0)=false:=by simpa using h0
 have dr2:(r !=0)=true:=by simpa using h0
 clear h hb h0
 simp only [ptb,Option.map]at hq
 go_enter Tryz.func56,Tryz.ntmps56
 go_wp2_with(first
  | (go_at_call 67;refine hq.mono ?_;rintro e w1⟨rfl,rfl⟩)
  | (go_at_call 39;refine hst.mono ?_;rintro e w1⟨rfl,rfl⟩))
 go_ret
 exact⟨rfl,rfl⟩
theorem SrcF.sub {v:Value} {bs:List Int}(h:SrcF O w v bs)(ho:∀k,O1 k→O k):SrcF O1 w v bs:=by
 obtain⟨a,cp,rfl,h1,h2⟩:=h
 refine⟨a,cp,rfl,h1,fun hp=> ?_⟩
 obtain⟨g,q,rfl,h3,h4,h5⟩:=h2 hp
 exact⟨g,q,rfl,h3,fun hk=> h4(ho g hk),h5⟩
theorem ex_openf(h:EX cap w0 O fdb vb tb fb sb pb mb ns c N M S ps w)(hc:c≤9000)(pid:Int)(hw:(Lit.int .i64 pid).wf=true)(b:Nat)(hb:S.pr pid=some b)(d:Nat)(hd:d < 8)(hn:S.sl b d=none)(hl:∀k,k < d→S.sl b k≠none)(l:Txt)(hll:l.length≤100000)(n id:Int)(hr:openF ns l n=(id,0,ns'))(s:ByteArray)(hs:s=B l):
  Calls Tryz.prog 42 #[.pointer(some⟨fdb,0,none⟩),.int .i64 pid,.string s,.int .i64 n]w fun e w' => ∃x,w.heap.size≤x∧EP cap w0 O fdb vb tb fb sb pb mb ns' (c+3)N M(S.put b d x⟨false,false,id,0,flE n,1⟩)ps w(.tuple #[.int .i64 d,.int .i64 0])e w' :=by
 obtain⟨po,fo,O1,h1,h2,h3,h4,h5,h6⟩:=h
 letI C:Inhabited CapT:=capP cap ps fo
 exact(k_open h1 hc pid hw b hb d hd hn hl l hll n id hr s hs).mono(fun e w' ⟨x,hx,hq⟩=> ⟨x,hx,EX.lift h2 h3 h4 h5 h6 hq⟩)
theorem ex_openerr(h:EX cap w0 O fdb vb tb fb sb pb mb ns c N M S ps w)(hc:c≤9000)(pid:Int)(hw:(Lit.int .i64 pid).wf=true)(b:Nat)(hb:S.pr pid=some b)(d:Nat)(hd:d < 8)(hn:S.sl b d=none)(hl:∀k,k < d→S.sl b k≠none)(l:Txt)(hll:l.length≤100000)(n a r:Int)(hr:openF ns l n=(a,r,ns'))(h0:r≠0)(s:ByteArray)(hs:s=B l):
  Calls Tryz.prog 42 #[.pointer(some⟨fdb,0,none⟩),.int .i64 pid,.string s,.int .i64 n]w(EP cap w0 O fdb vb tb fb sb pb mb ns' (c+3)N M S ps w(.tuple #[.int .i64 0,.int .i64 r])):=by
 obtain⟨po,fo,O1,h1,h2,h3,h4,h5,h6⟩:=h
 letI C:Inhabited CapT:=capP cap ps fo
 exact(k_openerr h1 hc pid hw b hb d hd hn hl l hll n a r hr h0 s hs).mono(fun e w' hq=> EX.lift h2 h3 h4 h5 h6 hq)
theorem ex_seekf(h:EX cap w0 O fdb vb tb fb sb pb mb ns c N M S ps w)(pid:Int)(hw:(Lit.int .i64 pid).wf=true)(b:Nat)(hb:S.pr pid=some b)(d x:Nat)(hd:d < 8)(hx:S.sl b d=some x)(t:Th)(ht:S.th x=some t)(hp:t.pp=false)(off:Int)(h0:0≤off):
  Calls Tryz.prog 46 #[.pointer(some⟨fdb,0,none⟩),.int .i64 pid,.int .i64 d,.int .i64 off]w(EP cap w0 O fdb vb tb fb sb pb mb ns c N M(S.setth x {t with pl:=off})ps w(.int .i64 0)):=by
 obtain⟨po,fo,O1,h1,h2,h3,h4,h5,h6⟩:=h
 letI C:Inhabited CapT:=capP cap ps fo
 exact(k_seek h1 pid hw b hb d x hd hx t ht hp off h0).mono(fun e w' hq=> EX.lift h2 h3 h4 h5 h6 hq)
theorem ex_dupf(h:EX cap w0 O fdb vb tb fb sb pb mb ns c N M S ps w)(pid:Int)(hw:(Lit.int .i64 pid).wf=true)(b:Nat)(hb:S.pr pid=some b)(d x:Nat)(hd:d < 8)(hx:S.sl b d=some x)(t:Th)(ht:S.th x=some t)(hnm: -100000≤t.nm∧t.nm≤100000)(d2:Nat)(hd2:d2 < 8)(hn:S.sl b d2=none)(hl:∀k,k < d2→S.sl b k≠none):
  Calls Tryz.prog 47 #[.pointer(some⟨fdb,0,none⟩),.int .i64 pid,.int .i64 d]w(EP cap w0 O fdb vb tb fb sb pb mb ns c N M((S.setsl b d2(some x)).setth x {t with nm:=t.nm+1})ps w(.tuple #[.int .i64 d2,.int .i64 0])):=by
 obtain⟨po,fo,O1,h1,h2,h3,h4,h5,h6⟩:=h
 letI C:Inhabited CapT:=capP cap ps fo
 exact(k_dup h1 pid hw b hb d x hd hx t ht hnm d2 hd2 hn hl).mono(fun e w' hq=> EX.lift h2 h3 h4 h5 h6 hq)
theorem ex_close2(h:EX cap w0 O fdb vb tb fb sb pb mb ns c N M S ps w)(pid:Int)(hw:(Lit.int .i64 pid).wf=true)(b:Nat)(hb:S.pr pid=some b)(d x:Nat)(hd:d < 8)(hx:S.sl b d=some x)(t:Th)(ht:S.th x=some t)(hnm:2≤t.nm∧t.nm≤100000):
  Calls Tryz.prog 43 #[.pointer(some⟨fdb,0,none⟩),.int .i64 pid,.int .i64 d]w(EP cap w0 O fdb vb tb fb sb pb mb ns c N M((S.setsl b d none).setth x {t with nm:=t.nm - 1})ps w(.int .i64 0)):=by
 obtain⟨po,fo,O1,h1,h2,h3,h4,h5,h6⟩:=h
 letI C:Inhabited CapT:=capP cap ps fo
 exact(k_close h1 pid hw b hb d x hd hx t ht hnm).mono(fun e w' hq=> EX.lift h2 h3 h4 h5 h6 hq)
theorem ex_closef(h:EX cap w0 O fdb vb tb fb sb pb mb ns c N M S ps w)(hc:c≤9000)(pid:Int)(hw:(Lit.int .i64 pid).wf=true)(b:Nat)(hb:S.pr pid=some b)(d x:Nat)(hd:d < 8)(hx:S.sl b d=some x)(t:Th)(ht:S.th x=some t)(hnm: -100000≤t.nm∧t.nm≤1)(hpp:t.pp=false)(r:Int)(hr:closeF ns t.id=(r,ns')):
  Calls Tryz.prog 43 #[.pointer(some⟨fdb,0,none⟩),.int .i64 pid,.int .i64 d]w(EP cap w0 O fdb vb tb fb sb pb mb ns' (c+1)N M((S.setsl b d none).setth x {t with nm:=t.nm - 1})ps w(.int .i64 0)):=by
 obtain⟨po,fo,O1,h1,h2,h3,h4,h5,h6⟩:=h
 letI C:Inhabited CapT:=capP cap ps fo
 exact(k_closef h1 hc pid hw b hb d x hd hx t ht hnm hpp r hr).mono(fun e w' hq=> EX.lift h2 h3 h4 h5 h6 hq)
theorem ex_writef(h:EX cap w0 O fdb vb tb fb sb pb mb ns c N M S ps w)(pid:Int)(hw:(Lit.int .i64 pid).wf=true)(b:Nat)(hb:S.pr pid=some b)(d x:Nat)(hd:d < 8)(hx:S.sl b d=some x)(t:Th)(ht:S.th x=some t)(hpp:t.pp=false)(hid:(Lit.int .i64 t.id).wf=true)(bs:List Int)(m cp:Nat)(a:Option Addr)(hm:bs.length=m)(hm6:m≤100000)(hv:SrcF O w(.slice a m cp)bs)
  (p:Int)(hp0:0≤p∧p+(m:Int)≤9223372036854775807)(hp:(t.en=false∧t.pl=p)∨(t.en=true∧∃e,sizeV(filesOf ns)t.id=(p,e)))(hr:wrF ns(cap - psN ps 4)t.id p bs=(0,ns')):
  Calls Tryz.prog 45 #[.pointer(some⟨fdb,0,none⟩),.int .i64 pid,.int .i64 d,.slice a m cp]w(EP cap w0 O fdb vb tb fb sb pb mb ns' c N M(S.setth x {t with pl:=p+m})ps w(.tuple #[.int .i64 m,.int .i64 0])):=by
 obtain⟨po,fo,O1,h1,h2,h3,h4,h5,h6⟩:=h
 letI C:Inhabited CapT:=capP cap ps fo
 exact(k_write h1 pid hw b hb d x hd hx t ht hpp hid bs m cp a hm hm6(hv.sub(fun k hk=> (h6 k).2(.inl hk)))p hp0 hp hr).mono(fun e w' hq=> EX.lift h2 h3 h4 h5 h6 hq)
theorem ex_writeerr(h:EX cap w0 O fdb vb tb fb sb pb mb ns c N M S ps w)(pid:Int)(hw:(Lit.int .i64 pid).wf=true)(b:Nat)(hb:S.pr pid=some b)(d x:Nat)(hd:d < 8)(hx:S.sl b d=some x)(t:Th)(ht:S.th x=some t)(hpp:t.pp=false)(hid:(Lit.int .i64 t.id).wf=true)(bs:List Int)(m cp:Nat)(a:Option Addr)(hm:bs.length=m)(hm6:m≤100000)(hv:SrcF O w(.slice a m cp)bs)
  (p:Int)(hp0:0≤p)(hp:(t.en=false∧t.pl=p)∨(t.en=true∧∃e,sizeV(filesOf ns)t.id=(p,e)))(r:Int)(hr:wrF ns(cap - psN ps 4)t.id p bs=(r,ns'))(hr0:r≠0):
  Calls Tryz.prog 45 #[.pointer(some⟨fdb,0,none⟩),.int .i64 pid,.int .i64 d,.slice a m cp]w(EP cap w0 O fdb vb tb fb sb pb mb ns' c N M S ps w(.tuple #[.int .i64 0,.int .i64 r])):=by
 obtain⟨po,fo,O1,h1,h2,h3,h4,h5,h6⟩:=h
 letI C:Inhabited CapT:=capP cap ps fo
 exact(k_writeerr h1 pid hw b hb d x hd hx t ht hpp hid bs m cp a hm hm6(hv.sub(fun k hk=> (h6 k).2(.inl hk)))p hp0 hp r hr hr0).mono(fun e w' hq=> EX.lift h2 h3 h4 h5 h6 hq)
theorem ex_readf(h:EX cap w0 O fdb vb tb fb sb pb mb ns c N M S ps w)(pid:Int)(hw:(Lit.int .i64 pid).wf=true)(b:Nat)(hb:S.pr pid=some b)(d x:Nat)(hd:d < 8)(hx:S.sl b d=some x)(t:Th)(ht:S.th x=some t)(hpp:t.pp=false)(hwr:t.wr=false)(hid:(Lit.int .i64 t.id).wf=true)(n:Int)(hn:n≤9223372036854775807)(ys:List Int)(hpl:0≤t.pl∧t.pl+(ys.length:Int)≤9223372036854775807)(er:Int)(hr:readV(filesOf ns)t.id t.pl n=(ys,er))(hyl:ys.length≤1000000):
  Calls Tryz.prog 83 #[.pointer(some⟨fdb,0,none⟩),.int .i64 pid,.int .i64 d,.int .i64 n]w(XRead cap w0 O fdb vb tb fb sb pb mb ns c N M(S.setth x {t with pl:=t.pl+(ys.length:Int)})ps w ys er):=by
 obtain⟨po,fo,O1,h1,h2,h3,h4,h5,h6⟩:=h
 letI C:Inhabited CapT:=capP cap ps fo
 refine(k_read h1 pid hw b hb d x hd hx t ht hpp hwr hid n hn ys hpl er hr hyl).mono ?_
 rintro e w' ⟨a,cp,gb,O2,rfl,k1,k2,k3,k4,k5⟩
 refine⟨a,cp,gb,fun k=> O2 k∨∃r,po r=some k,rfl,k1,fun g hg=> ⟨(k2 g hg).1,?_⟩,k3.mono(fun k _ hk=> (h6 k).2(.inl hk)),⟨po,fo,O2,k4,h2.upd k3(fun r k hr hk=> (h5 r k hr).2.1 hk),h3,h4,fun r k hr=> ⟨(h5 r k hr).1,fun hk=> ?_,(h5 r k hr).2.2⟩,fun k=> Iff.rfl⟩,fun k hk=> ?_⟩
 ·have:=(k2 g hg).1
  rintro(hk | ⟨r,hr'⟩)
  ·exact(k2 g hg).2 hk
  ·have:=h2.lt r g hr';omega
 ·rcases k5 k hk with g | g
  ·exact(h5 r k hr).2.1 g
  ·have:=h2.lt r k hr;omega
 ·rcases hk with hk | hk
  ·exact(k5 k hk).imp(fun g=> (h6 k).2(.inl g))id
  ·exact .inl((h6 k).2(.inr hk))
end
end Go.Proofs.YtjpjafajploiaaaGreatDoor
namespace Go.Proofs.YtjpjafajploiaaaGreatDoor
open Go.RowKit Own RegJ Two
open Go.Lib hiding intOf
theorem freeL_map {g f:Nat→Option Nat}:∀i,(∀d,d < i→(g d).isNone=(f d).isNone)→freeL g i=freeL f i
 | 0,_=> rfl
 | i+1,h=> by unfold freeL;rw [freeL_map i(fun d hd=> h d(by omega)),h i(by omega)]
theorem usedL_map {g f:Nat→Option Nat}:∀i,(∀d,d < i→(g d).isSome=(f d).isSome)→usedL g i=usedL f i
 | 0,_=> rfl
 | i+1,h=> by unfold usedL;rw [usedL_map i(fun d hd=> h d(by omega)),h i(by omega)]
theorem freeL_mem {f:Nat→Option Nat} {x:Int}:∀i,x∈freeL f i→∃k:Nat,x=k∧k < i∧f k=none
 | 0,h=> by cases h
 | i+1,h=> by
  unfold freeL at h
  rcases List.mem_append.1 h with h | h
  ·obtain⟨k,h1,h2,h3⟩:=freeL_mem i h
   exact⟨k,h1,by omega,h3⟩
  ·split at h
   ·rename_i hn
    obtain rfl:=List.mem_singleton.1 h
    exact⟨i,rfl,by omega,by simpa using hn⟩
   ·cases h
theorem freeL_nil {f:Nat→Option Nat}:∀i,freeL f i= []→∀k,k < i→f k≠none
 | 0,_,k,hk=> by omega
 | i+1,h,k,hk=> by
  unfold freeL at h
  obtain⟨h1,h2⟩:=List.append_eq_nil_iff.1 h
  by_cases e:k=i
  ·subst e
   intro hn
   rw [hn]at h2
   simp at h2
  ·exact freeL_nil i h1 k(by omega)
theorem freeL_head {f:Nat→Option Nat} {d:Int} {r:List Int}:∀i,freeL f i=d::r→∃k:Nat,d=k∧k < i∧f k=none∧∀j,j < k→f j≠none
 | 0,h=> by cases h
 | i+1,h=> by
  unfold freeL at h
  cases hf:freeL f i with
  | nil=>
   rw [hf,List.nil_append]at h
   split at h
   ·rename_i hn
    cases h
    exact⟨i,rfl,by omega,by simpa using hn,freeL_nil i hf⟩
   ·cases h
  | cons x l=>
   rw [hf]at h
   cases h
   obtain⟨k,h1,h2,h3⟩:=freeL_head i hf
   exact⟨k,h1,by omega,h3⟩
theorem openF_id {ns ns' :NSt} {c:Nat}(hV:IV ns c) {l:Txt} {n a:Int}(h:openF ns l n=(a,0,ns')):0≤a∧a≤15:=by
 unfold openF at h
 split at h
 ·cases h
 ·split at h
  ·unfold newF at h
   split at h
   ·unfold madeF at h
    split at h
    ·cases h
    ·split at h
     ·cases h
     ·rename_i i hi
      have:=(freeF_some hi).1
      split at h
      ·cases h;omega
      ·rename_i hne
       exact absurd(congrArg(fun p=> p.2.1)h)hne
   ·obtain rfl:(0:Int)=a:=congrArg Prod.fst h
    omega
  ·split at h
   ·rename_i hne;exact absurd(congrArg(fun p=> p.2.1)h)hne
   ·split at h
    ·cases h;omega
    ·rename_i nd hnd
     split at h
     ·cases h
     ·cases h
      unfold ndAt at hnd
      split at hnd
      ·rename_i h0
       have:=hV.inv.lt hnd
       omega
      ·cases hnd
theorem wrF_wide {ns ns' :NSt} {F:Nat} {id off:Int} {b:List Int}(h:wrF ns F id off b=(0,ns'))(h0:0≤off∧off≤9223372036854775807):off+(b.length:Int)≤9223372036854775807:=by
 unfold wrF at h
 split at h
 ·cases h
 ·split at h
  ·cases h
  ·split at h
   ·cases h
   ·split at h
    ·omega
    ·split at h
     ·cases h
     ·omega
theorem readV_wide {fs:Sfs} {id off n:Int} {ys:List Int} {er:Int}(h:readV fs id off n=(ys,er))(hb:∀bs,fsAt fs id=some bs→bs.length≤512)(h0:0≤off∧off≤9223372036854775807):off+(ys.length:Int)≤9223372036854775807∧ys.length≤512:=by
 unfold readV at h
 split at h
 ·cases h;simp;omega
 ·rename_i bs hbs
  have h5:=hb bs hbs
  split at h
  ·cases h;simp;omega
  ·cases h
   simp only [List.length_take,List.length_drop]
   omega
def EZ(cap:Nat)(w0:World)(O:Nat→Prop)(fdb vb tb fb sb pb mb c:Nat)(z:Z)(w:World):Prop:=
 ∃S φ,EX cap w0 O fdb vb tb fb sb pb mb z.ns c c c S z.ps w∧RZ S z φ∧BZ c z
def ZP(cap:Nat)(w0:World)(O:Nat→Prop)(fdb vb tb fb sb pb mb c:Nat)(z:Z)(w:World)(v:Value)(e:Ending)(w' :World):Prop:=
 e= .returned v∧Upd O w w' ∧∃O',EZ cap w0 O' fdb vb tb fb sb pb mb c z w' ∧∀k,O' k→O k∨w.heap.size≤k
section
variable {cap:Nat} {w0 w w1 w2 w' :World} {O O1:Nat→Prop} {fdb vb tb fb sb pb mb:Nat} {c c' N N' M M' :Nat} {S S' :FS} {ns:NSt} {ps:PS} {φ:Nat→Nat} {z z' :Z}
theorem FX.leN {C:Inhabited CapT}(h:FX w0 O fdb vb tb fb sb pb mb ns c N S w)(hN:N≤N'):FX w0 O fdb vb tb fb sb pb mb ns c N' S w:=by
 obtain⟨lo,h1,h2,h3,h4,h5,h6,h7,h8⟩:=h
 obtain⟨n,s,hm,hn⟩:=h7.m
 exact⟨lo,h1,h2,h3,h4,h5,h6,⟨h7.f,⟨n,s,hm,by omega⟩,h7.t,h7.x,h7.r,h7.j⟩,h8⟩
theorem EX.up(h:EX cap w0 O fdb vb tb fb sb pb mb ns c N M S ps w)(hc:c≤c')(hN:N≤N')(hM:M≤M'):EX cap w0 O fdb vb tb fb sb pb mb ns c' N' M' S ps w:=by
 obtain⟨po,fo,O1,h1,h2⟩:=h.le hc hM
 exact⟨po,fo,O1,h1.leN hN,h2⟩
theorem ZP.of {v:Value} {e:Ending}(h:EP cap w0 O fdb vb tb fb sb pb mb z.ns c N M S z.ps w v e w')(hc:c≤c')(hN:N≤c')(hM:M≤c')(hR:RZ S z φ)(hB:BZ c' z):ZP cap w0 O fdb vb tb fb sb pb mb c' z w v e w' :=by
 obtain⟨h1,h2,O',h3,h4⟩:=h
 exact⟨h1,h2,O',⟨S,φ,h3.up hc hN hM,hR,hB⟩,h4⟩
theorem EZ.up(h:EZ cap w0 O fdb vb tb fb sb pb mb c z w)(hc:c≤c'):EZ cap w0 O fdb vb tb fb sb pb mb c' z w:=by
 obtain⟨S,φ,h1,h2,h3⟩:=h
 exact⟨S,φ,h1.up hc hc hc,h2,h3.le(by omega)⟩
theorem EZ.below(h:EZ cap w0 O fdb vb tb fb sb pb mb c z w)(hB:Below w.heap.size w w'):EZ cap w0 O fdb vb tb fb sb pb mb c z w' :=by
 obtain⟨S,φ,h1,h2⟩:=h
 exact⟨S,φ,h1.below hB,h2⟩
theorem ZP.same(h:EZ cap w0 O fdb vb tb fb sb pb mb c z w)(hc:c≤c')(hB:Below w.heap.size w w')(v:Value):ZP cap w0 O fdb vb tb fb sb pb mb c' z w v(.returned v)w' :=
 ⟨rfl,Upd.of_below hB,O,(h.below hB).up hc,fun k hk=> .inl hk⟩
theorem ZP.up {v:Value} {e:Ending}(h:ZP cap w0 O fdb vb tb fb sb pb mb c z w v e w')(hc:c≤c'):ZP cap w0 O fdb vb tb fb sb pb mb c' z w v e w' :=by
 obtain⟨h1,h2,O',h3,h4⟩:=h
 exact⟨h1,h2,O',h3.up hc,h4⟩
theorem FX.iv' {C:Inhabited CapT}(h:FX w0 O fdb vb tb fb sb pb mb ns c N S w):IV ns c:=by
 obtain⟨lo,h1,_⟩:=h
 exact h1.2
theorem FX.b512' {C:Inhabited CapT}(h:FX w0 O fdb vb tb fb sb pb mb ns c N S w) {id:Int} {bs:List Int}(hb:fsAt(filesOf ns)id=some bs):bs.length≤512:=by
 obtain⟨lo,h1,_⟩:=h
 obtain⟨f,ls,hs⟩:=h1.1.2.1.sto
 obtain⟨i,-,hi⟩:=fsAt_some hb
 obtain⟨k,v,-,-,-,hf⟩:=hs.file i bs hi
 exact hf.most
theorem EX.iv(h:EX cap w0 O fdb vb tb fb sb pb mb ns c N M S ps w):IV ns c:=by
 obtain⟨po,fo,O1,h1,_⟩:=h
 exact h1.iv'
theorem EX.b512(h:EX cap w0 O fdb vb tb fb sb pb mb ns c N M S ps w) {id:Int} {bs:List Int}(hb:fsAt(filesOf ns)id=some bs):bs.length≤512:=by
 obtain⟨po,fo,O1,h1,_⟩:=h
 exact h1.b512' hb
theorem FdB.fresh {fdb vb pb mb N:Nat}(h:FdB w fdb vb pb mb N S) {b:Nat}(hb:w.heap.size≤b):(∀i c,S.pr i=some c→c≠b)∧∀y t,S.th y=some t→y≠b:=
 ⟨fun i c hc e=> by have:=(h.t i c hc).lt;omega,fun y t hy e=> by have:=(h.x y t hy).lt;omega⟩
theorem BZ.few(h:BZ c z)(hR:RZ S z φ)(hc:c≤9000):Few S 100000:=fun x t hx=> by
 obtain⟨k,hk,rfl⟩:=hR.t2 x t hx
 rw [hR.t1 k hk]at hx
 cases hx
 have:=h.nm k hk
 omega
theorem zz_start(h:EZ cap w0 O fdb vb tb fb sb pb mb c z w)(hc:c≤9000)(pid:Int)(hw:(Lit.int .i64 pid).wf=true)(r:Int)(hr:startZ z pid=(r,z')):
  Calls Tryz.prog 39 #[.pointer(some⟨fdb,0,none⟩),.int .i64 pid]w(ZP cap w0 O fdb vb tb fb sb pb mb(c+8)z' w(.int .i64 r)):=by
 have hz:=h
 obtain⟨S,φ,hE,hR,hB⟩:=h
 unfold startZ at hr
 by_cases h0:pid < 0
 ·rw [if_pos h0]at hr;cases hr
  refine(k_startneg pid h0).mono ?_
  rintro e w1⟨rfl,rfl⟩
  exact ZP.same hz(by omega)(Below.refl _ _)_
 ·rw [if_neg h0]at hr
  cases hp:z.pr pid with
  | some f=>
   rw [hp]at hr
   cases hr
   obtain⟨b,hb,-⟩:=hR.some' hp
   refine(k_startbusy hE.fd pid hw(by omega)b hb).mono ?_
   rintro e w1⟨rfl,rfl⟩
   exact ZP.same hz(by omega)(Below.refl _ _)_
  | none=>
   rw [hp]at hr
   cases hr
   refine(ex_start hE(by omega)pid hw(by omega)(hR.none' hp)).mono ?_
   rintro e w1⟨b,hb,hq⟩
   exact ZP.of(z:=z.putp pid(some fun _=> none))hq(by omega)(by omega)(by omega)(hR.start hp(hE.fd.fresh hb).1)((hB.le(by omega)).ns rfl rfl rfl)
theorem zz_copy(h:EZ cap w0 O fdb vb tb fb sb pb mb c z w)(hc:c≤9000)(pid q:Int)(hw:(Lit.int .i64 pid).wf=true)(hw2:(Lit.int .i64 q).wf=true)(r:Int)(hr:copyZ z pid q=(r,z')):
  Calls Tryz.prog 56 #[.pointer(some⟨fdb,0,none⟩),.int .i64 pid,.int .i64 q]w(ZP cap w0 O fdb vb tb fb sb pb mb(c+8)z' w(.int .i64 r)):=by
 have hz:=h
 obtain⟨S,φ,hE,hR,hB⟩:=h
 unfold copyZ at hr
 cases hp:z.pr pid with
 | none=>
  rw [hp]at hr;cases hr
  refine(k_copynone hE.fd pid hw(hR.none' hp)q).mono ?_
  rintro e w1⟨rfl,rfl⟩
  exact ZP.same hz(by omega)(Below.refl _ _)_
 | some f=>
  rw [hp]at hr
  simp only at hr
  obtain⟨b,hb,hsl⟩:=hR.some' hp
  by_cases h0:q < 0
  ·rw [if_pos h0]at hr;cases hr
   refine(k_copybad hE.fd pid hw b hb q 2(k_startneg q h0)(by decide)).mono ?_
   rintro e w1⟨rfl,rfl⟩
   exact ZP.same hz(by omega)(Below.refl _ _)_
  ·rw [if_neg h0]at hr
   cases hq:z.pr q with
   | some g=>
    rw [hq]at hr
    cases hr
    obtain⟨b2,hb2,-⟩:=hR.some' hq
    refine(k_copybad hE.fd pid hw b hb q 5(k_startbusy hE.fd q hw2(by omega)b2 hb2)(by decide)).mono ?_
    rintro e w1⟨rfl,rfl⟩
    exact ZP.same hz(by omega)(Below.refl _ _)_
   | none=>
    rw [hq]at hr
    cases hr
    refine(ex_copy hE(by omega)pid q hw hw2(by omega)b hb(hR.none' hq)(hB.few hR hc)).mono ?_
    rintro e w1⟨b2,hb2,hq2⟩
    have hbz:=(hB.bumps f(fun d k hk=> (hR.rg pid f hp d k hk).1)8).ns(z' := {z.putp q(some f)with th:=bumpZ z.th f 8})rfl rfl rfl
    exact ZP.of(z:= {z.putp q(some f)with th:=bumpZ z.th f 8})hq2(by omega)(by omega)(by omega)(hR.copy hb hp hq(hE.fd.fresh hb2).1)(hbz.le(by push_cast;omega))
end
end Go.Proofs.YtjpjafajploiaaaGreatDoor
