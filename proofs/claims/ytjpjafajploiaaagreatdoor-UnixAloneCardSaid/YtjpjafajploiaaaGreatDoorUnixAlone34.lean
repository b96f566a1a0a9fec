/-
  What each call of a descriptor answers, and leaves, by the plain ones.
-/
import Derived.Test.YtjpjafajploiaaaGreatDoorUnixAlone33
set_option linter.unusedSimpArgs false
set_option linter.unusedVariables false
namespace Go.Proofs.YtjpjafajploiaaaGreatDoor
open Go.RowKit Own RegJ Two
open Go.Lib hiding intOf
section
variable {cap:Nat} {w0 w w1 w2 w' :World} {O O1:Nat→Prop} {fdb vb tb fb sb pb mb:Nat} {c c' N N' M M' :Nat} {S S' :FS} {ns:NSt} {ps:PS} {φ:Nat→Nat} {z z' :Z}
theorem on_cases(hR:RZ S z φ)(pid d:Int):(∃r:Int,r≠0∧getR S pid d=r∧∀(α:Type)(bad:Int→α)(kk:(Nat→Option Nat)→Nat→α),z.on pid d bad kk=bad r)∨
  ∃(b n:Nat)(f:Nat→Option Nat)(k:Nat),S.pr pid=some b∧z.pr pid=some f∧d=n∧n < 8∧S.sl b n=some(φ k)∧S.th(φ k)=some(z.th k)∧k < z.nx∧f n=some k∧∀(α:Type)(bad:Int→α)(kk:(Nat→Option Nat)→Nat→α),z.on pid d bad kk=kk f k:=by
 cases hp:z.pr pid with
 | none=>
  refine .inl⟨4,by decide,?_,fun α bad kk=> ?_⟩
  ·unfold getR;rw [hR.none' hp];rfl
  ·unfold Z.on;rw [hp]
 | some f=>
  obtain⟨b,hb,hsl⟩:=hR.some' hp
  by_cases hd:0≤d∧d < 8
  ·obtain⟨n,rfl⟩:=Int.eq_ofNat_of_zero_le hd.1
   have hn:n < 8:=by omega
   have hsn:=hsl n hn
   cases hf:f n with
   | none=>
    rw [hf]at hsn
    refine .inl⟨8,by decide,?_,fun α bad kk=> ?_⟩
    ·unfold getR thN;rw [hb];simp only [if_pos hd,Int.toNat_natCast];rw [hsn];rfl
    ·unfold Z.on fdZ;rw [hp];simp only [if_pos hd,Int.toNat_natCast];rw [hf]
   | some k=>
    rw [hf]at hsn
    have hk:=(hR.rg pid f hp n k hf).1
    refine .inr⟨b,n,f,k,hb,rfl,rfl,hn,hsn,hR.t1 k hk,hk,hf,fun α bad kk=> ?_⟩
    unfold Z.on fdZ;rw [hp];simp only [if_pos hd,Int.toNat_natCast];rw [hf]
  ·refine .inl⟨8,by decide,?_,fun α bad kk=> ?_⟩
   ·unfold getR thN;rw [hb];simp only [if_neg hd];rfl
   ·unfold Z.on fdZ;rw [hp];simp only [if_neg hd]
theorem BZ.putp {K:Int}(h:BZ K z)(pid:Int)(x:Option(Nat→Option Nat)):BZ K(z.putp pid x):=h.ns rfl rfl rfl
theorem zz_close(h:EZ cap w0 O fdb vb tb fb sb pb mb c z w)(hc:c≤9000)(hmc:0 < w0.heap.size)(pid:Int)(hw:(Lit.int .i64 pid).wf=true)(d r:Int)(hr:closeZ z pid d=(r,z')):
  Calls Tryz.prog 43 #[.pointer(some⟨fdb,0,none⟩),.int .i64 pid,.int .i64 d]w(ZP cap w0 O fdb vb tb fb sb pb mb(c+1)z' w(.int .i64 r)):=by
 have hz:=h
 obtain⟨S,φ,hE,hR,hB⟩:=h
 unfold closeZ at hr
 rcases on_cases hR pid d with⟨r0,h0,hg,hon⟩ | ⟨b,n,f,k,hb,hf,rfl,hn,hx,ht,hk,hfn,hon⟩
 ·rw [hon]at hr;cases hr
  refine(k_closebad hE.fd pid hw d r hg h0).mono ?_
  rintro e w1⟨rfl,rfl⟩
  exact ZP.same hz(by omega)(Below.refl _ _)_
 ·rw [hon]at hr;cases hr
  rw [Int.toNat_natCast]
  have hnm:=hB.nm k hk
  have hR2:=(hR.setsl hb hf hn none(fun k hk=> by cases hk)).setth(k:=k)hk {z.th k with nm:=(z.th k).nm - 1}
  have hB2:=(hB.putp pid(some(upN f n none))).le(show(c:Int)≤(c+1:Nat)by omega)
  have hB3:=hB2.nmk(k:=k)hk((z.th k).nm - 1)(by omega)
  have hth:(z.putp pid(some(upN f n none))).th=z.th:=rfl
  by_cases h2:2≤(z.th k).nm
  ·unfold dropZ dropT
   rw [hth,if_pos h2]
   refine(ex_close2 hE pid hw b hb n(φ k)hn hx(z.th k)ht⟨h2,by omega⟩).mono(fun e w1 hq=> ?_)
   exact ZP.of(z:=(z.putp pid(some(upN f n none))).putt k {z.th k with nm:=(z.th k).nm - 1})hq(by omega)(by omega)(by omega)hR2 hB3
  ·unfold dropZ dropT
   rw [hth,if_neg h2]
   cases hpp:(z.th k).pp with
   | true=>
    rw [if_pos rfl]
    refine(kp_close hE hmc pid hw b hb n(φ k)hn hx(z.th k)ht⟨by omega,by omega⟩hpp(fun i p hp=> by have:=hB.ps i p hp;omega)(pcloseF z.ps(z.th k).id(z.th k).wr).1 rfl).mono(fun e w1 hq=> ?_)
    exact ZP.of(z:= {(z.putp pid(some(upN f n none))).putt k {z.th k with nm:=(z.th k).nm - 1}with ps:=(pcloseF z.ps(z.th k).id(z.th k).wr).2})hq(by omega)(by omega)(by omega)(hR2.ns rfl rfl rfl)(hB3.pipes _(pclose_rw hB.ps _ _))
   | false=>
    rw [if_neg(by decide)]
    refine(ex_closef hE hc pid hw b hb n(φ k)hn hx(z.th k)ht⟨by omega,by omega⟩hpp(closeF z.ns(z.th k).id).1 rfl).mono(fun e w1 hq=> ?_)
    exact ZP.of(z:= {(z.putp pid(some(upN f n none))).putt k {z.th k with nm:=(z.th k).nm - 1}with ns:=(closeF z.ns(z.th k).id).2})hq(by omega)(by omega)(by omega)(hR2.ns rfl rfl rfl)(hB3.ns rfl rfl rfl)
theorem zz_dup(h:EZ cap w0 O fdb vb tb fb sb pb mb c z w)(hc:c≤9000)(pid:Int)(hw:(Lit.int .i64 pid).wf=true)(d r1 r2:Int)(hr:dupZ z pid d=(r1,r2,z')):
  Calls Tryz.prog 47 #[.pointer(some⟨fdb,0,none⟩),.int .i64 pid,.int .i64 d]w(ZP cap w0 O fdb vb tb fb sb pb mb(c+8)z' w(.tuple #[.int .i64 r1,.int .i64 r2])):=by
 have hz:=h
 obtain⟨S,φ,hE,hR,hB⟩:=h
 unfold dupZ at hr
 rcases on_cases hR pid d with⟨r0,h0,hg,hon⟩ | ⟨b,n,f,k,hb,hf,rfl,hn,hx,ht,hk,hfn,hon⟩
 ·rw [hon]at hr;cases hr
  refine(k_dupbad hE.fd pid hw d r2 hg h0).mono ?_
  rintro e w1⟨rfl,rfl⟩
  exact ZP.same hz(by omega)(Below.refl _ _)_
 ·rw [hon]at hr
  have hsl:=hR.p1 pid b f hb hf
  cases hfl:freeL f 8 with
  | nil=>
   rw [hfl]at hr;cases hr
   refine(k_dupfull hE.fd pid hw b hb n(φ k)hn hx(fun j hj=> ?_)).mono ?_
   ·rw [hsl j hj]
    intro hno
    exact freeL_nil 8 hfl j hj(by simpa using hno)
   ·rintro e w1⟨rfl,hBl⟩
    exact ZP.same hz(by omega)hBl _
  | cons d2 rest=>
   rw [hfl]at hr
   cases hr
   obtain⟨n2,rfl,hn2,hno,hall⟩:=freeL_head 8 hfl
   rw [Int.toNat_natCast]
   have hnm:=hB.nm k hk
   refine(ex_dupf hE pid hw b hb n(φ k)hn hx(z.th k)ht⟨by omega,by omega⟩n2 hn2(by rw [hsl n2 hn2,hno];rfl)(fun j hj=> by rw [hsl j(by omega)];intro hno;exact hall j hj(by simpa using hno))).mono(fun e w1 hq=> ?_)
   exact ZP.of(z:=(z.putp pid(some(upN f n2(some k)))).putt k {z.th k with nm:=(z.th k).nm+1})hq(by omega)(by omega)(by omega)((hR.setsl hb hf hn2(some k)(fun j hj=> by cases hj;exact hk)).setth(k:=k)hk _)(((hB.putp pid _).le(show(c:Int)≤(c+8:Nat)by omega)).nmk(k:=k)hk((z.th k).nm+1)(by omega))
theorem zz_seek(h:EZ cap w0 O fdb vb tb fb sb pb mb c z w)(pid:Int)(hw:(Lit.int .i64 pid).wf=true)(d off r:Int)(hoff:off≤9223372036854775807)(hr:seekZ z pid d off=(r,z')):
  Calls Tryz.prog 46 #[.pointer(some⟨fdb,0,none⟩),.int .i64 pid,.int .i64 d,.int .i64 off]w(ZP cap w0 O fdb vb tb fb sb pb mb(c+8)z' w(.int .i64 r)):=by
 have hz:=h
 obtain⟨S,φ,hE,hR,hB⟩:=h
 unfold seekZ at hr
 rcases on_cases hR pid d with⟨r0,h0,hg,hon⟩ | ⟨b,n,f,k,hb,hf,rfl,hn,hx,ht,hk,hfn,hon⟩
 ·rw [hon]at hr;cases hr
  refine(k_seekbad hE.fd pid hw d off r hg h0).mono ?_
  rintro e w1⟨rfl,rfl⟩
  exact ZP.same hz(by omega)(Below.refl _ _)_
 ·rw [hon]at hr
  cases hpp:(z.th k).pp with
  | true=>
   rw [if_pos(.inl hpp)]at hr;cases hr
   refine(k_seekpipe hE.fd pid hw b hb n(φ k)hn hx(z.th k)ht hpp off).mono ?_
   rintro e w1⟨rfl,rfl⟩
   exact ZP.same hz(by omega)(Below.refl _ _)_
  | false=>
   by_cases h0:off < 0
   ·rw [if_pos(.inr h0)]at hr;cases hr
    refine(k_seekneg hE.fd pid hw b hb n(φ k)hn hx(z.th k)ht hpp off h0).mono ?_
    rintro e w1⟨rfl,rfl⟩
    exact ZP.same hz(by omega)(Below.refl _ _)_
   ·rw [if_neg(by rw [hpp];simp;omega)]at hr;cases hr
    refine(ex_seekf hE pid hw b hb n(φ k)hn hx(z.th k)ht hpp off(by omega)).mono(fun e w1 hq=> ?_)
    exact ZP.of(z:=z.putt k {z.th k with pl:=off})hq(by omega)(by omega)(by omega)(hR.setth hk _)((hB.le(show(c:Int)≤(c+8:Nat)by omega)).plk hk off⟨by omega,hoff⟩)
def ZR(cap:Nat)(w0:World)(O:Nat→Prop)(fdb vb tb fb sb pb mb c:Nat)(z:Z)(w:World)(ys:List Int)(er:Int)(e:Ending)(w' :World):Prop:=
 ∃a cp gb O',e= .returned(.tuple #[.slice a ys.length cp,.int .i64 er])∧RowV w' 5(.slice a ys.length cp)(ucells ys)gb∧(∀g,gb=some g→w.heap.size≤g∧¬O' g)∧Upd O w w' ∧EZ cap w0 O' fdb vb tb fb sb pb mb c z w' ∧∀k,O' k→O k∨w.heap.size≤k
theorem ZR.nil(h:EZ cap w0 O fdb vb tb fb sb pb mb c z w)(hc:c≤c')(er:Int):ZR cap w0 O fdb vb tb fb sb pb mb c' z w []er(.returned(.tuple #[.slice none 0 0,.int .i64 er]))w:=
 ⟨none,0,none,O,rfl,.inl⟨rfl,rfl,rfl⟩,(fun g hg=> by cases hg),Upd.refl _ _,h.up hc,fun k hk=> .inl hk⟩
theorem ZR.of {ys:List Int} {er:Int} {e:Ending}(h:XRead cap w0 O fdb vb tb fb sb pb mb z.ns c N M S z.ps w ys er e w')(hc:c≤c')(hN:N≤c')(hM:M≤c')(hR:RZ S z φ)(hB:BZ c' z):ZR cap w0 O fdb vb tb fb sb pb mb c' z w ys er e w' :=by
 obtain⟨a,cp,gb,O',h1,h2,h3,h4,h5,h6⟩:=h
 exact⟨a,cp,gb,O',h1,h2,h3,h4,⟨S,φ,h5.up hc hN hM,hR,hB⟩,h6⟩
theorem zz_read(h:EZ cap w0 O fdb vb tb fb sb pb mb c z w)(hmc:0 < w0.heap.size)(pid:Int)(hw:(Lit.int .i64 pid).wf=true)(d n:Int)(hnw:n≤9223372036854775807)(ys:List Int)(er:Int)(hr:readZ z pid d n=(ys,er,z')):
  Calls Tryz.prog 83 #[.pointer(some⟨fdb,0,none⟩),.int .i64 pid,.int .i64 d,.int .i64 n]w(ZR cap w0 O fdb vb tb fb sb pb mb(c+8)z' w ys er):=by
 have hz:=h
 obtain⟨S,φ,hE,hR,hB⟩:=h
 unfold readZ at hr
 rcases on_cases hR pid d with⟨r0,h0,hg,hon⟩ | ⟨b,n1,f,k,hb,hf,rfl,hn,hx,ht,hk,hfn,hon⟩
 ·rw [hon]at hr;cases hr
  refine(k_readbad hE.fd pid hw d n er hg h0).mono ?_
  rintro e w1⟨rfl,rfl⟩
  exact ZR.nil hz(by omega)_
 ·rw [hon]at hr
  cases hwr:(z.th k).wr with
  | true=>
   rw [if_pos hwr]at hr;cases hr
   refine(k_readend hE.fd pid hw b hb n1(φ k)hn hx(z.th k)ht hwr n).mono ?_
   rintro e w1⟨rfl,rfl⟩
   exact ZR.nil hz(by omega)_
  | false=>
   rw [if_neg(by rw [hwr];decide)]at hr
   cases hpp:(z.th k).pp with
   | true=>
    rw [if_pos hpp]at hr;cases hr
    refine(kp_rd hE hmc pid hw b hb n1(φ k)hn hx(z.th k)ht hpp hwr n hnw _ _ rfl).mono(fun e w1 hq=> ?_)
    exact ZR.of(z:= {z with ps:=(preadF z.ps(z.th k).id n).2.2})hq(by omega)(by omega)(by omega)(hR.ns rfl rfl rfl)((hB.le(show(c:Int)≤(c+8:Nat)by omega)).pipes _(pread_rw hB.ps _ _))
   | false=>
    rw [if_neg(by rw [hpp];decide)]at hr;cases hr
    obtain⟨j1,j2⟩:=readV_wide(fs:=filesOf z.ns)(id:=(z.th k).id)(off:=(z.th k).pl)(n:=n)rfl(fun bs hbs=> hE.b512 hbs)(hB.pl k hk)
    have hpl:=hB.pl k hk
    refine(ex_readf hE pid hw b hb n1(φ k)hn hx(z.th k)ht hpp hwr(hB.wf hk)n hnw _⟨hpl.1,j1⟩_ rfl(by omega)).mono(fun e w1 hq=> ?_)
    exact ZR.of(z:=z.putt k {z.th k with pl:=(z.th k).pl+((readV(filesOf z.ns)(z.th k).id(z.th k).pl n).1.length:Int)})hq(by omega)(by omega)(by omega)(hR.setth hk _)((hB.le(show(c:Int)≤(c+8:Nat)by omega)).plk hk _⟨by omega,j1⟩)
theorem atZ_is(hE:EX cap w0 O fdb vb tb fb sb pb mb z.ns c N M S ps w)(hB:BZ c z) {k:Nat}(hk:k < z.nx):(0≤atZ z.ns(z.th k)∧atZ z.ns(z.th k)≤9223372036854775807)∧(((z.th k).en=false∧(z.th k).pl=atZ z.ns(z.th k))∨((z.th k).en=true∧∃e,sizeV(filesOf z.ns)(z.th k).id=(atZ z.ns(z.th k),e))):=by
 unfold atZ
 cases hen:(z.th k).en with
 | false=> rw [if_neg(by decide)];exact⟨hB.pl k hk,.inl⟨rfl,rfl⟩⟩
 | true=>
  rw [if_pos rfl]
  refine⟨?_,.inr⟨rfl,(sizeV(filesOf z.ns)(z.th k).id).2,rfl⟩⟩
  unfold sizeV
  cases hf:fsAt(filesOf z.ns)(z.th k).id with
  | none=> simp
  | some bs=> have:=hE.b512 hf;simp only;omega
theorem zz_write(h:EZ cap w0 O fdb vb tb fb sb pb mb c z w)(hmc:0 < w0.heap.size)(pid:Int)(hw:(Lit.int .i64 pid).wf=true)(d:Int)(bs:List Int)(m cp:Nat)(a:Option Addr)(hm:bs.length=m)(hm6:m≤100000)(hv:SrcF O w(.slice a m cp)bs)(r1 r2:Int)(hr:writeZ cap z pid d bs=(r1,r2,z')):
  Calls Tryz.prog 45 #[.pointer(some⟨fdb,0,none⟩),.int .i64 pid,.int .i64 d,.slice a m cp]w(ZP cap w0 O fdb vb tb fb sb pb mb(c+8)z' w(.tuple #[.int .i64 r1,.int .i64 r2])):=by
 have hz:=h
 obtain⟨S,φ,hE,hR,hB⟩:=h
 unfold writeZ at hr
 have hB8:=hB.le(show(c:Int)≤(c+8:Nat)by omega)
 rcases on_cases hR pid d with⟨r0,h0,hg,hon⟩ | ⟨b,n1,f,k,hb,hf,rfl,hn,hx,ht,hk,hfn,hon⟩
 ·rw [hon]at hr;cases hr
  refine(k_writebad hE.fd pid hw d(.slice a m cp)r2 hg h0).mono ?_
  rintro e w1⟨rfl,rfl⟩
  exact ZP.same hz(by omega)(Below.refl _ _)_
 ·rw [hon]at hr
  cases hpp:(z.th k).pp with
  | true=>
   rw [if_pos hpp]at hr
   cases hwr:(z.th k).wr with
   | true=>
    rw [if_pos hwr]at hr
    have hpw:=pwrite_rw hB.ps(z.th k).id bs
    obtain⟨q1,q2,hq12⟩:∃q1 q2,pwriteF z.ps(z.th k).id bs=(q1,q2):=⟨_,_,rfl⟩
    rw [hq12]at hr hpw
    simp only at hr
    by_cases h0:q1=0
    ·subst h0
     rw [if_pos rfl]at hr;cases hr
     rw [hm]
     refine(kp_wr hE hmc pid hw b hb n1(φ k)hn hx(z.th k)ht hpp hwr bs m cp a hm hv hq12).mono(fun e w1 hq=> ?_)
     exact ZP.of(z:= {z with ps:=q2})hq(by omega)(by omega)(by omega)(hR.ns rfl rfl rfl)(hB8.pipes _ hpw)
    ·rw [if_neg h0]at hr;cases hr
     refine(kp_wrerr hE hmc pid hw b hb n1(φ k)hn hx(z.th k)ht hpp hwr bs m cp a hm hv _ hq12 h0).mono(fun e w1 hq=> ?_)
     exact ZP.of(z:= {z with ps:=q2})hq(by omega)(by omega)(by omega)(hR.ns rfl rfl rfl)(hB8.pipes _ hpw)
   | false=>
    rw [if_neg(by rw [hwr];decide)]at hr;cases hr
    refine(k_writeend hE.fd pid hw b hb n1(φ k)hn hx(z.th k)ht hpp hwr(.slice a m cp)).mono ?_
    rintro e w1⟨rfl,rfl⟩
    exact ZP.same hz(by omega)(Below.refl _ _)_
  | false=>
   rw [if_neg(by rw [hpp];decide)]at hr
   obtain⟨hp0,hp⟩:=atZ_is hE hB hk
   obtain⟨q1,q2,hq12⟩:∃q1 q2,wrF z.ns(cap - psN z.ps 4)(z.th k).id(atZ z.ns(z.th k))bs=(q1,q2):=⟨_,_,rfl⟩
   rw [hq12]at hr
   simp only at hr
   by_cases h0:q1=0
   ·subst h0
    have hwd:=wrF_wide hq12 hp0
    rw [if_pos rfl]at hr;cases hr
    rw [hm]at hwd ⊢
    refine(ex_writef hE pid hw b hb n1(φ k)hn hx(z.th k)ht hpp(hB.wf hk)bs m cp a hm hm6 hv(atZ z.ns(z.th k))⟨hp0.1,hwd⟩hp hq12).mono(fun e w1 hq=> ?_)
    exact ZP.of(z:=({z with ns:=q2}:Z).putt k {z.th k with pl:=atZ z.ns(z.th k)+(m:Int)})hq(by omega)(by omega)(by omega)((hR.ns(z' := {z with ns:=q2})rfl rfl rfl).setth hk _)((hB8.ns(z' := {z with ns:=q2})rfl rfl rfl).plk hk _⟨by omega,hwd⟩)
   ·rw [if_neg h0]at hr;cases hr
    refine(ex_writeerr hE pid hw b hb n1(φ k)hn hx(z.th k)ht hpp(hB.wf hk)bs m cp a hm hm6 hv(atZ z.ns(z.th k))hp0.1 hp _ hq12 h0).mono(fun e w1 hq=> ?_)
    exact ZP.of(z:= {z with ns:=q2})hq(by omega)(by omega)(by omega)(hR.ns rfl rfl rfl)(hB8.ns rfl rfl rfl)
theorem zz_open(h:EZ cap w0 O fdb vb tb fb sb pb mb c z w)(hc:c≤9000)(pid:Int)(hw:(Lit.int .i64 pid).wf=true)(l:Txt)(hll:l.length≤100000)(n:Int)(s:ByteArray)(hs:s=B l)(r1 r2:Int)(hr:openZ z pid l n=(r1,r2,z')):
  Calls Tryz.prog 42 #[.pointer(some⟨fdb,0,none⟩),.int .i64 pid,.string s,.int .i64 n]w(ZP cap w0 O fdb vb tb fb sb pb mb(c+8)z' w(.tuple #[.int .i64 r1,.int .i64 r2])):=by
 have hz:=h
 obtain⟨S,φ,hE,hR,hB⟩:=h
 have hB8:=hB.le(show(c:Int)≤(c+8:Nat)by omega)
 unfold openZ at hr
 cases hp:z.pr pid with
 | none=>
  rw [hp]at hr;cases hr
  refine(k_opennone hE.fd pid hw(hR.none' hp)s n).mono ?_
  rintro e w1⟨rfl,rfl⟩
  exact ZP.same hz(by omega)(Below.refl _ _)_
 | some f=>
  rw [hp]at hr
  simp only at hr
  obtain⟨b,hb,hsl⟩:=hR.some' hp
  cases hfl:freeL f 8 with
  | nil=>
   rw [hfl]at hr;cases hr
   refine(k_openfull hE.fd pid hw b hb(fun j hj=> ?_)n s).mono ?_
   ·rw [hsl j hj]
    intro hno
    exact freeL_nil 8 hfl j hj(by simpa using hno)
   ·rintro e w1⟨rfl,hBl⟩
    exact ZP.same hz(by omega)hBl _
  | cons d rest=>
   rw [hfl]at hr
   simp only at hr
   obtain⟨n2,rfl,hn2,hno,hall⟩:=freeL_head 8 hfl
   have hsn:S.sl b n2=none:=by rw [hsl n2 hn2,hno];rfl
   have hsa:∀j,j < n2→S.sl b j≠none:=fun j hj=> by rw [hsl j(by omega)];intro hno;exact hall j hj(by simpa using hno)
   obtain⟨q1,q2,q3,hq⟩:∃q1 q2 q3,openF z.ns l n=(q1,q2,q3):=⟨_,_,_,rfl⟩
   rw [hq]at hr
   simp only [Int.toNat_natCast]at hr
   by_cases h0:q2=0
   ·subst h0
    rw [if_pos rfl]at hr;cases hr
    have hid:=openF_id hE.iv hq
    refine(ex_openf hE hc pid hw b hb n2 hn2 hsn hsa l hll n q1 hq s hs).mono ?_
    rintro e w1⟨x,hx,hq3⟩
    exact ZP.of(z:=({z with ns:=q3}:Z).name pid f n2⟨false,false,q1,0,flE n,1⟩)hq3(by omega)(by omega)(by omega)((hR.ns(z' := {z with ns:=q3})rfl rfl rfl).name hb hp hn2(hE.fd.fresh hx).2 _)((hB8.ns(z' := {z with ns:=q3})rfl rfl rfl).name pid f n2 _(by show -((c+8:Nat):Int)≤1∧(1:Int)≤(c+8:Nat);omega)(by show(0:Int)≤0∧(0:Int)≤9223372036854775807;omega)hid(fun e=> by cases e))
   ·rw [if_neg h0]at hr;cases hr
    refine(ex_openerr hE hc pid hw b hb n2 hn2 hsn hsa l hll n q1 _ hq h0 s hs).mono(fun e w1 hq3=> ?_)
    exact ZP.of(z:= {z with ns:=q3})hq3(by omega)(by omega)(by omega)(hR.ns rfl rfl rfl)(hB8.ns rfl rfl rfl)
theorem zz_pipe(h:EZ cap w0 O fdb vb tb fb sb pb mb c z w)(hc:c≤9000)(hmc:0 < w0.heap.size)(pid:Int)(hw:(Lit.int .i64 pid).wf=true)(r1 r2:Int)(hr:pipeZ cap z pid=(r1,r2,z')):
  Calls Tryz.prog 52 #[.pointer(some⟨fdb,0,none⟩),.int .i64 pid]w(ZP cap w0 O fdb vb tb fb sb pb mb(c+8)z' w(.tuple #[.int .i64 r1,.int .i64 r2])):=by
 have hz:=h
 obtain⟨S,φ,hE,hR,hB⟩:=h
 have hB8:=hB.le(show(c:Int)≤(c+8:Nat)by omega)
 unfold pipeZ at hr
 cases hp:z.pr pid with
 | none=>
  rw [hp]at hr;cases hr
  refine(k_pipenone hE.fd pid hw(hR.none' hp)).mono ?_
  rintro e w1⟨rfl,rfl⟩
  exact ZP.same hz(by omega)(Below.refl _ _)_
 | some f=>
  rw [hp]at hr
  simp only at hr
  obtain⟨b,hb,hsl⟩:=hR.some' hp
  have hfr:freeL(S.sl b)8=freeL f 8:=freeL_map 8(fun d hd=> by rw [hsl d hd];cases f d <;> rfl)
  have hfull:(freeL f 8).length < 2→Calls Tryz.prog 52 #[.pointer(some⟨fdb,0,none⟩),.int .i64 pid]w(ZP cap w0 O fdb vb tb fb sb pb mb(c+8)z w(.tuple #[.int .i64 0,.int .i64 14])):=fun hl=> by
   refine(k_pipefull hE.fd pid hw b hb(by rw [hfr];exact hl)).mono ?_
   rintro e w1⟨rfl,hBl⟩
   exact ZP.same hz(by omega)hBl _
  match hfl:freeL f 8 with
  | []=> rw [hfl]at hr;cases hr;exact hfull(by rw [hfl];decide)
  | [d]=> rw [hfl]at hr;cases hr;exact hfull(by rw [hfl];simp)
  | d1::d2::rest=>
   rw [hfl]at hr
   simp only at hr
   obtain⟨n1,rfl,hn1,hno1⟩:=freeL_mem(f:=f)(x:=d1)8(by rw [hfl];simp)
   obtain⟨n2,rfl,hn2,hno2⟩:=freeL_mem(f:=f)(x:=d2)8(by rw [hfl];simp)
   have hmk:=pmake_rw hB.ps(freeZ cap z)
   obtain⟨q1,q2,q3,hq⟩:∃q1 q2 q3,pmakeF(freeZ cap z)z.ps=(q1,q2,q3):=⟨_,_,_,rfl⟩
   rw [hq]at hr hmk
   simp only [Int.toNat_natCast]at hr hmk
   by_cases h0:q2=0
   ·subst h0
    rw [if_pos rfl]at hr;cases hr
    refine(k_pipe hE hmc(by omega)pid hw b hb n1 n2 rest hn1 hn2(by rw [hfr,hfl])q1 hq).mono ?_
    rintro e w1⟨x,y,hx,hy,hxy,hq3⟩
    have hR1:=(hR.ns(z' := {z with ps:=q3})rfl rfl rfl).name hb hp hn1(hE.fd.fresh hx).2⟨true,false,q1,0,false,1⟩
    have hR2:=hR1.name(pid:=pid)(b:=b)(f:=upN f n1(some z.nx))(d:=n2)(x:=y)hb(if_pos rfl)hn2(fun k t hk=> by
     by_cases e:k=x
     ·subst e;exact hxy
     ·exact(hE.fd.fresh hy).2 k t(by rw [←hk];exact(upN_ne _ _ e).symm))⟨true,true,q1,0,false,1⟩
    have n0: -((c+8:Nat):Int)≤1∧(1:Int)≤(c+8:Nat):=by omega
    have n00:(0:Int)≤0∧(0:Int)≤9223372036854775807:=by omega
    have hB2:=((hB8.pipes q3 hmk.1).name pid f n1⟨true,false,q1,0,false,1⟩n0 n00 hmk.2(fun e=> by cases e)).name pid(upN f n1(some z.nx))n2⟨true,true,q1,0,false,1⟩n0 n00 hmk.2(fun _=> rfl)
    exact ZP.of(z:=(({z with ps:=q3}:Z).name pid f n1⟨true,false,q1,0,false,1⟩).name pid(upN f n1(some z.nx))n2⟨true,true,q1,0,false,1⟩)hq3(by omega)(by omega)(by omega)hR2 hB2
   ·rw [if_neg h0]at hr;cases hr
    refine(k_pipeerr hE hmc(by omega)pid hw b hb n1 n2 rest(by rw [hfr,hfl])q1 _ hq h0).mono(fun e w1 hq3=> ?_)
    exact ZP.of(z:= {z with ps:=q3})hq3(by omega)(by omega)(by omega)(hR.ns rfl rfl rfl)(hB8.pipes _ hmk.1)
theorem zz_used(h:EZ cap w0 O fdb vb tb fb sb pb mb c z w)(pid:Int)(hw:(Lit.int .i64 pid).wf=true)(us:List Int)(hu:usedZ z pid=us):
  Calls Tryz.prog 26 #[.pointer(some⟨fdb,0,none⟩),.int .i64 pid]w(UsedP w us):=by
 obtain⟨S,φ,hE,hR,hB⟩:=h
 subst hu
 unfold usedZ
 cases hp:z.pr pid with
 | none=>
  refine(k_usednone hE.fd pid hw(hR.none' hp)).mono ?_
  rintro e w1⟨rfl,rfl⟩
  exact⟨none,0,none,rfl,.inl⟨rfl,rfl,rfl⟩,(fun g hg=> by cases hg),Below.refl _ _⟩
 | some f=>
  obtain⟨b,hb,hsl⟩:=hR.some' hp
  have:=k_used hE.fd pid hw b hb
  rwa [usedL_map(f:=f)8(fun d hd=> by rw [hsl d hd];cases f d <;> rfl)]at this
end
end Go.Proofs.YtjpjafajploiaaaGreatDoor
