/-
  What each call of a descriptor answers, and leaves, by the plain ones.
-/
import Derived.Test.YtjpjafajploiaaaGreatDoorUnixAlone37
set_option linter.unusedSimpArgs false
set_option linter.unusedVariables false
namespace Go.Proofs.YtjpjafajploiaaaGreatDoor
open Go.RowKit Own RegJ Two
open Go.Lib hiding intOf
section
variable {cap:Nat} {w0 w w1 w2 w' :World} {O O1:Nat→Prop} {fdb vb tb fb sb pb mb:Nat} {c c' N N' M M' :Nat} {S S' :FS} {ns:NSt} {ps:PS} {φ:Nat→Nat} {z z' :Z}
theorem on_cases (hR:RZ S z φ) (pid d:Int):(∃r:Int,r≠0∧getR S pid d=r∧∀(α:Type) (bad:Int→α) (kk:(Nat→Option Nat)→Nat→α),z.on pid d bad kk=bad r)∨
  ∃(b n:Nat) (f:Nat→Option Nat) (k:Nat),S.pr pid=some b∧z.pr pid=some f∧d=n∧n < 8∧S.sl b n=some (φ k)∧S.th (φ k)=some (z.th k)∧k < z.nx∧f n=some k∧∀(α:Type) (bad:Int→α) (kk:(Nat→Option Nat)→Nat→α),z.on pid d bad kk=kk f k:=by
 cases hp:z.pr pid with
 | none=>
  refine .inl ⟨4,by decide,?_,fun α bad kk=> ?_⟩
  ·unfold getR;rw [hR.none' hp];rfl
  ·unfold Z.on;rw [hp]
 | some f=>
  obtain ⟨b,hb,hsl⟩:=hR.some' hp
  by_cases hd:0≤d∧d < 8
  ·obtain ⟨n,rfl⟩:=Int.eq_ofNat_of_zero_le hd.1
   have hn:n < 8:=by omega
   have hsn:=hsl n hn
   cases hf:f n with
   | none=>
    rw [hf] at hsn
    refine .inl ⟨8,by decide,?_,fun α bad kk=> ?_⟩
    ·unfold getR thN;rw [hb];simp only [if_pos hd,Int.toNat_natCast];rw [hsn];rfl
    ·unfold Z.on fdZ;rw [hp];simp only [if_pos hd,Int.toNat_natCast];rw [hf]
   | some k=>
    rw [hf] at hsn
    have hk:=(hR.rg pid f hp n k hf).1
    refine .inr ⟨b,n,f,k,hb,rfl,rfl,hn,hsn,hR.t1 k hk,hk,hf,fun α bad kk=> ?_⟩
    unfold Z.on fdZ;rw [hp];simp only [if_pos hd,Int.toNat_natCast];rw [hf]
  ·refine .inl ⟨8,by decide,?_,fun α bad kk=> ?_⟩
   ·unfold getR thN;rw [hb];simp only [if_neg hd];rfl
   ·unfold Z.on fdZ;rw [hp];simp only [if_neg hd]
theorem BZ.putp {K:Int} (h:BZ K z) (pid:Int) (x:Option (Nat→Option Nat)):BZ K (z.putp pid x):=h.ns rfl rfl rfl
theorem zz_close (h:EZ cap w0 O fdb vb tb fb sb pb mb c z w) (hc:c≤9000) (hmc:0 < w0.heap.size) (pid:Int) (hw:(Lit.int .i64 pid).wf=true) (d r:Int) (hr:closeZ z pid d=(r,z')):
  Calls Tryz.prog 43 #[.pointer (some ⟨fdb,0,none⟩),.int .i64 pid,.int .i64 d] w (ZP cap w0 O fdb vb tb fb sb pb mb (c+1) z' w (.int .i64 r)):=by
 have hz:=h
 obtain ⟨S,φ,hE,hR,hB⟩:=h
 unfold closeZ at hr
 rcases on_cases hR pid d with ⟨r0,h0,hg,hon⟩ | ⟨b,n,f,k,hb,hf,rfl,hn,hx,ht,hk,hfn,hon⟩
 ·rw [hon] at hr;cases hr
  refine (k_closebad hE.fd pid hw d r hg h0).mono ?_
  rintro e w1 ⟨rfl,rfl⟩
  exact ZP.same hz (by omega) (Below.refl _ _) _
 ·rw [hon] at hr;cases hr
  rw [Int.toNat_natCast]
  have hnm:=hB.nm k hk
  have hR2:=(hR.setsl hb hf hn none (fun k hk=> by cases hk)).setth (k:=k) hk {z.th k with nm:=(z.th k).nm - 1}
  have hB2:=(hB.putp pid (some (upN f n none))).le (show (c:Int)≤(c+1:Nat) by omega)
  have hB3:=hB2.nmk (k:=k) hk ((z.th k).nm - 1) (by omega)
  have hth:(z.putp pid (some (upN f n none))).th=z.th:=rfl
  by_cases h2:2≤(z.th k).nm
  ·unfold dropZ dropT
   rw [hth,if_pos h2]
   refine (ex_close2 hE pid hw b hb n (φ k) hn hx (z.th k) ht ⟨h2,by omega⟩).mono (fun e w1 hq=> ?_)
   exact ZP.of (z:=(z.putp pid (some (upN f n none))).putt k {z.th k with nm:=(z.th k).nm - 1}) hq (by omega) (by omega) (by omega) hR2 hB3
  ·unfold dropZ dropT
   rw [hth,if_neg h2]
   cases hpp:(z.th k).pp with
   | true=>
    rw [if_pos rfl]
    refine (kp_close hE hmc pid hw b hb n (φ k) hn hx (z.th k) ht ⟨by omega,by omega⟩ hpp (fun i p hp=> by have:=hB.ps i p hp;omega) (pcloseF z.ps (z.th k).id (z.th k).wr).1 rfl).mono (fun e w1 hq=> ?_)
    exact ZP.of (z:= {(z.putp pid (some (upN f n none))).putt k {z.th k with nm:=(z.th k).nm - 1} with ps:=(pcloseF z.ps (z.th k).id (z.th k).wr).2}) hq (by omega) (by omega) (by omega) (hR2.ns rfl rfl rfl) (hB3.pipes _ (pclose_rw hB.ps _ _))
   | false=>
    rw [if_neg (by decide)]
    refine (ex_closef hE hc pid hw b hb n (φ k) hn hx (z.th k) ht ⟨by omega,by omega⟩ hpp (closeF z.ns (z.th k).id).1 rfl).mono (fun e w1 hq=> ?_)
    exact ZP.of (z:= {(z.putp pid (some (upN f n none))).putt k {z.th k with nm:=(z.th k).nm - 1} with ns:=(closeF z.ns (z.th k).id).2}) hq (by omega) (by omega) (by omega) (hR2.ns rfl rfl rfl) (hB3.ns rfl rfl rfl)
theorem zz_dup (h:EZ cap w0 O fdb vb tb fb sb pb mb c z w) (hc:c≤9000) (pid:Int) (hw:(Lit.int .i64 pid).wf=true) (d r1 r2:Int) (hr:dupZ z pid d=(r1,r2,z')):
  Calls Tryz.prog 47 #[.pointer (some ⟨fdb,0,none⟩),.int .i64 pid,.int .i64 d] w (ZP cap w0 O fdb vb tb fb sb pb mb (c+8) z' w (.tuple #[.int .i64 r1,.int .i64 r2])):=by
 have hz:=h
 obtain ⟨S,φ,hE,hR,hB⟩:=h
 unfold dupZ at hr
 rcases on_cases hR pid d with ⟨r0,h0,hg,hon⟩ | ⟨b,n,f,k,hb,hf,rfl,hn,hx,ht,hk,hfn,hon⟩
 ·rw [hon] at hr;cases hr
  refine (k_dupbad hE.fd pid hw d r2 hg h0).mono ?_
  rintro e w1 ⟨rfl,rfl⟩
  exact ZP.same hz (by omega) (Below.refl _ _) _
 ·rw [hon] at hr
  have hsl:=hR.p1 pid b f hb hf
  cases hfl:freeL f 8 with
  | nil=>
   rw [hfl] at hr;cases hr
   refine (k_dupfull hE.fd pid hw b hb n (φ k) hn hx (fun j hj=> ?_)).mono ?_
   ·rw [hsl j hj]
    intro hno
    exact freeL_nil 8 hfl j hj (by simpa using hno)
   ·rintro e w1 ⟨rfl,hBl⟩
    exact ZP.same hz (by omega) hBl _
  | cons d2 rest=>
   rw [hfl] at hr
   cases hr
   obtain ⟨n2,rfl,hn2,hno,hall⟩:=freeL_head 8 hfl
   rw [Int.toNat_natCast]
   have hnm:=hB.nm k hk
   refine (ex_dupf hE pid hw b hb n (φ k) hn hx (z.th k) ht ⟨by omega,by omega⟩ n2 hn2 (by rw [hsl n2 hn2,hno];rfl) (fun j hj=> by rw [hsl j (by omega)];intro hno;exact hall j hj (by simpa using hno))).mono (fun e w1 hq=> ?_)
   exact ZP.of (z:=(z.putp pid (some (upN f n2 (some k)))).putt k {z.th k with nm:=(z.th k).nm+1}) hq (by omega) (by omega) (by omega) ((hR.setsl hb hf hn2 (some k) (fun j hj=> by cases hj;exact hk)).setth (k:=k) hk _) (((hB.putp pid _).le (show (c:Int)≤(c+8:Nat) by omega)).nmk (k:=k) hk ((z.th k).nm+1) (by omega))
theorem zz_seek (h:EZ cap w0 O fdb vb tb fb sb pb mb c z w) (pid:Int) (hw:(Lit.int .i64 pid).wf=true) (d off r:Int) (hoff:off≤9223372036854775807) (hr:seekZ z pid d off=(r,z')):
  Calls Tryz.prog 46 #[.pointer (some ⟨fdb,0,none⟩),.int .i64 pid,.int .i64 d,.int .i64 off] w (ZP cap w0 O fdb vb tb fb sb pb mb (c+8) z' w (.int .i64 r)):=by
 have hz:=h
 obtain ⟨S,φ,hE,hR,hB⟩:=h
 unfold seekZ at hr
 rcases on_cases hR pid d with ⟨r0,h0,hg,hon⟩ | ⟨b,n,f,k,hb,hf,rfl,hn,hx,ht,hk,hfn,hon⟩
 ·rw [hon] at hr;cases hr
  refine (k_seekbad hE.fd pid hw d off r hg h0).mono ?_
  rintro e w1 ⟨rfl,rfl⟩
  exact ZP.same hz (by omega) (Below.refl _ _) _
 ·rw [hon] at hr
  cases hpp:(z.th k).pp with
  | true=>
   rw [if_pos (.inl hpp)] at hr;cases hr
   refine (k_seekpipe hE.fd pid hw b hb n (φ k) hn hx (z.th k) ht hpp off).mono ?_
   rintro e w1 ⟨rfl,rfl⟩
   exact ZP.same hz (by omega) (Below.refl _ _) _
  | false=>
   by_cases h0:off < 0
   ·rw [if_pos (.inr h0)] at hr;cases hr
    refine (k_seekneg hE.fd pid hw b hb n (φ k) hn hx (z.th k) ht hpp off h0).mono ?_
    rintro e w1 ⟨rfl,rfl⟩
    exact ZP.same hz (by omega) (Below.refl _ _) _
   ·rw [if_neg (by rw [hpp];simp;omega)] at hr;cases hr
    refine (ex_seekf hE pid hw b hb n (φ k) hn hx (z.th k) ht hpp off (by omega)).mono (fun e w1 hq=> ?_)
    exact ZP.of (z:=z.putt k {z.th k with pl:=off}) hq (by omega) (by omega) (by omega) (hR.setth hk _) ((hB.le (show (c:Int)≤(c+8:Nat) by omega)).plk hk off ⟨by omega,hoff⟩)
def ZR (cap:Nat) (w0:World) (O:Nat→Prop) (fdb vb tb fb sb pb mb c:Nat) (z:Z) (w:World) (ys:List Int) (er:Int) (e:Ending) (w' :World):Prop:=
 ∃a cp gb O',e= .returned (.tuple #[.slice a ys.length cp,.int .i64 er])∧RowV w' 5 (.slice a ys.length cp) (ucells ys) gb∧(∀g,gb=some g→w.heap.size≤g∧¬O' g)∧Upd O w w' ∧EZ cap w0 O' fdb vb tb fb sb pb mb c z w' ∧∀k,O' k→O k∨w.heap.size≤k
theorem ZR.nil (h:EZ cap w0 O fdb vb tb fb sb pb mb c z w) (hc:c≤c') (er:Int):ZR cap w0 O fdb vb tb fb sb pb mb c' z w [] er (.returned (.tuple #[.slice none 0 0,.int .i64 er])) w:=
 ⟨none,0,none,O,rfl,.inl ⟨rfl,rfl,rfl⟩,(fun g hg=> by cases hg),Upd.refl _ _,h.up hc,fun k hk=> .inl hk⟩
theorem ZR.of {ys:List Int} {er:Int} {e:Ending} (h:XRead cap w0 O fdb vb tb fb sb pb mb z.ns c N M S z.ps w ys er e w') (hc:c≤c') (hN:N≤c') (hM:M≤c') (hR:RZ S z φ) (hB:BZ c' z):ZR cap w0 O fdb vb tb fb sb pb mb c' z w ys er e w' :=by
 obtain ⟨a,cp,gb,O',h1,h2,h3,h4,h5,h6⟩:=h
 exact ⟨a,cp,gb,O',h1,h2,h3,h4,⟨S,φ,h5.up hc hN hM,hR,hB⟩,h6⟩
theorem zz_read (h:EZ cap w0 O fdb vb tb fb sb pb mb c z w) (hmc:0 < w0.heap.size) (pid:Int) (hw:(Lit.int .i64 pid).wf=true) (d n:Int) (hnw:n≤9223372036854775807) (ys:List Int) (er:Int) (hr:readZ z pid d n=(ys,er,z')):
  Calls Tryz.prog 83 #[.pointer (some ⟨fdb,0,none⟩),.int .i64 pid,.int .i64 d,.int .i64 n] w (ZR cap w0 O fdb vb tb fb sb pb mb (c+8) z' w ys er):=by
 have hz:=h
 obtain ⟨S,φ,hE,hR,hB⟩:=h
 unfold readZ at hr
 rcases on_cases hR pid d with ⟨r0,h0,hg,hon⟩ | ⟨b,n1,f,k,hb,hf,rfl,hn,hx,ht,hk,hfn,hon⟩
 ·rw [hon] at hr;cases hr
  refine (k_readbad hE.fd pid hw d n er hg h0).mono ?_
  rintro e w1 ⟨rfl,rfl⟩
  exact ZR.nil hz (by omega) _
 ·rw [hon] at hr
  cases hwr:(z.th k).wr with
  | true=>
   rw [if_pos hwr] at hr;cases hr
   refine (k_readend hE.fd pid hw b hb n1 (φ k) hn hx (z.th k) ht hwr n).mono ?_
   rintro e w1 ⟨rfl,rfl⟩
   exact ZR.nil hz (by omega) _
  | false=>
   rw [if_neg (by rw [hwr];decide)] at hr
   cases hpp:(z.th k).pp with
   | true=>
    rw [if_pos hpp] at hr;cases hr
    refine (kp_rd hE hmc pid hw b hb n1 (φ k) hn hx (z.th k) ht hpp hwr n hnw _ _ rfl).mono (fun e w1 hq=> ?_)
    exact ZR.of (z:= {z with ps:=(preadF z.ps (z.th k).id n).2.2}) hq (by omega) (by omega) (by omega) (hR.ns rfl rfl rfl) ((hB.le (show (c:Int)≤(c+8:Nat) by omega)).pipes _ (pread_rw hB.ps _ _))
   | false=>
    rw [if_neg (by rw [hpp];decide)] at hr;cases hr
    obtain ⟨j1,j2⟩:=readV_wide (fs:=filesOf z.ns) (id:=(z.th k).id) (off:=(z.th k).pl) (n:=n) rfl (fun bs hbs=> hE.b512 hbs) (hB.pl k hk)
    have hpl:=hB.pl k hk
    refine (ex_readf hE pid hw b hb n1 (φ k) hn hx (z.th k) ht hpp hwr (hB.wf hk) n hnw _ ⟨hpl.1,j1⟩ _ rfl (by omega)).mono (fun e w1 hq=> ?_)
    exact ZR.of (z:=z.putt k {z.th k with pl:=(z.th k).pl+((readV (filesOf z.ns) (z.th k).id (z.th k).pl n).1.length:Int)}) hq (by omega) (by omega) (by omega) (hR.setth hk _) ((hB.le (show (c:Int)≤(c+8:Nat) by omega)).plk hk _ ⟨by omega,j1⟩)
theorem atZ_is (hE:EX cap w0 O fdb vb tb fb sb pb mb z.ns c N M S ps w) (hB:BZ c z) {k:Nat} (hk:k < z.nx):(0≤atZ z.ns (z.th k)∧atZ z.ns (z.th k)≤9223372036854775807)∧(((z.th k).en=false∧(z.th k).pl=atZ z.ns (z.th k))∨((z.th k).en=true∧∃e,sizeV (filesOf z.ns) (z.th k).id=(atZ z.ns (z.th k),e))):=by
 unfold atZ
 cases hen:(z.th k).en with
 | false=> rw [if_neg (by decide)];exact ⟨hB.pl k hk,.inl ⟨rfl,rfl⟩⟩
 | true=>
  rw [if_pos rfl]
  refine ⟨?_,.inr ⟨rfl,(sizeV (filesOf z.ns) (z.th k).id).2,rfl⟩⟩
  unfold sizeV
  cases hf:fsAt (filesOf z.ns) (z.th k).id with
  | none=> simp
  | some bs=> have:=hE.b512 hf;simp only;omega
theorem zz_write (h:EZ cap w0 O fdb vb tb fb sb pb mb c z w) (hmc:0 < w0.heap.size) (pid:Int) (hw:(Lit.int .i64 pid).wf=true) (d:Int) (bs:List Int) (m cp:Nat) (a:Option Addr) (hm:bs.length=m) (hm6:m≤100000) (hv:SrcF O w (.slice a m cp) bs) (r1 r2:Int) (hr:writeZ cap z pid d bs=(r1,r2,z')):
  Calls Tryz.prog 45 #[.pointer (some ⟨fdb,0,none⟩),.int .i64 pid,.int .i64 d,.slice a m cp] w (ZP cap w0 O fdb vb tb fb sb pb mb (c+8) z' w (.tuple #[.int .i64 r1,.int .i64 r2])):=by
 have hz:=h
 obtain ⟨S,φ,hE,hR,hB⟩:=h
 unfold writeZ at hr
 have hB8:=hB.le (show (c:Int)≤(c+8:Nat) by omega)
 rcases on_cases hR pid d with ⟨r0,h0,hg,hon⟩ | ⟨b,n1,f,k,hb,hf,rfl,hn,hx,ht,hk,hfn,hon⟩
 ·rw [hon] at hr;cases hr
  refine (k_writebad hE.fd pid hw d (.slice a m cp) r2 hg h0).mono ?_
  rintro e w1 ⟨rfl,rfl⟩
  exact ZP.same hz (by omega) (Below.refl _ _) _
 ·rw [hon] at hr
  cases hpp:(z.th k).pp with
  | true=>
   rw [if_pos hpp] at hr
   cases hwr:(z.th k).wr with
   | true=>
    rw [if_pos hwr] at hr
    have hpw:=pwrite_rw hB.ps (z.th k).id bs
    obtain ⟨q1,q2,hq12⟩:∃q1 q2,pwriteF z.ps (z.th k).id bs=(q1,q2):=⟨_,_,rfl⟩
    rw [hq12] at hr hpw
    simp only at hr
    by_cases h0:q1=0
    ·subst h0
     rw [if_pos rfl] at hr;cases hr
     rw [hm]
     refine (kp_wr hE hmc pid hw b hb n1 (φ k) hn hx (z.th k) ht hpp hwr bs m cp a hm hv hq12).mono (fun e w1 hq=> ?_)
     exact ZP.of (z:= {z with ps:=q2}) hq (by omega) (by omega) (by omega) (hR.ns rfl rfl rfl) (hB8.pipes _ hpw)
    ·rw [if_neg h0] at hr;cases hr
     refine (kp_wrerr hE hmc pid hw b hb n1 (φ k) hn hx (z.th k) ht hpp hwr bs m cp a hm hv _ hq12 h0).mono (fun e w1 hq=> ?_)
     exact ZP.of (z:= {z with ps:=q2}) hq (by omega) (by omega) (by omega) (hR.ns rfl rfl rfl) (hB8.pipes _ hpw)
   | false=>
    rw [if_neg (by rw [hwr];decide)] at hr;cases hr
    refine (k_writeend hE.fd pid hw b hb n1 (φ k) hn hx (z.th k) ht hpp hwr (.slice a m cp)).mono ?_
    rintro e w1 ⟨rfl,rfl⟩
    exact ZP.same hz (by omega) (Below.refl _ _) _
  | false=>
   rw [if_neg (by rw [hpp];decide)] at hr
   obtain ⟨hp0,hp⟩:=atZ_is hE hB hk
   obtain ⟨q1,q2,hq12⟩:∃q1 q2,wrF z.ns (cap - psN z.ps 4) (z.th k).id (atZ z.ns (z.th k)) bs=(q1,q2):=⟨_,_,rfl⟩
   rw [hq12] at hr
   simp only at hr
   by_cases h0:q1=0
   ·subst h0
    have hwd:=wrF_wide hq12 hp0
    rw [if_pos rfl] at hr;cases hr
    rw [hm] at hwd ⊢
    refine (ex_writef hE pid hw b hb n1 (φ k) hn hx (z.th k) ht hpp (hB.wf hk) bs m cp a hm hm6 hv (atZ z.ns (z.th k)) ⟨hp0.1,hwd⟩ hp hq12).mono (fun e w1 hq=> ?_)
    exact ZP.of (z:=({z with ns:=q2}:Z).putt k {z.th k with pl:=atZ z.ns (z.th k)+(m:Int)}) hq (by omega) (by omega) (by omega) ((hR.ns (z' := {z with ns:=q2}) rfl rfl rfl).setth hk _) ((hB8.ns (z' := {z with ns:=q2}) rfl rfl rfl).plk hk _ ⟨by omega,hwd⟩)
   ·rw [if_neg h0] at hr;cases hr
    refine (ex_writeerr hE pid hw b hb n1 (φ k) hn hx (z.th k) ht hpp (hB.wf hk) bs m cp a hm hm6 hv (atZ z.ns (z.th k)) hp0.1 hp _ hq12 h0).mono (fun e w1 hq=> ?_)
    exact ZP.of (z:= {z with ns:=q2}) hq (by omega) (by omega) (by omega) (hR.ns rfl rfl rfl) (hB8.ns rfl rfl rfl)
theorem zz_open (h:EZ cap w0 O fdb vb tb fb sb pb mb c z w) (hc:c≤9000) (pid:Int) (hw:(Lit.int .i64 pid).wf=true) (l:Txt) (hll:l.length≤100000) (n:Int) (s:ByteArray) (hs:s=B l) (r1 r2:Int) (hr:openZ z pid l n=(r1,r2,z')):
  Calls Tryz.prog 42 #[.pointer (some ⟨fdb,0,none⟩),.int .i64 pid,.string s,.int .i64 n] w (ZP cap w0 O fdb vb tb fb sb pb mb (c+8) z' w (.tuple #[.int .i64 r1,.int .i64 r2])):=by
 have hz:=h
 obtain ⟨S,φ,hE,hR,hB⟩:=h
 have hB8:=hB.le (show (c:Int)≤(c+8:Nat) by omega)
 unfold openZ at hr
 cases hp:z.pr pid with
 | none=>
  rw [hp] at hr;cases hr
  refine (k_opennone hE.fd pid hw (hR.none' hp) s n).mono ?_
  rintro e w1 ⟨rfl,rfl⟩
  exact ZP.same hz (by omega) (Below.refl _ _) _
 | some f=>
  rw [hp] at hr
  simp only at hr
  obtain ⟨b,hb,hsl⟩:=hR.some' hp
  cases hfl:freeL f 8 with
  | nil=>
   rw [hfl] at hr;cases hr
   refine (k_openfull hE.fd pid hw b hb (fun j hj=> ?_) n s).mono ?_
   ·rw [hsl j hj]
    intro hno
    exact freeL_nil 8 hfl j hj (by simpa using hno)
   ·rintro e w1 ⟨rfl,hBl⟩
    exact ZP.same hz (by omega) hBl _
  | cons d rest=>
   rw [hfl] at hr
   simp only at hr
   obtain ⟨n2,rfl,hn2,hno,hall⟩:=freeL_head 8 hfl
   have hsn:S.sl b n2=none:=by rw [hsl n2 hn2,hno];rfl
   have hsa:∀j,j < n2→S.sl b j≠none:=fun j hj=> by rw [hsl j (by omega)];intro hno;exact hall j hj (by simpa using hno)
   obtain ⟨q1,q2,q3,hq⟩:∃q1 q2 q3,openF z.ns l n=(q1,q2,q3):=⟨_,_,_,rfl⟩
   rw [hq] at hr
   simp only [Int.toNat_natCast] at hr
   by_cases h0:q2=0
   ·subst h0
    rw [if_pos rfl] at hr;cases hr
    have hid:=openF_id hE.iv hq
    refine (ex_openf hE hc pid hw b hb n2 hn2 hsn hsa l hll n q1 hq s hs).mono ?_
    rintro e w1 ⟨x,hx,hq3⟩
    exact ZP.of (z:=({z with ns:=q3}:Z).name pid f n2 ⟨false,false,q1,0,flE n,1⟩) hq3 (by omega) (by omega) (by omega) ((hR.ns (z' := {z with ns:=q3}) rfl rfl rfl).name hb hp hn2 (hE.fd.fresh hx).2 _) ((hB8.ns (z' := {z with ns:=q3}) rfl rfl rfl).name pid f n2 _ (by show -((c+8:Nat):Int)≤1∧(1:Int)≤(c+8:Nat);omega) (by show (0:Int)≤0∧(0:Int)≤9223372036854775807;omega) hid (fun e=> by cases e))
   ·rw [if_neg h0] at hr;cases hr
    refine (ex_openerr hE hc pid hw b hb n2 hn2 hsn hsa l hll n q1 _ hq h0 s hs).mono (fun e w1 hq3=> ?_)
    exact ZP.of (z:= {z with ns:=q3}) hq3 (by omega) (by omega) (by omega) (hR.ns rfl rfl rfl) (hB8.ns rfl rfl rfl)
theorem zz_pipe (h:EZ cap w0 O fdb vb tb fb sb pb mb c z w) (hc:c≤9000) (hmc:0 < w0.heap.size) (pid:Int) (hw:(Lit.int .i64 pid).wf=true) (r1 r2:Int) (hr:pipeZ cap z pid=(r1,r2,z')):
  Calls Tryz.prog 52 #[.pointer (some ⟨fdb,0,none⟩),.int .i64 pid] w (ZP cap w0 O fdb vb tb fb sb pb mb (c+8) z' w (.tuple #[.int .i64 r1,.int .i64 r2])):=by
 have hz:=h
 obtain ⟨S,φ,hE,hR,hB⟩:=h
 have hB8:=hB.le (show (c:Int)≤(c+8:Nat) by omega)
 unfold pipeZ at hr
 cases hp:z.pr pid with
 | none=>
  rw [hp] at hr;cases hr
  refine (k_pipenone hE.fd pid hw (hR.none' hp)).mono ?_
  rintro e w1 ⟨rfl,rfl⟩
  exact ZP.same hz (by omega) (Below.refl _ _) _
 | some f=>
  rw [hp] at hr
  simp only at hr
  obtain ⟨b,hb,hsl⟩:=hR.some' hp
  have hfr:freeL (S.sl b) 8=freeL f 8:=freeL_map 8 (fun d hd=> by rw [hsl d hd];cases f d <;> rfl)
  have hfull:(freeL f 8).length < 2→Calls Tryz.prog 52 #[.pointer (some ⟨fdb,0,none⟩),.int .i64 pid] w (ZP cap w0 O fdb vb tb fb sb pb mb (c+8) z w (.tuple #[.int .i64 0,.int .i64 14])):=fun hl=> by
   refine (k_pipefull hE.fd pid hw b hb (by rw [hfr];exact hl)).mono ?_
   rintro e w1 ⟨rfl,hBl⟩
   exact ZP.same hz (by omega) hBl _
  match hfl:freeL f 8 with
  | []=> rw [hfl] at hr;cases hr;exact hfull (by rw [hfl];decide)
  | [d]=> rw [hfl] at hr;cases hr;exact hfull (by rw [hfl];simp)
  | d1::d2::rest=>
   rw [hfl] at hr
   simp only at hr
   obtain ⟨n1,rfl,hn1,hno1⟩:=freeL_mem (f:=f) (x:=d1) 8 (by rw [hfl];simp)
   obtain ⟨n2,rfl,hn2,hno2⟩:=freeL_mem (f:=f) (x:=d2) 8 (by rw [hfl];simp)
   have hmk:=pmake_rw hB.ps (freeZ cap z)
   obtain ⟨q1,q2,q3,hq⟩:∃q1 q2 q3,pmakeF (freeZ cap z) z.ps=(q1,q2,q3):=⟨_,_,_,rfl⟩
   rw [hq] at hr hmk
   simp only [Int.toNat_natCast] at hr hmk
   by_cases h0:q2=0
   ·subst h0
    rw [if_pos rfl] at hr;cases hr
    refine (k_pipe hE hmc (by omega) pid hw b hb n1 n2 rest hn1 hn2 (by rw [hfr,hfl]) q1 hq).mono ?_
    rintro e w1 ⟨x,y,hx,hy,hxy,hq3⟩
    have hR1:=(hR.ns (z' := {z with ps:=q3}) rfl rfl rfl).name hb hp hn1 (hE.fd.fresh hx).2 ⟨true,false,q1,0,false,1⟩
    have hR2:=hR1.name (pid:=pid) (b:=b) (f:=upN f n1 (some z.nx)) (d:=n2) (x:=y) hb (if_pos rfl) hn2 (fun k t hk=> by
     by_cases e:k=x
     ·subst e;exact hxy
     ·exact (hE.fd.fresh hy).2 k t (by rw [←hk];exact (upN_ne _ _ e).symm)) ⟨true,true,q1,0,false,1⟩
    have n0: -((c+8:Nat):Int)≤1∧(1:Int)≤(c+8:Nat):=by omega
    have n00:(0:Int)≤0∧(0:Int)≤9223372036854775807:=by omega
    have hB2:=((hB8.pipes q3 hmk.1).name pid f n1 ⟨true,false,q1,0,false,1⟩ n0 n00 hmk.2 (fun e=> by cases e)).name pid (upN f n1 (some z.nx)) n2 ⟨true,true,q1,0,false,1⟩ n0 n00 hmk.2 (fun _=> rfl)
    exact ZP.of (z:=(({z with ps:=q3}:Z).name pid f n1 ⟨true,false,q1,0,false,1⟩).name pid (upN f n1 (some z.nx)) n2 ⟨true,true,q1,0,false,1⟩) hq3 (by omega) (by omega) (by omega) hR2 hB2
   ·rw [if_neg h0] at hr;cases hr
    refine (k_pipeerr hE hmc (by omega) pid hw b hb n1 n2 rest (by rw [hfr,hfl]) q1 _ hq h0).mono (fun e w1 hq3=> ?_)
    exact ZP.of (z:= {z with ps:=q3}) hq3 (by omega) (by omega) (by omega) (hR.ns rfl rfl rfl) (hB8.pipes _ hmk.1)
theorem zz_used (h:EZ cap w0 O fdb vb tb fb sb pb mb c z w) (pid:Int) (hw:(Lit.int .i64 pid).wf=true) (us:List Int) (hu:usedZ z pid=us):
  Calls Tryz.prog 26 #[.pointer (some ⟨fdb,0,none⟩),.int .i64 pid] w (UsedP w us):=by
 obtain ⟨S,φ,hE,hR,hB⟩:=h
 subst hu
 unfold usedZ
 cases hp:z.pr pid with
 | none=>
  refine (k_usednone hE.fd pid hw (hR.none' hp)).mono ?_
  rintro e w1 ⟨rfl,rfl⟩
  exact ⟨none,0,none,rfl,.inl ⟨rfl,rfl,rfl⟩,(fun g hg=> by cases hg),Below.refl _ _⟩
 | some f=>
  obtain ⟨b,hb,hsl⟩:=hR.some' hp
  have:=k_used hE.fd pid hw b hb
  rwa [usedL_map (f:=f) 8 (fun d hd=> by rw [hsl d hd];cases f d <;> rfl)] at this
end
end Go.Proofs.YtjpjafajploiaaaGreatDoor
namespace Go.Proofs.YtjpjafajploiaaaGreatDoor
open Go.RowKit Own RegJ Two
open Go.Lib hiding intOf
def closeL (z:Z) (pid:Int):List Int→Z
 | []=> z
 | d::r=> closeL (closeZ z pid d).2 pid r
theorem closeL_app (pid:Int) (b:List Int):∀(a:List Int) (z:Z),closeL z pid (a++b)=closeL (closeL z pid a) pid b
 | [],z=> rfl
 | d::r,z=> closeL_app pid b r _
theorem dropT_pr (z:Z) (k:Nat):(dropT z k).pr=z.pr:=by
 unfold dropT
 split
 ·rfl
 ·split <;> rfl
theorem closeL_used {z:Z} {pid:Int} {f:Nat→Option Nat} (hp:z.pr pid=some f):∀i,i≤8→closeL z pid (usedL f i)=leaveN z pid i∧∃g,(leaveN z pid i).pr pid=some g∧∀d,i≤d→g d=f d
 | 0,_=> ⟨rfl,f,hp,fun _ _=> rfl⟩
 | i+1,hi=> by
  obtain ⟨h1,g,h2,h3⟩:=closeL_used hp i (by omega)
  unfold usedL
  rw [closeL_app,h1]
  have hgi:g i=f i:=h3 i (Nat.le_refl _)
  have hl:leaveN z pid (i+1)=match g i with | none=> leaveN z pid i | some k=> dropZ (leaveN z pid i) pid g i k:=by
   show (match (leaveN z pid i).pr pid with | none=> leaveN z pid i | some f=> match f i with | none=> leaveN z pid i | some k=> dropZ (leaveN z pid i) pid f i k)=_
   rw [h2]
  rw [hl,hgi]
  cases hf:f i with
  | none=> exact ⟨rfl,g,h2,fun d hd=> h3 d (by omega)⟩
  | some k=>
   refine ⟨?_,upN g i none,?_,fun d hd=> ?_⟩
   ·show (closeZ (leaveN z pid i) pid i).2=_
    unfold closeZ Z.on fdZ
    rw [h2]
    simp only [Int.toNat_natCast]
    rw [if_pos (by omega),hgi,hf]
   ·unfold dropZ
    rw [dropT_pr]
    exact if_pos rfl
   ·rw [upN_ne _ _ (by omega)];exact h3 d (by omega)
section
variable {cap:Nat} {w0 w w1 w2 w' :World} {O O1:Nat→Prop} {fdb vb tb fb sb pb mb:Nat} {c c' N N' M M' :Nat} {S S' :FS} {ns:NSt} {ps:PS} {φ:Nat→Nat} {z z' :Z}
theorem ZP.ahead {v:Value} {e:Ending} (hB:Below w.heap.size w w1) (h:ZP cap w0 O fdb vb tb fb sb pb mb c z w1 v e w'):ZP cap w0 O fdb vb tb fb sb pb mb c z w v e w' :=by
 obtain ⟨h1,h2,O',h3,h4⟩:=h
 exact ⟨h1,(Upd.of_below hB).trans h2 (fun _ _ h=> h),O',h3,fun k hk=> (h4 k hk).imp id (fun h=> Nat.le_trans hB.size h)⟩
theorem ZP.seq {v:Value} {e:Ending} (h:Upd O w w1) (hO1:∀k,O1 k→O k∨w.heap.size≤k) (k:ZP cap w0 O1 fdb vb tb fb sb pb mb c z w1 v e w'):ZP cap w0 O fdb vb tb fb sb pb mb c z w v e w' :=by
 obtain ⟨k1,k2,O2,k3,k4⟩:=k
 refine ⟨k1,h.trans k2 (fun i hi hk=> (hO1 i hk).elim id (fun h=> by omega)),O2,k3,fun j hj=> ?_⟩
 rcases k4 j hj with hj | hj
 ·exact hO1 j hj
 ·exact .inr (Nat.le_trans h.size hj)
set_option maxRecDepth 100000 in
set_option maxHeartbeats 2000000 in
theorem zz_leave (h:EZ cap w0 O fdb vb tb fb sb pb mb c z w) (hc:c≤8900) (hmc:0 < w0.heap.size) (pid:Int) (hw:(Lit.int .i64 pid).wf=true) (r:Int) (hr:leaveZ z pid=(r,z')):
  Calls Tryz.prog 58 #[.pointer (some ⟨fdb,0,none⟩),.int .i64 pid] w (ZP cap w0 O fdb vb tb fb sb pb mb (c+8) z' w (.int .i64 r)):=by
 have hz:=h
 obtain ⟨S,φ,hE,hR,hB⟩:=h
 unfold leaveZ at hr
 cases hp:z.pr pid with
 | none=>
  rw [hp] at hr;cases hr
  refine (k_leavenone hE.fd pid hw (hR.none' hp)).mono ?_
  rintro e w1 ⟨rfl,rfl⟩
  exact ZP.same hz (by omega) (Below.refl _ _) _
 | some f=>
  rw [hp] at hr;cases hr
  obtain ⟨b,hb,hsl⟩:=hR.some' hp
  obtain ⟨us,hus⟩:∃us,usedL f 8=us:=⟨_,rfl⟩
  obtain ⟨m,hm⟩:∃m,us.length=m:=⟨_,rfl⟩
  have hpc:=k_proc hE.fd pid hw (some b) hb 0 (by unfold procR;rw [hb])
  have husd:=zz_used hz pid hw us (by unfold usedZ;rw [hp];exact hus)
  obtain ⟨hcl,g8,hg8,-⟩:=closeL_used hp 8 (Nat.le_refl _)
  rw [hus] at hcl
  have hm8:m≤8:=by rw [←hm,←hus];exact usedL_len f 8
  have HE:=Lib.hid (And.intro hz (And.intro hw (And.intro hcl (And.intro hg8 (And.intro hm hmc)))))
  have HL:=Lib.hid hE.rng
  simp only [ptb,Option.map] at hpc
  clear hz hE hR hB hp hb hsl hus hcl hg8 hw
  go_enter Tryz.func58,Tryz.ntmps58
  go_wp2_with (first
   | (go_at_call 67;refine hpc.mono ?_;rintro e w1 ⟨rfl,rfl⟩)
   | (go_at_call 26;refine husd.mono ?_;rintro e w1 ⟨a,cu,g,rfl,hR,hgO,hB1⟩;rw [hm] at hR ⊢;have H1:=Lib.hid (And.intro hR (And.intro hgO hB1));clear hR hgO hB1 husd hpc hm))
  go_loopw [22] (fun v22 wr=> ∃i:Nat,i≤m∧v22= .int .i64 i∧Hid (∃O3,EZ cap w0 O3 fdb vb tb fb sb pb mb (c+i) (closeL z pid (us.take i)) wr∧Upd O w1 wr∧∀k,O3 k→O k∨w1.heap.size≤k)) (fun v22 _=> m - (intOf v22).toNat)
  case atStart=> exact ⟨0,Nat.zero_le _,rfl,Lib.hid ⟨O,HE.out.1.below H1.out.2.2,Upd.refl _ _,fun k hk=> .inl hk⟩⟩
  case round=>
   obtain ⟨i,hi,rfl,H⟩:=hrel
   obtain ⟨O3,hZ,hU,hO3⟩:=H.out
   by_cases him:i < m
   ·have d1:decide ((i:Int) < m)=true:=by simp;omega
    have i1:(i:Int) < m:=by omega
    have i2:(0:Int)≤i:=by omega
    obtain ⟨dx,hdx⟩:∃dx,us[i]? =some dx:=⟨_,List.getElem?_eq_getElem (by rw [HE.out.2.2.2.2.1];exact him)⟩
    obtain ⟨g',rfl,hcell⟩:∃g,a=some ⟨g,0,none⟩∧wr.cell? ⟨g,i,none⟩=some (.int .i64 dx):=by
     obtain ⟨hR,hgO,hB1⟩:=H1.out
     rcases hR with ⟨hv,hn,_⟩ | ⟨g',cap',rest,hv,hgr,hBk,_⟩
     ·simp only [Value.slice.injEq] at hv
      omega
     ·simp only [Value.slice.injEq] at hv
      refine ⟨g',hv.1,?_⟩
      have h0:w1.cell? ⟨g',i,none⟩=some (.int .i64 dx):=by
       rw [hBk.rd]
       have:(icells us)[i]? =some (.int .i64 dx):=by rw [List.getElem?_map,hdx];rfl
       have hl:=(List.getElem?_eq_some_iff.1 this).1
       show (icells us++rest).toArray[i]? =_
       rw [List.getElem?_toArray,List.getElem?_append_left hl,this]
      exact cell_upd hU h0 (fun hk=> by have:=(HL.out g' hk).2;have:=hgO g' hgr;omega)
    have hcl:=zz_close hZ (by omega) HE.out.2.2.2.2.2 pid HE.out.2.1 dx _ (z' :=(closeZ (closeL z pid (us.take i)) pid dx).2) rfl
    have HD:=Lib.hid hdx
    have HP:=Lib.hid (And.intro hU hO3)
    clear hdx hZ hU hO3
    go_wp2_with (go_at_call 43;refine hcl.mono ?_;rintro e w3 ⟨rfl,hU3,O4,hZ4,hO4⟩;have H3:=Lib.hid (And.intro hU3 (And.intro hZ4 hO4));clear hU3 hZ4 hO4 hcl)
    go_roundw
    case rel=>
     obtain ⟨hU,hO3⟩:=HP.out
     obtain ⟨hU3,hZ4,hO4⟩:=H3.out
     have hz4:=hU.size
     refine ⟨i+1,by omega,by go_num,Lib.hid ⟨O4,?_,hU.trans hU3 (fun j hj hk=> (hO3 j hk).elim id (fun h=> by omega)),fun k hk=> (hO4 k hk).elim (fun h=> hO3 k h) (fun h=> .inr (by omega))⟩⟩
     rw [List.take_add_one,HD.out,closeL_app]
     exact hZ4
    case measure=> simp [intOf];omega
   ·have d1:decide ((i:Int) < m)=false:=by simp;omega
    obtain rfl:i=m:=by omega
    rw [List.take_of_length_le (by rw [HE.out.2.2.2.2.1];exact Nat.le_refl _),HE.out.2.2.1] at hZ
    obtain ⟨S3,φ3,hE3,hR3,hB3⟩:=hZ
    have c2:wr.cell? ⟨fdb,2,none⟩=some (.map (some mb)):=hE3.fd.f.rd 2
    obtain ⟨n,s,hmm,hn⟩:=hE3.fd.m
    have H4:=Lib.hid (And.intro hU (And.intro hE3 (And.intro hO3 (And.intro hmm (And.intro hn (And.intro hR3 hB3))))))
    clear hU hE3 hO3 hmm hn hR3 hB3
    go_wp2_with (at_delete;refine wp_mapdel _ rfl _ _ 152 3 rfl 132 Tryz.underlying3 Tryz.underlying152 mb n s _ rfl H4.out.2.2.2.1 pid HE.out.2.1 rfl ?_;intro w5 hM5 hu5;have H5:=Lib.hid (And.intro hM5 hu5);clear hM5 hu5)
    go_ret
    obtain ⟨hU,hE3,hO3,hmm,hn,hR3,hB3⟩:=H4.out
    obtain ⟨hM5,hu5⟩:=H5.out
    obtain ⟨hR,hgO,hB1⟩:=H1.out
    have hD:=hE3.fd.drop pid hM5 hn hu5 (fun k cs T hk=> hmm.blk hk)
    have hown:=hE3.own (hu5.mono (fun k _ e=> .inr (.inl e))) hD (fun k hk=> .inl (by
     rcases hk with hk | hk | ⟨i,hi⟩ | hk
     ·exact .inl hk
     ·exact .inr (.inl hk)
     ·refine .inr (.inr (.inl ⟨i,?_⟩))
      unfold FS.drop at hi
      simp only at hi
      split at hi
      ·cases hi
      ·exact hi
     ·exact .inr (.inr (.inr hk)))) (.int .i64 0)
    exact ZP.ahead hB1 (ZP.seq hU hO3 (ZP.of (z:=(leaveN z pid 8).putp pid none) hown (by omega) (by omega) (by omega) (hR3.drop pid) ((hB3.le (by push_cast;omega)).putp pid none)))
end
end Go.Proofs.YtjpjafajploiaaaGreatDoor
namespace Go.Proofs.YtjpjafajploiaaaGreatDoor
open Go.RowKit Own RegJ Two Go.Shelf Go.Proofs
section
variable {w w' :World} {qb qm n s n' s' :Nat} {m m' :PrM}
set_option maxRecDepth 100000 in
set_option maxHeartbeats 1000000 in
theorem pleave_c (h:PrC w qb qm n s m) (hn:n≤100000000) (c:Int) (hw:(Lit.int .i64 c).wf=true) (x:Pr) (hx:m c=some x):
  Calls Tryz.prog 96 #[.pointer (some ⟨qb,0,none⟩),.int .i64 c] w fun e w' => e= .returned (.tuple #[])∧PrC w' qb qm (n+1) s (leaveP m c)∧Upd (fun k=> k=qm) w w' :=by
 have hl:=(MapI.look h.mm.choose_spec.choose_spec.1 Tryz.underlying3 Tryz.underlying127 (zero_pr w) c hw)
 rw [hx] at hl
 obtain ⟨pa,co,de⟩:=x
 simp only [Option.map_some,prV] at hl
 have c0:=h.q.rd 0
 go_enter Tryz.func96,Tryz.ntmps96
 go_upto_region 2 with (fail)
 obtain ⟨W9,hW9⟩:∃W9,(w.alloc (.cells #[.int .i64 (-1),.int .i64 co,.bool de] 125)).drew=W9:=⟨_,rfl⟩
 have h9:Below w.heap.size w W9:=by rw [←hW9];exact ((Below.refl _ _).alloc (Nat.le_refl _) _).trans ((dn _ 1).mono (by simp))
 have hb9:Blk W9 w.heap.size #[.int .i64 (-1),.int .i64 co,.bool de] 125:=by rw [←hW9];exact (Blk.new w _ _).drew
 have hp9:=h.below h9
 obtain ⟨hlt1,hlt2⟩:=h.lt
 have hne:=h.ne
 obtain ⟨RQ,hRQ⟩:∃RQ:World→Prop,RQ=fun w9=> PrC w9 qb qm (n+1) s (prPut m c (some ⟨-1,co,de⟩))∧Upd (fun k=> k=qm) W9 w9∧Blk w9 w.heap.size #[.int .i64 (-1),.int .i64 co,.bool de] 125:=⟨_,rfl⟩
 obtain ⟨n',s',hm9,hn',hs'⟩:=hp9.mm
 have key:∀w9,MapI w9 Tryz.prog 3 qm (n' +1) (if ((m c).map prV).isSome then s' else s' +1) (mput (fun i=> (m i).map prV) c (prV ⟨-1,co,de⟩))→Upd (fun k=> k=qm) W9 w9→RQ w9:=by
  intro w9 hm2 hu2
  rw [hRQ]
  refine ⟨?_,hu2,Blk.upd hu2 hb9 (by omega)⟩
  have:=PrC.put (Blk.upd hu2 hp9.q hne) hp9 hw ⟨-1,co,de⟩ hn' hs' hm2
  rwa [hx] at this
 have HM:=Lib.hid (And.intro key (And.intro hm9 (And.intro hn' (And.intro hw (And.intro hp9.q (And.intro hb9 hn))))))
 have HF:=Lib.hid (And.intro hRQ (And.intro h9 hx))
 clear h hn hx hl c0 h9 hb9 hp9 hlt1 hlt2 hne hRQ hm9 hn' hs' key hw
 refine region_C 6 W9 RQ hW9 (by kernel_rfl) (by kernel_rfl) ?_
 iterate 3
  apply wpJ_op rfl (by rfl)
  ·intro f w1 hf hJ Q1 hQ
   simp only [nrm] at hQ
   go_wp2_with (fail)
   exact hQ _ _ rfl (hJ.other rfl hf (by decide))
  simp only [nrm]
 apply wpJ_op rfl (by rfl)
 ·intro f w1 hf hJ Q1 hQ
  have hC:f 6=false:=path_no hJ.1 [3] (by kernel_rfl) (by decide) hf.1
  rw [hJ.atC hC]
  have hF:=HM.out
  have c1:=hF.2.2.2.2.1.rd 0
  simp only [nrm] at hQ
  go_wp2_with (fail)
  exact hQ _ _ rfl (by have h9:=hJ.other rfl hf (by decide);rwa [hJ.atC hC] at h9)
 simp only [nrm]
 apply wpJ_op rfl (by rfl)
 ·intro f w1 hf hJ Q1 hQ
  simp only [nrm] at hQ
  go_wp2_with (fail)
  exact hQ _ _ rfl (hJ.other rfl hf (by decide))
 simp only [nrm]
 apply wpJ_op rfl (by rfl)
 ·intro f w1 hf hJ Q1 hQ
  have hC:f 6=false:=path_no hJ.1 [5] (by kernel_rfl) (by decide) hf.1
  rw [hJ.atC hC]
  have hF:=HM.out
  have c2:=hF.2.2.2.2.2.1.rd
  simp only [nrm] at hQ
  go_wp2_with (fail)
  exact hQ _ _ rfl (by have h9:=hJ.other rfl hf (by decide);rwa [hJ.atC hC] at h9)
 simp only [nrm]
 apply wpJ_op (v:=undef) rfl (by rfl)
 ·intro f w1 hf hJ Q1 hQ
  rw [hJ.atC hf.1]
  simp only [nrm] at hQ
  go_wp2_with (refine wp_mapput _ rfl (.tmp 15) (.tmp 16) (.tmp 17) 127 rfl 3 125 Tryz.underlying3 Tryz.underlying127 qm n' s' _ rfl HM.out.2.1 (by have:=HM.out.2.2.1;have:=HM.out.2.2.2.2.2.2;unfold maxLen;omega) c HM.out.2.2.2.1 _ rfl rfl ?_;intro w2 hm2 hu2;have hq:=HM.out.1 w2 hm2 hu2;clear hm2 hu2)
  exact hQ _ _ rfl (hJ.goC rfl hf hq)
 simp only [nrm]
 refine wpJ_nil ?_
 intro w9 hJ9
 have hq9:=hJ9.fin rfl
 clear hJ9
 obtain ⟨hRQ,h9,hx⟩:=HF.out
 rw [hRQ] at hq9
 obtain ⟨hP,hU,hB⟩:=hq9
 have hk:=hB.rd
 have c5:=hP.q.rd 0
 cases de with
 | false=>
  have HE:=Lib.hid (And.intro hP hU)
  clear hP hU hB
  go_wp2_with (fail)
  go_returns
  refine ⟨rfl,?_,(Upd.of_below h9).trans HE.out.2 (fun _ _ h=> h)⟩
  unfold leaveP
  rw [hx]
  exact HE.out.1
 | true=>
  obtain ⟨n2,s2,hm2,hn2,hs2⟩:=hP.mm
  have HE:=Lib.hid (And.intro hP (And.intro hU (And.intro hm2 (And.intro hn2 hs2))))
  clear hP hU hB hm2 hn2 hs2
  go_wp2_with (at_delete;refine wp_mapdel _ rfl (.tmp 23) (.tmp 24) 127 3 rfl 125 Tryz.underlying3 Tryz.underlying127 qm n2 s2 _ rfl HE.out.2.2.1 c HM.out.2.2.2.1 rfl ?_;intro w5 hM5 hu5;have H5:=Lib.hid (And.intro hM5 hu5);clear hM5 hu5)
  go_returns
  obtain ⟨hP,hU,hm2,hn2,hs2⟩:=HE.out
  obtain ⟨hM5,hu5⟩:=H5.out
  have hd:=PrC.del (Blk.upd hu5 hP.q hP.ne) hP HM.out.2.2.2.1 hn2 hs2 hM5
  refine ⟨rfl,?_,((Upd.of_below h9).trans hU (fun _ _ h=> h)).trans hu5 (fun _ _ h=> h)⟩
  have e:leaveP m c=prPut (prPut m c (some ⟨-1,co,true⟩)) c none:=by
   unfold leaveP
   rw [hx]
   simp only [if_true]
   funext i
   unfold prPut
   split <;> rfl
  rw [e]
  exact hd
end
end Go.Proofs.YtjpjafajploiaaaGreatDoor
namespace Go.Proofs.YtjpjafajploiaaaGreatDoor
open Go.RowKit Own RegJ Two Go.Shelf Go.Proofs
abbrev keyPW (w:World) (b:Nat):World:=w.alloc (.cells #[.map (some b)] 127)
abbrev keyPV (w:World):Value:= .func (.func 205) #[] #[.pointer (some ⟨w.heap.size,0,none⟩)]
theorem keysP_is (b:Nat) (w:World):Calls Tryz.prog 155 #[.map (some b)] w fun e w' => e= .returned (keyPV w)∧w' =keyPW w b:=
 callsIn_wide.1 (AnyZI.keys_in Tryz.keysP Fence.wide 5 trivial rfl (some b) w)
theorem sortedP_is {w:World} {b n s:Nat} {m:Int→Option Value} (h:MapI w Tryz.prog 3 b n s m) (hs:s≤100000):
  ∃ss:List Int,ss.Pairwise (· < ·)∧(∀x,(Lit.int .i64 x).wf=true→(x∈ss↔(m x).isSome=true))∧(∀x∈ss,(Lit.int .i64 x).wf=true)∧ss.length=s∧Calls Tryz.prog 154 #[keyPV w] (keyPW w b) fun e w' => ∃v row,e= .returned v∧RowV w' 3 v (Own.icells ss) row∧(∀g,row=some g→w.heap.size≤g)∧Below w.heap.size w w' :=by
 obtain ⟨D0,hown,hD,hm⟩:=h
 have hbl:=hown.lt
 have hseq:SeqGives Fence.wide 2 Tryz.prog 205 #[.pointer (some ⟨w.heap.size,0,none⟩)] encZ (fun ss=> ss.Perm (intKeys D0)) (Maps.size D0) (keyPW w b):=
  AnyZI.keys_gives (ρ:=Tryz.keysP_ren) {Tryz.keysP with} Fence.wide _ trivial rfl (by omega) w.heap.size b n D0 _ (by simp) (by simp) (by
   obtain ⟨es,clock,hb,Ft,hs,hD⟩:=hown
   exact ⟨es,clock,(Below.heap_alloc _ _ b hbl).trans hb,Ft,hs,hD⟩)
 have cS:=AnyZI.sorted_in Tryz.sortedA Fence.wide 5 trivial trivial trivial trivial rfl (by omega) (sorts_in _) (enters_of Tryz.func204 (by kernel_rfl) rfl) 205 #[.pointer (some ⟨w.heap.size,0,none⟩)] trivial (enters_of Tryz.func205 (by kernel_rfl) rfl) _ _ (by unfold maxLen;omega) (by omega) _ hseq
 change CallsIn _ _ Tryz.prog 154 _ _ _ at cS
 have hk:=Tryz.underlying3
 obtain ⟨es,hDe,hpw,_⟩:=hown.entries (Maps.int_keyed hk)
 obtain ⟨es',hDe',hko⟩:=hown.keysOf
 obtain rfl:es=es' :=by rw [hDe] at hDe';simpa using hDe'
 subst hDe
 have hint:∀p∈es,∃x,p.1= .int .i64 x:=fun p hp=> by obtain ⟨v,hv⟩:=hko p hp;obtain ⟨x,_,hx,_⟩:=Maps.keyOf_i64 hk hv;exact ⟨x,hx⟩
 have hnd:(intKeys (.map es:DataW Value)).Nodup:=by
  show (es.map fun p=> Go.intOf p.1).Nodup
  refine List.pairwise_map.2 (hpw.imp_of_mem fun {p q} hp' hq' hne e=> hne ?_)
  obtain ⟨a,ha⟩:=hint p hp'
  obtain ⟨b,hb⟩:=hint q hq'
  rw [ha,hb] at e ⊢
  exact congrArg _ e
 have hmem:∀x,x∈intKeys (.map es:DataW Value)↔Maps.has (.map es:DataW Value) (.int .i64 x)=true:=fun x=> by
  rw [Maps.has_eq,List.any_eq_true]
  show x∈(es.map fun p=> Go.intOf p.1)↔_
  rw [List.mem_map]
  constructor
  ·rintro ⟨p,hp',rfl⟩
   obtain ⟨a,ha⟩:=hint p hp'
   exact ⟨p,hp',by rw [ha];simp [Lit.sameKey,Go.intOf]⟩
  ·rintro ⟨p,hp',hs⟩
   obtain ⟨a,ha⟩:=hint p hp'
   rw [ha] at hs
   exact ⟨p,hp',by rw [ha];simpa [Lit.sameKey,Go.intOf] using hs⟩
 have tr:∀a b c:Int,leI a b=true→leI b c=true→leI a c=true:=fun a b c h1 h2=> by simp only [leI,decide_eq_true_eq] at*;exact Int.le_trans h1 h2
 have tot:∀a b:Int,(leI a b || leI b a)=true:=fun a b=> by simp only [leI,Bool.or_eq_true,decide_eq_true_eq];exact Int.le_total a b
 have hp:=List.mergeSort_perm (intKeys (.map es:DataW Value)) leI
 have hle:=List.pairwise_mergeSort tr tot (intKeys (.map es:DataW Value))
 have hnd2:=hp.nodup_iff.2 hnd
 refine ⟨(intKeys (.map es:DataW Value)).mergeSort leI,?_,fun x hx=> ?_,fun x hx=> intKeys_wf hown hk x (hp.mem_iff.1 hx),?_,?_⟩
 ·refine (hle.and hnd2).imp (fun {a b} hab=> ?_)
  have h1:a≤b:=by simpa [leI] using hab.1
  have h2:a≠b:=hab.2
  omega
 ·rw [hp.mem_iff,hmem,(hm x hx).1]
 ·rw [hp.length_eq,show (intKeys (.map es:DataW Value)).length=es.length from List.length_map _]
  exact hD
 ·refine (callsIn_wide.1 cS).mono ?_
  rintro e w' ⟨v,ss,rfl,hpp,hrow,hnil,hB⟩
  obtain ⟨row,hr,hb⟩:=rowV_of hrow
  have hal:=(Below.refl w.heap.size w).alloc (Nat.le_refl _) (.cells #[.map (some b)] 127)
  refine ⟨v,row,rfl,?_,fun g hg=> Nat.le_trans (by simp) (hb g hg),hal.trans (hB.mono hal.size)⟩
  rw [←mergeSort_of_perm_i hpp]
  exact hr
section
variable {w w' :World} {qb qm n s n' s' :Nat} {m m' :PrM}
def KidP (w:World) (ys:List Int) (e:Ending) (w' :World):Prop:=∃v row,e= .returned v∧RowV w' 3 v (Own.icells ys) row∧(∀g,row=some g→w.heap.size≤g)∧Below w.heap.size w w'
def isKid (m:PrM) (pid c:Int):Bool:=match m c with
 | some x=> decide (x.pa=pid)
 | none=> false
def kidL (m:PrM) (pid:Int) (ss:List Int):List Int:=ss.filter (isKid m pid)
theorem kidL_is (hp:∀i x,m i=some x→(Lit.int .i64 i).wf=true) (pid:Int) {ss:List Int} (h1:ss.Pairwise (· < ·)) (h2:∀x,(Lit.int .i64 x).wf=true→(x∈ss↔(m x).isSome=true)):IsKids m pid (kidL m pid ss):=by
 refine ⟨h1.filter _,fun c=> ?_⟩
 unfold kidL
 rw [List.mem_filter]
 unfold isKid
 constructor
 ·rintro ⟨hc,hk⟩
  cases hm:m c with
  | none=> rw [hm] at hk;cases hk
  | some x=> rw [hm] at hk;exact ⟨x,rfl,by simpa using hk⟩
 ·rintro ⟨x,hx,rfl⟩
  exact ⟨(h2 c (hp c x hx)).2 (by rw [hx];rfl),by rw [hx];simp⟩
theorem kidL_take (m:PrM) (pid:Int) {ss:List Int} {i:Nat} {c:Int} (hc:ss[i]? =some c):kidL m pid (ss.take (i+1))=kidL m pid (ss.take i)++(if isKid m pid c then [c] else []):=by
 unfold kidL
 rw [List.take_add_one,hc,List.filter_append]
 cases h:isKid m pid c <;> simp [h]
set_option maxRecDepth 100000 in
set_option maxHeartbeats 2000000 in
theorem pkids_c (h:PrC w qb qm n s m) (hs:s≤100000) (pid:Int) (hw:(Lit.int .i64 pid).wf=true) (ha:aliveF m pid=true):
  IsKids m pid (kidsOf m pid)∧(kidsOf m pid).length≤s∧Calls Tryz.prog 97 #[.pointer (some ⟨qb,0,none⟩),.int .i64 pid] w (KidP w (kidsOf m pid)):=by
 obtain ⟨n',s',hmm,hn',hs'⟩:=h.mm
 have hsort:=fun w1 (hB:Below w.heap.size w w1)=> sortedP_is (hmm.upd (Upd.of_below (F:=fun _=> False) hB) (fun h=> h)) (by omega)
 obtain ⟨ss,h1,h2,h3,h4,-⟩:=hsort w (Below.refl _ _)
 have hk:=kidL_is h.p pid h1 (fun x hx=> by have:=h2 x hx;rwa [Option.isSome_map] at this)
 have hkl:(kidL m pid ss).length≤s:=by have:=List.length_filter_le (isKid m pid) ss;unfold kidL;omega
 rw [hk.eq]
 refine ⟨hk,hkl,?_⟩
 have hsort2:∀w1,Below w.heap.size w w1→Calls Tryz.prog 154 #[keyPV w1] (keyPW w1 qm) fun e w' => ∃v row,e= .returned v∧RowV w' 3 v (Own.icells ss) row∧(∀g,row=some g→w1.heap.size≤g)∧Below w1.heap.size w1 w' :=by
  intro w1 hB
  obtain ⟨ss2,g1,g2,g3,-,g5⟩:=hsort w1 hB
  have e:ss2=ss:=sorted_ext g1 h1 (fun c=> ⟨fun hc=> (h2 c (g3 c hc)).2 ((g2 c (g3 c hc)).1 hc),fun hc=> (g2 c (h3 c hc)).2 ((h2 c (h3 c hc)).1 hc)⟩)
  rw [←e];exact g5
 have hal:=alive_is h.b pid hw true ha
 have hlook:=fun w1 (hB:Below w.heap.size w w1) c (hc:(Lit.int .i64 c).wf=true)=> MapI.look (hmm.upd (Upd.of_below (F:=fun _=> False) hB) (fun h=> h)) Tryz.underlying3 Tryz.underlying127 (zero_pr w1) c hc
 have hcell:=fun w1 (hB:Below w.heap.size w w1)=> (Blk.below hB h.q h.q.lt).rd 0
 obtain ⟨len,hlen⟩:∃len,ss.length=len:=⟨_,rfl⟩
 have hl6:len≤100000:=by omega
 have HE:=Lib.hid (And.intro hsort2 (And.intro hlook (And.intro hcell (And.intro h2 (And.intro h3 (And.intro hlen hkl))))))
 clear h hmm hsort h1 h2 h3 h4 hk hkl hsort2 hlook hcell hn' hs' hs
 go_enter Tryz.func97,Tryz.ntmps97
 go_wp2_with (first
  | (go_at_call 22;refine hal.mono ?_;rintro e w1 ⟨rfl,hB1⟩;have c1:=HE.out.2.2.1 w1 hB1;have H1:=Lib.hid hB1;clear hB1 hal)
  | (go_at_call 155;refine (keysP_is qm w1).mono ?_;rintro e w2 ⟨rfl,rfl⟩)
  | (go_at_call 154;refine (HE.out.1 w1 H1.out).mono ?_;rintro e w3 ⟨v,row,rfl,hR,hrow,hB3⟩;obtain ⟨ka,kl,kc,rfl,hkl⟩:∃a l c,v= .slice a l c∧l=len:=(by obtain ⟨a,c,e,-,-⟩:=hR.slice;exact ⟨a,_,c,e,by simp [HE.out.2.2.2.2.2.1]⟩);subst hkl;have H3:=Lib.hid (And.intro hR (And.intro hrow (H1.out.trans (hB3.mono H1.out.size))));clear hR hrow hB3 c1))
 go_loopw [5,19] (fun v5 ix wr=> ∃i:Nat,i≤kl∧ix= .int .i64 i∧∃a l c,v5= .slice a l c∧Hid (∃g,RowV wr 3 (.slice a l c) (Own.icells (kidL m pid (ss.take i))) g∧(∀k,g=some k→w3.heap.size≤k)∧Below w3.heap.size w3 wr)) (fun _ ix _=> kl - (intOf ix).toNat)
 case atStart=> exact ⟨0,Nat.zero_le _,rfl,none,0,0,rfl,Lib.hid ⟨none,.inl ⟨rfl,rfl,rfl⟩,fun k hk=> (by cases hk),Below.refl _ _⟩⟩
 case round=>
  obtain ⟨i,hi,rfl,a,l,c,rfl,H⟩:=hrel
  obtain ⟨gr,hR,hgr,hBl⟩:=H.out
  have hm:l=(kidL m pid (ss.take i)).length∧l≤c:=by
   obtain ⟨a',c',hv,h1,_⟩:=hR.slice
   simp only [Value.slice.injEq,List.length_map] at hv h1
   exact ⟨hv.2.1,by omega⟩
  have hml:(kidL m pid (ss.take i)).length≤i:=by
   unfold kidL
   have:=List.length_filter_le (isKid m pid) (ss.take i)
   rw [List.length_take] at this
   omega
  have hBw:Below w.heap.size w wr:=H3.out.2.2.trans (hBl.mono H3.out.2.2.size)
  by_cases him:i < kl
  ·have d1:decide ((i:Int) < kl)=true:=by simp;omega
   have i1:(i:Int) < kl:=by omega
   have i2:(0:Int)≤i:=by omega
   obtain ⟨dx,hdx⟩:∃dx,ss[i]? =some dx:=⟨_,List.getElem?_eq_getElem (by rw [HE.out.2.2.2.2.2.1];exact him)⟩
   have hwx:=HE.out.2.2.2.2.1 dx (List.mem_of_getElem? hdx)
   obtain ⟨kg,rfl,hkc⟩:∃g,ka=some ⟨g,0,none⟩∧wr.cell? ⟨g,i,none⟩=some (.int .i64 dx):=by
    obtain ⟨hR,-,-⟩:=H3.out
    rcases hR with ⟨hv,hn,_⟩ | ⟨g',cap',rest,hv,hgr,hBk,_⟩
    ·simp only [Value.slice.injEq] at hv
     omega
    ·simp only [Value.slice.injEq] at hv
     refine ⟨g',hv.1,?_⟩
     rw [(Blk.below hBl hBk hBk.lt).rd]
     have:(Own.icells ss)[i]? =some (.int .i64 dx):=by rw [List.getElem?_map,hdx];rfl
     have hl:=(List.getElem?_eq_some_iff.1 this).1
     show (Own.icells ss++rest).toArray[i]? =_
     rw [List.getElem?_toArray,List.getElem?_append_left hl,this]
   have c1:=HE.out.2.2.1 wr hBw
   have hlk:=HE.out.2.1 wr hBw dx hwx
   obtain ⟨x,hx⟩:=Option.isSome_iff_exists.1 ((HE.out.2.2.2.1 dx hwx).1 (List.mem_of_getElem? hdx))
   obtain ⟨y,hy⟩:∃y,m dx=some y:=by
    cases hmd:m dx with
    | none=> rw [hmd] at hx;cases hx
    | some y=> exact ⟨y,rfl⟩
   obtain ⟨pa,co,de⟩:=y
   rw [hy] at hlk
   simp only [Option.map_some,prV] at hlk
   have hfld:∀W:World,(Instr.field 125 (.agg #[.int .i64 pa,.int .i64 co,.bool de]) 0).run Tryz.prog W= .ok (.int .i64 pa) W:=fun W=> by kernel_rfl
   have htk:=kidL_take m pid hdx
   have hik:isKid m pid dx=decide (pa=pid):=by unfold isKid;rw [hy]
   rw [hik] at htk
   by_cases hpa:pa=pid
   ·subst hpa
    have HX:=Lib.hid (show kidL m pa (ss.take (i+1))=kidL m pa (ss.take i)++ [dx] by rw [htk];simp)
    have HK:=Lib.hid (hR.below ((Below.refl wr.heap.size wr).alloc (by simp) (.cells #[.int .i64 dx] 3)))
    obtain ⟨hm,hmc⟩:=hm
    have HM:=Lib.hid (And.intro hgr (And.intro hBl hm))
    clear hx hy hR hgr hBl hm hdx hwx htk hik hBw
    go_wp2_with (at_builtin;refine wp_appV rfl _ _ 59 3 (.int .i64 0) 8 (by kernel_rfl) rfl (by decide) Tryz.underlying59 rfl (.slice a l c) (Own.icells (kidL m pa (ss.take i))) gr rfl HK.out (some ⟨wr.heap.size,0,none⟩) 1 1 [.int .i64 dx] rfl rfl (fun _=> ⟨_,rfl,new_cell wr (.int .i64 dx) 3⟩) (fun u hu=> by (simp at hu;subst hu;rfl)) (by simp;omega) ?_;intro v' w4 row' hI hrow' hu4;obtain ⟨a2,c2,rfl,-,-⟩:=hI.slice;have H4:=Lib.hid (And.intro hI (And.intro hrow' hu4));clear hI hrow' hu4)
    go_roundw
    case rel=>
     refine ⟨i+1,by omega,by go_num,a2,_,c2,rfl,Lib.hid ?_⟩
     rw [HX.out,show Own.icells (kidL m pa (ss.take i)++ [dx])=Own.icells (kidL m pa (ss.take i))++ [Value.int .i64 dx] by simp [Own.icells]]
     refine ⟨row',by rw [show (kidL m pa (ss.take i)).length+1=(Own.icells (kidL m pa (ss.take i))++ [Value.int .i64 dx]).length by simp [Own.icells]];exact H4.out.1,fun k hk=> ?_,?_⟩
     ·rcases H4.out.2.1 k hk with h1 | h1
      ·exact HM.out.1 k h1
      ·have h2:=HM.out.2.1.size
       simp at h1
       omega
     ·have h6:=(HM.out.2.1.alloc HM.out.2.1.size (.cells #[.int .i64 dx] 3))
      exact h6.trans (H4.out.2.2.below h6.size (fun k hk=> HM.out.1 k hk))
    case measure=> simp [intOf];omega
   ·have e1:(pa==pid)=false:=by simpa using hpa
    have HX:=Lib.hid (show kidL m pid (ss.take (i+1))=kidL m pid (ss.take i) by rw [htk];simp [hpa])
    clear hx hy hR hgr hBl hm hdx hwx htk hik hBw
    go_wp2_with (fail)
    go_roundw
    case rel=> exact ⟨i+1,by omega,by go_num,a,l,c,rfl,Lib.hid (by rw [HX.out];exact H.out)⟩
    case measure=> simp [intOf];omega
  ·have d1:decide ((i:Int) < kl)=false:=by simp;omega
   obtain rfl:i=kl:=by omega
   rw [List.take_of_length_le (by rw [HE.out.2.2.2.2.2.1];exact Nat.le_refl _)] at hR
   have HF:=Lib.hid (And.intro hR (And.intro hgr hBw))
   clear hR hgr hBl hm hml hBw
   go_wp2_with (fail)
   go_ret
   exact ⟨_,gr,rfl,HF.out.1,fun g hg=> by have:=HF.out.2.1 g hg;have:=H3.out.2.2.size;omega,HF.out.2.2⟩
end
end Go.Proofs.YtjpjafajploiaaaGreatDoor
