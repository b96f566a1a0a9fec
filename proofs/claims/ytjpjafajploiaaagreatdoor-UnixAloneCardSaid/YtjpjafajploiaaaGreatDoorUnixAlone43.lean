/-
  A system with pipes as it lies; New, Start, Fork, Exit; the vfs' calls at it.
-/
import Derived.Test.YtjpjafajploiaaaGreatDoorUnixAlone38
import Derived.Test.YtjpjafajploiaaaGreatDoorUnixAlone39
import Derived.Test.YtjpjafajploiaaaGreatDoorUnixAlone42
set_option linter.unusedSimpArgs false
set_option linter.unusedVariables false
namespace Go.Proofs.YtjpjafajploiaaaGreatDoor
open Go.RowKit Own RegJ Two
open Go.Lib hiding intOf
def startU (z:Z) (m:PrM) (pid:Int):Int×Z×PrM:=if (startP m pid (-1)).1=0 then ((startZ z pid).1,(startZ z pid).2,(startP m pid (-1)).2) else ((startP m pid (-1)).1,z,(startP m pid (-1)).2)
def forkU (z:Z) (m:PrM) (pid q:Int):Int×Z×PrM:=if aliveF m pid=false then (4,z,m) else if (startP m q pid).1=0 then ((copyZ z pid q).1,(copyZ z pid q).2,(startP m q pid).2) else ((startP m q pid).1,z,(startP m q pid).2)
noncomputable def exitU (z:Z) (m:PrM) (pid code:Int):Int×Z×PrM:=if (exitP m pid code).1=0 then ((leaveZ z pid).1,(leaveZ z pid).2,(exitP m pid code).2) else ((exitP m pid code).1,z,(exitP m pid code).2)
structure UZ (cap:Nat) (w0:World) (O:Nat→Prop) (fdb vb tb fb sb pb mb c:Nat) (z:Z) (syb qb qm:Nat) (m:PrM) (w:World):Prop where
 ez:EZ cap w0 O fdb vb tb fb sb pb mb c z w
 sy:Blk w syb #[.pointer (some ⟨fb,0,none⟩),.pointer (some ⟨vb,0,none⟩),.pointer (some ⟨fdb,0,none⟩),.pointer (some ⟨qb,0,none⟩)] 83
 pr:PrC w qb qm (c*10000) c m
 lo:w0.heap.size≤syb∧w0.heap.size≤qb∧w0.heap.size≤qm
 no:¬O syb∧¬O qb∧¬O qm
 ne:syb≠qm∧vb≠qm
 mc:0 < w0.heap.size
def UZP (cap:Nat) (w0:World) (O:Nat→Prop) (fdb vb tb fb sb pb mb c:Nat) (z:Z) (syb qb qm:Nat) (m:PrM) (w:World) (v:Value) (e:Ending) (w' :World):Prop:=
 e= .returned v∧Upd (fun k=> O k∨k=qm) w w' ∧∃O',UZ cap w0 O' fdb vb tb fb sb pb mb c z syb qb qm m w' ∧∀k,O' k→O k∨w.heap.size≤k
section
variable {cap:Nat} {w0 w w1 w2 w' :World} {O O' O1:Nat→Prop} {fdb vb tb fb sb pb mb c c' :Nat} {z z' :Z} {syb qb qm n s:Nat} {m m' :PrM}
theorem EZ.beside {F:Nat→Prop} (h:EZ cap w0 O fdb vb tb fb sb pb mb c z w) (hmc:0 < w0.heap.size) (hu:Upd F w w') (hF:∀k,F k→w0.heap.size≤k∧¬O k∧k≠vb):EZ cap w0 O fdb vb tb fb sb pb mb c z w' :=by
 obtain ⟨S,φ,hE,hR⟩:=h
 exact ⟨S,φ,hE.beside hmc hu hF,hR⟩
theorem EZ.bel (h:EZ cap w0 O fdb vb tb fb sb pb mb c z w):Below w0.heap.size w0 w:=by
 obtain ⟨S,φ,hE,hR⟩:=h
 exact hE.bel
theorem EZ.rng (h:EZ cap w0 O fdb vb tb fb sb pb mb c z w):∀k,O k→w0.heap.size≤k∧k < w.heap.size:=by
 obtain ⟨S,φ,hE,hR⟩:=h
 exact hE.rng
theorem EZ.vlt (h:EZ cap w0 O fdb vb tb fb sb pb mb c z w):vb < w.heap.size:=by
 obtain ⟨S,φ,hE,hR⟩:=h
 exact hE.vlt
theorem UZ.below (h:UZ cap w0 O fdb vb tb fb sb pb mb c z syb qb qm m w) (hB:Below w.heap.size w w'):UZ cap w0 O fdb vb tb fb sb pb mb c z syb qb qm m w' :=
 ⟨h.ez.below hB,Blk.below hB h.sy h.sy.lt,h.pr.below hB,h.lo,h.no,h.ne,h.mc⟩
theorem UZ.up (h:UZ cap w0 O fdb vb tb fb sb pb mb c z syb qb qm m w) (hc:c≤c'):UZ cap w0 O fdb vb tb fb sb pb mb c' z syb qb qm m w:=
 ⟨h.ez.up hc,h.sy,h.pr.le (Nat.mul_le_mul_right _ hc) hc,h.lo,h.no,h.ne,h.mc⟩
theorem UZ.news (h:UZ cap w0 O fdb vb tb fb sb pb mb c z syb qb qm m w):w0.heap.size≤w.heap.size∧(∀k,O k→k < w.heap.size)∧vb < w.heap.size∧syb < w.heap.size∧qb < w.heap.size∧qm < w.heap.size:=by
 obtain ⟨l1,l2⟩:=h.pr.lt
 exact ⟨h.ez.bel.size,fun k hk=> (h.ez.rng k hk).2,h.ez.vlt,h.sy.lt,l1,l2⟩
theorem UZ.step (h:UZ cap w0 O fdb vb tb fb sb pb mb c z syb qb qm m w) (hU:Upd O w w') (hX:EZ cap w0 O' fdb vb tb fb sb pb mb c' z' w') (hO:∀k,O' k→O k∨w.heap.size≤k) (hc:c≤c'):UZ cap w0 O' fdb vb tb fb sb pb mb c' z' syb qb qm m w' :=by
 obtain ⟨l1,l2⟩:=h.pr.lt
 have l3:=h.sy.lt
 have hn:=h.no
 refine ⟨hX,Blk.upd hU h.sy hn.1,(h.pr.upd hU hn.2.1 hn.2.2).le (Nat.mul_le_mul_right _ hc) hc,h.lo,⟨fun hk=> ?_,fun hk=> ?_,fun hk=> ?_⟩,h.ne,h.mc⟩
 ·rcases hO _ hk with hk | hk
  ·exact hn.1 hk
  ·omega
 ·rcases hO _ hk with hk | hk
  ·exact hn.2.1 hk
  ·omega
 ·rcases hO _ hk with hk | hk
  ·exact hn.2.2 hk
  ·omega
theorem UZ.proc (h:UZ cap w0 O fdb vb tb fb sb pb mb c z syb qb qm m w) (hP:PrC w' qb qm n s m') (hu:Upd (fun k=> k=qm) w w') (hc:c≤c') (hn:n≤c' *10000) (hs:s≤c'):UZ cap w0 O fdb vb tb fb sb pb mb c' z syb qb qm m' w' :=
 ⟨(h.ez.beside h.mc hu (fun k hk=> by subst hk;exact ⟨h.lo.2.2,h.no.2.2,fun e=> h.ne.2 e.symm⟩)).up hc,Blk.upd hu h.sy h.ne.1,hP.le hn hs,h.lo,h.no,h.ne,h.mc⟩
theorem UZ.beside {F:Nat→Prop} (h:UZ cap w0 O fdb vb tb fb sb pb mb c z syb qb qm m w) (hu:Upd F w w') (hF:∀k,F k→w0.heap.size≤k∧¬O k∧k≠vb∧k≠syb∧k≠qb∧k≠qm):UZ cap w0 O fdb vb tb fb sb pb mb c z syb qb qm m w' :=
 ⟨h.ez.beside h.mc hu (fun k hk=> ⟨(hF k hk).1,(hF k hk).2.1,(hF k hk).2.2.1⟩),Blk.upd hu h.sy (fun hk=> (hF _ hk).2.2.2.1 rfl),h.pr.upd hu (fun hk=> (hF _ hk).2.2.2.2.1 rfl) (fun hk=> (hF _ hk).2.2.2.2.2 rfl),h.lo,h.no,h.ne,h.mc⟩
theorem UZP.same (h:UZ cap w0 O fdb vb tb fb sb pb mb c z syb qb qm m w) (hc:c≤c') (hB:Below w.heap.size w w') (v:Value):UZP cap w0 O fdb vb tb fb sb pb mb c' z syb qb qm m w v (.returned v) w' :=
 ⟨rfl,Upd.of_below hB,O,(h.below hB).up hc,fun k hk=> .inl hk⟩
theorem UZP.two {v:Value} {e:Ending} (hU:Upd (fun k=> k=qm) w w1) (h:UZ cap w0 O fdb vb tb fb sb pb mb c z syb qb qm m w1) (hq:ZP cap w0 O fdb vb tb fb sb pb mb c' z' w1 v e w') (hc:c≤c'):UZP cap w0 O fdb vb tb fb sb pb mb c' z' syb qb qm m w v e w' :=by
 obtain ⟨rfl,hU2,O2,hX,hO⟩:=hq
 have hz:=hU.size
 exact ⟨rfl,(hU.mono (fun k _ hk=> .inr hk)).trans hU2 (fun k _ hk=> .inl hk),O2,h.step hU2 hX hO hc,fun k hk=> (hO k hk).imp id (fun h=> by omega)⟩
theorem startP_ok {pid pa:Int} (h:(startP m pid pa).1≠0):(startP m pid pa).2=m:=by
 unfold startP at h ⊢
 repeat' split
 all_goals first | rfl | (simp_all)
set_option maxRecDepth 100000 in
theorem zustart_is (h:UZ cap w0 O fdb vb tb fb sb pb mb c z syb qb qm m w) (hc:c≤8900) (pid:Int) (hw:(Lit.int .i64 pid).wf=true) (r:Int) (hr:startU z m pid=(r,z',m')):
  Calls Tryz.prog 11 #[.pointer (some ⟨syb,0,none⟩),.int .i64 pid] w (UZP cap w0 O fdb vb tb fb sb pb mb (c+10) z' syb qb qm m' w (.int .i64 r)):=by
 have c3:=h.sy.rd 3
 obtain ⟨q1,q2,hq⟩:∃q1 q2,startP m pid (-1)=(q1,q2):=⟨_,_,rfl⟩
 have hps:=pstart_c h.pr (by omega) pid (-1) hw (by decide) q1 q2 hq
 unfold startU at hr
 have hok:=startP_ok (m:=m) (pid:=pid) (pa:= -1)
 rw [hq] at hr hok
 simp only at hr hok
 have hP:∀w1,PrC w1 qb qm (c*10000+1) (c+1) q2→Upd (fun k=> k=qm) w w1→UZ cap w0 O fdb vb tb fb sb pb mb (c+10) z syb qb qm q2 w1:=fun w1 h1 h2=> h.proc h1 h2 (by omega) (by omega) (by omega)
 have hP1:∀w1,PrC w1 qb qm (c*10000+1) (c+1) q2→Upd (fun k=> k=qm) w w1→UZ cap w0 O fdb vb tb fb sb pb mb (c+1) z syb qb qm q2 w1:=fun w1 h1 h2=> h.proc h1 h2 (by omega) (by omega) (by omega)
 have HP:=Lib.hid (And.intro hP hP1)
 by_cases h0:q1=0
 ·subst h0
  rw [if_pos rfl] at hr;cases hr
  have H:=Lib.hid (And.intro hc hw)
  clear h hq hP hP1 hok hw
  go_enter Tryz.func11,Tryz.ntmps11
  go_wp2_with (first
   | (go_at_call 38;refine hps.mono ?_;rintro e w1 ⟨rfl,hP,hu⟩;have h1:=HP.out.2 w1 hP hu;have c2:=h1.sy.rd 2;have hks:=zz_start h1.ez (by have:=H.out.1;omega) pid H.out.2 (startZ z pid).1 (z' :=(startZ z pid).2) rfl;have H1:=Lib.hid (And.intro h1 hu);clear hps c3 h1 hP hu)
   | (go_at_call 39;refine hks.mono ?_;rintro e w2 hq2;obtain rfl:=hq2.1;have H2:=Lib.hid hq2;clear hks hq2 c2))
  go_ret
  have hq3:=UZP.two (c' :=c+1+8) H1.out.2 H1.out.1 H2.out (by omega)
  obtain ⟨g1,g2,O9,g3,g4⟩:=hq3
  exact ⟨rfl,g2,O9,g3.up (by omega),g4⟩
 ·rw [if_neg h0] at hr;cases hr
  have d1:(r==0)=false:=by simpa using h0
  have d2:(r !=0)=true:=by simpa using h0
  clear h hq hok hw hP hP1
  go_enter Tryz.func11,Tryz.ntmps11
  go_wp2_with (go_at_call 38;refine hps.mono ?_;rintro e w1 ⟨rfl,hP,hu⟩;have H1:=Lib.hid (And.intro hP hu);clear hps c3 hP hu)
  go_ret
  exact ⟨rfl,H1.out.2.mono (fun k _ hk=> .inr hk),O,HP.out.1 _ H1.out.1 H1.out.2,fun k hk=> .inl hk⟩
set_option maxRecDepth 100000 in
theorem zufork_is (h:UZ cap w0 O fdb vb tb fb sb pb mb c z syb qb qm m w) (hc:c≤8900) (pid q:Int) (hw:(Lit.int .i64 pid).wf=true) (hwq:(Lit.int .i64 q).wf=true) (r:Int) (hr:forkU z m pid q=(r,z',m')):
  Calls Tryz.prog 13 #[.pointer (some ⟨syb,0,none⟩),.int .i64 pid,.int .i64 q] w (UZP cap w0 O fdb vb tb fb sb pb mb (c+10) z' syb qb qm m' w (.int .i64 r)):=by
 have c3:=h.sy.rd 3
 have hal:=alive_is h.pr.b pid hw
 unfold forkU at hr
 cases ha:aliveF m pid with
 | false=>
  rw [if_pos ha] at hr;cases hr
  have hal' :=hal false ha
  have H:=Lib.hid (And.intro h hc)
  clear h hal ha hw hwq
  go_enter Tryz.func13,Tryz.ntmps13
  go_wp2_with (go_at_call 22;refine hal'.mono ?_;rintro e w1 ⟨rfl,hB⟩;have H1:=Lib.hid hB;clear hB hal')
  go_ret
  exact UZP.same H.out.1 (by omega) H1.out _
 | true=>
  rw [if_neg (by rw [ha];decide)] at hr
  have hal' :=hal true ha
  obtain ⟨q1,q2,hq⟩:∃q1 q2,startP m q pid=(q1,q2):=⟨_,_,rfl⟩
  have hps:=fun w1 (hB:Below w.heap.size w w1)=> pstart_c (h.pr.below hB) (by omega) q pid hwq hw q1 q2 hq
  rw [hq] at hr
  simp only at hr
  have hP:∀w1 w2,Below w.heap.size w w1→PrC w2 qb qm (c*10000+1) (c+1) q2→Upd (fun k=> k=qm) w1 w2→UZ cap w0 O fdb vb tb fb sb pb mb (c+1) z syb qb qm q2 w2:=fun w1 w2 hB h1 h2=> (h.below hB).proc h1 h2 (by omega) (by omega) (by omega)
  have hcell:=fun w1 (hB:Below w.heap.size w w1)=> (Blk.below hB h.sy h.sy.lt).rd 3
  have HP:=Lib.hid (And.intro hP (And.intro hps (And.intro hcell (And.intro hc (And.intro hw hwq)))))
  clear hal ha h hq hP hps hcell hw hwq
  by_cases h0:q1=0
  ·subst h0
   rw [if_pos rfl] at hr;cases hr
   go_enter Tryz.func13,Tryz.ntmps13
   go_wp2_with (first
    | (go_at_call 22;refine hal'.mono ?_;rintro e w1 ⟨rfl,hB⟩;have c4:=HP.out.2.2.1 w1 hB;have H1:=Lib.hid hB;clear hB hal' c3)
    | (go_at_call 38;refine (HP.out.2.1 w1 H1.out).mono ?_;rintro e w2 ⟨rfl,hP,hu⟩;have h1:=HP.out.1 w1 w2 H1.out hP hu;have c2:=h1.sy.rd 2;have hks:=zz_copy h1.ez (by have:=HP.out.2.2.2.1;omega) pid q HP.out.2.2.2.2.1 HP.out.2.2.2.2.2 (copyZ z pid q).1 (z' :=(copyZ z pid q).2) rfl;have H2:=Lib.hid (And.intro h1 ((Upd.of_below (F:=fun k=> k=qm) H1.out).trans hu (fun _ _ h=> h)));clear c4 h1 hP hu)
    | (go_at_call 56;refine hks.mono ?_;rintro e w3 hq2;obtain rfl:=hq2.1;have H3:=Lib.hid hq2;clear hks hq2 c2))
   go_ret
   obtain ⟨g1,g2,O9,g3,g4⟩:=UZP.two (c' :=c+1+8) H2.out.2 H2.out.1 H3.out (by omega)
   exact ⟨rfl,g2,O9,g3.up (by omega),g4⟩
  ·rw [if_neg h0] at hr;cases hr
   have d1:(r==0)=false:=by simpa using h0
   have d2:(r !=0)=true:=by simpa using h0
   go_enter Tryz.func13,Tryz.ntmps13
   go_wp2_with (first
    | (go_at_call 22;refine hal'.mono ?_;rintro e w1 ⟨rfl,hB⟩;have c4:=HP.out.2.2.1 w1 hB;have H1:=Lib.hid hB;clear hB hal' c3)
    | (go_at_call 38;refine (HP.out.2.1 w1 H1.out).mono ?_;rintro e w2 ⟨rfl,hP,hu⟩;have h1:=HP.out.1 w1 w2 H1.out hP hu;have H2:=Lib.hid (And.intro h1 ((Upd.of_below (F:=fun k=> k=qm) H1.out).trans hu (fun _ _ h=> h)));clear c4 h1 hP hu))
   go_ret
   exact ⟨rfl,H2.out.2.mono (fun k _ hk=> .inr hk),O,H2.out.1.up (by omega),fun k hk=> .inl hk⟩
set_option maxRecDepth 100000 in
theorem zuexit_is (h:UZ cap w0 O fdb vb tb fb sb pb mb c z syb qb qm m w) (hc:c≤8800) (pid code:Int) (hw:(Lit.int .i64 pid).wf=true) (r:Int) (hr:exitU z m pid code=(r,z',m')):
  Calls Tryz.prog 14 #[.pointer (some ⟨syb,0,none⟩),.int .i64 pid,.int .i64 code] w (UZP cap w0 O fdb vb tb fb sb pb mb (c+10) z' syb qb qm m' w (.int .i64 r)):=by
 have c3:=h.sy.rd 3
 obtain ⟨q1,q2,hq⟩:∃q1 q2,exitP m pid code=(q1,q2):=⟨_,_,rfl⟩
 have hps:=pexit_c h.pr (by omega) (by omega) pid code hw q1 q2 hq
 unfold exitU at hr
 rw [hq] at hr
 simp only at hr
 have hP1:∀w1,PrC w1 qb qm (c*10000+c+3) c q2→Upd (fun k=> k=qm) w w1→UZ cap w0 O fdb vb tb fb sb pb mb (c+1) z syb qb qm q2 w1:=fun w1 h1 h2=> h.proc h1 h2 (by omega) (by omega) (by omega)
 have HP:=Lib.hid (And.intro hP1 (And.intro hc (And.intro hw h.mc)))
 clear h hq hw hP1
 by_cases h0:q1=0
 ·subst h0
  rw [if_pos rfl] at hr;cases hr
  go_enter Tryz.func14,Tryz.ntmps14
  go_wp2_with (first
   | (go_at_call 57;refine hps.mono ?_;rintro e w1 ⟨rfl,hP,hu⟩;have h1:=HP.out.1 w1 hP hu;have c2:=h1.sy.rd 2;have hks:=zz_leave h1.ez (by have:=HP.out.2.1;omega) HP.out.2.2.2 pid HP.out.2.2.1 (leaveZ z pid).1 (z' :=(leaveZ z pid).2) rfl;have H1:=Lib.hid (And.intro h1 hu);clear hps c3 h1 hP hu)
   | (go_at_call 58;refine hks.mono ?_;rintro e w2 hq2;obtain rfl:=hq2.1;have H2:=Lib.hid hq2;clear hks hq2 c2))
  go_ret
  obtain ⟨g1,g2,O9,g3,g4⟩:=UZP.two (c' :=c+1+8) H1.out.2 H1.out.1 H2.out (by omega)
  exact ⟨rfl,g2,O9,g3.up (by omega),g4⟩
 ·rw [if_neg h0] at hr;cases hr
  have d1:(r==0)=false:=by simpa using h0
  have d2:(r !=0)=true:=by simpa using h0
  go_enter Tryz.func14,Tryz.ntmps14
  go_wp2_with (go_at_call 57;refine hps.mono ?_;rintro e w1 ⟨rfl,hP,hu⟩;have h1:=HP.out.1 w1 hP hu;have H1:=Lib.hid (And.intro h1 hu);clear hps c3 h1 hP hu)
  go_ret
  exact ⟨rfl,H1.out.2.mono (fun k _ hk=> .inr hk),O,H1.out.1.up (by omega),fun k hk=> .inl hk⟩
theorem FX.vop {C:Inhabited CapT} {ns ns' :NSt} {c k N:Nat} {S:FS} {f:FuncId} {args:Array Value} {v:Value} (h:FX w0 O fdb vb tb fb sb pb mb ns c N S w) (hcall:∀lo,VV w vb tb ns lo c→Calls Tryz.prog f args w (MadP w vb tb ns' lo k v)):Calls Tryz.prog f args w (FP w0 O fdb vb tb fb sb pb mb ns' k N S w v):=by
 obtain ⟨lo,h1,h2,h3,h4,h5,h6,h7,h8⟩:=h
 refine (hcall lo h1).mono ?_
 rintro e w' ⟨rfl,lo',g1,g2⟩
 exact FX.step h1 h2 h3 h4 h5 h6 h7 h8 g1 g2 _
theorem zz_vop {ns' :NSt} {k:Nat} {f:FuncId} {args:Array Value} {v:Value} (h:EZ cap w0 O fdb vb tb fb sb pb mb c z w) (hk:k≤c+8) (hcall:∀(C:Inhabited CapT) lo,@VV C w vb tb z.ns lo c→Calls Tryz.prog f args w (@MadP C w vb tb ns' lo k v)):Calls Tryz.prog f args w (ZP cap w0 O fdb vb tb fb sb pb mb (c+8) {z with ns:=ns' } w v):=by
 obtain ⟨S,φ,⟨po,fo,O1,h1,h2,h3,h4,h5,h6⟩,hR,hB⟩:=h
 refine (FX.vop h1 (fun lo hV=> hcall _ lo hV)).mono (fun e w' hq=> ?_)
 exact ZP.of (z:= {z with ns:=ns' }) (EX.lift h2 h3 h4 h5 h6 hq) (by omega) (by omega) (by omega) (hR.ns rfl rfl rfl) ((hB.le (by omega)).ns rfl rfl rfl)
theorem EZ.vv {P:Prop} (h:EZ cap w0 O fdb vb tb fb sb pb mb c z w) (hcall:∀(C:Inhabited CapT) lo,@VV C w vb tb z.ns lo c→P):P:=by
 obtain ⟨S,φ,⟨po,fo,O1,⟨lo,h1,_⟩,_⟩,hR,hB⟩:=h
 exact hcall _ lo h1
theorem zz_link (h:EZ cap w0 O fdb vb tb fb sb pb mb c z w) (l l2:Txt) (hl:l.length≤100000) (hl2:l2.length≤100000) (s t:ByteArray) (hs:s=B l) (ht:t=B l2):
  Calls Tryz.prog 48 #[.pointer (some ⟨vb,0,none⟩),.string s,.string t] w (ZP cap w0 O fdb vb tb fb sb pb mb (c+8) {z with ns:=(linkF z.ns l l2).2} w (.int .i64 (linkF z.ns l l2).1)):=by
 subst hs ht
 exact zz_vop h (by omega) (fun C lo hV=> Link_is hV l l2 hl hl2 _ _ rfl)
theorem zz_unlink (h:EZ cap w0 O fdb vb tb fb sb pb mb c z w) (hc:c≤9000) (l:Txt) (hl:l.length≤100000) (s:ByteArray) (hs:s=B l):
  Calls Tryz.prog 49 #[.pointer (some ⟨vb,0,none⟩),.string s] w (ZP cap w0 O fdb vb tb fb sb pb mb (c+8) {z with ns:=(atPar z.ns l (fun d nm=> remF z.ns d nm false 12)).2} w (.int .i64 (atPar z.ns l (fun d nm=> remF z.ns d nm false 12)).1)):=by
 subst hs
 exact zz_vop h (by omega) (fun C lo hV=> Unlink_is hV hc l hl _ _ rfl)
theorem zz_mkdir (h:EZ cap w0 O fdb vb tb fb sb pb mb c z w) (hc:c≤9000) (l:Txt) (hl:l.length≤100000) (s:ByteArray) (hs:s=B l):
  Calls Tryz.prog 50 #[.pointer (some ⟨vb,0,none⟩),.string s] w (ZP cap w0 O fdb vb tb fb sb pb mb (c+8) {z with ns:=(atPar z.ns l (mkdirF z.ns)).2} w (.int .i64 (atPar z.ns l (mkdirF z.ns)).1)):=by
 subst hs
 exact zz_vop h (by omega) (fun C lo hV=> Mkdir_is hV hc l hl _ _ rfl)
theorem zz_rmdir (h:EZ cap w0 O fdb vb tb fb sb pb mb c z w) (hc:c≤9000) (l:Txt) (hl:l.length≤100000) (s:ByteArray) (hs:s=B l):
  Calls Tryz.prog 51 #[.pointer (some ⟨vb,0,none⟩),.string s] w (ZP cap w0 O fdb vb tb fb sb pb mb (c+8) {z with ns:=(atPar z.ns l (fun d nm=> remF z.ns d nm true 11)).2} w (.int .i64 (atPar z.ns l (fun d nm=> remF z.ns d nm true 11)).1)):=by
 subst hs
 exact zz_vop h (by omega) (fun C lo hV=> Rmdir_is hV hc l hl _ _ rfl)
theorem zz_stat (h:EZ cap w0 O fdb vb tb fb sb pb mb c z w) (l:Txt) (hl:l.length≤100000) (A:Array Value) (r:Int) (hr:statF z.ns l=(A,r)) (s:ByteArray) (hs:s=B l):
  Calls Tryz.prog 94 #[.pointer (some ⟨vb,0,none⟩),.string s] w fun e w' => e= .returned (.tuple #[.agg A,.int .i64 r])∧Below w.heap.size w w' :=by
 subst hs
 exact h.vv (fun C lo hV=> Stat_is hV l hl A r hr)
end
end Go.Proofs.YtjpjafajploiaaaGreatDoor
namespace Go.Proofs.YtjpjafajploiaaaGreatDoor
open Go.RowKit Own RegJ Two
open Go.Lib hiding intOf
theorem rz00:RZ fs00 z00 id:=⟨fun _=> rfl,(fun _ _ _ h=> by cases h),(fun _ h=> absurd h (Nat.not_lt_zero _)),(fun _ _ h=> by cases h),(fun _ _ h=> absurd h (Nat.not_lt_zero _)),(fun _ _ h=> by cases h),(fun _ _ _ h=> by cases h)⟩
theorem bz00:BZ 0 z00:=⟨(fun _ h=> absurd h (Nat.not_lt_zero _)),(fun _ h=> absurd h (Nat.not_lt_zero _)),(fun _ h=> absurd h (Nat.not_lt_zero _)),(fun _ _ h=> by cases h),(fun _ h=> absurd h (Nat.not_lt_zero _))⟩
set_option maxRecDepth 100000 in
theorem procnew_c (w:World):Calls Tryz.prog 37 #[] w fun e w' => ∃qb qm,e= .returned (.pointer (some ⟨qb,0,none⟩))∧Below w.heap.size w w' ∧w.heap.size≤qb∧w.heap.size≤qm∧PrC w' qb qm 0 0 (fun _=> none):=by
 have hal:=((Below.refl w.heap.size w).alloc (Nat.le_refl _) (.map #[] 0)).alloc (by simp) (.cells #[.map (some w.heap.size)] 129)
 have hm:=(MapI.made w Tryz.prog 3).upd (Upd.of_below (F:=fun _=> False) ((Below.refl (w.alloc (.map #[] 0)).heap.size _).alloc (Nat.le_refl _) (.cells #[.map (some w.heap.size)] 129))) (fun h=> h)
 have hf:=Blk.new (w.alloc (.map #[] 0)) #[.map (some w.heap.size)] 129
 have hmm:= @run_makeMap Tryz.prog
 go_enter Tryz.func37,Tryz.ntmps37
 go_wp2_with (fail)
 go_ret
 exact ⟨_,w.heap.size,rfl,hal,by simp,Nat.le_refl _,(by have h:=hf;rw [show (w.alloc (.map #[] 0)).heap.size=w.heap.size+1 by simp] at h;exact h),⟨0,0,hm,Nat.le_refl _,Nat.le_refl _⟩,fun i x h=> by cases h⟩
def ZNewP (n:Nat) (w:World) (e:Ending) (w' :World):Prop:=∃syb fdb vb tb fb sb pb mb qb qm O,e= .returned (.tuple #[.pointer (some ⟨syb,0,none⟩),.int .i64 0])∧UZ n w O fdb vb tb fb sb pb mb 0 z00 syb qb qm (fun _=> none) w'
set_option maxRecDepth 100000 in
set_option maxHeartbeats 2000000 in
theorem zunew_is (n:Nat) (h1:1≤n) (h64:n≤64) (w:World) (hm:MC w):Calls Tryz.prog 10 #[.int .i64 n] w (ZNewP n w):=by
 letI C:Inhabited CapT:=capP n ps00 (fun _=> 0)
 have hc:(capI:CapT)=capV n:=by
  show (⟨n - psN ps00 4,pOth ps00 (fun _=> 0)⟩:CapT)=⟨n,fun _=> False⟩
  have e:pOth ps00 (fun _=> 0)=fun _=> False:=funext fun i=> propext ⟨(fun ⟨j,p,h,_⟩=> by cases h),fun h=> h.elim⟩
  rw [e];rfl
 have hfn:Calls Tryz.prog 32 #[.int .i64 n] w (FNewP w n):=fnew_is n h1 h64 w
 have HM:=Lib.hid (And.intro hm (And.intro hc h1))
 clear hm hc h1 h64
 go_enter Tryz.func10,Tryz.ntmps10
 go_wp2_with (first
  | (go_at_call 32;(with_reducible refine hfn.mono ?_);rintro e w1 ⟨fb,bb,kb,rfl,hFr,hB,g1,g2,g3,g4,g5,g6⟩;have hvn:=fun W (hW:Below w1.heap.size w1 W)=> v_newN n HM.out.2.2 HM.out.1 HM.out.2.1 fb bb kb hFr hB g1 g2 g3 g4 g5 g6 hW;have H1:=Lib.hid hB;clear hB hFr g1 g2 g3 g4 g5 g6 hfn)
  | (go_at_call 33;refine (hvn _ (Below.refl _ _)).mono ?_;rintro e w4 ⟨vb,tb,lo,rfl,hV,hB',hb,hf⟩;have H4:=Lib.hid (And.intro hV (And.intro hB' (And.intro hb hf)));clear hV hB' hb hf hvn)
  | (go_at_call 36;refine (slabnew_is fb w4).mono ?_;rintro e w5 ⟨rfl,h5⟩;have H5:=Lib.hid h5;clear h5)
  | (go_at_call 35;refine (pipenew_is _ w5).mono ?_;rintro e w6 ⟨rfl,h6⟩;have H6:=Lib.hid h6;clear h6;have hd:=fdnew_is vb w5.heap.size w6)
  | (go_at_call 34;refine hd.mono ?_;rintro e w7 ⟨fdb,mb,rfl,hB,h1,h2,hF⟩;have H7:=Lib.hid (And.intro hB (And.intro h1 (And.intro h2 hF)));clear hB h1 h2 hF hd;have hq:=procnew_c w7)
  | (go_at_call 37;refine hq.mono ?_;rintro e w8 ⟨qb,qm,rfl,hB,h1,h2,hF⟩;have H8:=Lib.hid (And.intro hB (And.intro h1 (And.intro h2 hF)));clear hB h1 h2 hF hq))
 go_returns
 obtain ⟨hV,hB4,hb,hf⟩:=H4.out
 obtain ⟨hB7,h1,h2,hF⟩:=H7.out
 have e5:=H5.out
 have e6:=H6.out
 have s5:w5.heap.size=w4.heap.size+2:=by rw [e5];simp
 have s6:w6.heap.size=w4.heap.size+3:=by rw [e6];simp [s5]
 have hB5:Below w4.heap.size w4 w5:=by rw [e5];exact ((Below.refl _ _).alloc (Nat.le_refl _) _).alloc (by simp) _
 have hB56:Below w5.heap.size w5 w6:=by rw [e6];exact (Below.refl _ _).alloc (Nat.le_refl _) _
 have hB6:Below w4.heap.size w4 w6:=hB5.trans (hB56.mono hB5.size)
 have hB47:Below w4.heap.size w4 w7:=hB6.trans (hB7.mono hB6.size)
 have hB17:Below w1.heap.size w1 w7:=hB4.trans (hB47.mono hB4.size)
 have hB07:Below w.heap.size w w7:=H1.out.trans (hB17.mono H1.out.size)
 obtain ⟨sb,hs,_⟩:=hV.1.cell0
 obtain ⟨l1,l2,l3⟩:=hV.lts
 have hV7:=hV.below hB47
 have z1:=H1.out.size
 have z4:=hB4.size
 have z6:=hB6.size
 have z47:=hB47.size
 have z7:=hB7.size
 have zm:=HM.out.1.lt
 have hmk:MapI w7 Tryz.prog 3 w4.heap.size 0 0 (fun _=> none):=by
  have a:MapI w5 Tryz.prog 3 w4.heap.size 0 0 (fun _=> none):=by rw [e5];exact (MapI.made w4 Tryz.prog 3).upd ((Upd.refl (fun _=> False) _).alloc _) (fun h=> h)
  exact (a.upd (Upd.of_below (F:=fun _=> False) hB56) (fun h=> h)).upd (Upd.of_below (F:=fun _=> False) hB7) (fun h=> h)
 have hsl:Blk w7 (w4.heap.size+1) #[takeV fb,giveV fb,.map (some w4.heap.size)] 162:=by
  have a:Blk w5 (w4.heap.size+1) #[takeV fb,giveV fb,.map (some w4.heap.size)] 162:=by
   rw [e5]
   have:=Blk.new (w4.alloc (.map #[] 0)) #[takeV fb,giveV fb,.map (some w4.heap.size)] 162
   rw [show (w4.alloc (.map #[] 0)).heap.size=w4.heap.size+1 by simp] at this
   exact this
  have b:=Blk.below hB56 a a.lt
  exact Blk.below hB7 b b.lt
 have hpp:Blk w7 (w4.heap.size+2) #[.pointer (some ⟨w4.heap.size+1,0,none⟩),.pointer none,.pointer none,.pointer none,.pointer none] 158:=by
  have a:Blk w6 (w4.heap.size+2) #[.pointer (some ⟨w4.heap.size+1,0,none⟩),.pointer none,.pointer none,.pointer none,.pointer none] 158:=by
   rw [e6]
   have:=Blk.new w5 #[.pointer (some ⟨w4.heap.size+1,0,none⟩),.pointer none,.pointer none,.pointer none,.pointer none] 158
   rw [s5] at this
   exact this
  exact Blk.below hB7 a a.lt
 have hP:=PpI.new (w' :=w7) hmk hsl hpp
 rw [s5] at hF
 obtain ⟨hB8,q1,q2,hQ⟩:=H8.out
 obtain ⟨lq1,lq2⟩:=hQ.lt
 have hE:EX n w (fun k=> (fun k=> (w.heap.size≤k∧k < w7.heap.size)∧(k < w4.heap.size∨w6.heap.size≤k)) k∨∃r,po00 w4.heap.size r=some k) fdb vb tb fb sb (w4.heap.size+2) mb ns0 0 0 0 fs00 ps00 w7:=by
  refine ⟨po00 w4.heap.size,fun _=> 0,_,⟨lo,hV7,hB07,fun k hk=> hk.1,fun r k hk=> ?_,hf,hs,hF,fun k hk=> ?_⟩,hP,rfl,Nat.zero_le n,fun r k hr=> ?_,fun k=> Iff.rfl⟩
  ·have:=l2 r k hk
   exact ⟨⟨hb r k hk,by omega⟩,.inl this⟩
  ·have hk2:w6.heap.size≤k:=by
    rcases hk with rfl | rfl | ⟨i,hi⟩ | hx
    ·exact h1
    ·exact h2
    ·cases hi
    ·cases hx
   have hk3:=hF.lt hk
   exact ⟨⟨⟨by omega,hk3⟩,.inr hk2⟩,fun r hr=> by have:=l2 r k hr;omega,by omega,by omega⟩
  ·have hk:w4.heap.size≤k∧k < w4.heap.size+3:=by cases r <;> simp [po00] at hr <;> omega
   exact ⟨by omega,fun ho=> by have:=ho.2;omega,by omega⟩
 have hal:Below w8.heap.size w8 (w8.alloc (.cells #[.pointer (some ⟨fb,0,none⟩),.pointer (some ⟨vb,0,none⟩),.pointer (some ⟨fdb,0,none⟩),.pointer (some ⟨qb,0,none⟩)] 83)):=(Below.refl _ _).alloc (Nat.le_refl _) _
 have z8:=hB8.size
 have hlt7:∀k,((fun k=> (w.heap.size≤k∧k < w7.heap.size)∧(k < w4.heap.size∨w6.heap.size≤k)) k∨∃r,po00 w4.heap.size r=some k)→k < w7.heap.size:=by
  rintro k (hk | ⟨r,hr⟩)
  ·exact hk.1.2
  ·have:k < w4.heap.size+3:=by cases r <;> simp [po00] at hr <;> omega
   omega
 refine ⟨w8.heap.size,fdb,vb,tb,fb,sb,w4.heap.size+2,mb,qb,qm,_,rfl,⟨fs00,id,hE.below (hB8.trans (hal.mono hB8.size)),rz00,bz00⟩,Blk.new w8 _ _,hQ.below hal,⟨by omega,by omega,by omega⟩,⟨fun hk=> by have:=hlt7 _ hk;omega,fun hk=> by have:=hlt7 _ hk;omega,fun hk=> by have:=hlt7 _ hk;omega⟩,⟨by omega,by omega⟩,by omega⟩
end Go.Proofs.YtjpjafajploiaaaGreatDoor
