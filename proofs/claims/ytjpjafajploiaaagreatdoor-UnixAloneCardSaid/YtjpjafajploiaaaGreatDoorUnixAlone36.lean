/-
  Descriptors beside pipes: steps of the descriptors alone; Close, Read, Write of a pipe's descriptors.
-/
import Derived.Test.YtjpjafajploiaaaGreatDoorUnixAlone35
import Derived.Test.YtjpjafajploiaaaGreatDoorUnixAlone26
set_option linter.unusedSimpArgs false
set_option linter.unusedVariables false
namespace Go.Proofs.YtjpjafajploiaaaGreatDoor
open Go.RowKit Own RegJ Two
open Go.Lib hiding intOf
section
variable {cap:Nat} {w0 w w1 w2 w' :World} {O O1:Nat→Prop} {fdb vb tb fb sb pb mb:Nat} {ns ns' :NSt} {c c' N N' M M' :Nat} {S S' :FS} {ps ps' :PS} {po:PRl→Option Nat} {fo:Nat→Nat}
theorem EX.own (h:EX cap w0 O fdb vb tb fb sb pb mb ns c N M S ps w) (hu:Upd (Ow fdb mb S) w w') (hB:FdB w' fdb vb pb mb N' S') (hO:∀k,Ow fdb mb S' k→Ow fdb mb S k∨w.heap.size≤k) (v:Value):EP cap w0 O fdb vb tb fb sb pb mb ns c N' M S' ps w v (.returned v) w' :=by
 obtain ⟨po,fo,O1,h1,h2,h3,h4,h5,h6⟩:=h
 letI C:Inhabited CapT:=capP cap ps fo
 exact EX.lift h2 h3 h4 h5 h6 (FP.then_own (O1:=O1) (Upd.refl O1 w) h1 (fun k hk=> .inl hk) hu hB hO v)
theorem ex_put (h:EX cap w0 O fdb vb tb fb sb pb mb ns c N M S ps w) (pid:Int) (b:Nat) (hb:S.pr pid=some b) (d:Nat) (hd:d < 8) (t:Th) {WA:World} (hal:Below w.heap.size w WA) (hx:Blk WA w.heap.size (thC t) 173) (v:Value):
  WA.cell? ⟨b,d,none⟩=some (ptb (S.sl b d))∧WA.frozen? ⟨b,d,none⟩=false∧EP cap w0 O fdb vb tb fb sb pb mb ns c N M (S.put b d w.heap.size t) ps w v (.returned v) (WA.setCell ⟨b,d,none⟩ (.pointer (some ⟨w.heap.size,0,none⟩))):=by
 have hf2:=h.fd
 have hfA:=hf2.newth t hal hx
 have hbA:(S.setth w.heap.size t).pr pid=some b:=hb
 have hfS:=hfA.setsl hbA d hd (some w.heap.size) (fun y hy=> by cases hy;exact ⟨_,upN_eq _ _ _⟩)
 exact ⟨hfA.slot hbA hd,(hfA.t pid b hbA).nf d,h.own ((Upd.of_below (F:=Ow fdb mb S) hal).setCell (p:=⟨b,d,none⟩) (fun _=> .inr (.inr (.inl ⟨pid,hb⟩))) _) hfS (fun k hk=> (Ow.setth (S:=S) hk).imp (fun h=> h) (fun e=> by rw [e];exact Nat.le_refl _)) v⟩
def XRead (cap:Nat) (w0:World) (O:Nat→Prop) (fdb vb tb fb sb pb mb:Nat) (ns:NSt) (c N M:Nat) (S:FS) (ps:PS) (w:World) (ys:List Int) (er:Int) (e:Ending) (w' :World):Prop:=
 ∃a cp gb O',e= .returned (.tuple #[.slice a ys.length cp,.int .i64 er])∧RowV w' 5 (.slice a ys.length cp) (ucells ys) gb∧(∀g,gb=some g→w.heap.size≤g∧¬O' g)∧Upd O w w' ∧EX cap w0 O' fdb vb tb fb sb pb mb ns c N M S ps w' ∧∀k,O' k→O k∨w.heap.size≤k
theorem XRead.ahead {ys:List Int} {er:Int} {e:Ending} (hB:Below w.heap.size w w1) (h:XRead cap w0 O fdb vb tb fb sb pb mb ns c N M S ps w1 ys er e w'):XRead cap w0 O fdb vb tb fb sb pb mb ns c N M S ps w ys er e w' :=by
 obtain ⟨a,cp,gb,O',h1,h2,h3,h4,h5,h6⟩:=h
 exact ⟨a,cp,gb,O',h1,h2,fun g hg=> ⟨Nat.le_trans hB.size (h3 g hg).1,(h3 g hg).2⟩,(Upd.of_below hB).trans h4 (fun _ _ h=> h),h5,fun k hk=> (h6 k hk).imp id (fun e=> Nat.le_trans hB.size e)⟩
theorem preadF_eff (ps:PS) (id n:Int) {ys:List Int} {er:Int} (h:preadF ps id n=(ys,er,ps')):ps' =ps∨∃(i:Nat) (p p' :Pi),ps i=some p∧ps' =psPut ps i (some p'):=by
 unfold preadF at h
 cases hat:psAt ps id with
 | none=> rw [hat] at h;cases h;exact .inl rfl
 | some p=>
  rw [hat] at h
  obtain ⟨i,rfl,hp⟩:=psAt_some hat
  simp only [Int.toNat_natCast] at h
  split at h
  ·cases h;exact .inl rfl
  ·split at h
   ·cases h;exact .inl rfl
   ·split at h
    ·cases h;exact .inl rfl
    ·split at h
     ·cases h;exact .inl rfl
     ·cases h;exact .inr ⟨i,p,_,hp,rfl⟩
theorem pwriteF_eff (ps:PS) (id:Int) (b:List Int) {r:Int} (h:pwriteF ps id b=(r,ps')):ps' =ps∨∃(i:Nat) (p p' :Pi),ps i=some p∧ps' =psPut ps i (some p'):=by
 unfold pwriteF at h
 cases hat:psAt ps id with
 | none=> rw [hat] at h;cases h;exact .inl rfl
 | some p=>
  rw [hat] at h
  obtain ⟨i,rfl,hp⟩:=psAt_some hat
  simp only [Int.toNat_natCast] at h
  split at h
  ·cases h;exact .inl rfl
  ·split at h
   ·cases h;exact .inl rfl
   ·split at h
    ·cases h;exact .inl rfl
    ·split at h
     ·cases h;exact .inl rfl
     ·split at h
      ·cases h;exact .inl rfl
      ·cases h;exact .inr ⟨i,p,_,hp,rfl⟩
theorem eff_same (h2:PpI w po fo ps fb M) (h:ps' =ps∨∃(i:Nat) (p p' :Pi),ps i=some p∧ps' =psPut ps i (some p')):psN ps' 4=psN ps 4∧∀x,pOth ps' fo x↔pOth ps fo x:=by
 rcases h with rfl | ⟨i,p,p',hp,rfl⟩
 ·exact ⟨rfl,fun _=> Iff.rfl⟩
 ·exact ⟨psN_some ps (h2.i4 hp) hp,fun x=> pOth_some ps fo hp x⟩
theorem ex_read (h:EX cap w0 O fdb vb tb fb sb pb mb ns c N M S ps w) (hmc:0 < w0.heap.size) (id n:Int) (hn:n≤9223372036854775807) (ys:List Int) (er:Int) (hr:preadF ps id n=(ys,er,ps')):
  Calls Tryz.prog 190 #[.pointer (some ⟨pb,0,none⟩),.int .i64 id,.int .i64 n] w (XRead cap w0 O fdb vb tb fb sb pb mb ns c N M S ps' w ys er):=by
 obtain ⟨po,fo,O1,h1,h2,h3,h4,h5,h6⟩:=h
 refine (pp_read h2 h3 id n hn ys er hr).mono ?_
 rintro e w' ⟨a,cp,row,po',rfl,hR,hrow,hP,hF,hpp⟩
 obtain ⟨hN,hO⟩:=eff_same h2 (preadF_eff ps id n hr)
 obtain ⟨-,hu,-⟩:=EX.pipes h1 h2 h3 h4 h5 h6 hmc hP hF hpp hN hO (.int .i64 0)
 have hX:=FX.beside h1 hmc hF.1 (fun k ⟨r,hr⟩=> h5 r k hr)
 rw [←capP_eq hN hO] at hX
 have l1:=h1.bel'.size
 refine ⟨a,cp,row,fun k=> O1 k∨∃r,po' r=some k,rfl,hR,fun g hg=> ⟨(hrow g hg).1,fun hk=> ?_⟩,hu,⟨po',fo,O1,hX,hP,hpp.trans h3,by omega,fun r k hr=> ?_,fun k=> Iff.rfl⟩,fun k hk=> ?_⟩
 ·rcases hk with hk | ⟨r,hr⟩
  ·have:=(h1.rng' g hk).2;have:=(hrow g hg).1;omega
  ·exact (hrow g hg).2 r hr
 ·rcases hF.2 r k hr with ⟨r',g⟩ | g
  ·exact h5 r' k g
  ·exact ⟨by omega,fun hk=> by have:=(h1.rng' k hk).2;omega,fun e=> by have:=h1.vlt';omega⟩
 ·rcases hk with hk | ⟨r,hr⟩
  ·exact .inl ((h6 k).2 (.inl hk))
  ·rcases hF.2 r k hr with ⟨r',g⟩ | g
   ·exact .inl ((h6 k).2 (.inr ⟨r',g⟩))
   ·exact .inr g
theorem ex_write (h:EX cap w0 O fdb vb tb fb sb pb mb ns c N M S ps w) (hmc:0 < w0.heap.size) (id:Int) (b:List Int) (v:Value) (hv:SrcF O w v b) (r:Int) (hr:pwriteF ps id b=(r,ps')):
  Calls Tryz.prog 144 #[.pointer (some ⟨pb,0,none⟩),.int .i64 id,v] w (EP cap w0 O fdb vb tb fb sb pb mb ns c N M S ps' w (.int .i64 r)):=by
 obtain ⟨po,fo,O1,h1,h2,h3,h4,h5,h6⟩:=h
 have hv' :SrcF (fun k=> ∃r,po r=some k) w v b:=by
  obtain ⟨a,cc,rfl,k1,k2⟩:=hv
  refine ⟨a,cc,rfl,k1,fun hp=> ?_⟩
  obtain ⟨g,q,rfl,k3,k4,k5⟩:=k2 hp
  exact ⟨g,q,rfl,k3,fun hk=> k4 ((h6 g).2 (.inr hk)),k5⟩
 refine (pp_write h2 h3 id b v hv' r hr).mono ?_
 rintro e w' ⟨rfl,po',hP,hF,hpp⟩
 obtain ⟨hN,hO⟩:=eff_same h2 (pwriteF_eff ps id b hr)
 exact EX.pipes h1 h2 h3 h4 h5 h6 hmc hP hF hpp hN hO _
set_option maxRecDepth 100000 in
set_option maxHeartbeats 2000000 in
theorem kp_read (h:EX cap w0 O fdb vb tb fb sb pb mb ns c N M S ps w) (hmc:0 < w0.heap.size) (x:Nat) (t:Th) (ht:S.th x=some t) (n:Int) (hn:n≤9223372036854775807) (ys:List Int) (er:Int) (hr:preadF ps t.id n=(ys,er,ps')):
  Calls Tryz.prog 140 #[.pointer (some ⟨fdb,0,none⟩),.pointer (some ⟨x,0,none⟩),.int .i64 n] w (XRead cap w0 O fdb vb tb fb sb pb mb ns c N M S ps' w ys er):=by
 have hd:=h.below (dn w 1)
 have hrd:=ex_read hd hmc t.id n hn ys er hr
 have c0:w.cell? ⟨fdb,1,none⟩=some (.pointer (some ⟨pb,0,none⟩)):=h.fd.f.rd 1
 have k:=(h.fd.x x t ht).rd
 have hrd' :Calls Tryz.prog 190 #[.pointer (some ⟨pb,0,none⟩),.int .i64 t.id,.int .i64 n] (w.drewN 1) (XRead cap w0 O fdb vb tb fb sb pb mb ns c N M S ps' (w.drewN 1) ys er):=hrd
 have HQ:=Lib.hid hrd'
 clear h hd ht hrd hr hrd'
 go_enter Tryz.func140,Tryz.ntmps140
 go_upto_region 1 with (fail)
 go_region_with (first
  | (go_at_call 190;refine HQ.out.mono ?_;rintro e w3 ⟨a,cp,gb,O3,rfl,hq⟩;have H3:=Lib.hid hq;clear hq))
 all_goals
  go_wp2_with (fail)
  go_ret2
  exact XRead.ahead (dn w 1) ⟨a,cp,gb,O3,rfl,H3.out⟩
set_option maxRecDepth 100000 in
set_option maxHeartbeats 2000000 in
theorem kp_write (h:EX cap w0 O fdb vb tb fb sb pb mb ns c N M S ps w) (hmc:0 < w0.heap.size) (x:Nat) (t:Th) (ht:S.th x=some t) (b:List Int) (m cp:Nat) (a:Option Addr) (hm:b.length=m) (hv:SrcF O w (.slice a m cp) b) (r:Int) (hr:pwriteF ps t.id b=(r,ps')):
  Calls Tryz.prog 85 #[.pointer (some ⟨fdb,0,none⟩),.pointer (some ⟨x,0,none⟩),.slice a m cp] w (EP cap w0 O fdb vb tb fb sb pb mb ns c N M S ps' w (.int .i64 r)):=by
 have hd:=h.below (dn w 1)
 have hwr:=ex_write hd hmc t.id b (.slice a m cp) (hv.below (dn w 1)) r hr
 have hF0:(fun u=> u.cell? ⟨fdb,1,none⟩=some (.pointer (some ⟨pb,0,none⟩))∧u.cell? ⟨x,2,none⟩=some (.int .i64 t.id)) w.drew:=⟨hd.fd.f.rd 1,(hd.fd.x x t ht).rd 2⟩
 have HQ:=Lib.hid (And.intro hF0 hwr)
 clear h hd ht hwr hr hF0 hv
 go_enter Tryz.func85,Tryz.ntmps85
 go_upto_region 1 with (fail)
 refine region_C 9 w.drew (fun w9=> EP cap w0 O fdb vb tb fb sb pb mb ns c N M S ps' w.drew (.int .i64 r) (.returned (.int .i64 r)) w9) rfl (by kernel_rfl) (by kernel_rfl) ?_
 iterate 3
  apply wpJ_op rfl (by rfl)
  ·intro fl w1 hf hJ Q1 hQ
   simp only [nrm] at hQ
   go_wp2_with (fail)
   exact hQ _ _ rfl (hJ.other rfl hf (by decide))
  simp only [nrm]
 apply wpJ_op rfl (by rfl)
 ·intro fl w1 hf hJ Q1 hQ
  have hC:fl 9=false:=path_no hJ.1 [3] (by kernel_rfl) (by decide) hf.1
  rw [hJ.atC hC]
  have hF:=HQ.out.1
  have k0:=hF.1
  simp only [nrm] at hQ
  go_wp2_with (fail)
  exact hQ _ _ rfl (by have h9:=hJ.other rfl hf (by decide);rwa [hJ.atC hC] at h9)
 iterate 3
  simp only [nrm]
  apply wpJ_op rfl (by rfl)
  ·intro fl w1 hf hJ Q1 hQ
   simp only [nrm] at hQ
   go_wp2_with (fail)
   exact hQ _ _ rfl (hJ.other rfl hf (by decide))
 simp only [nrm]
 apply wpJ_op rfl (by rfl)
 ·intro fl w1 hf hJ Q1 hQ
  have hC:fl 9=false:=path_no hJ.1 [7] (by kernel_rfl) (by decide) hf.1
  rw [hJ.atC hC]
  have hF:=HQ.out.1
  have k2:=hF.2
  simp only [nrm] at hQ
  go_wp2_with (fail)
  exact hQ _ _ rfl (by have h9:=hJ.other rfl hf (by decide);rwa [hJ.atC hC] at h9)
 simp only [nrm]
 apply wpJ_op rfl (by rfl)
 ·intro fl w1 hf hJ Q1 hQ
  simp only [nrm] at hQ
  go_wp2_with (fail)
  exact hQ _ _ rfl (hJ.other rfl hf (by decide))
 simp only [nrm]
 apply wpJ_op rfl (by rfl)
 ·intro fl w1 hf hJ Q1 hQ
  rw [hJ.atC hf.1]
  simp only [nrm] at hQ
  go_wp2_with (have kw:=HQ.out.2;go_at_call 144;refine kw.mono ?_;rintro e w8 hq;obtain rfl:=hq.1)
  exact hQ _ _ rfl (hJ.goC rfl hf hq)
 simp only [nrm]
 apply wpJ_op rfl (by rfl)
 ·intro fl w1 hf hJ Q1 hQ
  simp only [nrm] at hQ
  go_wp2_with (fail)
  exact hQ _ _ rfl (hJ.other rfl hf (by decide))
 simp only [nrm]
 refine wpJ_nil ?_
 intro w9 hJ9
 have hq9:=hJ9.fin rfl
 clear hJ9
 have H9:=Lib.hid hq9
 clear hq9
 go_wp2_with (fail)
 go_ret
 exact EP.ahead (dn w 1) H9.out
end
end Go.Proofs.YtjpjafajploiaaaGreatDoor
/-
 Descriptors of pipes:the last name closed;Read;Write;a pipe made.
-/
namespace Go.Proofs.YtjpjafajploiaaaGreatDoor
open Go.RowKit Own RegJ Two
open Go.Lib hiding intOf
section
variable {cap:Nat} {w0 w w1 w2 w' :World} {O O1:Nat→Prop} {fdb vb tb fb sb pb mb:Nat} {ns ns' :NSt} {c c' N N' M M' :Nat} {S S' :FS} {ps ps' :PS} {po:PRl→Option Nat} {fo:Nat→Nat}
theorem pp_close (h:EX cap w0 O fdb vb tb fb sb pb mb ns c N M S ps w) (hmc:0 < w0.heap.size) (id:Int) (wr:Bool) (hpos:∀i p,ps i=some p→0≤p.rd∧0≤p.wt∧p.rd≤100000∧p.wt≤100000) (r:Int) (hr:pcloseF ps id wr=(r,ps')):
  Calls Tryz.prog 81 #[.pointer (some ⟨pb,0,none⟩),.int .i64 id,.bool wr] w (EP cap w0 O fdb vb tb fb sb pb mb ns c N M S ps' w (.int .i64 r)):=by
 cases wr
 ·exact pp_close_false h hmc id hpos r hr
 ·exact pp_close_true h hmc id hpos r hr
set_option maxRecDepth 100000 in
set_option maxHeartbeats 2000000 in
theorem kp_close (h:EX cap w0 O fdb vb tb fb sb pb mb ns c N M S ps w) (hmc:0 < w0.heap.size) (pid:Int) (hw:(Lit.int .i64 pid).wf=true) (b:Nat) (hb:S.pr pid=some b) (d x:Nat) (hd:d < 8) (hx:S.sl b d=some x) (t:Th) (ht:S.th x=some t) (hnm: -100000≤t.nm∧t.nm≤1) (hpp:t.pp=true) (hpos:∀i p,ps i=some p→0≤p.rd∧0≤p.wt∧p.rd≤100000∧p.wt≤100000) (r:Int) (hr:pcloseF ps t.id t.wr=(r,ps')):
  Calls Tryz.prog 43 #[.pointer (some ⟨fdb,0,none⟩),.int .i64 pid,.int .i64 d] w (EP cap w0 O fdb vb tb fb sb pb mb ns c N M ((S.setsl b d none).setth x {t with nm:=t.nm - 1}) ps' w (.int .i64 0)):=by
 have hg:=k_get h.fd pid hw b hb d x hd hx
 have hf:=h.fd
 have hl:=hf.look pid hw
 rw [hb] at hl
 simp only [ptb,Option.map] at hl
 have c2:=hf.f.rd 2
 have c3:=hf.slot hb hd
 rw [hx] at c3
 simp only [ptb,Option.map] at c3
 have f3:=(hf.t pid b hb).nf d
 have hS1:=hf.setsl hb d hd none (fun y hy=> by cases hy)
 have hx1:=hS1.x x t ht
 have k1:=hx1.rd 5
 have g1:=hx1.nf 5
 have hS2:=hS1.setth (x:=x) (t0:=t) ht {t with nm:=t.nm - 1} 5 (.int .i64 (t.nm - 1)) rfl
 have hx2:=hS2.x x {t with nm:=t.nm - 1} (upN_eq _ _ _)
 have k2:=hx2.rd
 have hu2:Upd (Ow fdb mb S) w ((w.setCell ⟨b,d,none⟩ (.pointer none)).setCell ⟨x,5,none⟩ (.int .i64 (t.nm - 1))):=((Upd.refl (Ow fdb mb S) w).setCell (p:=⟨b,d,none⟩) (fun _=> .inr (.inr (.inl ⟨pid,hb⟩))) _).setCell (p:=⟨x,5,none⟩) (fun _=> .inr (.inr (.inr (by rw [ht];rfl)))) _
 have hOw:∀k,Ow fdb mb ((S.setsl b d none).setth x {t with nm:=t.nm - 1}) k→Ow fdb mb S k∨w.heap.size≤k:=fun k hk=> .inl (Ow.setsl (b:=b) (d:=d) (x:=none) (Ow.th (S:=S.setsl b d none) (x:=x) (t0:=t) ht hk))
 rw [show ptb none= .pointer none from rfl] at k1 g1 k2 hS2 hx2
 have i1:(d:Int) < 8:=by omega
 have i2:(0:Int)≤d:=by omega
 have j1:=hnm.1
 have j2:=hnm.2
 have d1:decide (t.nm - 1 > 0)=false:=decide_eq_false (by omega)
 obtain ⟨-,hU5,O5,hE5,hO5⟩:=h.own hu2 hS2 hOw (.int .i64 0)
 have hE5d:=hE5.below (dn _ 1)
 have hcl:=pp_close hE5d hmc t.id t.wr hpos r hr
 have hF0:(fun u=> u.cell? ⟨fdb,1,none⟩=some (.pointer (some ⟨pb,0,none⟩))∧u.cell? ⟨x,2,none⟩=some (.int .i64 t.id)∧u.cell? ⟨x,1,none⟩=some (.bool t.wr)) ((((w.setCell ⟨b,d,none⟩ (.pointer none)).setCell ⟨x,5,none⟩ (.int .i64 (t.nm - 1)))).drewN 1):=⟨hE5d.fd.f.rd 1,(hE5d.fd.x x {t with nm:=t.nm - 1} (upN_eq _ _ _)).rd 2,(hE5d.fd.x x {t with nm:=t.nm - 1} (upN_eq _ _ _)).rd 1⟩
 have e5:((w.setCell ⟨b,d,none⟩ (.pointer none)).setCell ⟨x,5,none⟩ (.int .i64 (t.nm - 1))).cell? ⟨x,5,none⟩=some (.int .i64 (t.nm - 1)):=k2 5
 have e0:((w.setCell ⟨b,d,none⟩ (.pointer none)).setCell ⟨x,5,none⟩ (.int .i64 (t.nm - 1))).cell? ⟨x,0,none⟩=some (.bool true):=by rw [←hpp];exact k2 0
 have HP:=Lib.hid (And.intro hF0 (And.intro hcl (And.intro hU5 hO5)))
 clear hpp h hf hb hx ht hS1 hx1 hS2 hx2 k2 hu2 hOw hU5 hE5 hO5 hE5d hcl hF0
 go_enter Tryz.func43,Tryz.ntmps43
 go_upto_region 9 with (go_at_call 80;refine hg.mono ?_;rintro e w1 ⟨rfl,rfl⟩)
 obtain ⟨hF0,hcl,hU5,hO5⟩:=HP.out
 clear e5 e0 k1 g1 HP
 generalize ((w.setCell ⟨b,d,none⟩ (.pointer none)).setCell ⟨x,5,none⟩ (.int .i64 (t.nm - 1)))=W9 at*
 have hF1:(fun u=> u.cell? ⟨fdb,1,none⟩=some (.pointer (some ⟨pb,0,none⟩))∧u.cell? ⟨x,2,none⟩=some (.int .i64 t.id)∧u.cell? ⟨x,1,none⟩=some (.bool t.wr)) W9.drew:=hF0
 have hc1:Calls Tryz.prog 81 #[.pointer (some ⟨pb,0,none⟩),.int .i64 t.id,.bool t.wr] W9.drew (EP cap w0 O5 fdb vb tb fb sb pb mb ns c N M ((S.setsl b d none).setth x {t with nm:=t.nm - 1}) ps' W9.drew (.int .i64 r)):=hcl
 have HQ:=Lib.hid (And.intro hF1 hc1)
 have HU:=Lib.hid (And.intro hU5 hO5)
 clear hF0 hcl hF1 hc1 hU5 hO5
 refine region_C 12 W9.drew (fun w9=> (EP cap w0 O5 fdb vb tb fb sb pb mb ns c N M ((S.setsl b d none).setth x {t with nm:=t.nm - 1}) ps' W9.drew (.int .i64 r) (.returned (.int .i64 r)) w9)) rfl (by kernel_rfl) (by kernel_rfl) ?_
 iterate 3
  apply wpJ_op rfl (by rfl)
  ·intro fl w1 hf hJ Q1 hQ
   simp only [nrm] at hQ
   go_wp2_with (fail)
   exact hQ _ _ rfl (hJ.other rfl hf (by decide))
  simp only [nrm]
 apply wpJ_op rfl (by rfl)
 ·intro fl w1 hf hJ Q1 hQ
  have hC:fl 12=false:=path_no hJ.1 [3] (by kernel_rfl) (by decide) hf.1
  rw [hJ.atC hC]
  have hF:=HQ.out.1
  have k0:=hF.1
  simp only [nrm] at hQ
  go_wp2_with (fail)
  exact hQ _ _ rfl (by have h9:=hJ.other rfl hf (by decide);rwa [hJ.atC hC] at h9)
 iterate 3
  simp only [nrm]
  apply wpJ_op rfl (by rfl)
  ·intro fl w1 hf hJ Q1 hQ
   simp only [nrm] at hQ
   go_wp2_with (fail)
   exact hQ _ _ rfl (hJ.other rfl hf (by decide))
 simp only [nrm]
 apply wpJ_op rfl (by rfl)
 ·intro fl w1 hf hJ Q1 hQ
  have hC:fl 12=false:=path_no hJ.1 [7] (by kernel_rfl) (by decide) hf.1
  rw [hJ.atC hC]
  have hF:=HQ.out.1
  have k2:=hF.2.1
  simp only [nrm] at hQ
  go_wp2_with (fail)
  exact hQ _ _ rfl (by have h9:=hJ.other rfl hf (by decide);rwa [hJ.atC hC] at h9)
 iterate 3
  simp only [nrm]
  apply wpJ_op rfl (by rfl)
  ·intro fl w1 hf hJ Q1 hQ
   simp only [nrm] at hQ
   go_wp2_with (fail)
   exact hQ _ _ rfl (hJ.other rfl hf (by decide))
 simp only [nrm]
 apply wpJ_op rfl (by rfl)
 ·intro fl w1 hf hJ Q1 hQ
  have hC:fl 12=false:=path_no hJ.1 [11] (by kernel_rfl) (by decide) hf.1
  rw [hJ.atC hC]
  have hF:=HQ.out.1
  have k3:=hF.2.2
  simp only [nrm] at hQ
  go_wp2_with (fail)
  exact hQ _ _ rfl (by have h9:=hJ.other rfl hf (by decide);rwa [hJ.atC hC] at h9)
 simp only [nrm]
 apply wpJ_op rfl (by rfl)
 ·intro fl w1 hf hJ Q1 hQ
  rw [hJ.atC hf.1]
  simp only [nrm] at hQ
  go_wp2_with (have kw:=HQ.out.2;go_at_call 81;refine kw.mono ?_;rintro e w8 hq;obtain rfl:=hq.1)
  exact hQ _ _ rfl (hJ.goC rfl hf hq)
 simp only [nrm]
 refine wpJ_nil ?_
 intro w9 hJ9
 have hq9:=hJ9.fin rfl
 clear hJ9
 have H9:=Lib.hid hq9
 clear hq9
 go_wp2_with (fail)
 go_ret
 exact ⟨rfl,(EP.seq (HU.out.1.trans (Upd.of_below (F:=O) (dn W9 1)) (fun _ _ h=> h)) (fun k hk=> (HU.out.2 k hk)) H9.out).2⟩
set_option maxRecDepth 100000 in
set_option maxHeartbeats 2000000 in
theorem kp_rd (h:EX cap w0 O fdb vb tb fb sb pb mb ns c N M S ps w) (hmc:0 < w0.heap.size) (pid:Int) (hw:(Lit.int .i64 pid).wf=true) (b:Nat) (hb:S.pr pid=some b) (d x:Nat) (hd:d < 8) (hx:S.sl b d=some x) (t:Th) (ht:S.th x=some t) (hpp:t.pp=true) (hwr:t.wr=false) (n:Int) (hn:n≤9223372036854775807) (ys:List Int) (er:Int) (hr:preadF ps t.id n=(ys,er,ps')):
  Calls Tryz.prog 83 #[.pointer (some ⟨fdb,0,none⟩),.int .i64 pid,.int .i64 d,.int .i64 n] w (XRead cap w0 O fdb vb tb fb sb pb mb ns c N M S ps' w ys er):=by
 have hg:=k_get h.fd pid hw b hb d x hd hx
 have hB:=h.fd.x x t ht
 have c0:w.cell? ⟨x,0,none⟩=some (.bool true):=by rw [←hpp];exact hB.rd 0
 have c1:w.cell? ⟨x,1,none⟩=some (.bool false):=by rw [←hwr];exact hB.rd 1
 have hfr:=kp_read h hmc x t ht n hn ys er hr
 clear h hB ht hb hx hpp hwr hr
 go_enter Tryz.func83,Tryz.ntmps83
 go_wp2_with (first
  | (go_at_call 80;refine hg.mono ?_;rintro e w1 ⟨rfl,rfl⟩)
  | (go_at_call 140;refine hfr.mono ?_;rintro e w2 ⟨a,cp,gb,O2,rfl,hq⟩;have HF:=Lib.hid hq;clear hq hfr))
 go_ret2
 exact ⟨a,cp,gb,O2,rfl,HF.out⟩
set_option maxRecDepth 100000 in
set_option maxHeartbeats 2000000 in
theorem kp_wr (h:EX cap w0 O fdb vb tb fb sb pb mb ns c N M S ps w) (hmc:0 < w0.heap.size) (pid:Int) (hw:(Lit.int .i64 pid).wf=true) (b:Nat) (hb:S.pr pid=some b) (d x:Nat) (hd:d < 8) (hx:S.sl b d=some x) (t:Th) (ht:S.th x=some t) (hpp:t.pp=true) (hwr:t.wr=true) (bs:List Int) (m cp:Nat) (a:Option Addr) (hm:bs.length=m) (hv:SrcF O w (.slice a m cp) bs) (hr:pwriteF ps t.id bs=(0,ps')):
  Calls Tryz.prog 45 #[.pointer (some ⟨fdb,0,none⟩),.int .i64 pid,.int .i64 d,.slice a m cp] w (EP cap w0 O fdb vb tb fb sb pb mb ns c N M S ps' w (.tuple #[.int .i64 m,.int .i64 0])):=by
 have hg:=k_get h.fd pid hw b hb d x hd hx
 have hB:=h.fd.x x t ht
 have c0:w.cell? ⟨x,0,none⟩=some (.bool true):=by rw [←hpp];exact hB.rd 0
 have c1:w.cell? ⟨x,1,none⟩=some (.bool true):=by rw [←hwr];exact hB.rd 1
 have hfw:=kp_write h hmc x t ht bs m cp a hm hv 0 hr
 clear h hB ht hb hx hpp hwr hr hv
 go_enter Tryz.func45,Tryz.ntmps45
 go_wp2_with (first
  | (go_at_call 80;refine hg.mono ?_;rintro e w1 ⟨rfl,rfl⟩)
  | (go_at_call 85;refine hfw.mono ?_;rintro e w2 ⟨rfl,hq⟩;have HF:=Lib.hid hq;clear hq hfw))
 go_ret2
 exact ⟨rfl,HF.out⟩
set_option maxRecDepth 100000 in
set_option maxHeartbeats 4000000 in
theorem k_pipe (h:EX cap w0 O fdb vb tb fb sb pb mb ns c N M S ps w) (hmc:0 < w0.heap.size) (hM:M≤10000) (pid:Int) (hw:(Lit.int .i64 pid).wf=true) (b:Nat) (hb:S.pr pid=some b) (d1 d2:Nat) (fr:List Int) (hd1:d1 < 8) (hd2:d2 < 8) (hfr:freeL (S.sl b) 8=(d1:Int)::(d2:Int)::fr) (id:Int) (hr:pmakeF (cap - psN ps 4 - usedN (filesOf ns) 16) ps=(id,0,ps')):
  Calls Tryz.prog 52 #[.pointer (some ⟨fdb,0,none⟩),.int .i64 pid] w fun e w' => ∃x y,w.heap.size≤x∧w.heap.size≤y∧x≠y∧EP cap w0 O fdb vb tb fb sb pb mb ns c N (M+1) ((S.put b d1 x ⟨true,false,id,0,false,1⟩).put b d2 y ⟨true,true,id,0,false,1⟩) ps' w (.tuple #[.int .i64 (16*d1+d2),.int .i64 0]) e w' :=by
 have hfree:=k_free h.fd pid hw b hb 2 (.int .i64 0) 0 (fun e w' => FreeP w ((d1:Int)::(d2:Int)::fr) e w') (fun _ e w' hp=> by rw [hfr] at hp;exact hp) (fun hlt=> by rw [hfr] at hlt;simp only [List.length_cons] at hlt;omega)
 obtain ⟨m,hm⟩:∃m,fr.length+2=m:=⟨_,rfl⟩
 have m1:1 < m:=by omega
 have m2:(1:Int) < m:=by omega
 have m3:0 < m:=by omega
 have m4:(0:Int) < m:=by omega
 have c0:∀w1,Below w.heap.size w w1→w1.cell? ⟨fdb,1,none⟩=some (.pointer (some ⟨pb,0,none⟩)):=fun w1 hB=> (h.fd.below hB).f.rd 1
 have hop:=fun w1 (hB:Below w.heap.size w w1)=> pp_make (h.below hB) hM hmc id 0 hr
 have HE:=Lib.hid (And.intro h (And.intro hb hw))
 clear h hb hw hr hfr
 go_enter Tryz.func52,Tryz.ntmps52
 go_upto_region 7 with (first
  | (go_at_call 78;refine hfree.mono ?_;rintro e w1 ⟨a,cp,gr,rfl,hR,hgO,hB1⟩;have c1:=c0 w1 hB1;have H1:=Lib.hid (And.intro hR (And.intro hgO hB1));rw [show ((d1:Int)::(d2:Int)::fr).length=m from by rw [←hm];rfl] at hR ⊢;have ho:=hop w1 hB1;clear hfree hop c0 hR hB1 hgO)
  | (go_at_call 93;refine ho.mono ?_;rintro e w2 ⟨rfl,hU2,O2,hE2,hO2⟩;have H2:=Lib.hid (And.intro hU2 (And.intro hE2 hO2));clear hU2 hE2 hO2 ho c1))
 obtain ⟨hR,hgO,hB1⟩:=H1.out
 obtain ⟨hU2,hE2,hO2⟩:=H2.out
 obtain ⟨g,rfl,hg1,hcell,hcellb⟩:∃g,a=some ⟨g,0,none⟩∧w.heap.size≤g∧w1.cell? ⟨g,0,none⟩=some (.int .i64 d1)∧w1.cell? ⟨g,1,none⟩=some (.int .i64 d2):=by
  rcases hR with ⟨hv,_⟩ | ⟨g,cap',rest,hv,hgr,hBk,_⟩
  ·simp only [Value.slice.injEq,List.length_cons] at hv
   omega
  ·simp only [Value.slice.injEq] at hv
   exact ⟨g,hv.1,hgO g hgr,by rw [hBk.rd];rfl,by rw [hBk.rd];rfl⟩
 have hgl:=World.block_lt_of_cell? _ _ hcell
 have hgO2:¬O g:=fun hk=> by have:=(HE.out.1.rng g hk).2;omega
 have hcell2:w2.cell? ⟨g,0,none⟩=some (.int .i64 d1):=cell_upd hU2 hcell hgO2
 have hcell2b:w2.cell? ⟨g,1,none⟩=some (.int .i64 d2):=cell_upd hU2 hcellb hgO2
 have zg2:g < w2.heap.size:=Nat.lt_of_lt_of_le hgl hU2.size
 have hbl:=(HE.out.1.fd.t pid b HE.out.2.1).lt
 have hgb:¬g=b:=fun e=> by omega
 have hal:Below w2.heap.size w2 (w2.alloc (.cells #[.bool true,.bool false,.int .i64 id,.int .i64 0,.bool false,.int .i64 1] 173)).drew:=((Below.refl _ _).alloc (Nat.le_refl _) _).trans ((dn _ 1).mono (by simp))
 obtain ⟨s1,s2,s3⟩:=ex_put hE2 pid b HE.out.2.1 d1 hd1 ⟨true,false,id,0,false,1⟩ hal ((Blk.new w2 _ _).drew) (.int .i64 0)
 have hl2:=hE2.fd.look pid HE.out.2.2
 have hlW:=(hE2.fd.below (dn w2 1)).look pid HE.out.2.2
 have hlA:=(hE2.fd.below hal).look pid HE.out.2.2
 rw [HE.out.2.1] at hlW hlA
 have hFW:(fun u=> u.cell? ⟨fdb,2,none⟩=some (.map (some mb))∧(Instr.lookup 152 (.map (some mb)) (.int .i64 pid) false).run Tryz.prog u= .ok (.pointer (some ⟨b,0,none⟩)) u∧u.cell? ⟨g,0,none⟩=some (.int .i64 d1)∧u.cell? ⟨g,1,none⟩=some (.int .i64 d2)) w2.drew:=⟨hE2.fd.f.rd 2,hlW,hcell2,hcell2b⟩
 have hFA:(fun u=> u.cell? ⟨fdb,2,none⟩=some (.map (some mb))∧(Instr.lookup 152 (.map (some mb)) (.int .i64 pid) false).run Tryz.prog u= .ok (.pointer (some ⟨b,0,none⟩)) u∧u.cell? ⟨g,0,none⟩=some (.int .i64 d1)∧u.cell? ⟨g,1,none⟩=some (.int .i64 d2)) (w2.alloc (.cells #[.bool true,.bool false,.int .i64 id,.int .i64 0,.bool false,.int .i64 1] 173)).drew:=⟨(hE2.fd.below hal).f.rd 2,hlA,(hal.cell (p:=⟨g,0,none⟩) zg2).trans hcell2,(hal.cell (p:=⟨g,1,none⟩) zg2).trans hcell2b⟩
 have i1:(d1:Int) < 8:=by omega
 have i2:(0:Int)≤d1:=by omega
 have i3:(d2:Int) < 8:=by omega
 have i4:(0:Int)≤d2:=by omega
 obtain ⟨sl1,hsl1⟩:∃v,(w2.alloc (.cells #[.bool true,.bool false,.int .i64 id,.int .i64 0,.bool false,.int .i64 1] 173)).drew.cell? ⟨b,d1,none⟩=some v:=⟨_,s1⟩
 have HQ:=Lib.hid (And.intro hFW (And.intro hFA (And.intro hsl1 (And.intro s2 s3))))
 have HC:=Lib.hid (And.intro hU2 (And.intro hO2 (And.intro hgb (And.intro zg2 hB1))))
 clear hR hgO hB1 hU2 hE2 hO2 hg1 hcell hcellb hgl hgO2 hcell2 hcell2b zg2 hbl hgb hal s1 s2 s3 hl2 hlW hlA hFW hFA hsl1 H1 H2
 refine region_K 11 14 14 (w2.drew) ((w2.alloc (.cells #[.bool true,.bool false,.int .i64 id,.int .i64 0,.bool false,.int .i64 1] 173)).drew) ((w2.alloc (.cells #[.bool true,.bool false,.int .i64 id,.int .i64 0,.bool false,.int .i64 1] 173)).drew.setCell ⟨b,d1,none⟩ (.pointer (some ⟨w2.heap.size,0,none⟩))) ((w2.alloc (.cells #[.bool true,.bool false,.int .i64 id,.int .i64 0,.bool false,.int .i64 1] 173)).drew.setCell ⟨b,d1,none⟩ (.pointer (some ⟨w2.heap.size,0,none⟩))) rfl (by kernel_rfl) (by kernel_rfl) ?_
 iterate 3
  apply wpJ_op rfl (by rfl)
  ·intro fl w1 hf hJ Q1 hQ
   simp only [nrm] at hQ
   go_wp2_with (fail)
   exact hQ _ _ rfl (hJ.other rfl hf (by decide) (by decide) (by decide))
  simp only [nrm]
 apply wpJ_op rfl (by rfl)
 ·intro fl w1 hf hJ Q1 hQ
  have hS:fl 14=false:=path_no hJ.1 [13,12,5,3] (by kernel_rfl) (by decide) hf.1
  have hF:=KJ.pre2 (F:=(fun u=> u.cell? ⟨fdb,2,none⟩=some (.map (some mb))∧(Instr.lookup 152 (.map (some mb)) (.int .i64 pid) false).run Tryz.prog u= .ok (.pointer (some ⟨b,0,none⟩)) u∧u.cell? ⟨g,0,none⟩=some (.int .i64 d1)∧u.cell? ⟨g,1,none⟩=some (.int .i64 d2))) hJ hS HQ.out.1 HQ.out.2.1
  have k0:=hF.1
  simp only [nrm] at hQ
  go_wp2_with (fail)
  exact hQ _ _ rfl (hJ.other rfl hf (by decide) (by decide) (by decide))
 simp only [nrm]
 apply wpJ_op rfl (by rfl)
 ·intro fl w1 hf hJ Q1 hQ
  simp only [nrm] at hQ
  go_wp2_with (fail)
  exact hQ _ _ rfl (hJ.other rfl hf (by decide) (by decide) (by decide))
 simp only [nrm]
 apply wpJ_op rfl (by rfl)
 ·intro fl w1 hf hJ Q1 hQ
  have hS:fl 14=false:=path_no hJ.1 [13,12,5] (by kernel_rfl) (by decide) hf.1
  have hF:=KJ.pre2 (F:=(fun u=> u.cell? ⟨fdb,2,none⟩=some (.map (some mb))∧(Instr.lookup 152 (.map (some mb)) (.int .i64 pid) false).run Tryz.prog u= .ok (.pointer (some ⟨b,0,none⟩)) u∧u.cell? ⟨g,0,none⟩=some (.int .i64 d1)∧u.cell? ⟨g,1,none⟩=some (.int .i64 d2))) hJ hS HQ.out.1 HQ.out.2.1
  have k1:=hF.2.1
  simp only [nrm] at hQ
  go_wp2_with (fail)
  exact hQ _ _ rfl (hJ.other rfl hf (by decide) (by decide) (by decide))
 iterate 2
  simp only [nrm]
  apply wpJ_op rfl (by rfl)
  ·intro fl w1 hf hJ Q1 hQ
   simp only [nrm] at hQ
   go_wp2_with (fail)
   exact hQ _ _ rfl (hJ.other rfl hf (by decide) (by decide) (by decide))
 simp only [nrm]
 apply wpJ_op rfl (by rfl)
 ·intro fl w1 hf hJ Q1 hQ
  have hS:fl 14=false:=path_no hJ.1 [13,8] (by kernel_rfl) (by decide) hf.1
  have hF:=KJ.pre2 (F:=(fun u=> u.cell? ⟨fdb,2,none⟩=some (.map (some mb))∧(Instr.lookup 152 (.map (some mb)) (.int .i64 pid) false).run Tryz.prog u= .ok (.pointer (some ⟨b,0,none⟩)) u∧u.cell? ⟨g,0,none⟩=some (.int .i64 d1)∧u.cell? ⟨g,1,none⟩=some (.int .i64 d2))) hJ hS HQ.out.1 HQ.out.2.1
  have k2:=hF.2.2.1
  simp only [nrm] at hQ
  go_wp2_with (fail)
  exact hQ _ _ rfl (hJ.other rfl hf (by decide) (by decide) (by decide))
 iterate 2
  simp only [nrm]
  apply wpJ_op rfl (by rfl)
  ·intro fl w1 hf hJ Q1 hQ
   simp only [nrm] at hQ
   go_wp2_with (fail)
   exact hQ _ _ rfl (hJ.other rfl hf (by decide) (by decide) (by decide))
 simp only [nrm]
 apply wpJ_op rfl (by rfl)
 ·intro fl w1 hf hJ Q1 hQ
  have hS:fl 14=false:=path_no hJ.1 [11] (by kernel_rfl) (by decide) hf.1
  rw [hJ.atA hf.1 hS hS]
  simp only [nrm] at hQ
  go_wp2_with (fail)
  exact hQ _ _ rfl (hJ.goA rfl hf hS hS (by decide) (by decide))
 iterate 2
  simp only [nrm]
  apply wpJ_op rfl (by rfl)
  ·intro fl w1 hf hJ Q1 hQ
   simp only [nrm] at hQ
   go_wp2_with (fail)
   exact hQ _ _ rfl (hJ.other rfl hf (by decide) (by decide) (by decide))
 simp only [nrm]
 apply wpJ_op (v:=undef) rfl (by rfl)
 ·intro fl w1 hf hJ Q1 hQ
  have hA:fl 11=true:=up_dep hf 11 (by kernel_rfl)
  rw [hJ.atC hA hf.1 hf.1]
  have k3:=HQ.out.2.2.1
  have k4:=HQ.out.2.2.2.1
  simp only [nrm] at hQ
  go_wp2_with (fail)
  exact hQ _ _ rfl (hJ.goS rfl hf)
 simp only [nrm]
 refine wpJ_nil ?_
 intro w9 hJ9
 rw [hJ9.fin rfl]
 clear hJ9
 obtain ⟨-,hU7,O7,hE7,hO7⟩:=HQ.out.2.2.2.2
 have hg7:((w2.alloc (.cells #[.bool true,.bool false,.int .i64 id,.int .i64 0,.bool false,.int .i64 1] 173)).drew.setCell ⟨b,d1,none⟩ (.pointer (some ⟨w2.heap.size,0,none⟩))).cell? ⟨g,0,none⟩=some (.int .i64 d1)∧((w2.alloc (.cells #[.bool true,.bool false,.int .i64 id,.int .i64 0,.bool false,.int .i64 1] 173)).drew.setCell ⟨b,d1,none⟩ (.pointer (some ⟨w2.heap.size,0,none⟩))).cell? ⟨g,1,none⟩=some (.int .i64 d2):=
  ⟨cell_upd ((Upd.refl (fun k=> k=b) _).setCell (p:=⟨b,d1,none⟩) (fun _=> rfl) _) HQ.out.2.1.2.2.1 HC.out.2.2.1,cell_upd ((Upd.refl (fun k=> k=b) _).setCell (p:=⟨b,d1,none⟩) (fun _=> rfl) _) HQ.out.2.1.2.2.2 HC.out.2.2.1⟩
 have z7:w2.heap.size < ((w2.alloc (.cells #[.bool true,.bool false,.int .i64 id,.int .i64 0,.bool false,.int .i64 1] 173)).drew.setCell ⟨b,d1,none⟩ (.pointer (some ⟨w2.heap.size,0,none⟩))).heap.size:=by simp
 generalize hx0:w2.heap.size=x at*
 generalize ((w2.alloc (.cells #[.bool true,.bool false,.int .i64 id,.int .i64 0,.bool false,.int .i64 1] 173)).drew.setCell ⟨b,d1,none⟩ (.pointer (some ⟨x,0,none⟩)))=W7 at hU7 hE7 hg7 z7 ⊢
 have HX:=Lib.hid (And.intro hU7 (And.intro hO7 z7))
 have hb7:(S.put b d1 x ⟨true,false,id,0,false,1⟩).pr pid=some b:=HE.out.2.1
 have zg7:g < W7.heap.size:=World.block_lt_of_cell? _ _ hg7.1
 have hal:Below W7.heap.size W7 (W7.alloc (.cells #[.bool true,.bool true,.int .i64 id,.int .i64 0,.bool false,.int .i64 1] 173)).drew:=((Below.refl _ _).alloc (Nat.le_refl _) _).trans ((dn _ 1).mono (by simp))
 obtain ⟨s1,s2,s3⟩:=ex_put hE7 pid b hb7 d2 hd2 ⟨true,true,id,0,false,1⟩ hal ((Blk.new W7 _ _).drew) (.tuple #[.int .i64 (16*d1+d2),.int .i64 0])
 have hlW:=(hE7.fd.below (dn W7 1)).look pid HE.out.2.2
 have hlA:=(hE7.fd.below hal).look pid HE.out.2.2
 rw [hb7] at hlW hlA
 have hFW:(fun u=> u.cell? ⟨fdb,2,none⟩=some (.map (some mb))∧(Instr.lookup 152 (.map (some mb)) (.int .i64 pid) false).run Tryz.prog u= .ok (.pointer (some ⟨b,0,none⟩)) u∧u.cell? ⟨g,0,none⟩=some (.int .i64 d1)∧u.cell? ⟨g,1,none⟩=some (.int .i64 d2)) W7.drew:=⟨hE7.fd.f.rd 2,hlW,hg7.1,hg7.2⟩
 have hFA:(fun u=> u.cell? ⟨fdb,2,none⟩=some (.map (some mb))∧(Instr.lookup 152 (.map (some mb)) (.int .i64 pid) false).run Tryz.prog u= .ok (.pointer (some ⟨b,0,none⟩)) u∧u.cell? ⟨g,0,none⟩=some (.int .i64 d1)∧u.cell? ⟨g,1,none⟩=some (.int .i64 d2)) (W7.alloc (.cells #[.bool true,.bool true,.int .i64 id,.int .i64 0,.bool false,.int .i64 1] 173)).drew:=⟨(hE7.fd.below hal).f.rd 2,hlA,(hal.cell (p:=⟨g,0,none⟩) zg7).trans hg7.1,(hal.cell (p:=⟨g,1,none⟩) zg7).trans hg7.2⟩
 obtain ⟨sl2,hsl2⟩:∃v,(W7.alloc (.cells #[.bool true,.bool true,.int .i64 id,.int .i64 0,.bool false,.int .i64 1] 173)).drew.cell? ⟨b,d2,none⟩=some v:=⟨_,s1⟩
 have HQ' :=HQ
 clear HQ
 have HQ:=Lib.hid (And.intro hFW (And.intro hFA (And.intro hsl2 (And.intro s2 s3))))
 clear HQ' hU7 hE7 hO7 hg7 z7 hb7 zg7 hal s1 s2 s3 hlW hlA hFW hFA hsl2
 go_upto_region 8 with (fail)
 refine region_K 11 14 14 (W7.drew) ((W7.alloc (.cells #[.bool true,.bool true,.int .i64 id,.int .i64 0,.bool false,.int .i64 1] 173)).drew) ((W7.alloc (.cells #[.bool true,.bool true,.int .i64 id,.int .i64 0,.bool false,.int .i64 1] 173)).drew.setCell ⟨b,d2,none⟩ (.pointer (some ⟨W7.heap.size,0,none⟩))) ((W7.alloc (.cells #[.bool true,.bool true,.int .i64 id,.int .i64 0,.bool false,.int .i64 1] 173)).drew.setCell ⟨b,d2,none⟩ (.pointer (some ⟨W7.heap.size,0,none⟩))) rfl (by kernel_rfl) (by kernel_rfl) ?_
 iterate 3
  apply wpJ_op rfl (by rfl)
  ·intro fl w1 hf hJ Q1 hQ
   simp only [nrm] at hQ
   go_wp2_with (fail)
   exact hQ _ _ rfl (hJ.other rfl hf (by decide) (by decide) (by decide))
  simp only [nrm]
 apply wpJ_op rfl (by rfl)
 ·intro fl w1 hf hJ Q1 hQ
  have hS:fl 14=false:=path_no hJ.1 [13,12,5,3] (by kernel_rfl) (by decide) hf.1
  have hF:=KJ.pre2 (F:=(fun u=> u.cell? ⟨fdb,2,none⟩=some (.map (some mb))∧(Instr.lookup 152 (.map (some mb)) (.int .i64 pid) false).run Tryz.prog u= .ok (.pointer (some ⟨b,0,none⟩)) u∧u.cell? ⟨g,0,none⟩=some (.int .i64 d1)∧u.cell? ⟨g,1,none⟩=some (.int .i64 d2))) hJ hS HQ.out.1 HQ.out.2.1
  have k0:=hF.1
  simp only [nrm] at hQ
  go_wp2_with (fail)
  exact hQ _ _ rfl (hJ.other rfl hf (by decide) (by decide) (by decide))
 simp only [nrm]
 apply wpJ_op rfl (by rfl)
 ·intro fl w1 hf hJ Q1 hQ
  simp only [nrm] at hQ
  go_wp2_with (fail)
  exact hQ _ _ rfl (hJ.other rfl hf (by decide) (by decide) (by decide))
 simp only [nrm]
 apply wpJ_op rfl (by rfl)
 ·intro fl w1 hf hJ Q1 hQ
  have hS:fl 14=false:=path_no hJ.1 [13,12,5] (by kernel_rfl) (by decide) hf.1
  have hF:=KJ.pre2 (F:=(fun u=> u.cell? ⟨fdb,2,none⟩=some (.map (some mb))∧(Instr.lookup 152 (.map (some mb)) (.int .i64 pid) false).run Tryz.prog u= .ok (.pointer (some ⟨b,0,none⟩)) u∧u.cell? ⟨g,0,none⟩=some (.int .i64 d1)∧u.cell? ⟨g,1,none⟩=some (.int .i64 d2))) hJ hS HQ.out.1 HQ.out.2.1
  have k1:=hF.2.1
  simp only [nrm] at hQ
  go_wp2_with (fail)
  exact hQ _ _ rfl (hJ.other rfl hf (by decide) (by decide) (by decide))
 iterate 2
  simp only [nrm]
  apply wpJ_op rfl (by rfl)
  ·intro fl w1 hf hJ Q1 hQ
   simp only [nrm] at hQ
   go_wp2_with (fail)
   exact hQ _ _ rfl (hJ.other rfl hf (by decide) (by decide) (by decide))
 simp only [nrm]
 apply wpJ_op rfl (by rfl)
 ·intro fl w1 hf hJ Q1 hQ
  have hS:fl 14=false:=path_no hJ.1 [13,8] (by kernel_rfl) (by decide) hf.1
  have hF:=KJ.pre2 (F:=(fun u=> u.cell? ⟨fdb,2,none⟩=some (.map (some mb))∧(Instr.lookup 152 (.map (some mb)) (.int .i64 pid) false).run Tryz.prog u= .ok (.pointer (some ⟨b,0,none⟩)) u∧u.cell? ⟨g,0,none⟩=some (.int .i64 d1)∧u.cell? ⟨g,1,none⟩=some (.int .i64 d2))) hJ hS HQ.out.1 HQ.out.2.1
  have k2:=hF.2.2.2
  simp only [nrm] at hQ
  go_wp2_with (fail)
  exact hQ _ _ rfl (hJ.other rfl hf (by decide) (by decide) (by decide))
 iterate 2
  simp only [nrm]
  apply wpJ_op rfl (by rfl)
  ·intro fl w1 hf hJ Q1 hQ
   simp only [nrm] at hQ
   go_wp2_with (fail)
   exact hQ _ _ rfl (hJ.other rfl hf (by decide) (by decide) (by decide))
 simp only [nrm]
 apply wpJ_op rfl (by rfl)
 ·intro fl w1 hf hJ Q1 hQ
  have hS:fl 14=false:=path_no hJ.1 [11] (by kernel_rfl) (by decide) hf.1
  rw [hJ.atA hf.1 hS hS]
  simp only [nrm] at hQ
  go_wp2_with (fail)
  exact hQ _ _ rfl (hJ.goA rfl hf hS hS (by decide) (by decide))
 iterate 2
  simp only [nrm]
  apply wpJ_op rfl (by rfl)
  ·intro fl w1 hf hJ Q1 hQ
   simp only [nrm] at hQ
   go_wp2_with (fail)
   exact hQ _ _ rfl (hJ.other rfl hf (by decide) (by decide) (by decide))
 simp only [nrm]
 apply wpJ_op (v:=undef) rfl (by rfl)
 ·intro fl w1 hf hJ Q1 hQ
  have hA:fl 11=true:=up_dep hf 11 (by kernel_rfl)
  rw [hJ.atC hA hf.1 hf.1]
  have k3:=HQ.out.2.2.1
  have k4:=HQ.out.2.2.2.1
  simp only [nrm] at hQ
  go_wp2_with (fail)
  exact hQ _ _ rfl (hJ.goS rfl hf)
 simp only [nrm]
 refine wpJ_nil ?_
 intro w9 hJ9
 rw [hJ9.fin rfl]
 clear hJ9
 have hg8:((W7.alloc (.cells #[.bool true,.bool true,.int .i64 id,.int .i64 0,.bool false,.int .i64 1] 173)).drew.setCell ⟨b,d2,none⟩ (.pointer (some ⟨W7.heap.size,0,none⟩))).cell? ⟨g,0,none⟩=some (.int .i64 d1)∧((W7.alloc (.cells #[.bool true,.bool true,.int .i64 id,.int .i64 0,.bool false,.int .i64 1] 173)).drew.setCell ⟨b,d2,none⟩ (.pointer (some ⟨W7.heap.size,0,none⟩))).cell? ⟨g,1,none⟩=some (.int .i64 d2):=
  ⟨cell_upd ((Upd.refl (fun k=> k=b) _).setCell (p:=⟨b,d2,none⟩) (fun _=> rfl) _) HQ.out.2.1.2.2.1 HC.out.2.2.1,cell_upd ((Upd.refl (fun k=> k=b) _).setCell (p:=⟨b,d2,none⟩) (fun _=> rfl) _) HQ.out.2.1.2.2.2 HC.out.2.2.1⟩
 have k6:=HQ.out.2.2.2.2
 generalize hy0:W7.heap.size=y at*
 generalize ((W7.alloc (.cells #[.bool true,.bool true,.int .i64 id,.int .i64 0,.bool false,.int .i64 1] 173)).drew.setCell ⟨b,d2,none⟩ (.pointer (some ⟨y,0,none⟩)))=W8 at k6 hg8 ⊢
 have H6:=Lib.hid k6
 clear k6
 have cg0:=hg8.1
 have cg1:=hg8.2
 clear hg8
 go_wp2_with (fail)
 go_quiet (fail)
 go_wp2_with (fail)
 go_ret2
 obtain ⟨hU2,hO2,-,-,hB1⟩:=HC.out
 obtain ⟨hU7,hO7,z7⟩:=HX.out
 obtain ⟨-,u8,O8,hE8,hO8⟩:=H6.out
 have z1:=hB1.size
 have z2:=hU2.size
 have z3:=hU7.size
 have hA:Upd O w w2:=(Upd.of_below hB1).trans hU2 (fun _ _ h=> h)
 have hAO:∀k,O2 k→O k∨w.heap.size≤k:=fun k hk=> (hO2 k hk).imp (fun h=> h) (fun e=> by omega)
 have hB:Upd O w W7:=hA.trans hU7 (fun k hk h2=> (hAO k h2).elim (fun h=> h) (fun e=> by omega))
 have hBO:∀k,O7 k→O k∨w.heap.size≤k:=fun k hk=> (hO7 k hk).elim (hAO k) (fun e=> .inr (by omega))
 exact ⟨x,y,by omega,by omega,by omega,EP.seq hB hBO ⟨rfl,u8.trans (Upd.of_below (F:=O7) (dn _ _)) (fun _ _ h=> h),O8,hE8.below (dn _ _),fun k hk=> (hO8 k hk).imp (fun h=> h) (fun e=> by omega)⟩⟩
end
end Go.Proofs.YtjpjafajploiaaaGreatDoor
