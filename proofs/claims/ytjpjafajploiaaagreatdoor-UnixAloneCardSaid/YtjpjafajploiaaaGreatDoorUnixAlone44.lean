/-
  Do, call by call: those that are two calls and a store.
-/
import Derived.Test.YtjpjafajploiaaaGreatDoorUnixAlone43
set_option linter.unusedSimpArgs false
set_option linter.unusedVariables false
namespace Go.Proofs.YtjpjafajploiaaaGreatDoor
open Go.RowKit Own RegJ Two
open Go.Lib hiding intOf
def plR (v e:Int):Int×Int:=if e=0 then (0,v) else (e,0)
def UQ (cap:Nat) (w0:World) (O:Nat→Prop) (fdb vb tb fb sb pb mb c:Nat) (z:Z) (syb qb qm:Nat) (m:PrM) (W9:World) (rb:Nat) (cs:Array Value) (w8:World):Prop:=
 (Upd (fun k=> O k∨k=qm∨k=rb) W9 w8∧∃O8,UZ cap w0 O8 fdb vb tb fb sb pb mb c z syb qb qm m w8∧∀k,O8 k→O k∨W9.heap.size≤k)∧Blk w8 rb cs 32
section
variable {cap:Nat} {w0 w w1 w2 w' W9 w8:World} {O O' O1:Nat→Prop} {fdb vb tb fb sb pb mb c c' :Nat} {z z' :Z} {syb qb qm n s rb:Nat} {m m' :PrM} {cs zs:Array Value}
theorem UQ.up (h:UQ cap w0 O fdb vb tb fb sb pb mb c z syb qb qm m W9 rb cs w8) (hc:c≤c'):UQ cap w0 O fdb vb tb fb sb pb mb c' z syb qb qm m W9 rb cs w8:=by
 obtain ⟨⟨hU,O8,hX,hO⟩,hk⟩:=h
 exact ⟨⟨hU,O8,hX.up hc,hO⟩,hk⟩
theorem UQ.zp {v:Value} {e:Ending} (h:UZ cap w0 O fdb vb tb fb sb pb mb c z syb qb qm m W9) (hk:Blk W9 rb zs 32) (hr:¬O rb) (hq:ZP cap w0 O fdb vb tb fb sb pb mb c' z' W9 v e w8) (hc:c≤c'):e= .returned v∧UQ cap w0 O fdb vb tb fb sb pb mb c' z' syb qb qm m W9 rb zs w8:=by
 obtain ⟨rfl,hU,O8,hX,hO⟩:=hq
 exact ⟨rfl,⟨hU.mono (fun k _ h=> .inl h),O8,h.step hU hX hO hc,hO⟩,Blk.upd hU hk hr⟩
theorem UQ.below (h:UQ cap w0 O fdb vb tb fb sb pb mb c z syb qb qm m W9 rb cs w1) (hB:Below w1.heap.size w1 w2):UQ cap w0 O fdb vb tb fb sb pb mb c z syb qb qm m W9 rb cs w2:=by
 obtain ⟨⟨hU,O8,hX,hO⟩,hk⟩:=h
 exact ⟨⟨hU.trans (Upd.of_below (F:=fun k=> O k∨k=qm∨k=rb) hB) (fun _ _ h=> h),O8,hX.below hB,hO⟩,Blk.below hB hk hk.lt⟩
theorem UQ.store (h:UQ cap w0 O fdb vb tb fb sb pb mb c z syb qb qm m W9 rb zs w1) (h0:w0.heap.size≤rb) (hr:¬O rb) (hlt:rb < W9.heap.size) (hv:rb≠vb∧rb≠syb∧rb≠qb∧rb≠qm) (cs:Array Value):UQ cap w0 O fdb vb tb fb sb pb mb c z syb qb qm m W9 rb cs (w1.setRow rb cs):=by
 obtain ⟨⟨hU,O8,hX,hO⟩,hk⟩:=h
 refine ⟨⟨hU.trans (upd_row _ _ _) (fun k _ e=> .inr (.inr e)),O8,hX.beside (upd_row _ _ _) (fun k e=> ?_),hO⟩,blk_row hk _⟩
 subst e
 exact ⟨h0,fun hk=> (hO _ hk).elim hr (fun h=> by omega),hv⟩
theorem UQ.fin {v:Value} (h:UQ cap w0 O fdb vb tb fb sb pb mb c z syb qb qm m W9 rb cs w1) (hB:Below w.heap.size w W9) (hr:w.heap.size≤rb):UZP cap w0 O fdb vb tb fb sb pb mb c z syb qb qm m w v (.returned v) w1:=by
 obtain ⟨⟨hU,O8,hX,hO⟩,hk⟩:=h
 have hz:=hB.size
 refine ⟨rfl,(Upd.of_below hB).trans hU (fun k hk h=> ?_),O8,hX,fun k hk=> (hO k hk).imp id (fun h=> by omega)⟩
 rcases h with h | h | h
 ·exact .inl h
 ·exact .inr h
 ·omega
theorem zz_close8 (h:EZ cap w0 O fdb vb tb fb sb pb mb c z w) (hc:c≤9000) (hmc:0 < w0.heap.size) (pid:Int) (hw:(Lit.int .i64 pid).wf=true) (d r:Int) (hr:closeZ z pid d=(r,z')):
  Calls Tryz.prog 43 #[.pointer (some ⟨fdb,0,none⟩),.int .i64 pid,.int .i64 d] w (ZP cap w0 O fdb vb tb fb sb pb mb (c+8) z' w (.int .i64 r)):=(zz_close h hc hmc pid hw d r hr).mono (fun e w' hq=> hq.up (by omega))
theorem zz_seek2 {off:Int} (h:EZ cap w0 O fdb vb tb fb sb pb mb c z w) (hoff:off≤9223372036854775807) (pid:Int) (hw:(Lit.int .i64 pid).wf=true) (d:Int) (off' :Int) (r:Int) (hr:seekZ z pid d off=(r,z')):
  Calls Tryz.prog 46 #[.pointer (some ⟨fdb,0,none⟩),.int .i64 pid,.int .i64 d,.int .i64 off] w (ZP cap w0 O fdb vb tb fb sb pb mb (c+8) z' w (.int .i64 r)):=zz_seek h pid hw d off r hoff hr
theorem zz_open2 (h:EZ cap w0 O fdb vb tb fb sb pb mb c z w) (hc:c≤9000) (pid:Int) (hw:(Lit.int .i64 pid).wf=true) (l:Txt) (n:Int) (s:ByteArray) (hs:s=B l) (hll:l.length≤100000) (r1 r2:Int) (hr:openZ z pid l n=(r1,r2,z')):
  Calls Tryz.prog 42 #[.pointer (some ⟨fdb,0,none⟩),.int .i64 pid,.string s,.int .i64 n] w (ZP cap w0 O fdb vb tb fb sb pb mb (c+8) z' w (.tuple #[.int .i64 r1,.int .i64 r2])):=zz_open h hc pid hw l hll n s hs r1 r2 hr
theorem UZ.call (h:UZ cap w0 O fdb vb tb fb sb pb mb c z syb qb qm m w) (cs zs:Array Value) (T T' :TypeId):Below w.heap.size w ((w.alloc (.cells cs T)).alloc (.cells zs T'))∧UZ cap w0 O fdb vb tb fb sb pb mb c z syb qb qm m ((w.alloc (.cells cs T)).alloc (.cells zs T'))∧Blk ((w.alloc (.cells cs T)).alloc (.cells zs T')) w.heap.size cs T∧Blk ((w.alloc (.cells cs T)).alloc (.cells zs T')) (w.heap.size+1) zs T' :=by
 have hal:Below w.heap.size w ((w.alloc (.cells cs T)).alloc (.cells zs T')):=((Below.refl _ _).alloc (Nat.le_refl _) _).alloc (by simp) _
 exact ⟨hal,h.below hal,(Blk.new w _ _).alloc _,Blk.new' (by simp)⟩
set_option maxRecDepth 100000 in
set_option maxHeartbeats 4000000 in
theorem zudo_unlink (h:UZ cap w0 O fdb vb tb fb sb pb mb c z syb qb qm m w) (hc:c≤8900) (pid:Int) (hw:(Lit.int .i64 pid).wf=true) (hd:aliveF m pid=true) (a bq:Int) (s t:ByteArray) (hm:mayB 8 a bq s t=true) (l:Txt) (hl:l.length≤100000) (hs:s=B l) (r1 r2:Int) (hr:plR 0 (atPar z.ns l (fun d nm=> remF z.ns d nm false 12)).1=(r1,r2)):
  Calls Tryz.prog 12 #[.pointer (some ⟨syb,0,none⟩),.int .i64 pid,.agg #[.int .i64 8,.int .i64 a,.int .i64 bq,.string s,.string t]] w (UZP cap w0 O fdb vb tb fb sb pb mb (c+10) {z with ns:=(atPar z.ns l (fun d nm=> remF z.ns d nm false 12)).2} syb qb qm m w (resV r1 r2 ⟨#[]⟩)):=by
 obtain ⟨hal,h2,hcb,hb⟩:=h.call #[.int .i64 8,.int .i64 a,.int .i64 bq,.string s,.string t] #[.int .i64 0,.int .i64 0,.string ⟨#[]⟩] 35 32
 have c3:=h2.sy.rd 3
 have ha:=alive_is h2.pr.b pid hw true hd
 have hma:=fun w1=> may_any 8 a bq s t w1
 simp only [hm] at hma
 have hcall:=fun (W9:World) (hX9:UZ cap w0 O fdb vb tb fb sb pb mb c z syb qb qm m W9)=> zz_unlink hX9.ez (by omega) l hl s hs
 have H:=Lib.hid (And.intro hal (And.intro hcb (And.intro hb (And.intro h hcall))))
 clear h h2 hal hb hcb hw hd hm hc hcall hl hs
 go_enter Tryz.func12,Tryz.ntmps12
 go_upto_region 23 with (first
  | (go_at_call 22;refine ha.mono ?_;rintro e w1 ⟨rfl,hB⟩;have q1:=(Blk.below hB H.out.2.1 H.out.2.1.lt).rd;have H1:=Lib.hid (And.intro (H.out.1.trans (hB.mono H.out.1.size)) (And.intro (Blk.below hB H.out.2.1 H.out.2.1.lt) (Blk.below hB H.out.2.2.1 H.out.2.2.1.lt)));clear hB ha)
  | (go_at_call 40;refine (hma _).mono ?_;rintro e w2 ⟨rfl,hB⟩;have q2:=(Blk.below hB H1.out.2.1 H1.out.2.1.lt).rd;have H2:=Lib.hid (And.intro (H1.out.1.trans (hB.mono H1.out.1.size)) (And.intro (Blk.below hB H1.out.2.1 H1.out.2.1.lt) (Blk.below hB H1.out.2.2 H1.out.2.2.lt)));clear hB hma q1))
 obtain ⟨-,-,-,hX,hcall⟩:=H.out
 obtain ⟨hB2,hcb2,hrb2⟩:=H2.out
 obtain ⟨W9,hW9⟩:∃W9,w2.drew=W9:=⟨_,rfl⟩
 have hd9:=below_dr w2
 rw [hW9] at hd9
 have h9:=hB2.trans (hd9.mono hB2.size)
 have hX9:=hX.below h9
 obtain ⟨k0,k1,k2,k3,k4,k5⟩:=hX.news
 have hrb9:=Blk.below hd9 hrb2 hrb2.lt
 have hrO:¬O (w.heap.size+1):=fun hk=> by have:=k1 _ hk;omega
 have hmk:=(hcall W9 hX9).mono (fun e w8 hq=> UQ.zp hX9 hrb9 hrO hq (by omega))
 have hst:=fun w1 (h:UQ cap w0 O fdb vb tb fb sb pb mb (c+8) {z with ns:=(atPar z.ns l (fun d nm=> remF z.ns d nm false 12)).2} syb qb qm m W9 (w.heap.size+1) #[.int .i64 0,.int .i64 0,.string ⟨#[]⟩] w1)=> h.store (by omega) hrO hrb9.lt ⟨by omega,by omega,by omega,by omega⟩ #[.int .i64 r1,.int .i64 r2,.string ⟨#[]⟩]
 have HM:=Lib.hid (And.intro hmk (And.intro hst (And.intro h9 (And.intro hW9 (And.intro hX9.sy (Blk.below hd9 hcb2 hcb2.lt))))))
 obtain ⟨RQ,hRQ⟩:∃RQ,RQ=UQ cap w0 O fdb vb tb fb sb pb mb (c+8) {z with ns:=(atPar z.ns l (fun d nm=> remF z.ns d nm false 12)).2} syb qb qm m W9 (w.heap.size+1) #[.int .i64 0,.int .i64 0,.string ⟨#[]⟩]:=⟨_,rfl⟩
 obtain ⟨RF,hRF⟩:∃RF,RF=UQ cap w0 O fdb vb tb fb sb pb mb (c+8) {z with ns:=(atPar z.ns l (fun d nm=> remF z.ns d nm false 12)).2} syb qb qm m W9 (w.heap.size+1) #[.int .i64 r1,.int .i64 r2,.string ⟨#[]⟩]:=⟨_,rfl⟩
 have hpl:∀w1 w8,RQ w1→Below w1.heap.size w1 w8→RQ w8:=by rw [hRQ];exact fun w1 w8 h hB=> h.below hB
 have hcl:Calls Tryz.prog 49 #[.pointer (some ⟨vb,0,none⟩),.string s] W9 fun e w8=> e= .returned (.int .i64 (atPar z.ns l (fun d nm=> remF z.ns d nm false 12)).1)∧RQ w8:=by rw [hRQ];exact hmk
 have hrw:∀w1,RQ w1→Blk w1 (w.heap.size+1) #[.int .i64 0,.int .i64 0,.string ⟨#[]⟩] 32:=by rw [hRQ];exact fun w1 h=> h.2
 have hsf:∀w1,RQ w1→RF (w1.setRow (w.heap.size+1) #[.int .i64 r1,.int .i64 r2,.string ⟨#[]⟩]):=by rw [hRQ,hRF];exact hst
 have HR:=Lib.hid (And.intro hcl (And.intro hpl (And.intro hrw hsf)))
 have HF:=Lib.hid hRF
 clear hX hcall hB2 hcb2 hrb2 hd9 h9 hX9 k0 k1 k2 k3 k4 k5 hrb9 hrO hmk hst hpl hcl hrw hsf hRQ hRF q2
 refine region_U 6 7 8 W9 RQ RQ RF hW9 (by kernel_rfl) (by kernel_rfl) ?_
 iterate 3
  apply wpJ_op rfl (by rfl)
  ·intro f w1 hf hJ Q1 hQ
   simp only [nrm] at hQ
   go_wp2_with (fail)
   exact hQ _ _ rfl (hJ.other rfl hf (by decide) (by decide) (by decide))
  simp only [nrm]
 apply wpJ_op rfl (by rfl)
 ·intro f w1 hf hJ Q1 hQ
  have hA:f 6=false:=path_no hJ.1 [3] (by kernel_rfl) (by decide) hf.1
  have hB:f 7=false:=path_no hJ.1 [6] (by kernel_rfl) (by decide) hA
  have hS:f 8=false:=path_no hJ.1 [7] (by kernel_rfl) (by decide) hB
  rw [hJ.atA hA hB hS]
  have c3:=HM.out.2.2.2.2.1.rd 1
  simp only [nrm] at hQ
  go_wp2_with (fail)
  exact hQ _ _ rfl (by have h9:=hJ.other rfl hf (by decide) (by decide) (by decide);rwa [hJ.atA hA hB hS] at h9)
 simp only [nrm]
 apply wpJ_op rfl (by rfl)
 ·intro f w1 hf hJ Q1 hQ
  simp only [nrm] at hQ
  go_wp2_with (fail)
  exact hQ _ _ rfl (hJ.other rfl hf (by decide) (by decide) (by decide))
 simp only [nrm]
 apply wpJ_op rfl (by rfl)
 ·intro f w1 hf hJ Q1 hQ
  have hA:f 6=false:=path_no hJ.1 [5] (by kernel_rfl) (by decide) hf.1
  have hB:f 7=false:=path_no hJ.1 [6] (by kernel_rfl) (by decide) hA
  have hS:f 8=false:=path_no hJ.1 [7] (by kernel_rfl) (by decide) hB
  rw [hJ.atA hA hB hS]
  have c5:=HM.out.2.2.2.2.2.rd 3
  simp only [nrm] at hQ
  go_wp2_with (fail)
  exact hQ _ _ rfl (by have h9:=hJ.other rfl hf (by decide) (by decide) (by decide);rwa [hJ.atA hA hB hS] at h9)
 simp only [nrm]
 apply wpJ_op rfl (by rfl)
 ·intro f w1 hf hJ Q1 hQ
  have hB:f 7=false:=path_no hJ.1 [6] (by kernel_rfl) (by decide) hf.1
  have hS:f 8=false:=path_no hJ.1 [7] (by kernel_rfl) (by decide) hB
  rw [hJ.atA hf.1 hB hS]
  simp only [nrm] at hQ
  go_wp2_with (go_at_call 49;refine HR.out.1.mono ?_;rintro e w8 ⟨rfl,hq⟩)
  exact hQ _ _ rfl (hJ.goA rfl hf hB hS (by decide) (by decide) hq)
 simp only [nrm]
 apply wpJ_op rfl (by rfl)
 ·intro f w1 hf hJ Q1 hQ
  have hS:f 8=false:=path_no hJ.1 [7] (by kernel_rfl) (by decide) hf.1
  have hA:f 6=true:=up_dep hf 6 (by kernel_rfl)
  have hR1:=hJ.atB hA hf.1 hS
  simp only [nrm] at hQ
  go_wp2_with (go_at_call 41;refine (plain_is 0 (atPar z.ns l (fun d nm=> remF z.ns d nm false 12)).1 r1 r2 hr w1).mono ?_;rintro e w8 ⟨rfl,hBl⟩;have hq:=HR.out.2.1 _ _ hR1 hBl)
  exact hQ _ _ rfl (hJ.goB rfl hf hS (by decide) hq)
 simp only [nrm]
 apply wpJ_op (v:=undef) rfl (by rfl)
 ·intro f w1 hf hJ Q1 hQ
  have hB:f 7=true:=up_dep hf 7 (by kernel_rfl)
  have hR1:=hJ.atS hB hf.1
  simp only [nrm] at hQ
  go_wp2_with (refine wpList_store_row rfl 32 (.tmp 6) (.tmp 122) rfl (w.heap.size+1) #[.int .i64 r1,.int .i64 r2,.string ⟨#[]⟩] rfl rfl 32 #[.int .i64 0,.int .i64 0,.string ⟨#[]⟩] (HR.out.2.2.1 _ hR1) info_res rfl (by simp [Value.oneCell']) ?_)
  exact hQ _ _ rfl (hJ.goS rfl hf (HR.out.2.2.2 _ hR1))
 simp only [nrm]
 refine wpJ_nil ?_
 intro w9 hJ9
 have hq9:=hJ9.fin rfl
 clear hJ9
 have hRF:=HF.out
 rw [hRF] at hq9
 go_wp2_with (fail)
 exact bodyPost_ret (v:=resV r1 r2 ⟨#[]⟩) (results_cellU (fn:=Tryz.f12) Tryz.results12 _ _ (w.heap.size+1) 32 #[.int .i64 r1,.int .i64 r2,.string ⟨#[]⟩] _ rfl hq9.2 Tryz.underlying32 rfl info_res) rfl ((hq9.up (show c+8≤c+10 by omega)).fin HM.out.2.2.1 (by omega))
set_option maxRecDepth 100000 in
set_option maxHeartbeats 4000000 in
theorem zudo_mkdir (h:UZ cap w0 O fdb vb tb fb sb pb mb c z syb qb qm m w) (hc:c≤8900) (pid:Int) (hw:(Lit.int .i64 pid).wf=true) (hd:aliveF m pid=true) (a bq:Int) (s t:ByteArray) (hm:mayB 9 a bq s t=true) (l:Txt) (hl:l.length≤100000) (hs:s=B l) (r1 r2:Int) (hr:plR 0 (atPar z.ns l (mkdirF z.ns)).1=(r1,r2)):
  Calls Tryz.prog 12 #[.pointer (some ⟨syb,0,none⟩),.int .i64 pid,.agg #[.int .i64 9,.int .i64 a,.int .i64 bq,.string s,.string t]] w (UZP cap w0 O fdb vb tb fb sb pb mb (c+10) {z with ns:=(atPar z.ns l (mkdirF z.ns)).2} syb qb qm m w (resV r1 r2 ⟨#[]⟩)):=by
 obtain ⟨hal,h2,hcb,hb⟩:=h.call #[.int .i64 9,.int .i64 a,.int .i64 bq,.string s,.string t] #[.int .i64 0,.int .i64 0,.string ⟨#[]⟩] 35 32
 have c3:=h2.sy.rd 3
 have ha:=alive_is h2.pr.b pid hw true hd
 have hma:=fun w1=> may_any 9 a bq s t w1
 simp only [hm] at hma
 have hcall:=fun (W9:World) (hX9:UZ cap w0 O fdb vb tb fb sb pb mb c z syb qb qm m W9)=> zz_mkdir hX9.ez (by omega) l hl s hs
 have H:=Lib.hid (And.intro hal (And.intro hcb (And.intro hb (And.intro h hcall))))
 clear h h2 hal hb hcb hw hd hm hc hcall hl hs
 go_enter Tryz.func12,Tryz.ntmps12
 go_upto_region 25 with (first
  | (go_at_call 22;refine ha.mono ?_;rintro e w1 ⟨rfl,hB⟩;have q1:=(Blk.below hB H.out.2.1 H.out.2.1.lt).rd;have H1:=Lib.hid (And.intro (H.out.1.trans (hB.mono H.out.1.size)) (And.intro (Blk.below hB H.out.2.1 H.out.2.1.lt) (Blk.below hB H.out.2.2.1 H.out.2.2.1.lt)));clear hB ha)
  | (go_at_call 40;refine (hma _).mono ?_;rintro e w2 ⟨rfl,hB⟩;have q2:=(Blk.below hB H1.out.2.1 H1.out.2.1.lt).rd;have H2:=Lib.hid (And.intro (H1.out.1.trans (hB.mono H1.out.1.size)) (And.intro (Blk.below hB H1.out.2.1 H1.out.2.1.lt) (Blk.below hB H1.out.2.2 H1.out.2.2.lt)));clear hB hma q1))
 obtain ⟨-,-,-,hX,hcall⟩:=H.out
 obtain ⟨hB2,hcb2,hrb2⟩:=H2.out
 obtain ⟨W9,hW9⟩:∃W9,w2.drew=W9:=⟨_,rfl⟩
 have hd9:=below_dr w2
 rw [hW9] at hd9
 have h9:=hB2.trans (hd9.mono hB2.size)
 have hX9:=hX.below h9
 obtain ⟨k0,k1,k2,k3,k4,k5⟩:=hX.news
 have hrb9:=Blk.below hd9 hrb2 hrb2.lt
 have hrO:¬O (w.heap.size+1):=fun hk=> by have:=k1 _ hk;omega
 have hmk:=(hcall W9 hX9).mono (fun e w8 hq=> UQ.zp hX9 hrb9 hrO hq (by omega))
 have hst:=fun w1 (h:UQ cap w0 O fdb vb tb fb sb pb mb (c+8) {z with ns:=(atPar z.ns l (mkdirF z.ns)).2} syb qb qm m W9 (w.heap.size+1) #[.int .i64 0,.int .i64 0,.string ⟨#[]⟩] w1)=> h.store (by omega) hrO hrb9.lt ⟨by omega,by omega,by omega,by omega⟩ #[.int .i64 r1,.int .i64 r2,.string ⟨#[]⟩]
 have HM:=Lib.hid (And.intro hmk (And.intro hst (And.intro h9 (And.intro hW9 (And.intro hX9.sy (Blk.below hd9 hcb2 hcb2.lt))))))
 obtain ⟨RQ,hRQ⟩:∃RQ,RQ=UQ cap w0 O fdb vb tb fb sb pb mb (c+8) {z with ns:=(atPar z.ns l (mkdirF z.ns)).2} syb qb qm m W9 (w.heap.size+1) #[.int .i64 0,.int .i64 0,.string ⟨#[]⟩]:=⟨_,rfl⟩
 obtain ⟨RF,hRF⟩:∃RF,RF=UQ cap w0 O fdb vb tb fb sb pb mb (c+8) {z with ns:=(atPar z.ns l (mkdirF z.ns)).2} syb qb qm m W9 (w.heap.size+1) #[.int .i64 r1,.int .i64 r2,.string ⟨#[]⟩]:=⟨_,rfl⟩
 have hpl:∀w1 w8,RQ w1→Below w1.heap.size w1 w8→RQ w8:=by rw [hRQ];exact fun w1 w8 h hB=> h.below hB
 have hcl:Calls Tryz.prog 50 #[.pointer (some ⟨vb,0,none⟩),.string s] W9 fun e w8=> e= .returned (.int .i64 (atPar z.ns l (mkdirF z.ns)).1)∧RQ w8:=by rw [hRQ];exact hmk
 have hrw:∀w1,RQ w1→Blk w1 (w.heap.size+1) #[.int .i64 0,.int .i64 0,.string ⟨#[]⟩] 32:=by rw [hRQ];exact fun w1 h=> h.2
 have hsf:∀w1,RQ w1→RF (w1.setRow (w.heap.size+1) #[.int .i64 r1,.int .i64 r2,.string ⟨#[]⟩]):=by rw [hRQ,hRF];exact hst
 have HR:=Lib.hid (And.intro hcl (And.intro hpl (And.intro hrw hsf)))
 have HF:=Lib.hid hRF
 clear hX hcall hB2 hcb2 hrb2 hd9 h9 hX9 k0 k1 k2 k3 k4 k5 hrb9 hrO hmk hst hpl hcl hrw hsf hRQ hRF q2
 refine region_U 6 7 8 W9 RQ RQ RF hW9 (by kernel_rfl) (by kernel_rfl) ?_
 iterate 3
  apply wpJ_op rfl (by rfl)
  ·intro f w1 hf hJ Q1 hQ
   simp only [nrm] at hQ
   go_wp2_with (fail)
   exact hQ _ _ rfl (hJ.other rfl hf (by decide) (by decide) (by decide))
  simp only [nrm]
 apply wpJ_op rfl (by rfl)
 ·intro f w1 hf hJ Q1 hQ
  have hA:f 6=false:=path_no hJ.1 [3] (by kernel_rfl) (by decide) hf.1
  have hB:f 7=false:=path_no hJ.1 [6] (by kernel_rfl) (by decide) hA
  have hS:f 8=false:=path_no hJ.1 [7] (by kernel_rfl) (by decide) hB
  rw [hJ.atA hA hB hS]
  have c3:=HM.out.2.2.2.2.1.rd 1
  simp only [nrm] at hQ
  go_wp2_with (fail)
  exact hQ _ _ rfl (by have h9:=hJ.other rfl hf (by decide) (by decide) (by decide);rwa [hJ.atA hA hB hS] at h9)
 simp only [nrm]
 apply wpJ_op rfl (by rfl)
 ·intro f w1 hf hJ Q1 hQ
  simp only [nrm] at hQ
  go_wp2_with (fail)
  exact hQ _ _ rfl (hJ.other rfl hf (by decide) (by decide) (by decide))
 simp only [nrm]
 apply wpJ_op rfl (by rfl)
 ·intro f w1 hf hJ Q1 hQ
  have hA:f 6=false:=path_no hJ.1 [5] (by kernel_rfl) (by decide) hf.1
  have hB:f 7=false:=path_no hJ.1 [6] (by kernel_rfl) (by decide) hA
  have hS:f 8=false:=path_no hJ.1 [7] (by kernel_rfl) (by decide) hB
  rw [hJ.atA hA hB hS]
  have c5:=HM.out.2.2.2.2.2.rd 3
  simp only [nrm] at hQ
  go_wp2_with (fail)
  exact hQ _ _ rfl (by have h9:=hJ.other rfl hf (by decide) (by decide) (by decide);rwa [hJ.atA hA hB hS] at h9)
 simp only [nrm]
 apply wpJ_op rfl (by rfl)
 ·intro f w1 hf hJ Q1 hQ
  have hB:f 7=false:=path_no hJ.1 [6] (by kernel_rfl) (by decide) hf.1
  have hS:f 8=false:=path_no hJ.1 [7] (by kernel_rfl) (by decide) hB
  rw [hJ.atA hf.1 hB hS]
  simp only [nrm] at hQ
  go_wp2_with (go_at_call 50;refine HR.out.1.mono ?_;rintro e w8 ⟨rfl,hq⟩)
  exact hQ _ _ rfl (hJ.goA rfl hf hB hS (by decide) (by decide) hq)
 simp only [nrm]
 apply wpJ_op rfl (by rfl)
 ·intro f w1 hf hJ Q1 hQ
  have hS:f 8=false:=path_no hJ.1 [7] (by kernel_rfl) (by decide) hf.1
  have hA:f 6=true:=up_dep hf 6 (by kernel_rfl)
  have hR1:=hJ.atB hA hf.1 hS
  simp only [nrm] at hQ
  go_wp2_with (go_at_call 41;refine (plain_is 0 (atPar z.ns l (mkdirF z.ns)).1 r1 r2 hr w1).mono ?_;rintro e w8 ⟨rfl,hBl⟩;have hq:=HR.out.2.1 _ _ hR1 hBl)
  exact hQ _ _ rfl (hJ.goB rfl hf hS (by decide) hq)
 simp only [nrm]
 apply wpJ_op (v:=undef) rfl (by rfl)
 ·intro f w1 hf hJ Q1 hQ
  have hB:f 7=true:=up_dep hf 7 (by kernel_rfl)
  have hR1:=hJ.atS hB hf.1
  simp only [nrm] at hQ
  go_wp2_with (refine wpList_store_row rfl 32 (.tmp 6) (.tmp 132) rfl (w.heap.size+1) #[.int .i64 r1,.int .i64 r2,.string ⟨#[]⟩] rfl rfl 32 #[.int .i64 0,.int .i64 0,.string ⟨#[]⟩] (HR.out.2.2.1 _ hR1) info_res rfl (by simp [Value.oneCell']) ?_)
  exact hQ _ _ rfl (hJ.goS rfl hf (HR.out.2.2.2 _ hR1))
 simp only [nrm]
 refine wpJ_nil ?_
 intro w9 hJ9
 have hq9:=hJ9.fin rfl
 clear hJ9
 have hRF:=HF.out
 rw [hRF] at hq9
 go_wp2_with (fail)
 exact bodyPost_ret (v:=resV r1 r2 ⟨#[]⟩) (results_cellU (fn:=Tryz.f12) Tryz.results12 _ _ (w.heap.size+1) 32 #[.int .i64 r1,.int .i64 r2,.string ⟨#[]⟩] _ rfl hq9.2 Tryz.underlying32 rfl info_res) rfl ((hq9.up (show c+8≤c+10 by omega)).fin HM.out.2.2.1 (by omega))
set_option maxRecDepth 100000 in
set_option maxHeartbeats 4000000 in
theorem zudo_rmdir (h:UZ cap w0 O fdb vb tb fb sb pb mb c z syb qb qm m w) (hc:c≤8900) (pid:Int) (hw:(Lit.int .i64 pid).wf=true) (hd:aliveF m pid=true) (a bq:Int) (s t:ByteArray) (hm:mayB 10 a bq s t=true) (l:Txt) (hl:l.length≤100000) (hs:s=B l) (r1 r2:Int) (hr:plR 0 (atPar z.ns l (fun d nm=> remF z.ns d nm true 11)).1=(r1,r2)):
  Calls Tryz.prog 12 #[.pointer (some ⟨syb,0,none⟩),.int .i64 pid,.agg #[.int .i64 10,.int .i64 a,.int .i64 bq,.string s,.string t]] w (UZP cap w0 O fdb vb tb fb sb pb mb (c+10) {z with ns:=(atPar z.ns l (fun d nm=> remF z.ns d nm true 11)).2} syb qb qm m w (resV r1 r2 ⟨#[]⟩)):=by
 obtain ⟨hal,h2,hcb,hb⟩:=h.call #[.int .i64 10,.int .i64 a,.int .i64 bq,.string s,.string t] #[.int .i64 0,.int .i64 0,.string ⟨#[]⟩] 35 32
 have c3:=h2.sy.rd 3
 have ha:=alive_is h2.pr.b pid hw true hd
 have hma:=fun w1=> may_any 10 a bq s t w1
 simp only [hm] at hma
 have hcall:=fun (W9:World) (hX9:UZ cap w0 O fdb vb tb fb sb pb mb c z syb qb qm m W9)=> zz_rmdir hX9.ez (by omega) l hl s hs
 have H:=Lib.hid (And.intro hal (And.intro hcb (And.intro hb (And.intro h hcall))))
 clear h h2 hal hb hcb hw hd hm hc hcall hl hs
 go_enter Tryz.func12,Tryz.ntmps12
 go_upto_region 27 with (first
  | (go_at_call 22;refine ha.mono ?_;rintro e w1 ⟨rfl,hB⟩;have q1:=(Blk.below hB H.out.2.1 H.out.2.1.lt).rd;have H1:=Lib.hid (And.intro (H.out.1.trans (hB.mono H.out.1.size)) (And.intro (Blk.below hB H.out.2.1 H.out.2.1.lt) (Blk.below hB H.out.2.2.1 H.out.2.2.1.lt)));clear hB ha)
  | (go_at_call 40;refine (hma _).mono ?_;rintro e w2 ⟨rfl,hB⟩;have q2:=(Blk.below hB H1.out.2.1 H1.out.2.1.lt).rd;have H2:=Lib.hid (And.intro (H1.out.1.trans (hB.mono H1.out.1.size)) (And.intro (Blk.below hB H1.out.2.1 H1.out.2.1.lt) (Blk.below hB H1.out.2.2 H1.out.2.2.lt)));clear hB hma q1))
 obtain ⟨-,-,-,hX,hcall⟩:=H.out
 obtain ⟨hB2,hcb2,hrb2⟩:=H2.out
 obtain ⟨W9,hW9⟩:∃W9,w2.drew=W9:=⟨_,rfl⟩
 have hd9:=below_dr w2
 rw [hW9] at hd9
 have h9:=hB2.trans (hd9.mono hB2.size)
 have hX9:=hX.below h9
 obtain ⟨k0,k1,k2,k3,k4,k5⟩:=hX.news
 have hrb9:=Blk.below hd9 hrb2 hrb2.lt
 have hrO:¬O (w.heap.size+1):=fun hk=> by have:=k1 _ hk;omega
 have hmk:=(hcall W9 hX9).mono (fun e w8 hq=> UQ.zp hX9 hrb9 hrO hq (by omega))
 have hst:=fun w1 (h:UQ cap w0 O fdb vb tb fb sb pb mb (c+8) {z with ns:=(atPar z.ns l (fun d nm=> remF z.ns d nm true 11)).2} syb qb qm m W9 (w.heap.size+1) #[.int .i64 0,.int .i64 0,.string ⟨#[]⟩] w1)=> h.store (by omega) hrO hrb9.lt ⟨by omega,by omega,by omega,by omega⟩ #[.int .i64 r1,.int .i64 r2,.string ⟨#[]⟩]
 have HM:=Lib.hid (And.intro hmk (And.intro hst (And.intro h9 (And.intro hW9 (And.intro hX9.sy (Blk.below hd9 hcb2 hcb2.lt))))))
 obtain ⟨RQ,hRQ⟩:∃RQ,RQ=UQ cap w0 O fdb vb tb fb sb pb mb (c+8) {z with ns:=(atPar z.ns l (fun d nm=> remF z.ns d nm true 11)).2} syb qb qm m W9 (w.heap.size+1) #[.int .i64 0,.int .i64 0,.string ⟨#[]⟩]:=⟨_,rfl⟩
 obtain ⟨RF,hRF⟩:∃RF,RF=UQ cap w0 O fdb vb tb fb sb pb mb (c+8) {z with ns:=(atPar z.ns l (fun d nm=> remF z.ns d nm true 11)).2} syb qb qm m W9 (w.heap.size+1) #[.int .i64 r1,.int .i64 r2,.string ⟨#[]⟩]:=⟨_,rfl⟩
 have hpl:∀w1 w8,RQ w1→Below w1.heap.size w1 w8→RQ w8:=by rw [hRQ];exact fun w1 w8 h hB=> h.below hB
 have hcl:Calls Tryz.prog 51 #[.pointer (some ⟨vb,0,none⟩),.string s] W9 fun e w8=> e= .returned (.int .i64 (atPar z.ns l (fun d nm=> remF z.ns d nm true 11)).1)∧RQ w8:=by rw [hRQ];exact hmk
 have hrw:∀w1,RQ w1→Blk w1 (w.heap.size+1) #[.int .i64 0,.int .i64 0,.string ⟨#[]⟩] 32:=by rw [hRQ];exact fun w1 h=> h.2
 have hsf:∀w1,RQ w1→RF (w1.setRow (w.heap.size+1) #[.int .i64 r1,.int .i64 r2,.string ⟨#[]⟩]):=by rw [hRQ,hRF];exact hst
 have HR:=Lib.hid (And.intro hcl (And.intro hpl (And.intro hrw hsf)))
 have HF:=Lib.hid hRF
 clear hX hcall hB2 hcb2 hrb2 hd9 h9 hX9 k0 k1 k2 k3 k4 k5 hrb9 hrO hmk hst hpl hcl hrw hsf hRQ hRF q2
 refine region_U 6 7 8 W9 RQ RQ RF hW9 (by kernel_rfl) (by kernel_rfl) ?_
 iterate 3
  apply wpJ_op rfl (by rfl)
  ·intro f w1 hf hJ Q1 hQ
   simp only [nrm] at hQ
   go_wp2_with (fail)
   exact hQ _ _ rfl (hJ.other rfl hf (by decide) (by decide) (by decide))
  simp only [nrm]
 apply wpJ_op rfl (by rfl)
 ·intro f w1 hf hJ Q1 hQ
  have hA:f 6=false:=path_no hJ.1 [3] (by kernel_rfl) (by decide) hf.1
  have hB:f 7=false:=path_no hJ.1 [6] (by kernel_rfl) (by decide) hA
  have hS:f 8=false:=path_no hJ.1 [7] (by kernel_rfl) (by decide) hB
  rw [hJ.atA hA hB hS]
  have c3:=HM.out.2.2.2.2.1.rd 1
  simp only [nrm] at hQ
  go_wp2_with (fail)
  exact hQ _ _ rfl (by have h9:=hJ.other rfl hf (by decide) (by decide) (by decide);rwa [hJ.atA hA hB hS] at h9)
 simp only [nrm]
 apply wpJ_op rfl (by rfl)
 ·intro f w1 hf hJ Q1 hQ
  simp only [nrm] at hQ
  go_wp2_with (fail)
  exact hQ _ _ rfl (hJ.other rfl hf (by decide) (by decide) (by decide))
 simp only [nrm]
 apply wpJ_op rfl (by rfl)
 ·intro f w1 hf hJ Q1 hQ
  have hA:f 6=false:=path_no hJ.1 [5] (by kernel_rfl) (by decide) hf.1
  have hB:f 7=false:=path_no hJ.1 [6] (by kernel_rfl) (by decide) hA
  have hS:f 8=false:=path_no hJ.1 [7] (by kernel_rfl) (by decide) hB
  rw [hJ.atA hA hB hS]
  have c5:=HM.out.2.2.2.2.2.rd 3
  simp only [nrm] at hQ
  go_wp2_with (fail)
  exact hQ _ _ rfl (by have h9:=hJ.other rfl hf (by decide) (by decide) (by decide);rwa [hJ.atA hA hB hS] at h9)
 simp only [nrm]
 apply wpJ_op rfl (by rfl)
 ·intro f w1 hf hJ Q1 hQ
  have hB:f 7=false:=path_no hJ.1 [6] (by kernel_rfl) (by decide) hf.1
  have hS:f 8=false:=path_no hJ.1 [7] (by kernel_rfl) (by decide) hB
  rw [hJ.atA hf.1 hB hS]
  simp only [nrm] at hQ
  go_wp2_with (go_at_call 51;refine HR.out.1.mono ?_;rintro e w8 ⟨rfl,hq⟩)
  exact hQ _ _ rfl (hJ.goA rfl hf hB hS (by decide) (by decide) hq)
 simp only [nrm]
 apply wpJ_op rfl (by rfl)
 ·intro f w1 hf hJ Q1 hQ
  have hS:f 8=false:=path_no hJ.1 [7] (by kernel_rfl) (by decide) hf.1
  have hA:f 6=true:=up_dep hf 6 (by kernel_rfl)
  have hR1:=hJ.atB hA hf.1 hS
  simp only [nrm] at hQ
  go_wp2_with (go_at_call 41;refine (plain_is 0 (atPar z.ns l (fun d nm=> remF z.ns d nm true 11)).1 r1 r2 hr w1).mono ?_;rintro e w8 ⟨rfl,hBl⟩;have hq:=HR.out.2.1 _ _ hR1 hBl)
  exact hQ _ _ rfl (hJ.goB rfl hf hS (by decide) hq)
 simp only [nrm]
 apply wpJ_op (v:=undef) rfl (by rfl)
 ·intro f w1 hf hJ Q1 hQ
  have hB:f 7=true:=up_dep hf 7 (by kernel_rfl)
  have hR1:=hJ.atS hB hf.1
  simp only [nrm] at hQ
  go_wp2_with (refine wpList_store_row rfl 32 (.tmp 6) (.tmp 142) rfl (w.heap.size+1) #[.int .i64 r1,.int .i64 r2,.string ⟨#[]⟩] rfl rfl 32 #[.int .i64 0,.int .i64 0,.string ⟨#[]⟩] (HR.out.2.2.1 _ hR1) info_res rfl (by simp [Value.oneCell']) ?_)
  exact hQ _ _ rfl (hJ.goS rfl hf (HR.out.2.2.2 _ hR1))
 simp only [nrm]
 refine wpJ_nil ?_
 intro w9 hJ9
 have hq9:=hJ9.fin rfl
 clear hJ9
 have hRF:=HF.out
 rw [hRF] at hq9
 go_wp2_with (fail)
 exact bodyPost_ret (v:=resV r1 r2 ⟨#[]⟩) (results_cellU (fn:=Tryz.f12) Tryz.results12 _ _ (w.heap.size+1) 32 #[.int .i64 r1,.int .i64 r2,.string ⟨#[]⟩] _ rfl hq9.2 Tryz.underlying32 rfl info_res) rfl ((hq9.up (show c+8≤c+10 by omega)).fin HM.out.2.2.1 (by omega))
set_option maxRecDepth 100000 in
set_option maxHeartbeats 4000000 in
theorem zudo_link (h:UZ cap w0 O fdb vb tb fb sb pb mb c z syb qb qm m w) (hc:c≤8900) (pid:Int) (hw:(Lit.int .i64 pid).wf=true) (hd:aliveF m pid=true) (a bq:Int) (s t:ByteArray) (hm:mayB 7 a bq s t=true) (l l2:Txt) (hl:l.length≤100000) (hl2:l2.length≤100000) (hs:s=B l) (ht:t=B l2) (r1 r2:Int) (hr:plR 0 (linkF z.ns l l2).1=(r1,r2)):
  Calls Tryz.prog 12 #[.pointer (some ⟨syb,0,none⟩),.int .i64 pid,.agg #[.int .i64 7,.int .i64 a,.int .i64 bq,.string s,.string t]] w (UZP cap w0 O fdb vb tb fb sb pb mb (c+10) {z with ns:=(linkF z.ns l l2).2} syb qb qm m w (resV r1 r2 ⟨#[]⟩)):=by
 obtain ⟨hal,h2,hcb,hb⟩:=h.call #[.int .i64 7,.int .i64 a,.int .i64 bq,.string s,.string t] #[.int .i64 0,.int .i64 0,.string ⟨#[]⟩] 35 32
 have c3:=h2.sy.rd 3
 have ha:=alive_is h2.pr.b pid hw true hd
 have hma:=fun w1=> may_any 7 a bq s t w1
 simp only [hm] at hma
 have hcall:=fun (W9:World) (hX9:UZ cap w0 O fdb vb tb fb sb pb mb c z syb qb qm m W9)=> zz_link hX9.ez l l2 hl hl2 s t hs ht
 have H:=Lib.hid (And.intro hal (And.intro hcb (And.intro hb (And.intro h hcall))))
 clear h h2 hal hb hcb hw hd hm hc hcall hl hl2 hs ht
 go_enter Tryz.func12,Tryz.ntmps12
 go_upto_region 21 with (first
  | (go_at_call 22;refine ha.mono ?_;rintro e w1 ⟨rfl,hB⟩;have q1:=(Blk.below hB H.out.2.1 H.out.2.1.lt).rd;have H1:=Lib.hid (And.intro (H.out.1.trans (hB.mono H.out.1.size)) (And.intro (Blk.below hB H.out.2.1 H.out.2.1.lt) (Blk.below hB H.out.2.2.1 H.out.2.2.1.lt)));clear hB ha)
  | (go_at_call 40;refine (hma _).mono ?_;rintro e w2 ⟨rfl,hB⟩;have q2:=(Blk.below hB H1.out.2.1 H1.out.2.1.lt).rd;have H2:=Lib.hid (And.intro (H1.out.1.trans (hB.mono H1.out.1.size)) (And.intro (Blk.below hB H1.out.2.1 H1.out.2.1.lt) (Blk.below hB H1.out.2.2 H1.out.2.2.lt)));clear hB hma q1))
 obtain ⟨-,-,-,hX,hcall⟩:=H.out
 obtain ⟨hB2,hcb2,hrb2⟩:=H2.out
 obtain ⟨W9,hW9⟩:∃W9,w2.drew=W9:=⟨_,rfl⟩
 have hd9:=below_dr w2
 rw [hW9] at hd9
 have h9:=hB2.trans (hd9.mono hB2.size)
 have hX9:=hX.below h9
 obtain ⟨k0,k1,k2,k3,k4,k5⟩:=hX.news
 have hrb9:=Blk.below hd9 hrb2 hrb2.lt
 have hrO:¬O (w.heap.size+1):=fun hk=> by have:=k1 _ hk;omega
 have hmk:=(hcall W9 hX9).mono (fun e w8 hq=> UQ.zp hX9 hrb9 hrO hq (by omega))
 have hst:=fun w1 (h:UQ cap w0 O fdb vb tb fb sb pb mb (c+8) {z with ns:=(linkF z.ns l l2).2} syb qb qm m W9 (w.heap.size+1) #[.int .i64 0,.int .i64 0,.string ⟨#[]⟩] w1)=> h.store (by omega) hrO hrb9.lt ⟨by omega,by omega,by omega,by omega⟩ #[.int .i64 r1,.int .i64 r2,.string ⟨#[]⟩]
 have HM:=Lib.hid (And.intro hmk (And.intro hst (And.intro h9 (And.intro hW9 (And.intro hX9.sy (Blk.below hd9 hcb2 hcb2.lt))))))
 obtain ⟨RQ,hRQ⟩:∃RQ,RQ=UQ cap w0 O fdb vb tb fb sb pb mb (c+8) {z with ns:=(linkF z.ns l l2).2} syb qb qm m W9 (w.heap.size+1) #[.int .i64 0,.int .i64 0,.string ⟨#[]⟩]:=⟨_,rfl⟩
 obtain ⟨RF,hRF⟩:∃RF,RF=UQ cap w0 O fdb vb tb fb sb pb mb (c+8) {z with ns:=(linkF z.ns l l2).2} syb qb qm m W9 (w.heap.size+1) #[.int .i64 r1,.int .i64 r2,.string ⟨#[]⟩]:=⟨_,rfl⟩
 have hpl:∀w1 w8,RQ w1→Below w1.heap.size w1 w8→RQ w8:=by rw [hRQ];exact fun w1 w8 h hB=> h.below hB
 have hcl:Calls Tryz.prog 48 #[.pointer (some ⟨vb,0,none⟩),.string s,.string t] W9 fun e w8=> e= .returned (.int .i64 (linkF z.ns l l2).1)∧RQ w8:=by rw [hRQ];exact hmk
 have hrw:∀w1,RQ w1→Blk w1 (w.heap.size+1) #[.int .i64 0,.int .i64 0,.string ⟨#[]⟩] 32:=by rw [hRQ];exact fun w1 h=> h.2
 have hsf:∀w1,RQ w1→RF (w1.setRow (w.heap.size+1) #[.int .i64 r1,.int .i64 r2,.string ⟨#[]⟩]):=by rw [hRQ,hRF];exact hst
 have HR:=Lib.hid (And.intro hcl (And.intro hpl (And.intro hrw hsf)))
 have HF:=Lib.hid hRF
 clear hX hcall hB2 hcb2 hrb2 hd9 h9 hX9 k0 k1 k2 k3 k4 k5 hrb9 hrO hmk hst hpl hcl hrw hsf hRQ hRF q2
 refine region_U 8 9 10 W9 RQ RQ RF hW9 (by kernel_rfl) (by kernel_rfl) ?_
 iterate 3
  apply wpJ_op rfl (by rfl)
  ·intro f w1 hf hJ Q1 hQ
   simp only [nrm] at hQ
   go_wp2_with (fail)
   exact hQ _ _ rfl (hJ.other rfl hf (by decide) (by decide) (by decide))
  simp only [nrm]
 apply wpJ_op rfl (by rfl)
 ·intro f w1 hf hJ Q1 hQ
  have hA:f 8=false:=path_no hJ.1 [3] (by kernel_rfl) (by decide) hf.1
  have hB:f 9=false:=path_no hJ.1 [8] (by kernel_rfl) (by decide) hA
  have hS:f 10=false:=path_no hJ.1 [9] (by kernel_rfl) (by decide) hB
  rw [hJ.atA hA hB hS]
  have c3:=HM.out.2.2.2.2.1.rd 1
  simp only [nrm] at hQ
  go_wp2_with (fail)
  exact hQ _ _ rfl (by have h9:=hJ.other rfl hf (by decide) (by decide) (by decide);rwa [hJ.atA hA hB hS] at h9)
 simp only [nrm]
 apply wpJ_op rfl (by rfl)
 ·intro f w1 hf hJ Q1 hQ
  simp only [nrm] at hQ
  go_wp2_with (fail)
  exact hQ _ _ rfl (hJ.other rfl hf (by decide) (by decide) (by decide))
 simp only [nrm]
 apply wpJ_op rfl (by rfl)
 ·intro f w1 hf hJ Q1 hQ
  have hA:f 8=false:=path_no hJ.1 [5] (by kernel_rfl) (by decide) hf.1
  have hB:f 9=false:=path_no hJ.1 [8] (by kernel_rfl) (by decide) hA
  have hS:f 10=false:=path_no hJ.1 [9] (by kernel_rfl) (by decide) hB
  rw [hJ.atA hA hB hS]
  have c5:=HM.out.2.2.2.2.2.rd 3
  simp only [nrm] at hQ
  go_wp2_with (fail)
  exact hQ _ _ rfl (by have h9:=hJ.other rfl hf (by decide) (by decide) (by decide);rwa [hJ.atA hA hB hS] at h9)
 simp only [nrm]
 apply wpJ_op rfl (by rfl)
 ·intro f w1 hf hJ Q1 hQ
  simp only [nrm] at hQ
  go_wp2_with (fail)
  exact hQ _ _ rfl (hJ.other rfl hf (by decide) (by decide) (by decide))
 simp only [nrm]
 apply wpJ_op rfl (by rfl)
 ·intro f w1 hf hJ Q1 hQ
  have hA:f 8=false:=path_no hJ.1 [7] (by kernel_rfl) (by decide) hf.1
  have hB:f 9=false:=path_no hJ.1 [8] (by kernel_rfl) (by decide) hA
  have hS:f 10=false:=path_no hJ.1 [9] (by kernel_rfl) (by decide) hB
  rw [hJ.atA hA hB hS]
  have c7:=HM.out.2.2.2.2.2.rd 4
  simp only [nrm] at hQ
  go_wp2_with (fail)
  exact hQ _ _ rfl (by have h9:=hJ.other rfl hf (by decide) (by decide) (by decide);rwa [hJ.atA hA hB hS] at h9)
 simp only [nrm]
 apply wpJ_op rfl (by rfl)
 ·intro f w1 hf hJ Q1 hQ
  have hB:f 9=false:=path_no hJ.1 [8] (by kernel_rfl) (by decide) hf.1
  have hS:f 10=false:=path_no hJ.1 [9] (by kernel_rfl) (by decide) hB
  rw [hJ.atA hf.1 hB hS]
  simp only [nrm] at hQ
  go_wp2_with (go_at_call 48;refine HR.out.1.mono ?_;rintro e w8 ⟨rfl,hq⟩)
  exact hQ _ _ rfl (hJ.goA rfl hf hB hS (by decide) (by decide) hq)
 simp only [nrm]
 apply wpJ_op rfl (by rfl)
 ·intro f w1 hf hJ Q1 hQ
  have hS:f 10=false:=path_no hJ.1 [9] (by kernel_rfl) (by decide) hf.1
  have hA:f 8=true:=up_dep hf 8 (by kernel_rfl)
  have hR1:=hJ.atB hA hf.1 hS
  simp only [nrm] at hQ
  go_wp2_with (go_at_call 41;refine (plain_is 0 (linkF z.ns l l2).1 r1 r2 hr w1).mono ?_;rintro e w8 ⟨rfl,hBl⟩;have hq:=HR.out.2.1 _ _ hR1 hBl)
  exact hQ _ _ rfl (hJ.goB rfl hf hS (by decide) hq)
 simp only [nrm]
 apply wpJ_op (v:=undef) rfl (by rfl)
 ·intro f w1 hf hJ Q1 hQ
  have hB:f 9=true:=up_dep hf 9 (by kernel_rfl)
  have hR1:=hJ.atS hB hf.1
  simp only [nrm] at hQ
  go_wp2_with (refine wpList_store_row rfl 32 (.tmp 6) (.tmp 112) rfl (w.heap.size+1) #[.int .i64 r1,.int .i64 r2,.string ⟨#[]⟩] rfl rfl 32 #[.int .i64 0,.int .i64 0,.string ⟨#[]⟩] (HR.out.2.2.1 _ hR1) info_res rfl (by simp [Value.oneCell']) ?_)
  exact hQ _ _ rfl (hJ.goS rfl hf (HR.out.2.2.2 _ hR1))
 simp only [nrm]
 refine wpJ_nil ?_
 intro w9 hJ9
 have hq9:=hJ9.fin rfl
 clear hJ9
 have hRF:=HF.out
 rw [hRF] at hq9
 go_wp2_with (fail)
 exact bodyPost_ret (v:=resV r1 r2 ⟨#[]⟩) (results_cellU (fn:=Tryz.f12) Tryz.results12 _ _ (w.heap.size+1) 32 #[.int .i64 r1,.int .i64 r2,.string ⟨#[]⟩] _ rfl hq9.2 Tryz.underlying32 rfl info_res) rfl ((hq9.up (show c+8≤c+10 by omega)).fin HM.out.2.2.1 (by omega))
set_option maxRecDepth 100000 in
set_option maxHeartbeats 4000000 in
theorem zudo_close (h:UZ cap w0 O fdb vb tb fb sb pb mb c z syb qb qm m w) (hc:c≤8900) (pid:Int) (hw:(Lit.int .i64 pid).wf=true) (hd:aliveF m pid=true) (a bq:Int) (s t:ByteArray) (hm:mayB 2 a bq s t=true) (r1 r2:Int) (hr:plR 0 (closeZ z pid a).1=(r1,r2)):
  Calls Tryz.prog 12 #[.pointer (some ⟨syb,0,none⟩),.int .i64 pid,.agg #[.int .i64 2,.int .i64 a,.int .i64 bq,.string s,.string t]] w (UZP cap w0 O fdb vb tb fb sb pb mb (c+10) (closeZ z pid a).2 syb qb qm m w (resV r1 r2 ⟨#[]⟩)):=by
 obtain ⟨hal,h2,hcb,hb⟩:=h.call #[.int .i64 2,.int .i64 a,.int .i64 bq,.string s,.string t] #[.int .i64 0,.int .i64 0,.string ⟨#[]⟩] 35 32
 have c3:=h2.sy.rd 3
 have ha:=alive_is h2.pr.b pid hw true hd
 have hma:=fun w1=> may_any 2 a bq s t w1
 simp only [hm] at hma
 have hcall:=fun (W9:World) (hX9:UZ cap w0 O fdb vb tb fb sb pb mb c z syb qb qm m W9)=> zz_close8 hX9.ez (by omega) hX9.mc pid hw a (closeZ z pid a).1 (z' :=(closeZ z pid a).2) rfl
 have H:=Lib.hid (And.intro hal (And.intro hcb (And.intro hb (And.intro h hcall))))
 clear h h2 hal hb hcb hw hd hm hc hcall
 go_enter Tryz.func12,Tryz.ntmps12
 go_upto_region 11 with (first
  | (go_at_call 22;refine ha.mono ?_;rintro e w1 ⟨rfl,hB⟩;have q1:=(Blk.below hB H.out.2.1 H.out.2.1.lt).rd;have H1:=Lib.hid (And.intro (H.out.1.trans (hB.mono H.out.1.size)) (And.intro (Blk.below hB H.out.2.1 H.out.2.1.lt) (Blk.below hB H.out.2.2.1 H.out.2.2.1.lt)));clear hB ha)
  | (go_at_call 40;refine (hma _).mono ?_;rintro e w2 ⟨rfl,hB⟩;have q2:=(Blk.below hB H1.out.2.1 H1.out.2.1.lt).rd;have H2:=Lib.hid (And.intro (H1.out.1.trans (hB.mono H1.out.1.size)) (And.intro (Blk.below hB H1.out.2.1 H1.out.2.1.lt) (Blk.below hB H1.out.2.2 H1.out.2.2.lt)));clear hB hma q1))
 obtain ⟨-,-,-,hX,hcall⟩:=H.out
 obtain ⟨hB2,hcb2,hrb2⟩:=H2.out
 obtain ⟨W9,hW9⟩:∃W9,w2.drew=W9:=⟨_,rfl⟩
 have hd9:=below_dr w2
 rw [hW9] at hd9
 have h9:=hB2.trans (hd9.mono hB2.size)
 have hX9:=hX.below h9
 obtain ⟨k0,k1,k2,k3,k4,k5⟩:=hX.news
 have hrb9:=Blk.below hd9 hrb2 hrb2.lt
 have hrO:¬O (w.heap.size+1):=fun hk=> by have:=k1 _ hk;omega
 have hmk:=(hcall W9 hX9).mono (fun e w8 hq=> UQ.zp hX9 hrb9 hrO hq (by omega))
 have hst:=fun w1 (h:UQ cap w0 O fdb vb tb fb sb pb mb (c+8) (closeZ z pid a).2 syb qb qm m W9 (w.heap.size+1) #[.int .i64 0,.int .i64 0,.string ⟨#[]⟩] w1)=> h.store (by omega) hrO hrb9.lt ⟨by omega,by omega,by omega,by omega⟩ #[.int .i64 r1,.int .i64 r2,.string ⟨#[]⟩]
 have HM:=Lib.hid (And.intro hmk (And.intro hst (And.intro h9 (And.intro hW9 (And.intro hX9.sy (Blk.below hd9 hcb2 hcb2.lt))))))
 obtain ⟨RQ,hRQ⟩:∃RQ,RQ=UQ cap w0 O fdb vb tb fb sb pb mb (c+8) (closeZ z pid a).2 syb qb qm m W9 (w.heap.size+1) #[.int .i64 0,.int .i64 0,.string ⟨#[]⟩]:=⟨_,rfl⟩
 obtain ⟨RF,hRF⟩:∃RF,RF=UQ cap w0 O fdb vb tb fb sb pb mb (c+8) (closeZ z pid a).2 syb qb qm m W9 (w.heap.size+1) #[.int .i64 r1,.int .i64 r2,.string ⟨#[]⟩]:=⟨_,rfl⟩
 have hpl:∀w1 w8,RQ w1→Below w1.heap.size w1 w8→RQ w8:=by rw [hRQ];exact fun w1 w8 h hB=> h.below hB
 have hcl:Calls Tryz.prog 43 #[.pointer (some ⟨fdb,0,none⟩),.int .i64 pid,.int .i64 a] W9 fun e w8=> e= .returned (.int .i64 (closeZ z pid a).1)∧RQ w8:=by rw [hRQ];exact hmk
 have hrw:∀w1,RQ w1→Blk w1 (w.heap.size+1) #[.int .i64 0,.int .i64 0,.string ⟨#[]⟩] 32:=by rw [hRQ];exact fun w1 h=> h.2
 have hsf:∀w1,RQ w1→RF (w1.setRow (w.heap.size+1) #[.int .i64 r1,.int .i64 r2,.string ⟨#[]⟩]):=by rw [hRQ,hRF];exact hst
 have HR:=Lib.hid (And.intro hcl (And.intro hpl (And.intro hrw hsf)))
 have HF:=Lib.hid hRF
 clear hX hcall hB2 hcb2 hrb2 hd9 h9 hX9 k0 k1 k2 k3 k4 k5 hrb9 hrO hmk hst hpl hcl hrw hsf hRQ hRF q2
 refine region_U 7 8 9 W9 RQ RQ RF hW9 (by kernel_rfl) (by kernel_rfl) ?_
 iterate 3
  apply wpJ_op rfl (by rfl)
  ·intro f w1 hf hJ Q1 hQ
   simp only [nrm] at hQ
   go_wp2_with (fail)
   exact hQ _ _ rfl (hJ.other rfl hf (by decide) (by decide) (by decide))
  simp only [nrm]
 apply wpJ_op rfl (by rfl)
 ·intro f w1 hf hJ Q1 hQ
  have hA:f 7=false:=path_no hJ.1 [3] (by kernel_rfl) (by decide) hf.1
  have hB:f 8=false:=path_no hJ.1 [7] (by kernel_rfl) (by decide) hA
  have hS:f 9=false:=path_no hJ.1 [8] (by kernel_rfl) (by decide) hB
  rw [hJ.atA hA hB hS]
  have c3:=HM.out.2.2.2.2.1.rd 2
  simp only [nrm] at hQ
  go_wp2_with (fail)
  exact hQ _ _ rfl (by have h9:=hJ.other rfl hf (by decide) (by decide) (by decide);rwa [hJ.atA hA hB hS] at h9)
 iterate 2
  simp only [nrm]
  apply wpJ_op rfl (by rfl)
  ·intro f w1 hf hJ Q1 hQ
   simp only [nrm] at hQ
   go_wp2_with (fail)
   exact hQ _ _ rfl (hJ.other rfl hf (by decide) (by decide) (by decide))
 simp only [nrm]
 apply wpJ_op rfl (by rfl)
 ·intro f w1 hf hJ Q1 hQ
  have hA:f 7=false:=path_no hJ.1 [6] (by kernel_rfl) (by decide) hf.1
  have hB:f 8=false:=path_no hJ.1 [7] (by kernel_rfl) (by decide) hA
  have hS:f 9=false:=path_no hJ.1 [8] (by kernel_rfl) (by decide) hB
  rw [hJ.atA hA hB hS]
  have c6:=HM.out.2.2.2.2.2.rd 1
  simp only [nrm] at hQ
  go_wp2_with (fail)
  exact hQ _ _ rfl (by have h9:=hJ.other rfl hf (by decide) (by decide) (by decide);rwa [hJ.atA hA hB hS] at h9)
 simp only [nrm]
 apply wpJ_op rfl (by rfl)
 ·intro f w1 hf hJ Q1 hQ
  have hB:f 8=false:=path_no hJ.1 [7] (by kernel_rfl) (by decide) hf.1
  have hS:f 9=false:=path_no hJ.1 [8] (by kernel_rfl) (by decide) hB
  rw [hJ.atA hf.1 hB hS]
  simp only [nrm] at hQ
  go_wp2_with (go_at_call 43;refine HR.out.1.mono ?_;rintro e w8 ⟨rfl,hq⟩)
  exact hQ _ _ rfl (hJ.goA rfl hf hB hS (by decide) (by decide) hq)
 simp only [nrm]
 apply wpJ_op rfl (by rfl)
 ·intro f w1 hf hJ Q1 hQ
  have hS:f 9=false:=path_no hJ.1 [8] (by kernel_rfl) (by decide) hf.1
  have hA:f 7=true:=up_dep hf 7 (by kernel_rfl)
  have hR1:=hJ.atB hA hf.1 hS
  simp only [nrm] at hQ
  go_wp2_with (go_at_call 41;refine (plain_is 0 (closeZ z pid a).1 r1 r2 hr w1).mono ?_;rintro e w8 ⟨rfl,hBl⟩;have hq:=HR.out.2.1 _ _ hR1 hBl)
  exact hQ _ _ rfl (hJ.goB rfl hf hS (by decide) hq)
 simp only [nrm]
 apply wpJ_op (v:=undef) rfl (by rfl)
 ·intro f w1 hf hJ Q1 hQ
  have hB:f 8=true:=up_dep hf 8 (by kernel_rfl)
  have hR1:=hJ.atS hB hf.1
  simp only [nrm] at hQ
  go_wp2_with (refine wpList_store_row rfl 32 (.tmp 6) (.tmp 52) rfl (w.heap.size+1) #[.int .i64 r1,.int .i64 r2,.string ⟨#[]⟩] rfl rfl 32 #[.int .i64 0,.int .i64 0,.string ⟨#[]⟩] (HR.out.2.2.1 _ hR1) info_res rfl (by simp [Value.oneCell']) ?_)
  exact hQ _ _ rfl (hJ.goS rfl hf (HR.out.2.2.2 _ hR1))
 simp only [nrm]
 refine wpJ_nil ?_
 intro w9 hJ9
 have hq9:=hJ9.fin rfl
 clear hJ9
 have hRF:=HF.out
 rw [hRF] at hq9
 go_wp2_with (fail)
 exact bodyPost_ret (v:=resV r1 r2 ⟨#[]⟩) (results_cellU (fn:=Tryz.f12) Tryz.results12 _ _ (w.heap.size+1) 32 #[.int .i64 r1,.int .i64 r2,.string ⟨#[]⟩] _ rfl hq9.2 Tryz.underlying32 rfl info_res) rfl ((hq9.up (show c+8≤c+10 by omega)).fin HM.out.2.2.1 (by omega))
set_option maxRecDepth 100000 in
set_option maxHeartbeats 4000000 in
theorem zudo_seek (h:UZ cap w0 O fdb vb tb fb sb pb mb c z syb qb qm m w) (hc:c≤8900) (pid:Int) (hw:(Lit.int .i64 pid).wf=true) (hd:aliveF m pid=true) (a bq:Int) (s t:ByteArray) (hm:mayB 5 a bq s t=true) (hb9:bq≤9223372036854775807) (r1 r2:Int) (hr:plR 0 (seekZ z pid a bq).1=(r1,r2)):
  Calls Tryz.prog 12 #[.pointer (some ⟨syb,0,none⟩),.int .i64 pid,.agg #[.int .i64 5,.int .i64 a,.int .i64 bq,.string s,.string t]] w (UZP cap w0 O fdb vb tb fb sb pb mb (c+10) (seekZ z pid a bq).2 syb qb qm m w (resV r1 r2 ⟨#[]⟩)):=by
 obtain ⟨hal,h2,hcb,hb⟩:=h.call #[.int .i64 5,.int .i64 a,.int .i64 bq,.string s,.string t] #[.int .i64 0,.int .i64 0,.string ⟨#[]⟩] 35 32
 have c3:=h2.sy.rd 3
 have ha:=alive_is h2.pr.b pid hw true hd
 have hma:=fun w1=> may_any 5 a bq s t w1
 simp only [hm] at hma
 have hcall:=fun (W9:World) (hX9:UZ cap w0 O fdb vb tb fb sb pb mb c z syb qb qm m W9)=> zz_seek2 hX9.ez hb9 pid hw a bq (seekZ z pid a bq).1 (z' :=(seekZ z pid a bq).2) rfl
 have H:=Lib.hid (And.intro hal (And.intro hcb (And.intro hb (And.intro h hcall))))
 clear h h2 hal hb hcb hw hd hm hc hcall
 go_enter Tryz.func12,Tryz.ntmps12
 go_upto_region 17 with (first
  | (go_at_call 22;refine ha.mono ?_;rintro e w1 ⟨rfl,hB⟩;have q1:=(Blk.below hB H.out.2.1 H.out.2.1.lt).rd;have H1:=Lib.hid (And.intro (H.out.1.trans (hB.mono H.out.1.size)) (And.intro (Blk.below hB H.out.2.1 H.out.2.1.lt) (Blk.below hB H.out.2.2.1 H.out.2.2.1.lt)));clear hB ha)
  | (go_at_call 40;refine (hma _).mono ?_;rintro e w2 ⟨rfl,hB⟩;have q2:=(Blk.below hB H1.out.2.1 H1.out.2.1.lt).rd;have H2:=Lib.hid (And.intro (H1.out.1.trans (hB.mono H1.out.1.size)) (And.intro (Blk.below hB H1.out.2.1 H1.out.2.1.lt) (Blk.below hB H1.out.2.2 H1.out.2.2.lt)));clear hB hma q1))
 obtain ⟨-,-,-,hX,hcall⟩:=H.out
 obtain ⟨hB2,hcb2,hrb2⟩:=H2.out
 obtain ⟨W9,hW9⟩:∃W9,w2.drew=W9:=⟨_,rfl⟩
 have hd9:=below_dr w2
 rw [hW9] at hd9
 have h9:=hB2.trans (hd9.mono hB2.size)
 have hX9:=hX.below h9
 obtain ⟨k0,k1,k2,k3,k4,k5⟩:=hX.news
 have hrb9:=Blk.below hd9 hrb2 hrb2.lt
 have hrO:¬O (w.heap.size+1):=fun hk=> by have:=k1 _ hk;omega
 have hmk:=(hcall W9 hX9).mono (fun e w8 hq=> UQ.zp hX9 hrb9 hrO hq (by omega))
 have hst:=fun w1 (h:UQ cap w0 O fdb vb tb fb sb pb mb (c+8) (seekZ z pid a bq).2 syb qb qm m W9 (w.heap.size+1) #[.int .i64 0,.int .i64 0,.string ⟨#[]⟩] w1)=> h.store (by omega) hrO hrb9.lt ⟨by omega,by omega,by omega,by omega⟩ #[.int .i64 r1,.int .i64 r2,.string ⟨#[]⟩]
 have HM:=Lib.hid (And.intro hmk (And.intro hst (And.intro h9 (And.intro hW9 (And.intro hX9.sy (Blk.below hd9 hcb2 hcb2.lt))))))
 obtain ⟨RQ,hRQ⟩:∃RQ,RQ=UQ cap w0 O fdb vb tb fb sb pb mb (c+8) (seekZ z pid a bq).2 syb qb qm m W9 (w.heap.size+1) #[.int .i64 0,.int .i64 0,.string ⟨#[]⟩]:=⟨_,rfl⟩
 obtain ⟨RF,hRF⟩:∃RF,RF=UQ cap w0 O fdb vb tb fb sb pb mb (c+8) (seekZ z pid a bq).2 syb qb qm m W9 (w.heap.size+1) #[.int .i64 r1,.int .i64 r2,.string ⟨#[]⟩]:=⟨_,rfl⟩
 have hpl:∀w1 w8,RQ w1→Below w1.heap.size w1 w8→RQ w8:=by rw [hRQ];exact fun w1 w8 h hB=> h.below hB
 have hcl:Calls Tryz.prog 46 #[.pointer (some ⟨fdb,0,none⟩),.int .i64 pid,.int .i64 a,.int .i64 bq] W9 fun e w8=> e= .returned (.int .i64 (seekZ z pid a bq).1)∧RQ w8:=by rw [hRQ];exact hmk
 have hrw:∀w1,RQ w1→Blk w1 (w.heap.size+1) #[.int .i64 0,.int .i64 0,.string ⟨#[]⟩] 32:=by rw [hRQ];exact fun w1 h=> h.2
 have hsf:∀w1,RQ w1→RF (w1.setRow (w.heap.size+1) #[.int .i64 r1,.int .i64 r2,.string ⟨#[]⟩]):=by rw [hRQ,hRF];exact hst
 have HR:=Lib.hid (And.intro hcl (And.intro hpl (And.intro hrw hsf)))
 have HF:=Lib.hid hRF
 clear hX hcall hB2 hcb2 hrb2 hd9 h9 hX9 k0 k1 k2 k3 k4 k5 hrb9 hrO hmk hst hpl hcl hrw hsf hRQ hRF q2
 refine region_U 9 10 11 W9 RQ RQ RF hW9 (by kernel_rfl) (by kernel_rfl) ?_
 iterate 3
  apply wpJ_op rfl (by rfl)
  ·intro f w1 hf hJ Q1 hQ
   simp only [nrm] at hQ
   go_wp2_with (fail)
   exact hQ _ _ rfl (hJ.other rfl hf (by decide) (by decide) (by decide))
  simp only [nrm]
 apply wpJ_op rfl (by rfl)
 ·intro f w1 hf hJ Q1 hQ
  have hA:f 9=false:=path_no hJ.1 [3] (by kernel_rfl) (by decide) hf.1
  have hB:f 10=false:=path_no hJ.1 [9] (by kernel_rfl) (by decide) hA
  have hS:f 11=false:=path_no hJ.1 [10] (by kernel_rfl) (by decide) hB
  rw [hJ.atA hA hB hS]
  have c3:=HM.out.2.2.2.2.1.rd 2
  simp only [nrm] at hQ
  go_wp2_with (fail)
  exact hQ _ _ rfl (by have h9:=hJ.other rfl hf (by decide) (by decide) (by decide);rwa [hJ.atA hA hB hS] at h9)
 iterate 2
  simp only [nrm]
  apply wpJ_op rfl (by rfl)
  ·intro f w1 hf hJ Q1 hQ
   simp only [nrm] at hQ
   go_wp2_with (fail)
   exact hQ _ _ rfl (hJ.other rfl hf (by decide) (by decide) (by decide))
 simp only [nrm]
 apply wpJ_op rfl (by rfl)
 ·intro f w1 hf hJ Q1 hQ
  have hA:f 9=false:=path_no hJ.1 [6] (by kernel_rfl) (by decide) hf.1
  have hB:f 10=false:=path_no hJ.1 [9] (by kernel_rfl) (by decide) hA
  have hS:f 11=false:=path_no hJ.1 [10] (by kernel_rfl) (by decide) hB
  rw [hJ.atA hA hB hS]
  have c6:=HM.out.2.2.2.2.2.rd 1
  simp only [nrm] at hQ
  go_wp2_with (fail)
  exact hQ _ _ rfl (by have h9:=hJ.other rfl hf (by decide) (by decide) (by decide);rwa [hJ.atA hA hB hS] at h9)
 simp only [nrm]
 apply wpJ_op rfl (by rfl)
 ·intro f w1 hf hJ Q1 hQ
  simp only [nrm] at hQ
  go_wp2_with (fail)
  exact hQ _ _ rfl (hJ.other rfl hf (by decide) (by decide) (by decide))
 simp only [nrm]
 apply wpJ_op rfl (by rfl)
 ·intro f w1 hf hJ Q1 hQ
  have hA:f 9=false:=path_no hJ.1 [8] (by kernel_rfl) (by decide) hf.1
  have hB:f 10=false:=path_no hJ.1 [9] (by kernel_rfl) (by decide) hA
  have hS:f 11=false:=path_no hJ.1 [10] (by kernel_rfl) (by decide) hB
  rw [hJ.atA hA hB hS]
  have c8:=HM.out.2.2.2.2.2.rd 2
  simp only [nrm] at hQ
  go_wp2_with (fail)
  exact hQ _ _ rfl (by have h9:=hJ.other rfl hf (by decide) (by decide) (by decide);rwa [hJ.atA hA hB hS] at h9)
 simp only [nrm]
 apply wpJ_op rfl (by rfl)
 ·intro f w1 hf hJ Q1 hQ
  have hB:f 10=false:=path_no hJ.1 [9] (by kernel_rfl) (by decide) hf.1
  have hS:f 11=false:=path_no hJ.1 [10] (by kernel_rfl) (by decide) hB
  rw [hJ.atA hf.1 hB hS]
  simp only [nrm] at hQ
  go_wp2_with (go_at_call 46;refine HR.out.1.mono ?_;rintro e w8 ⟨rfl,hq⟩)
  exact hQ _ _ rfl (hJ.goA rfl hf hB hS (by decide) (by decide) hq)
 simp only [nrm]
 apply wpJ_op rfl (by rfl)
 ·intro f w1 hf hJ Q1 hQ
  have hS:f 11=false:=path_no hJ.1 [10] (by kernel_rfl) (by decide) hf.1
  have hA:f 9=true:=up_dep hf 9 (by kernel_rfl)
  have hR1:=hJ.atB hA hf.1 hS
  simp only [nrm] at hQ
  go_wp2_with (go_at_call 41;refine (plain_is 0 (seekZ z pid a bq).1 r1 r2 hr w1).mono ?_;rintro e w8 ⟨rfl,hBl⟩;have hq:=HR.out.2.1 _ _ hR1 hBl)
  exact hQ _ _ rfl (hJ.goB rfl hf hS (by decide) hq)
 simp only [nrm]
 apply wpJ_op (v:=undef) rfl (by rfl)
 ·intro f w1 hf hJ Q1 hQ
  have hB:f 10=true:=up_dep hf 10 (by kernel_rfl)
  have hR1:=hJ.atS hB hf.1
  simp only [nrm] at hQ
  go_wp2_with (refine wpList_store_row rfl 32 (.tmp 6) (.tmp 87) rfl (w.heap.size+1) #[.int .i64 r1,.int .i64 r2,.string ⟨#[]⟩] rfl rfl 32 #[.int .i64 0,.int .i64 0,.string ⟨#[]⟩] (HR.out.2.2.1 _ hR1) info_res rfl (by simp [Value.oneCell']) ?_)
  exact hQ _ _ rfl (hJ.goS rfl hf (HR.out.2.2.2 _ hR1))
 simp only [nrm]
 refine wpJ_nil ?_
 intro w9 hJ9
 have hq9:=hJ9.fin rfl
 clear hJ9
 have hRF:=HF.out
 rw [hRF] at hq9
 go_wp2_with (fail)
 exact bodyPost_ret (v:=resV r1 r2 ⟨#[]⟩) (results_cellU (fn:=Tryz.f12) Tryz.results12 _ _ (w.heap.size+1) 32 #[.int .i64 r1,.int .i64 r2,.string ⟨#[]⟩] _ rfl hq9.2 Tryz.underlying32 rfl info_res) rfl ((hq9.up (show c+8≤c+10 by omega)).fin HM.out.2.2.1 (by omega))
set_option maxRecDepth 100000 in
set_option maxHeartbeats 4000000 in
theorem zudo_open (h:UZ cap w0 O fdb vb tb fb sb pb mb c z syb qb qm m w) (hc:c≤8900) (pid:Int) (hw:(Lit.int .i64 pid).wf=true) (hd:aliveF m pid=true) (a bq:Int) (s t:ByteArray) (hm:mayB 1 a bq s t=true) (l:Txt) (hl:l.length≤100000) (hs:s=B l) (r1 r2:Int) (hr:plR (openZ z pid l a).1 (openZ z pid l a).2.1=(r1,r2)):
  Calls Tryz.prog 12 #[.pointer (some ⟨syb,0,none⟩),.int .i64 pid,.agg #[.int .i64 1,.int .i64 a,.int .i64 bq,.string s,.string t]] w (UZP cap w0 O fdb vb tb fb sb pb mb (c+10) (openZ z pid l a).2.2 syb qb qm m w (resV r1 r2 ⟨#[]⟩)):=by
 obtain ⟨hal,h2,hcb,hb⟩:=h.call #[.int .i64 1,.int .i64 a,.int .i64 bq,.string s,.string t] #[.int .i64 0,.int .i64 0,.string ⟨#[]⟩] 35 32
 have c3:=h2.sy.rd 3
 have ha:=alive_is h2.pr.b pid hw true hd
 have hma:=fun w1=> may_any 1 a bq s t w1
 simp only [hm] at hma
 have hcall:=fun (W9:World) (hX9:UZ cap w0 O fdb vb tb fb sb pb mb c z syb qb qm m W9)=> zz_open2 hX9.ez (by omega) pid hw l a s hs hl (openZ z pid l a).1 (openZ z pid l a).2.1 (z' :=(openZ z pid l a).2.2) rfl
 have H:=Lib.hid (And.intro hal (And.intro hcb (And.intro hb (And.intro h hcall))))
 clear h h2 hal hb hcb hw hd hm hc hcall hs hl
 go_enter Tryz.func12,Tryz.ntmps12
 go_upto_region 9 with (first
  | (go_at_call 22;refine ha.mono ?_;rintro e w1 ⟨rfl,hB⟩;have q1:=(Blk.below hB H.out.2.1 H.out.2.1.lt).rd;have H1:=Lib.hid (And.intro (H.out.1.trans (hB.mono H.out.1.size)) (And.intro (Blk.below hB H.out.2.1 H.out.2.1.lt) (Blk.below hB H.out.2.2.1 H.out.2.2.1.lt)));clear hB ha)
  | (go_at_call 40;refine (hma _).mono ?_;rintro e w2 ⟨rfl,hB⟩;have q2:=(Blk.below hB H1.out.2.1 H1.out.2.1.lt).rd;have H2:=Lib.hid (And.intro (H1.out.1.trans (hB.mono H1.out.1.size)) (And.intro (Blk.below hB H1.out.2.1 H1.out.2.1.lt) (Blk.below hB H1.out.2.2 H1.out.2.2.lt)));clear hB hma q1))
 obtain ⟨-,-,-,hX,hcall⟩:=H.out
 obtain ⟨hB2,hcb2,hrb2⟩:=H2.out
 obtain ⟨W9,hW9⟩:∃W9,w2.drew=W9:=⟨_,rfl⟩
 have hd9:=below_dr w2
 rw [hW9] at hd9
 have h9:=hB2.trans (hd9.mono hB2.size)
 have hX9:=hX.below h9
 obtain ⟨k0,k1,k2,k3,k4,k5⟩:=hX.news
 have hrb9:=Blk.below hd9 hrb2 hrb2.lt
 have hrO:¬O (w.heap.size+1):=fun hk=> by have:=k1 _ hk;omega
 have hmk:=(hcall W9 hX9).mono (fun e w8 hq=> UQ.zp hX9 hrb9 hrO hq (by omega))
 have hst:=fun w1 (h:UQ cap w0 O fdb vb tb fb sb pb mb (c+8) (openZ z pid l a).2.2 syb qb qm m W9 (w.heap.size+1) #[.int .i64 0,.int .i64 0,.string ⟨#[]⟩] w1)=> h.store (by omega) hrO hrb9.lt ⟨by omega,by omega,by omega,by omega⟩ #[.int .i64 r1,.int .i64 r2,.string ⟨#[]⟩]
 have HM:=Lib.hid (And.intro hmk (And.intro hst (And.intro h9 (And.intro hW9 (And.intro hX9.sy (Blk.below hd9 hcb2 hcb2.lt))))))
 obtain ⟨RQ,hRQ⟩:∃RQ,RQ=UQ cap w0 O fdb vb tb fb sb pb mb (c+8) (openZ z pid l a).2.2 syb qb qm m W9 (w.heap.size+1) #[.int .i64 0,.int .i64 0,.string ⟨#[]⟩]:=⟨_,rfl⟩
 obtain ⟨RF,hRF⟩:∃RF,RF=UQ cap w0 O fdb vb tb fb sb pb mb (c+8) (openZ z pid l a).2.2 syb qb qm m W9 (w.heap.size+1) #[.int .i64 r1,.int .i64 r2,.string ⟨#[]⟩]:=⟨_,rfl⟩
 have hpl:∀w1 w8,RQ w1→Below w1.heap.size w1 w8→RQ w8:=by rw [hRQ];exact fun w1 w8 h hB=> h.below hB
 have hcl:Calls Tryz.prog 42 #[.pointer (some ⟨fdb,0,none⟩),.int .i64 pid,.string s,.int .i64 a] W9 fun e w8=> e= .returned (.tuple #[.int .i64 (openZ z pid l a).1,.int .i64 (openZ z pid l a).2.1])∧RQ w8:=by rw [hRQ];exact hmk
 have hrw:∀w1,RQ w1→Blk w1 (w.heap.size+1) #[.int .i64 0,.int .i64 0,.string ⟨#[]⟩] 32:=by rw [hRQ];exact fun w1 h=> h.2
 have hsf:∀w1,RQ w1→RF (w1.setRow (w.heap.size+1) #[.int .i64 r1,.int .i64 r2,.string ⟨#[]⟩]):=by rw [hRQ,hRF];exact hst
 have HR:=Lib.hid (And.intro hcl (And.intro hpl (And.intro hrw hsf)))
 have HF:=Lib.hid hRF
 clear hX hcall hB2 hcb2 hrb2 hd9 h9 hX9 k0 k1 k2 k3 k4 k5 hrb9 hrO hmk hst hpl hcl hrw hsf hRQ hRF q2
 refine region_U 9 12 13 W9 RQ RQ RF hW9 (by kernel_rfl) (by kernel_rfl) ?_
 iterate 3
  apply wpJ_op rfl (by rfl)
  ·intro f w1 hf hJ Q1 hQ
   simp only [nrm] at hQ
   go_wp2_with (fail)
   exact hQ _ _ rfl (hJ.other rfl hf (by decide) (by decide) (by decide))
  simp only [nrm]
 apply wpJ_op rfl (by rfl)
 ·intro f w1 hf hJ Q1 hQ
  have hA:f 9=false:=path_no hJ.1 [3] (by kernel_rfl) (by decide) hf.1
  have hB:f 12=false:=path_no hJ.1 [10,9] (by kernel_rfl) (by decide) hA
  have hS:f 13=false:=path_no hJ.1 [12] (by kernel_rfl) (by decide) hB
  rw [hJ.atA hA hB hS]
  have c3:=HM.out.2.2.2.2.1.rd 2
  simp only [nrm] at hQ
  go_wp2_with (fail)
  exact hQ _ _ rfl (by have h9:=hJ.other rfl hf (by decide) (by decide) (by decide);rwa [hJ.atA hA hB hS] at h9)
 iterate 2
  simp only [nrm]
  apply wpJ_op rfl (by rfl)
  ·intro f w1 hf hJ Q1 hQ
   simp only [nrm] at hQ
   go_wp2_with (fail)
   exact hQ _ _ rfl (hJ.other rfl hf (by decide) (by decide) (by decide))
 simp only [nrm]
 apply wpJ_op rfl (by rfl)
 ·intro f w1 hf hJ Q1 hQ
  have hA:f 9=false:=path_no hJ.1 [6] (by kernel_rfl) (by decide) hf.1
  have hB:f 12=false:=path_no hJ.1 [10,9] (by kernel_rfl) (by decide) hA
  have hS:f 13=false:=path_no hJ.1 [12] (by kernel_rfl) (by decide) hB
  rw [hJ.atA hA hB hS]
  have c6:=HM.out.2.2.2.2.2.rd 3
  simp only [nrm] at hQ
  go_wp2_with (fail)
  exact hQ _ _ rfl (by have h9:=hJ.other rfl hf (by decide) (by decide) (by decide);rwa [hJ.atA hA hB hS] at h9)
 simp only [nrm]
 apply wpJ_op rfl (by rfl)
 ·intro f w1 hf hJ Q1 hQ
  simp only [nrm] at hQ
  go_wp2_with (fail)
  exact hQ _ _ rfl (hJ.other rfl hf (by decide) (by decide) (by decide))
 simp only [nrm]
 apply wpJ_op rfl (by rfl)
 ·intro f w1 hf hJ Q1 hQ
  have hA:f 9=false:=path_no hJ.1 [8] (by kernel_rfl) (by decide) hf.1
  have hB:f 12=false:=path_no hJ.1 [10,9] (by kernel_rfl) (by decide) hA
  have hS:f 13=false:=path_no hJ.1 [12] (by kernel_rfl) (by decide) hB
  rw [hJ.atA hA hB hS]
  have c8:=HM.out.2.2.2.2.2.rd 1
  simp only [nrm] at hQ
  go_wp2_with (fail)
  exact hQ _ _ rfl (by have h9:=hJ.other rfl hf (by decide) (by decide) (by decide);rwa [hJ.atA hA hB hS] at h9)
 simp only [nrm]
 apply wpJ_op rfl (by rfl)
 ·intro f w1 hf hJ Q1 hQ
  have hB:f 12=false:=path_no hJ.1 [10,9] (by kernel_rfl) (by decide) hf.1
  have hS:f 13=false:=path_no hJ.1 [12] (by kernel_rfl) (by decide) hB
  rw [hJ.atA hf.1 hB hS]
  simp only [nrm] at hQ
  go_wp2_with (go_at_call 42;refine HR.out.1.mono ?_;rintro e w8 ⟨rfl,hq⟩)
  exact hQ _ _ rfl (hJ.goA rfl hf hB hS (by decide) (by decide) hq)
 iterate 2
  simp only [nrm]
  apply wpJ_op rfl (by rfl)
  ·intro f w1 hf hJ Q1 hQ
   simp only [nrm] at hQ
   go_wp2_with (fail)
   exact hQ _ _ rfl (hJ.other rfl hf (by decide) (by decide) (by decide))
 simp only [nrm]
 apply wpJ_op rfl (by rfl)
 ·intro f w1 hf hJ Q1 hQ
  have hS:f 13=false:=path_no hJ.1 [12] (by kernel_rfl) (by decide) hf.1
  have hA:f 9=true:=up_dep hf 9 (by kernel_rfl)
  have hR1:=hJ.atB hA hf.1 hS
  simp only [nrm] at hQ
  go_wp2_with (go_at_call 41;refine (plain_is (openZ z pid l a).1 (openZ z pid l a).2.1 r1 r2 hr w1).mono ?_;rintro e w8 ⟨rfl,hBl⟩;have hq:=HR.out.2.1 _ _ hR1 hBl)
  exact hQ _ _ rfl (hJ.goB rfl hf hS (by decide) hq)
 simp only [nrm]
 apply wpJ_op (v:=undef) rfl (by rfl)
 ·intro f w1 hf hJ Q1 hQ
  have hB:f 12=true:=up_dep hf 12 (by kernel_rfl)
  have hR1:=hJ.atS hB hf.1
  simp only [nrm] at hQ
  go_wp2_with (refine wpList_store_row rfl 32 (.tmp 6) (.tmp 41) rfl (w.heap.size+1) #[.int .i64 r1,.int .i64 r2,.string ⟨#[]⟩] rfl rfl 32 #[.int .i64 0,.int .i64 0,.string ⟨#[]⟩] (HR.out.2.2.1 _ hR1) info_res rfl (by simp [Value.oneCell']) ?_)
  exact hQ _ _ rfl (hJ.goS rfl hf (HR.out.2.2.2 _ hR1))
 simp only [nrm]
 refine wpJ_nil ?_
 intro w9 hJ9
 have hq9:=hJ9.fin rfl
 clear hJ9
 have hRF:=HF.out
 rw [hRF] at hq9
 go_wp2_with (fail)
 exact bodyPost_ret (v:=resV r1 r2 ⟨#[]⟩) (results_cellU (fn:=Tryz.f12) Tryz.results12 _ _ (w.heap.size+1) 32 #[.int .i64 r1,.int .i64 r2,.string ⟨#[]⟩] _ rfl hq9.2 Tryz.underlying32 rfl info_res) rfl ((hq9.up (show c+8≤c+10 by omega)).fin HM.out.2.2.1 (by omega))
set_option maxRecDepth 100000 in
set_option maxHeartbeats 4000000 in
theorem zudo_dup (h:UZ cap w0 O fdb vb tb fb sb pb mb c z syb qb qm m w) (hc:c≤8900) (pid:Int) (hw:(Lit.int .i64 pid).wf=true) (hd:aliveF m pid=true) (a bq:Int) (s t:ByteArray) (hm:mayB 6 a bq s t=true) (r1 r2:Int) (hr:plR (dupZ z pid a).1 (dupZ z pid a).2.1=(r1,r2)):
  Calls Tryz.prog 12 #[.pointer (some ⟨syb,0,none⟩),.int .i64 pid,.agg #[.int .i64 6,.int .i64 a,.int .i64 bq,.string s,.string t]] w (UZP cap w0 O fdb vb tb fb sb pb mb (c+10) (dupZ z pid a).2.2 syb qb qm m w (resV r1 r2 ⟨#[]⟩)):=by
 obtain ⟨hal,h2,hcb,hb⟩:=h.call #[.int .i64 6,.int .i64 a,.int .i64 bq,.string s,.string t] #[.int .i64 0,.int .i64 0,.string ⟨#[]⟩] 35 32
 have c3:=h2.sy.rd 3
 have ha:=alive_is h2.pr.b pid hw true hd
 have hma:=fun w1=> may_any 6 a bq s t w1
 simp only [hm] at hma
 have hcall:=fun (W9:World) (hX9:UZ cap w0 O fdb vb tb fb sb pb mb c z syb qb qm m W9)=> zz_dup hX9.ez (by omega) pid hw a (dupZ z pid a).1 (dupZ z pid a).2.1 (z' :=(dupZ z pid a).2.2) rfl
 have H:=Lib.hid (And.intro hal (And.intro hcb (And.intro hb (And.intro h hcall))))
 clear h h2 hal hb hcb hw hd hm hc hcall
 go_enter Tryz.func12,Tryz.ntmps12
 go_upto_region 19 with (first
  | (go_at_call 22;refine ha.mono ?_;rintro e w1 ⟨rfl,hB⟩;have q1:=(Blk.below hB H.out.2.1 H.out.2.1.lt).rd;have H1:=Lib.hid (And.intro (H.out.1.trans (hB.mono H.out.1.size)) (And.intro (Blk.below hB H.out.2.1 H.out.2.1.lt) (Blk.below hB H.out.2.2.1 H.out.2.2.1.lt)));clear hB ha)
  | (go_at_call 40;refine (hma _).mono ?_;rintro e w2 ⟨rfl,hB⟩;have q2:=(Blk.below hB H1.out.2.1 H1.out.2.1.lt).rd;have H2:=Lib.hid (And.intro (H1.out.1.trans (hB.mono H1.out.1.size)) (And.intro (Blk.below hB H1.out.2.1 H1.out.2.1.lt) (Blk.below hB H1.out.2.2 H1.out.2.2.lt)));clear hB hma q1))
 obtain ⟨-,-,-,hX,hcall⟩:=H.out
 obtain ⟨hB2,hcb2,hrb2⟩:=H2.out
 obtain ⟨W9,hW9⟩:∃W9,w2.drew=W9:=⟨_,rfl⟩
 have hd9:=below_dr w2
 rw [hW9] at hd9
 have h9:=hB2.trans (hd9.mono hB2.size)
 have hX9:=hX.below h9
 obtain ⟨k0,k1,k2,k3,k4,k5⟩:=hX.news
 have hrb9:=Blk.below hd9 hrb2 hrb2.lt
 have hrO:¬O (w.heap.size+1):=fun hk=> by have:=k1 _ hk;omega
 have hmk:=(hcall W9 hX9).mono (fun e w8 hq=> UQ.zp hX9 hrb9 hrO hq (by omega))
 have hst:=fun w1 (h:UQ cap w0 O fdb vb tb fb sb pb mb (c+8) (dupZ z pid a).2.2 syb qb qm m W9 (w.heap.size+1) #[.int .i64 0,.int .i64 0,.string ⟨#[]⟩] w1)=> h.store (by omega) hrO hrb9.lt ⟨by omega,by omega,by omega,by omega⟩ #[.int .i64 r1,.int .i64 r2,.string ⟨#[]⟩]
 have HM:=Lib.hid (And.intro hmk (And.intro hst (And.intro h9 (And.intro hW9 (And.intro hX9.sy (Blk.below hd9 hcb2 hcb2.lt))))))
 obtain ⟨RQ,hRQ⟩:∃RQ,RQ=UQ cap w0 O fdb vb tb fb sb pb mb (c+8) (dupZ z pid a).2.2 syb qb qm m W9 (w.heap.size+1) #[.int .i64 0,.int .i64 0,.string ⟨#[]⟩]:=⟨_,rfl⟩
 obtain ⟨RF,hRF⟩:∃RF,RF=UQ cap w0 O fdb vb tb fb sb pb mb (c+8) (dupZ z pid a).2.2 syb qb qm m W9 (w.heap.size+1) #[.int .i64 r1,.int .i64 r2,.string ⟨#[]⟩]:=⟨_,rfl⟩
 have hpl:∀w1 w8,RQ w1→Below w1.heap.size w1 w8→RQ w8:=by rw [hRQ];exact fun w1 w8 h hB=> h.below hB
 have hcl:Calls Tryz.prog 47 #[.pointer (some ⟨fdb,0,none⟩),.int .i64 pid,.int .i64 a] W9 fun e w8=> e= .returned (.tuple #[.int .i64 (dupZ z pid a).1,.int .i64 (dupZ z pid a).2.1])∧RQ w8:=by rw [hRQ];exact hmk
 have hrw:∀w1,RQ w1→Blk w1 (w.heap.size+1) #[.int .i64 0,.int .i64 0,.string ⟨#[]⟩] 32:=by rw [hRQ];exact fun w1 h=> h.2
 have hsf:∀w1,RQ w1→RF (w1.setRow (w.heap.size+1) #[.int .i64 r1,.int .i64 r2,.string ⟨#[]⟩]):=by rw [hRQ,hRF];exact hst
 have HR:=Lib.hid (And.intro hcl (And.intro hpl (And.intro hrw hsf)))
 have HF:=Lib.hid hRF
 clear hX hcall hB2 hcb2 hrb2 hd9 h9 hX9 k0 k1 k2 k3 k4 k5 hrb9 hrO hmk hst hpl hcl hrw hsf hRQ hRF q2
 refine region_U 7 10 11 W9 RQ RQ RF hW9 (by kernel_rfl) (by kernel_rfl) ?_
 iterate 3
  apply wpJ_op rfl (by rfl)
  ·intro f w1 hf hJ Q1 hQ
   simp only [nrm] at hQ
   go_wp2_with (fail)
   exact hQ _ _ rfl (hJ.other rfl hf (by decide) (by decide) (by decide))
  simp only [nrm]
 apply wpJ_op rfl (by rfl)
 ·intro f w1 hf hJ Q1 hQ
  have hA:f 7=false:=path_no hJ.1 [3] (by kernel_rfl) (by decide) hf.1
  have hB:f 10=false:=path_no hJ.1 [8,7] (by kernel_rfl) (by decide) hA
  have hS:f 11=false:=path_no hJ.1 [10] (by kernel_rfl) (by decide) hB
  rw [hJ.atA hA hB hS]
  have c3:=HM.out.2.2.2.2.1.rd 2
  simp only [nrm] at hQ
  go_wp2_with (fail)
  exact hQ _ _ rfl (by have h9:=hJ.other rfl hf (by decide) (by decide) (by decide);rwa [hJ.atA hA hB hS] at h9)
 iterate 2
  simp only [nrm]
  apply wpJ_op rfl (by rfl)
  ·intro f w1 hf hJ Q1 hQ
   simp only [nrm] at hQ
   go_wp2_with (fail)
   exact hQ _ _ rfl (hJ.other rfl hf (by decide) (by decide) (by decide))
 simp only [nrm]
 apply wpJ_op rfl (by rfl)
 ·intro f w1 hf hJ Q1 hQ
  have hA:f 7=false:=path_no hJ.1 [6] (by kernel_rfl) (by decide) hf.1
  have hB:f 10=false:=path_no hJ.1 [8,7] (by kernel_rfl) (by decide) hA
  have hS:f 11=false:=path_no hJ.1 [10] (by kernel_rfl) (by decide) hB
  rw [hJ.atA hA hB hS]
  have c6:=HM.out.2.2.2.2.2.rd 1
  simp only [nrm] at hQ
  go_wp2_with (fail)
  exact hQ _ _ rfl (by have h9:=hJ.other rfl hf (by decide) (by decide) (by decide);rwa [hJ.atA hA hB hS] at h9)
 simp only [nrm]
 apply wpJ_op rfl (by rfl)
 ·intro f w1 hf hJ Q1 hQ
  have hB:f 10=false:=path_no hJ.1 [8,7] (by kernel_rfl) (by decide) hf.1
  have hS:f 11=false:=path_no hJ.1 [10] (by kernel_rfl) (by decide) hB
  rw [hJ.atA hf.1 hB hS]
  simp only [nrm] at hQ
  go_wp2_with (go_at_call 47;refine HR.out.1.mono ?_;rintro e w8 ⟨rfl,hq⟩)
  exact hQ _ _ rfl (hJ.goA rfl hf hB hS (by decide) (by decide) hq)
 iterate 2
  simp only [nrm]
  apply wpJ_op rfl (by rfl)
  ·intro f w1 hf hJ Q1 hQ
   simp only [nrm] at hQ
   go_wp2_with (fail)
   exact hQ _ _ rfl (hJ.other rfl hf (by decide) (by decide) (by decide))
 simp only [nrm]
 apply wpJ_op rfl (by rfl)
 ·intro f w1 hf hJ Q1 hQ
  have hS:f 11=false:=path_no hJ.1 [10] (by kernel_rfl) (by decide) hf.1
  have hA:f 7=true:=up_dep hf 7 (by kernel_rfl)
  have hR1:=hJ.atB hA hf.1 hS
  simp only [nrm] at hQ
  go_wp2_with (go_at_call 41;refine (plain_is (dupZ z pid a).1 (dupZ z pid a).2.1 r1 r2 hr w1).mono ?_;rintro e w8 ⟨rfl,hBl⟩;have hq:=HR.out.2.1 _ _ hR1 hBl)
  exact hQ _ _ rfl (hJ.goB rfl hf hS (by decide) hq)
 simp only [nrm]
 apply wpJ_op (v:=undef) rfl (by rfl)
 ·intro f w1 hf hJ Q1 hQ
  have hB:f 10=true:=up_dep hf 10 (by kernel_rfl)
  have hR1:=hJ.atS hB hf.1
  simp only [nrm] at hQ
  go_wp2_with (refine wpList_store_row rfl 32 (.tmp 6) (.tmp 100) rfl (w.heap.size+1) #[.int .i64 r1,.int .i64 r2,.string ⟨#[]⟩] rfl rfl 32 #[.int .i64 0,.int .i64 0,.string ⟨#[]⟩] (HR.out.2.2.1 _ hR1) info_res rfl (by simp [Value.oneCell']) ?_)
  exact hQ _ _ rfl (hJ.goS rfl hf (HR.out.2.2.2 _ hR1))
 simp only [nrm]
 refine wpJ_nil ?_
 intro w9 hJ9
 have hq9:=hJ9.fin rfl
 clear hJ9
 have hRF:=HF.out
 rw [hRF] at hq9
 go_wp2_with (fail)
 exact bodyPost_ret (v:=resV r1 r2 ⟨#[]⟩) (results_cellU (fn:=Tryz.f12) Tryz.results12 _ _ (w.heap.size+1) 32 #[.int .i64 r1,.int .i64 r2,.string ⟨#[]⟩] _ rfl hq9.2 Tryz.underlying32 rfl info_res) rfl ((hq9.up (show c+8≤c+10 by omega)).fin HM.out.2.2.1 (by omega))
set_option maxRecDepth 100000 in
set_option maxHeartbeats 4000000 in
theorem zudo_pipe (h:UZ cap w0 O fdb vb tb fb sb pb mb c z syb qb qm m w) (hc:c≤8900) (pid:Int) (hw:(Lit.int .i64 pid).wf=true) (hd:aliveF m pid=true) (a bq:Int) (s t:ByteArray) (hm:mayB 11 a bq s t=true) (r1 r2:Int) (hr:plR (pipeZ cap z pid).1 (pipeZ cap z pid).2.1=(r1,r2)):
  Calls Tryz.prog 12 #[.pointer (some ⟨syb,0,none⟩),.int .i64 pid,.agg #[.int .i64 11,.int .i64 a,.int .i64 bq,.string s,.string t]] w (UZP cap w0 O fdb vb tb fb sb pb mb (c+10) (pipeZ cap z pid).2.2 syb qb qm m w (resV r1 r2 ⟨#[]⟩)):=by
 obtain ⟨hal,h2,hcb,hb⟩:=h.call #[.int .i64 11,.int .i64 a,.int .i64 bq,.string s,.string t] #[.int .i64 0,.int .i64 0,.string ⟨#[]⟩] 35 32
 have c3:=h2.sy.rd 3
 have ha:=alive_is h2.pr.b pid hw true hd
 have hma:=fun w1=> may_any 11 a bq s t w1
 simp only [hm] at hma
 obtain ⟨k0,k1,k2,k3,k4,k5⟩:=h.news
 have hcall:=fun (W9:World) (h9:Below w.heap.size w W9) (hk:Blk W9 (w.heap.size+1) #[.int .i64 0,.int .i64 0,.string ⟨#[]⟩] 32)=> (zz_pipe (h.below h9).ez (by omega) h.mc pid hw (pipeZ cap z pid).1 (pipeZ cap z pid).2.1 (z' :=(pipeZ cap z pid).2.2) rfl).mono (fun e w8 hq=> UQ.zp (h.below h9) hk (fun hk=> by have:=k1 _ hk;omega) hq (by omega))
 have hfin:=fun (W9 w9:World) (h9:Below w.heap.size w W9) (hk:Blk W9 (w.heap.size+1) #[.int .i64 0,.int .i64 0,.string ⟨#[]⟩] 32) (hq:UQ cap w0 O fdb vb tb fb sb pb mb (c+8) (pipeZ cap z pid).2.2 syb qb qm m W9 (w.heap.size+1) #[.int .i64 0,.int .i64 0,.string ⟨#[]⟩] w9)=> hq.store (by omega) (fun hk=> by have:=k1 _ hk;omega) hk.lt ⟨by omega,by omega,by omega,by omega⟩ #[.int .i64 r1,.int .i64 r2,.string ⟨#[]⟩]
 have H:=Lib.hid (And.intro hal (And.intro hcb (And.intro hb (And.intro h (And.intro hcall hfin)))))
 clear h h2 hal hb hcb hw hd hm hc hcall hfin k0 k1 k2 k3 k4 k5
 go_enter Tryz.func12,Tryz.ntmps12
 go_wp2_with (first
  | (go_at_call 22;refine ha.mono ?_;rintro e w1 ⟨rfl,hB⟩;have q1:=(Blk.below hB H.out.2.1 H.out.2.1.lt).rd;have H1:=Lib.hid (And.intro (H.out.1.trans (hB.mono H.out.1.size)) (And.intro (Blk.below hB H.out.2.1 H.out.2.1.lt) (Blk.below hB H.out.2.2.1 H.out.2.2.1.lt)));clear hB ha)
  | (go_at_call 40;refine (hma _).mono ?_;rintro e w2 ⟨rfl,hB⟩;have q2:=(Blk.below hB H1.out.2.1 H1.out.2.1.lt).rd;have c9:=(H.out.2.2.2.1.below (H1.out.1.trans (hB.mono H1.out.1.size))).sy.rd;have H2:=Lib.hid (And.intro (H1.out.1.trans (hB.mono H1.out.1.size)) (And.intro (Blk.below hB H1.out.2.1 H1.out.2.1.lt) (Blk.below hB H1.out.2.2 H1.out.2.2.lt)));clear hB hma q1)
  | (go_at_call 52;refine (H.out.2.2.2.2.1 w2 H2.out.1 H2.out.2.2).mono ?_;rintro e w8 ⟨rfl,hq⟩;have H8:=Lib.hid hq;clear hq q2 c9)
  | (go_at_call 41;refine (plain_is _ _ r1 r2 hr w8).mono ?_;rintro e w9 ⟨rfl,hBl⟩;have H9:=Lib.hid (H8.out.below hBl);clear hBl)
  | (refine wpList_store_row rfl 32 (.tmp 6) (.tmp 153) rfl (w.heap.size+1) #[.int .i64 r1,.int .i64 r2,.string ⟨#[]⟩] rfl rfl 32 #[.int .i64 0,.int .i64 0,.string ⟨#[]⟩] H9.out.2 info_res rfl (by simp [Value.oneCell']) ?_))
 have hq9:=H.out.2.2.2.2.2 w2 w9 H2.out.1 H2.out.2.2 H9.out
 exact bodyPost_ret (v:=resV r1 r2 ⟨#[]⟩) (results_cellU (fn:=Tryz.f12) Tryz.results12 _ _ (w.heap.size+1) 32 #[.int .i64 r1,.int .i64 r2,.string ⟨#[]⟩] _ rfl hq9.2 Tryz.underlying32 rfl info_res) rfl ((hq9.up (show c+8≤c+10 by omega)).fin H2.out.1 (by omega))
end
end Go.Proofs.YtjpjafajploiaaaGreatDoor
