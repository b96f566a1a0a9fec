/-
  A system's Do, call by call: whose process is not alive; Mkdir.
-/
import Derived.Test.YtjpjafajploiaaaGreatDoorUnixAlone31
import Derived.Test.YtjpjafajploiaaaGreatDoorUnixAlone03
import Derived.Test.YtjpjafajploiaaaGreatDoorUnixAlone41
import Derived.Laws.StructEq
set_option linter.unusedSimpArgs false
set_option linter.unusedVariables false
namespace Go.Proofs.YtjpjafajploiaaaGreatDoor
open Go.RowKit Own RegJ Two
open Go.Lib hiding intOf
section
variable {w0 w w' :World} {O O' :Nat→Prop} {fdb vb tb fb sb pb mb:Nat} {ns ns' :NSt} {c c' N N' :Nat} {S S' :FS} {syb qb qm M M' :Nat} {m m' :PrM}
theorem v_mk [Inhabited CapT] (h:FX w0 O fdb vb tb fb sb pb mb ns c N S w) (hc:c≤9000) (l:Txt) (hl:l.length≤100000) (r:Int) (ns' :NSt) (hr:atPar ns l (mkdirF ns)=(r,ns')) (s:ByteArray) (hs:s=B l):
  Calls Tryz.prog 50 #[.pointer (some ⟨vb,0,none⟩),.string s] w (FP w0 O fdb vb tb fb sb pb mb ns' (c+4) N S w (.int .i64 r)):=by
 subst hs
 obtain ⟨lo,h1,h2,h3,h4,h5,h6,h7,h8⟩:=h
 refine (Mkdir_is h1 hc l hl r _ hr).mono ?_
 rintro e w' ⟨rfl,lo',g1,g2⟩
 exact FX.step h1 h2 h3 h4 h5 h6 h7 h8 g1 g2 _
theorem blk_row {W:World} {b:Nat} {T:TypeId} {old:Array Value} (h:Blk W b old T) (cs:Array Value):Blk (W.setRow b cs) b cs T:=setRow_heap W b old cs T _ h
theorem upd_row (W:World) (b:Nat) (cs:Array Value):Upd (fun k=> k=b) W (W.setRow b cs):=⟨rfl,rfl,rfl,by simp,fun k _ hk=> setRow_other W b k cs hk⟩
theorem info_res:(Tryz.prog.info? 32).map (·.size)=some 3:=by kernel_rfl
theorem info_inf:(Tryz.prog.info? 184).map (·.size)=some 4:=by kernel_rfl
theorem results_cellU {P:Program} {fn:Func} {p:Tmp} {ty:TypeId} (h:fn.results= #[.cell p ty]) (tmps:Array Value) (w:World) (g:Nat) (t:TypeId) (cs:Array Value) (d:TypeDesc)
  (hp:tmps.getD p undef= .pointer (some ⟨g,0,none⟩)) (hg:Blk w g cs t)
  (hu:P.underlying ty=some d) (hd:(match d with | .struct _ | .array _ _=> true | _=> false)=true) (hi:(P.info? ty).map (·.size)=some cs.size):
  (results fn tmps).run P w= .ok (.agg cs) w:=by
 have hp' :tmps[p]?.getD undef= .pointer (some ⟨g,0,none⟩):=by simpa using hp
 simp [results,h,hp',asAddr,run_loadVar_row w g t ty cs _ d hg hu hd hi]
set_option maxRecDepth 100000 in
theorem udo_dead [Inhabited CapT] (h:UX w0 O fdb vb tb fb sb pb mb ns c N S syb qb qm M m w) (pid:Int) (hw:(Lit.int .i64 pid).wf=true) (hd:aliveF m pid=false) (cs:Array Value):
  Calls Tryz.prog 12 #[.pointer (some ⟨syb,0,none⟩),.int .i64 pid,.agg cs] w fun e w' => e= .returned (resV 4 0 ⟨#[]⟩)∧Below w.heap.size w w' :=by
 have hal:Below w.heap.size w ((w.alloc (.cells cs 35)).alloc (.cells #[.int .i64 0,.int .i64 0,.string ⟨#[]⟩] 32)):=((Below.refl _ _).alloc (Nat.le_refl _) _).alloc (by simp) _
 have h1:=h.below hal
 have c3:=h1.sy.rd 3
 have ha:=alive_is h1.pr pid hw false hd
 have hb:Blk ((w.alloc (.cells cs 35)).alloc (.cells #[.int .i64 0,.int .i64 0,.string ⟨#[]⟩] 32)) (w.heap.size+1) #[.int .i64 0,.int .i64 0,.string ⟨#[]⟩] 32:=Blk.new' (by simp)
 have H:=Lib.hid (And.intro hal hb)
 clear h h1 hal hb hw hd
 go_enter Tryz.func12,Tryz.ntmps12
 go_wp2_with (first
  | (go_at_call 22;refine ha.mono ?_;rintro e w1 ⟨rfl,hB⟩;have hk:=Blk.below hB H.out.2 H.out.2.lt;have H1:=Lib.hid (And.intro hB hk);clear hB hk ha)
  | (refine wpList_store_row rfl 32 (.tmp 6) (.tmp 19) rfl (w.heap.size+1) #[.int .i64 4,.int .i64 0,.string ⟨#[]⟩] rfl rfl 32 #[.int .i64 0,.int .i64 0,.string ⟨#[]⟩] H1.out.2 info_res rfl (by simp [Value.oneCell']) ?_))
 have hz:=H.out.1.size
 exact bodyPost_ret (v:=resV 4 0 ⟨#[]⟩) (results_cellU (fn:=Tryz.f12) Tryz.results12 _ _ (w.heap.size+1) 32 #[.int .i64 4,.int .i64 0,.string ⟨#[]⟩] _ rfl (blk_row H1.out.2 _) Tryz.underlying32 rfl info_res) rfl ⟨rfl,(H.out.1.trans (H1.out.1.mono hz)).trans ((upd_row _ _ _).below (by have:=H1.out.1.size;omega) (fun k hk=> by omega))⟩
theorem v_stat [Inhabited CapT] (h:FX w0 O fdb vb tb fb sb pb mb ns c N S w) (l:Txt) (hl:l.length≤100000) (A:Array Value) (r:Int) (hr:statF ns l=(A,r)) (s:ByteArray) (hs:s=B l):
  Calls Tryz.prog 94 #[.pointer (some ⟨vb,0,none⟩),.string s] w fun e w' => e= .returned (.tuple #[.agg A,.int .i64 r])∧Below w.heap.size w w' :=by
 subst hs
 obtain ⟨lo,h1,h2⟩:=h
 exact Stat_is h1 l hl A r hr
theorem UX.beside [Inhabited CapT] {F:Nat→Prop} (h:UX w0 O fdb vb tb fb sb pb mb ns c N S syb qb qm M m w) (hu:Upd F w w') (hF:∀k,F k→w0.heap.size≤k∧¬O k∧k≠vb∧k≠syb∧k≠qb∧k≠qm):UX w0 O fdb vb tb fb sb pb mb ns c N S syb qb qm M m w' :=
 ⟨h.fx.beside' h.mc hu (fun k hk=> ⟨(hF k hk).1,(hF k hk).2.1,(hF k hk).2.2.1⟩),Blk.upd hu h.sy (fun hk=> (hF _ hk).2.2.2.1 rfl),h.pr.upd hu (fun hk=> (hF _ hk).2.2.2.2.1 rfl) (fun hk=> (hF _ hk).2.2.2.2.2 rfl),h.lo,h.no,h.ne,h.mc⟩
theorem UX.news [Inhabited CapT] (h:UX w0 O fdb vb tb fb sb pb mb ns c N S syb qb qm M m w):w0.heap.size≤w.heap.size∧(∀k,O k→k < w.heap.size)∧vb < w.heap.size∧syb < w.heap.size∧qb < w.heap.size∧qm < w.heap.size:=by
 obtain ⟨l1,l2⟩:=h.pr.lt
 refine ⟨h.fx.bel.size,fun k hk=> (h.fx.rng k hk).2,?_,h.sy.lt,l1,l2⟩
 obtain ⟨lo,h1,_⟩:=h.fx
 obtain ⟨q1,q2,q3⟩:=h1.lts
 omega
theorem UX.call [Inhabited CapT] (h:UX w0 O fdb vb tb fb sb pb mb ns c N S syb qb qm M m w) (cs zs:Array Value) (T T' :TypeId):Below w.heap.size w ((w.alloc (.cells cs T)).alloc (.cells zs T'))∧UX w0 O fdb vb tb fb sb pb mb ns c N S syb qb qm M m ((w.alloc (.cells cs T)).alloc (.cells zs T'))∧Blk ((w.alloc (.cells cs T)).alloc (.cells zs T')) w.heap.size cs T∧Blk ((w.alloc (.cells cs T)).alloc (.cells zs T')) (w.heap.size+1) zs T' :=by
 have hal:Below w.heap.size w ((w.alloc (.cells cs T)).alloc (.cells zs T')):=((Below.refl _ _).alloc (Nat.le_refl _) _).alloc (by simp) _
 exact ⟨hal,h.below hal,(Blk.new w _ _).alloc _,Blk.new' (by simp)⟩
theorem below_dr (w:World):Below w.heap.size w w.drew:=⟨rfl,rfl,rfl,Nat.le_refl _,fun _ _=> rfl⟩
open RegF in
set_option maxRecDepth 100000 in
set_option maxHeartbeats 2000000 in
theorem ustat_root [Inhabited CapT] (h:UX w0 O fdb vb tb fb sb pb mb ns c N S syb qb qm M m w) (l:Txt) (hl:l.length≤100000) (hA:statF ns l=(#[.int .i64 0,.int .i64 0,.bool true,.int .i64 1],0)) (s:ByteArray) (hs:s=B l) (sys a bq:Int) (t:ByteArray):
  Calls Tryz.prog 53 #[.pointer (some ⟨syb,0,none⟩),.agg #[.int .i64 sys,.int .i64 a,.int .i64 bq,.string s,.string t]] w fun e w' => e= .returned (resV 0 1001 ⟨#[]⟩)∧Below w.heap.size w w' :=by
 obtain ⟨hal,h2,hcb,hb⟩:=h.call #[.int .i64 sys,.int .i64 a,.int .i64 bq,.string s,.string t] #[.int .i64 0,.int .i64 0,.string ⟨#[]⟩] 35 32
 obtain ⟨W9,hW9⟩:∃W9,((w.alloc (.cells #[.int .i64 sys,.int .i64 a,.int .i64 bq,.string s,.string t] 35)).alloc (.cells #[.int .i64 0,.int .i64 0,.string ⟨#[]⟩] 32)).drew=W9:=⟨_,rfl⟩
 have hd9:=below_dr ((w.alloc (.cells #[.int .i64 sys,.int .i64 a,.int .i64 bq,.string s,.string t] 35)).alloc (.cells #[.int .i64 0,.int .i64 0,.string ⟨#[]⟩] 32))
 rw [hW9] at hd9
 have h9:=hal.trans (hd9.mono hal.size)
 have hb9:=Blk.below hd9 hb hb.lt
 have hc9:=Blk.below hd9 hcb hcb.lt
 have hu9:=h2.below hd9
 have hst:=fun w1 (hB:Below W9.heap.size W9 w1)=> v_stat (hu9.fx.below hB) l hl _ 0 hA s hs
 have HS:=Lib.hid (And.intro hst (And.intro hu9.sy (And.intro hc9 (And.intro hb9 h9))))
 clear h hal hb hcb hb9 hc9 hu9 hst h9 hA hs h2 hd9
 go_enter Tryz.func53,Tryz.ntmps53
 go_upto_region 1 with (fail)
 refine region_E (LJ W9 10 11 5 #[.int .i64 0,.int .i64 0,.bool false,.int .i64 0] #[.int .i64 0,.int .i64 0,.bool true,.int .i64 1] 184) [Is 31 (some 9) (.pointer (some ⟨syb,0,none⟩)),Is 31 (some 10) (.pointer (some ⟨syb,0,none⟩)),Is 31 (some 11) (.pointer (some ⟨syb,1,none⟩)),Is 31 (some 12) (.pointer (some ⟨vb,0,none⟩)),Is 31 (some 13) (.pointer (some ⟨w.heap.size,3,none⟩)),Is 31 (some 14) (.string s),Is 31 (some 15) (.tuple #[.agg #[.int .i64 0,.int .i64 0,.bool true,.int .i64 1],.int .i64 0]),Is 31 (some 8) (.tuple #[.agg #[.int .i64 0,.int .i64 0,.bool true,.int .i64 1],.int .i64 0]),Is 31 (some 16) (.agg #[.int .i64 0,.int .i64 0,.bool true,.int .i64 1]),Is 31 (some 17) (.int .i64 0),(fun u=> ∃b5:Nat,u= .pointer (some ⟨b5,0,none⟩)),Is 31 (none) (undef),Is 31 (some 6) (.int .i64 0)] (by kernel_rfl) (by kernel_rfl) (LJ.start _ hW9) ?_
 iterate 3
  apply wpE_op (by rfl) (by rfl) (by rfl)
  ·intro f a' w' ha hf hJ Q1 hQ
   simp only [nrm] at hQ
   go_wp2
   exact hQ _ _ rfl (hJ.put rfl rfl (slot_put_ne (a:=a') (by decide) _))
  simp only [nrm]
 apply wpE_op (by rfl) (by rfl) (by rfl)
 ·intro f a' w' ha hf hJ Q1 hQ
  have hbw:=hJ.1
  have c1:=(Blk.below hbw HS.out.2.1 HS.out.2.1.lt).rd 1
  simp only [nrm] at hQ
  go_wp2
  exact hQ _ _ rfl (hJ.put rfl rfl (slot_put_ne (a:=a') (by decide) _))
 simp only [nrm]
 apply wpE_op (by rfl) (by rfl) (by rfl)
 ·intro f a' w' ha hf hJ Q1 hQ
  simp only [nrm] at hQ
  go_wp2
  exact hQ _ _ rfl (hJ.put rfl rfl (slot_put_ne (a:=a') (by decide) _))
 simp only [nrm]
 apply wpE_op (by rfl) (by rfl) (by rfl)
 ·intro f a' w' ha hf hJ Q1 hQ
  have hbw:=hJ.1
  have c2:=(Blk.below hbw HS.out.2.2.1 HS.out.2.2.1.lt).rd 3
  simp only [nrm] at hQ
  go_wp2
  exact hQ _ _ rfl (hJ.put rfl rfl (slot_put_ne (a:=a') (by decide) _))
 simp only [nrm]
 apply wpE_op (by rfl) (by rfl) (by rfl)
 ·intro f a' w' ha hf hJ Q1 hQ
  have hbw:=hJ.1
  simp only [nrm] at hQ
  go_wp2_with (go_at_call 94;refine (HS.out.1 _ hbw).mono ?_;rintro e w8 ⟨rfl,hBc⟩)
  exact hQ _ _ rfl (hJ.call rfl rfl (slot_put_ne (a:=a') (by decide) _) hBc)
 iterate 3
  simp only [nrm]
  apply wpE_op (by rfl) (by rfl) (by rfl)
  ·intro f a' w' ha hf hJ Q1 hQ
   simp only [nrm] at hQ
   go_wp2
   exact hQ _ _ rfl (hJ.put rfl rfl (slot_put_ne (a:=a') (by decide) _))
 simp only [nrm]
 apply wpE_any (d:=5) rfl (by simp) ⟨_,0,rfl⟩ (by rfl)
 ·intro f a' w' ha hf hJ Q1 hQ
  have hsz:5 < a'.tmps.size:=by rw [ha.1];simp
  have o11:f 11=false:=by
   cases h5:f 11 with
   | false=> rfl
   | true=> exact absurd ((hf.1.1).symm.trans (hf.2.step 11 10 rfl (by kernel_rfl) h5)) (by decide)
  simp only [nrm] at hQ
  go_wp2
  exact hQ _ _ _ rfl ⟨_,rfl⟩ (hJ.alloc rfl o11 (slot_put (a:=a') hsz _))
 rintro _ ⟨b5,rfl⟩
 simp only [nrm]
 apply wpE_op (v:=undef) (by rfl) (by rfl) (by rfl)
 ·intro f a' w' ha hf hJ Q1 hQ
  have on:f 10=true:=hf.1.2 ⟨10,.data⟩ (by simp) rfl
  have e3:slot a' 5= .pointer (some ⟨b5,0,none⟩):=by
   have:=ha.2 5 (by decide)
   simp only [slot,Array.getD_eq_getD_getElem?,this];rfl
  obtain ⟨hbl,hBl⟩:=hJ.at' on e3
  rw [hf.1.1] at hBl
  simp only [nrm] at hQ
  go_wp2_with (refine wpList_store_row rfl 184 (.tmp 5) (.tmp 16) rfl b5 #[.int .i64 0,.int .i64 0,.bool true,.int .i64 1] rfl rfl 184 #[.int .i64 0,.int .i64 0,.bool false,.int .i64 0] hBl info_inf rfl (by simp [Value.oneCell']) ?_)
  exact hQ _ _ rfl (hJ.store rfl rfl rfl on e3 (blk_row hBl _) (upd_row _ _ _))
 simp only [nrm]
 apply wpE_op (by rfl) (by rfl) (by rfl)
 ·intro f a' w' ha hf hJ Q1 hQ
  simp only [nrm] at hQ
  go_wp2
  exact hQ _ _ rfl (hJ.put rfl rfl (slot_put_ne (a:=a') (by decide) _))
 simp only [nrm]
 refine wpE_nil ?_
 intro w4 hJ4
 obtain ⟨hb5,hB5⟩:=hJ4.at' rfl (b:=b5) rfl
 have hbw4:=hJ4.1
 clear hJ4
 have HW:=Lib.hid hbw4
 have c5:=hB5.rd
 have hk4:=Blk.below hbw4 HS.out.2.2.2.1 HS.out.2.2.2.1.lt
 have HK:=Lib.hid hk4
 clear hbw4 hb5 hB5 hk4
 go_wp2_with (first
  | (go_at_call 41;refine (plain_is 1001 0 0 1001 rfl _).mono ?_;rintro e w5 ⟨rfl,hBp⟩;have H5:=Lib.hid (And.intro hBp (Blk.below hBp HK.out HK.out.lt));clear hBp)
  | (refine wpList_store_row rfl 32 (.tmp 4) (.tmp 30) rfl (w.heap.size+1) #[.int .i64 0,.int .i64 1001,.string ⟨#[]⟩] rfl rfl 32 #[.int .i64 0,.int .i64 0,.string ⟨#[]⟩] H5.out.2 info_res rfl (by simp [Value.oneCell']) ?_))
 have z9:=HS.out.2.2.2.2
 have hz:=z9.size
 have z4:=z9.trans (HW.out.mono hz)
 have hz4:=z4.size
 exact bodyPost_ret (v:=resV 0 1001 ⟨#[]⟩) (results_cellU (fn:=Tryz.f53) Tryz.results53 _ _ (w.heap.size+1) 32 #[.int .i64 0,.int .i64 1001,.string ⟨#[]⟩] _ rfl (blk_row H5.out.2 _) Tryz.underlying32 rfl info_res) rfl ⟨rfl,(z4.trans (H5.out.1.mono hz4)).trans ((upd_row _ _ _).below (by have:=H5.out.1.size;omega) (fun k hk=> by omega))⟩
set_option maxRecDepth 100000 in
set_option maxHeartbeats 2000000 in
theorem udo_stat [Inhabited CapT] (h:UX w0 O fdb vb tb fb sb pb mb ns c N S syb qb qm M m w) (pid:Int) (hw:(Lit.int .i64 pid).wf=true) (hd:aliveF m pid=true) (l:Txt) (hl:l.length≤100000) (hA:statF ns l=(#[.int .i64 0,.int .i64 0,.bool true,.int .i64 1],0)) (s:ByteArray) (hs:s=B l) (a bq:Int) (t:ByteArray) (hm:mayB 12 a bq s t=true):
  Calls Tryz.prog 12 #[.pointer (some ⟨syb,0,none⟩),.int .i64 pid,.agg #[.int .i64 12,.int .i64 a,.int .i64 bq,.string s,.string t]] w fun e w' => e= .returned (resV 0 1001 ⟨#[]⟩)∧Below w.heap.size w w' :=by
 obtain ⟨hal,h2,hcb,hb⟩:=h.call #[.int .i64 12,.int .i64 a,.int .i64 bq,.string s,.string t] #[.int .i64 0,.int .i64 0,.string ⟨#[]⟩] 35 32
 have c3:=h2.sy.rd 3
 have ha:=alive_is h2.pr pid hw true hd
 have hst:=fun w1 (hB:Below w.heap.size w w1)=> ustat_root (h.below hB) l hl hA s hs 12 a bq t
 have hma:=fun w1=> may_any 12 a bq s t w1
 simp only [hm] at hma
 have H:=Lib.hid (And.intro hal (And.intro hcb (And.intro hb hst)))
 clear h h2 hal hb hcb hw hd hst hA hs hm
 go_enter Tryz.func12,Tryz.ntmps12
 go_wp2_with (first
  | (go_at_call 22;refine ha.mono ?_;rintro e w1 ⟨rfl,hB⟩;have q1:=(Blk.below hB H.out.2.1 H.out.2.1.lt).rd;have H1:=Lib.hid (And.intro (H.out.1.trans (hB.mono H.out.1.size)) (And.intro (Blk.below hB H.out.2.1 H.out.2.1.lt) (Blk.below hB H.out.2.2.1 H.out.2.2.1.lt)));clear hB ha)
  | (go_at_call 40;refine (hma _).mono ?_;rintro e w2 ⟨rfl,hB⟩;have q2:=(Blk.below hB H1.out.2.1 H1.out.2.1.lt).rd;have H2:=Lib.hid (And.intro (H1.out.1.trans (hB.mono H1.out.1.size)) (And.intro (Blk.below hB H1.out.2.1 H1.out.2.1.lt) (Blk.below hB H1.out.2.2 H1.out.2.2.lt)));clear hB hma q1)
  | (go_at_call 53;refine (H.out.2.2.2 _ H2.out.1).mono ?_;rintro e w3 ⟨rfl,hB⟩;have H3:=Lib.hid (And.intro (H2.out.1.trans (hB.mono H2.out.1.size)) (Blk.below hB H2.out.2.2 H2.out.2.2.lt));clear hB q2)
  | (refine wpList_store_row rfl 32 (.tmp 6) (.tmp 158) rfl (w.heap.size+1) #[.int .i64 0,.int .i64 1001,.string ⟨#[]⟩] rfl rfl 32 #[.int .i64 0,.int .i64 0,.string ⟨#[]⟩] H3.out.2 info_res rfl (by simp [Value.oneCell']) ?_))
 have hz:=H3.out.1.size
 exact bodyPost_ret (v:=resV 0 1001 ⟨#[]⟩) (results_cellU (fn:=Tryz.f12) Tryz.results12 _ _ (w.heap.size+1) 32 #[.int .i64 0,.int .i64 1001,.string ⟨#[]⟩] _ rfl (blk_row H3.out.2 _) Tryz.underlying32 rfl info_res) rfl ⟨rfl,H3.out.1.trans ((upd_row _ _ _).below hz (fun k hk=> by omega))⟩
set_option maxRecDepth 100000 in
set_option maxHeartbeats 4000000 in
theorem udo_mk [Inhabited CapT] (h:UX w0 O fdb vb tb fb sb pb mb ns c N S syb qb qm M m w) (hc:c≤9000) (pid:Int) (hw:(Lit.int .i64 pid).wf=true) (hd:aliveF m pid=true) (l:Txt) (hl:l.length≤100000) (r r1 r2:Int) (hA:atPar ns l (mkdirF ns)=(r,ns')) (hr:(if r=0 then ((0:Int),(0:Int)) else (r,0))=(r1,r2)) (s:ByteArray) (hs:s=B l) (a bq:Int) (t:ByteArray) (hm:mayB 9 a bq s t=true):
  Calls Tryz.prog 12 #[.pointer (some ⟨syb,0,none⟩),.int .i64 pid,.agg #[.int .i64 9,.int .i64 a,.int .i64 bq,.string s,.string t]] w (UP w0 O fdb vb tb fb sb pb mb ns' (c+4) N S syb qb qm M m w (resV r1 r2 ⟨#[]⟩)):=by
 obtain ⟨hal,h2,hcb,hb⟩:=h.call #[.int .i64 9,.int .i64 a,.int .i64 bq,.string s,.string t] #[.int .i64 0,.int .i64 0,.string ⟨#[]⟩] 35 32
 have c3:=h2.sy.rd 3
 have ha:=alive_is h2.pr pid hw true hd
 have hma:=fun w1=> may_any 9 a bq s t w1
 simp only [hm] at hma
 have H:=Lib.hid (And.intro hal (And.intro hcb (And.intro hb (And.intro h (And.intro hc (And.intro hl (And.intro hA hs)))))))
 clear h h2 hal hb hcb hw hd hA hs hm hc hl
 go_enter Tryz.func12,Tryz.ntmps12
 go_upto_region 25 with (first
  | (go_at_call 22;refine ha.mono ?_;rintro e w1 ⟨rfl,hB⟩;have q1:=(Blk.below hB H.out.2.1 H.out.2.1.lt).rd;have H1:=Lib.hid (And.intro (H.out.1.trans (hB.mono H.out.1.size)) (And.intro (Blk.below hB H.out.2.1 H.out.2.1.lt) (Blk.below hB H.out.2.2.1 H.out.2.2.1.lt)));clear hB ha)
  | (go_at_call 40;refine (hma _).mono ?_;rintro e w2 ⟨rfl,hB⟩;have q2:=(Blk.below hB H1.out.2.1 H1.out.2.1.lt).rd;have H2:=Lib.hid (And.intro (H1.out.1.trans (hB.mono H1.out.1.size)) (And.intro (Blk.below hB H1.out.2.1 H1.out.2.1.lt) (Blk.below hB H1.out.2.2 H1.out.2.2.lt)));clear hB hma q1))
 obtain ⟨-,-,-,hX,hc,hl,hA,hs⟩:=H.out
 obtain ⟨hB2,hcb2,hrb2⟩:=H2.out
 obtain ⟨W9,hW9⟩:∃W9,w2.drew=W9:=⟨_,rfl⟩
 have hd9:=below_dr w2
 rw [hW9] at hd9
 have h9:=hB2.trans (hd9.mono hB2.size)
 have hX9:=hX.below h9
 obtain ⟨k0,k1,k2,k3,k4,k5⟩:=hX.news
 have hz9:=h9.size
 have hrlt:=(Blk.below hd9 hrb2 hrb2.lt).lt
 obtain ⟨RQ,hRQ⟩:∃RQ:World→Prop,RQ=fun w8=> (Upd O W9 w8∧∃O8,UX w0 O8 fdb vb tb fb sb pb mb ns' (c+4) N S syb qb qm M m w8∧∀k,O8 k→O k∨W9.heap.size≤k)∧Blk w8 (w.heap.size+1) #[.int .i64 0,.int .i64 0,.string ⟨#[]⟩] 32:=⟨_,rfl⟩
 obtain ⟨RF,hRF⟩:∃RF:World→Prop,RF=fun w8=> (Upd (fun k=> O k∨k=w.heap.size+1) W9 w8∧∃O8,UX w0 O8 fdb vb tb fb sb pb mb ns' (c+4) N S syb qb qm M m w8∧∀k,O8 k→O k∨W9.heap.size≤k)∧Blk w8 (w.heap.size+1) #[.int .i64 r1,.int .i64 r2,.string ⟨#[]⟩] 32:=⟨_,rfl⟩
 have hmk:Calls Tryz.prog 50 #[.pointer (some ⟨vb,0,none⟩),.string s] W9 fun e w8=> e= .returned (.int .i64 r)∧RQ w8:=by
  refine (v_mk hX9.fx hc l hl r ns' hA s hs).mono ?_
  rintro e w8 ⟨rfl,hU,O8,hF,hO⟩
  rw [hRQ]
  exact ⟨rfl,⟨hU,O8,hX9.step hU hF hO,hO⟩,Blk.upd hU (Blk.below hd9 hrb2 hrb2.lt) (fun hk=> by have:=k1 _ hk;omega)⟩
 have hpl:∀w1 w8,RQ w1→Below w1.heap.size w1 w8→RQ w8:=by
  rw [hRQ]
  rintro w1 w8 ⟨⟨hU,O8,hF,hO⟩,hk⟩ hB
  exact ⟨⟨hU.trans (Upd.of_below (F:=O) hB) (fun _ _ h=> h),O8,hF.below hB,hO⟩,Blk.below hB hk hk.lt⟩
 have hrw:∀w1,RQ w1→Blk w1 (w.heap.size+1) #[.int .i64 0,.int .i64 0,.string ⟨#[]⟩] 32:=by
  rw [hRQ]
  exact fun w1 h=> h.2
 have hst:∀w1,RQ w1→RF (w1.setRow (w.heap.size+1) #[.int .i64 r1,.int .i64 r2,.string ⟨#[]⟩]):=by
  rw [hRQ,hRF]
  rintro w1 ⟨⟨hU,O8,hF,hO⟩,hk⟩
  refine ⟨⟨(hU.mono (fun _ _ h=> .inl h)).trans (upd_row _ _ _) (fun _ _ h=> .inr h),O8,hF.beside (upd_row _ _ _) (fun k e=> ?_),hO⟩,blk_row hk _⟩
  subst e
  exact ⟨by omega,fun hk=> by rcases hO _ hk with h | h;(have:=k1 _ h;omega);omega,by omega,by omega,by omega,by omega⟩
 have HM:=Lib.hid (And.intro hmk (And.intro hpl (And.intro hrw (And.intro hst (And.intro hX9.sy (Blk.below hd9 hcb2 hcb2.lt))))))
 have HF:=Lib.hid (And.intro hRF (And.intro h9 (And.intro k1 k0)))
 clear hX hc hl hA hs hB2 hcb2 hrb2 hd9 h9 hX9 k0 k1 k2 k3 k4 k5 hz9 hrlt hmk hpl hrw hst hRQ hRF q2
 refine region_U 6 7 8 W9 RQ RQ RF hW9 (by kernel_rfl) (by kernel_rfl) ?_
 iterate 3
  apply wpJ_op rfl (by rfl)
  ·intro f w1 hf hJ Q1 hQ
   simp only [nrm] at hQ
   go_wp2_with (fail)
   exact hQ _ _ rfl (hJ.other rfl hf (by decide) (by decide) (by decide))
  simp only [nrm]
 apply wpJ_op rfl (by rfl)
 ·intro f w1 hf hJ Q1 hQ
  have hA:f 6=false:=path_no hJ.1 [3] (by kernel_rfl) (by decide) hf.1
  have hB:f 7=false:=path_no hJ.1 [6] (by kernel_rfl) (by decide) hA
  have hS:f 8=false:=path_no hJ.1 [7] (by kernel_rfl) (by decide) hB
  rw [hJ.atA hA hB hS]
  have c1:=HM.out.2.2.2.2.1.rd 1
  simp only [nrm] at hQ
  go_wp2_with (fail)
  exact hQ _ _ rfl (by have h9:=hJ.other rfl hf (by decide) (by decide) (by decide);rwa [hJ.atA hA hB hS] at h9)
 simp only [nrm]
 apply wpJ_op rfl (by rfl)
 ·intro f w1 hf hJ Q1 hQ
  simp only [nrm] at hQ
  go_wp2_with (fail)
  exact hQ _ _ rfl (hJ.other rfl hf (by decide) (by decide) (by decide))
 simp only [nrm]
 apply wpJ_op rfl (by rfl)
 ·intro f w1 hf hJ Q1 hQ
  have hA:f 6=false:=path_no hJ.1 [5] (by kernel_rfl) (by decide) hf.1
  have hB:f 7=false:=path_no hJ.1 [6] (by kernel_rfl) (by decide) hA
  have hS:f 8=false:=path_no hJ.1 [7] (by kernel_rfl) (by decide) hB
  rw [hJ.atA hA hB hS]
  have c2:=HM.out.2.2.2.2.2.rd 3
  simp only [nrm] at hQ
  go_wp2_with (fail)
  exact hQ _ _ rfl (by have h9:=hJ.other rfl hf (by decide) (by decide) (by decide);rwa [hJ.atA hA hB hS] at h9)
 simp only [nrm]
 apply wpJ_op rfl (by rfl)
 ·intro f w1 hf hJ Q1 hQ
  have hB:f 7=false:=path_no hJ.1 [6] (by kernel_rfl) (by decide) hf.1
  have hS:f 8=false:=path_no hJ.1 [7] (by kernel_rfl) (by decide) hB
  rw [hJ.atA hf.1 hB hS]
  simp only [nrm] at hQ
  go_wp2_with (go_at_call 50;refine HM.out.1.mono ?_;rintro e w8 ⟨rfl,hq⟩)
  exact hQ _ _ rfl (hJ.goA rfl hf hB hS (by decide) (by decide) hq)
 simp only [nrm]
 apply wpJ_op rfl (by rfl)
 ·intro f w1 hf hJ Q1 hQ
  have hS:f 8=false:=path_no hJ.1 [7] (by kernel_rfl) (by decide) hf.1
  have hA:f 6=true:=up_dep hf 6 (by kernel_rfl)
  have hR1:=hJ.atB hA hf.1 hS
  simp only [nrm] at hQ
  go_wp2_with (go_at_call 41;refine (plain_is 0 r r1 r2 hr w1).mono ?_;rintro e w8 ⟨rfl,hBl⟩;have hq:=HM.out.2.1 _ _ hR1 hBl)
  exact hQ _ _ rfl (hJ.goB rfl hf hS (by decide) hq)
 simp only [nrm]
 apply wpJ_op (v:=undef) rfl (by rfl)
 ·intro f w1 hf hJ Q1 hQ
  have hB:f 7=true:=up_dep hf 7 (by kernel_rfl)
  have hR1:=hJ.atS hB hf.1
  simp only [nrm] at hQ
  go_wp2_with (refine wpList_store_row rfl 32 (.tmp 6) (.tmp 132) rfl (w.heap.size+1) #[.int .i64 r1,.int .i64 r2,.string ⟨#[]⟩] rfl rfl 32 #[.int .i64 0,.int .i64 0,.string ⟨#[]⟩] (HM.out.2.2.1 _ hR1) info_res rfl (by simp [Value.oneCell']) ?_)
  exact hQ _ _ rfl (hJ.goS rfl hf (HM.out.2.2.2.1 _ hR1))
 simp only [nrm]
 refine wpJ_nil ?_
 intro w9 hJ9
 have hq9:=hJ9.fin rfl
 clear hJ9
 obtain ⟨hRF,h9,k1,k0⟩:=HF.out
 rw [hRF] at hq9
 obtain ⟨⟨hU,O8,hX8,hO⟩,hk⟩:=hq9
 have hz9:=h9.size
 go_wp2_with (fail)
 refine bodyPost_ret (v:=resV r1 r2 ⟨#[]⟩) (results_cellU (fn:=Tryz.f12) Tryz.results12 _ _ (w.heap.size+1) 32 #[.int .i64 r1,.int .i64 r2,.string ⟨#[]⟩] _ rfl hk Tryz.underlying32 rfl info_res) rfl ⟨rfl,(Upd.of_below h9).trans hU (fun k hk h=> ?_),O8,hX8,fun k hk=> (hO k hk).imp id (fun h=> by omega)⟩
 rcases h with h | h
 ·exact .inl h
 ·omega
end
end Go.Proofs.YtjpjafajploiaaaGreatDoor
