/-
  Do: who is refused; Pid, Child.
-/
import Derived.Test.YtjpjafajploiaaaGreatDoorUnixAlone44
set_option linter.unusedSimpArgs false
set_option linter.unusedVariables false
namespace Go.Proofs.YtjpjafajploiaaaGreatDoor
open Go.RowKit Own RegJ Two
open Go.Lib hiding intOf
section
variable {cap:Nat} {w0 w w1 w2 w' W9 w8:World} {O O' O1:Nat→Prop} {fdb vb tb fb sb pb mb c c' :Nat} {z z' :Z} {syb qb qm n s rb:Nat} {m m' :PrM} {cs zs:Array Value}
theorem UZP.stored {v:Value} (h:UZ cap w0 O fdb vb tb fb sb pb mb c z syb qb qm m w) (hB:Below w.heap.size w w1) (hr:w.heap.size≤rb) (cs:Array Value) (hc:c≤c'):UZP cap w0 O fdb vb tb fb sb pb mb c' z syb qb qm m w v (.returned v) (w1.setRow rb cs):=
 UZP.same h hc (hB.trans ((upd_row _ _ _).below hB.size (fun k hk=> by omega))) _
set_option maxRecDepth 100000 in
set_option maxHeartbeats 4000000 in
theorem zudo_dead (h:UZ cap w0 O fdb vb tb fb sb pb mb c z syb qb qm m w) (pid:Int) (hw:(Lit.int .i64 pid).wf=true) (hd:aliveF m pid=false) (sys a bq:Int) (s t:ByteArray):
  Calls Tryz.prog 12 #[.pointer (some ⟨syb,0,none⟩),.int .i64 pid,.agg #[.int .i64 sys,.int .i64 a,.int .i64 bq,.string s,.string t]] w (UZP cap w0 O fdb vb tb fb sb pb mb (c+10) z syb qb qm m w (.agg #[.int .i64 4,.int .i64 0,.string ⟨#[]⟩])):=by
 obtain ⟨hal,h2,hcb,hb⟩:=h.call #[.int .i64 sys,.int .i64 a,.int .i64 bq,.string s,.string t] #[.int .i64 0,.int .i64 0,.string ⟨#[]⟩] 35 32
 have c3:=h2.sy.rd 3
 have ha:=alive_is h2.pr.b pid hw false hd
 have H:=Lib.hid (And.intro hal (And.intro hcb (And.intro hb (And.intro h hw))))
 clear h h2 hal hb hcb hw hd
 go_enter Tryz.func12,Tryz.ntmps12
 go_wp2_with (first
  | (go_at_call 22;refine ha.mono ?_;rintro e w1 ⟨rfl,hB⟩;have q1:=(Blk.below hB H.out.2.1 H.out.2.1.lt).rd;have H1:=Lib.hid (And.intro (H.out.1.trans (hB.mono H.out.1.size)) (And.intro (Blk.below hB H.out.2.1 H.out.2.1.lt) (Blk.below hB H.out.2.2.1 H.out.2.2.1.lt)));clear hB ha)
  | (refine wpList_store_row rfl 32 (.tmp 6) (.tmp 19) rfl (w.heap.size+1) #[.int .i64 4,.int .i64 0,.string ⟨#[]⟩] rfl rfl 32 #[.int .i64 0,.int .i64 0,.string ⟨#[]⟩] H1.out.2.2 info_res rfl (by simp [Value.oneCell']) ?_))
 exact bodyPost_ret (v:= .agg #[.int .i64 4,.int .i64 0,.string ⟨#[]⟩]) (results_cellU (fn:=Tryz.f12) Tryz.results12 _ _ (w.heap.size+1) 32 #[.int .i64 4,.int .i64 0,.string ⟨#[]⟩] _ rfl (blk_row H1.out.2.2 _) Tryz.underlying32 rfl info_res) rfl (UZP.stored H.out.2.2.2.1 H1.out.1 (by omega) _ (by omega))
set_option maxRecDepth 100000 in
set_option maxHeartbeats 4000000 in
theorem zudo_bad (h:UZ cap w0 O fdb vb tb fb sb pb mb c z syb qb qm m w) (pid:Int) (hw:(Lit.int .i64 pid).wf=true) (hd:aliveF m pid=true) (sys a bq:Int) (s t:ByteArray) (hm:mayB sys a bq s t=false):
  Calls Tryz.prog 12 #[.pointer (some ⟨syb,0,none⟩),.int .i64 pid,.agg #[.int .i64 sys,.int .i64 a,.int .i64 bq,.string s,.string t]] w (UZP cap w0 O fdb vb tb fb sb pb mb (c+10) z syb qb qm m w (.agg #[.int .i64 19,.int .i64 0,.string ⟨#[]⟩])):=by
 obtain ⟨hal,h2,hcb,hb⟩:=h.call #[.int .i64 sys,.int .i64 a,.int .i64 bq,.string s,.string t] #[.int .i64 0,.int .i64 0,.string ⟨#[]⟩] 35 32
 have c3:=h2.sy.rd 3
 have ha:=alive_is h2.pr.b pid hw true hd
 have hma:=fun w1=> may_any sys a bq s t w1
 simp only [hm] at hma
 clear hm
 have H:=Lib.hid (And.intro hal (And.intro hcb (And.intro hb (And.intro h hw))))
 clear h h2 hal hb hcb hw hd
 go_enter Tryz.func12,Tryz.ntmps12
 go_wp2_with (first
  | (go_at_call 22;refine ha.mono ?_;rintro e w1 ⟨rfl,hB⟩;have q1:=(Blk.below hB H.out.2.1 H.out.2.1.lt).rd;have H1:=Lib.hid (And.intro (H.out.1.trans (hB.mono H.out.1.size)) (And.intro (Blk.below hB H.out.2.1 H.out.2.1.lt) (Blk.below hB H.out.2.2.1 H.out.2.2.1.lt)));clear hB ha)
  | (go_at_call 40;refine (hma _).mono ?_;rintro e w2 ⟨rfl,hB⟩;have q2:=(Blk.below hB H1.out.2.1 H1.out.2.1.lt).rd;have c9:=(H.out.2.2.2.1.below (H1.out.1.trans (hB.mono H1.out.1.size))).sy.rd;have H2:=Lib.hid (And.intro (H1.out.1.trans (hB.mono H1.out.1.size)) (And.intro (Blk.below hB H1.out.2.1 H1.out.2.1.lt) (Blk.below hB H1.out.2.2 H1.out.2.2.lt)));clear hB hma q1)
  | (refine wpList_store_row rfl 32 (.tmp 6) (.tmp 24) rfl (w.heap.size+1) #[.int .i64 19,.int .i64 0,.string ⟨#[]⟩] rfl rfl 32 #[.int .i64 0,.int .i64 0,.string ⟨#[]⟩] H2.out.2.2 info_res rfl (by simp [Value.oneCell']) ?_))
 exact bodyPost_ret (v:= .agg #[.int .i64 19,.int .i64 0,.string ⟨#[]⟩]) (results_cellU (fn:=Tryz.f12) Tryz.results12 _ _ (w.heap.size+1) 32 #[.int .i64 19,.int .i64 0,.string ⟨#[]⟩] _ rfl (blk_row H2.out.2.2 _) Tryz.underlying32 rfl info_res) rfl (UZP.stored H.out.2.2.2.1 H2.out.1 (by omega) _ (by omega))
set_option maxRecDepth 100000 in
set_option maxHeartbeats 4000000 in
theorem zudo_no14 (h:UZ cap w0 O fdb vb tb fb sb pb mb c z syb qb qm m w) (pid:Int) (hw:(Lit.int .i64 pid).wf=true) (hd:aliveF m pid=true) (a bq:Int) (s t:ByteArray) (hm:mayB 14 a bq s t=true):
  Calls Tryz.prog 12 #[.pointer (some ⟨syb,0,none⟩),.int .i64 pid,.agg #[.int .i64 14,.int .i64 a,.int .i64 bq,.string s,.string t]] w (UZP cap w0 O fdb vb tb fb sb pb mb (c+10) z syb qb qm m w (.agg #[.int .i64 19,.int .i64 0,.string ⟨#[]⟩])):=by
 obtain ⟨hal,h2,hcb,hb⟩:=h.call #[.int .i64 14,.int .i64 a,.int .i64 bq,.string s,.string t] #[.int .i64 0,.int .i64 0,.string ⟨#[]⟩] 35 32
 have c3:=h2.sy.rd 3
 have ha:=alive_is h2.pr.b pid hw true hd
 have hma:=fun w1=> may_any 14 a bq s t w1
 simp only [hm] at hma
 clear hm
 have H:=Lib.hid (And.intro hal (And.intro hcb (And.intro hb (And.intro h hw))))
 clear h h2 hal hb hcb hw hd
 go_enter Tryz.func12,Tryz.ntmps12
 go_wp2_with (first
  | (go_at_call 22;refine ha.mono ?_;rintro e w1 ⟨rfl,hB⟩;have q1:=(Blk.below hB H.out.2.1 H.out.2.1.lt).rd;have H1:=Lib.hid (And.intro (H.out.1.trans (hB.mono H.out.1.size)) (And.intro (Blk.below hB H.out.2.1 H.out.2.1.lt) (Blk.below hB H.out.2.2.1 H.out.2.2.1.lt)));clear hB ha)
  | (go_at_call 40;refine (hma _).mono ?_;rintro e w2 ⟨rfl,hB⟩;have q2:=(Blk.below hB H1.out.2.1 H1.out.2.1.lt).rd;have c9:=(H.out.2.2.2.1.below (H1.out.1.trans (hB.mono H1.out.1.size))).sy.rd;have H2:=Lib.hid (And.intro (H1.out.1.trans (hB.mono H1.out.1.size)) (And.intro (Blk.below hB H1.out.2.1 H1.out.2.1.lt) (Blk.below hB H1.out.2.2 H1.out.2.2.lt)));clear hB hma q1)
  | (refine wpList_store_row rfl 32 (.tmp 6) (.tmp 173) rfl (w.heap.size+1) #[.int .i64 19,.int .i64 0,.string ⟨#[]⟩] rfl rfl 32 #[.int .i64 0,.int .i64 0,.string ⟨#[]⟩] H2.out.2.2 info_res rfl (by simp [Value.oneCell']) ?_))
 exact bodyPost_ret (v:= .agg #[.int .i64 19,.int .i64 0,.string ⟨#[]⟩]) (results_cellU (fn:=Tryz.f12) Tryz.results12 _ _ (w.heap.size+1) 32 #[.int .i64 19,.int .i64 0,.string ⟨#[]⟩] _ rfl (blk_row H2.out.2.2 _) Tryz.underlying32 rfl info_res) rfl (UZP.stored H.out.2.2.2.1 H2.out.1 (by omega) _ (by omega))
set_option maxRecDepth 100000 in
set_option maxHeartbeats 4000000 in
theorem zudo_no15 (h:UZ cap w0 O fdb vb tb fb sb pb mb c z syb qb qm m w) (pid:Int) (hw:(Lit.int .i64 pid).wf=true) (hd:aliveF m pid=true) (a bq:Int) (s t:ByteArray) (hm:mayB 15 a bq s t=true):
  Calls Tryz.prog 12 #[.pointer (some ⟨syb,0,none⟩),.int .i64 pid,.agg #[.int .i64 15,.int .i64 a,.int .i64 bq,.string s,.string t]] w (UZP cap w0 O fdb vb tb fb sb pb mb (c+10) z syb qb qm m w (.agg #[.int .i64 19,.int .i64 0,.string ⟨#[]⟩])):=by
 obtain ⟨hal,h2,hcb,hb⟩:=h.call #[.int .i64 15,.int .i64 a,.int .i64 bq,.string s,.string t] #[.int .i64 0,.int .i64 0,.string ⟨#[]⟩] 35 32
 have c3:=h2.sy.rd 3
 have ha:=alive_is h2.pr.b pid hw true hd
 have hma:=fun w1=> may_any 15 a bq s t w1
 simp only [hm] at hma
 clear hm
 have H:=Lib.hid (And.intro hal (And.intro hcb (And.intro hb (And.intro h hw))))
 clear h h2 hal hb hcb hw hd
 go_enter Tryz.func12,Tryz.ntmps12
 go_wp2_with (first
  | (go_at_call 22;refine ha.mono ?_;rintro e w1 ⟨rfl,hB⟩;have q1:=(Blk.below hB H.out.2.1 H.out.2.1.lt).rd;have H1:=Lib.hid (And.intro (H.out.1.trans (hB.mono H.out.1.size)) (And.intro (Blk.below hB H.out.2.1 H.out.2.1.lt) (Blk.below hB H.out.2.2.1 H.out.2.2.1.lt)));clear hB ha)
  | (go_at_call 40;refine (hma _).mono ?_;rintro e w2 ⟨rfl,hB⟩;have q2:=(Blk.below hB H1.out.2.1 H1.out.2.1.lt).rd;have c9:=(H.out.2.2.2.1.below (H1.out.1.trans (hB.mono H1.out.1.size))).sy.rd;have H2:=Lib.hid (And.intro (H1.out.1.trans (hB.mono H1.out.1.size)) (And.intro (Blk.below hB H1.out.2.1 H1.out.2.1.lt) (Blk.below hB H1.out.2.2 H1.out.2.2.lt)));clear hB hma q1)
  | (refine wpList_store_row rfl 32 (.tmp 6) (.tmp 173) rfl (w.heap.size+1) #[.int .i64 19,.int .i64 0,.string ⟨#[]⟩] rfl rfl 32 #[.int .i64 0,.int .i64 0,.string ⟨#[]⟩] H2.out.2.2 info_res rfl (by simp [Value.oneCell']) ?_))
 exact bodyPost_ret (v:= .agg #[.int .i64 19,.int .i64 0,.string ⟨#[]⟩]) (results_cellU (fn:=Tryz.f12) Tryz.results12 _ _ (w.heap.size+1) 32 #[.int .i64 19,.int .i64 0,.string ⟨#[]⟩] _ rfl (blk_row H2.out.2.2 _) Tryz.underlying32 rfl info_res) rfl (UZP.stored H.out.2.2.2.1 H2.out.1 (by omega) _ (by omega))
set_option maxRecDepth 100000 in
set_option maxHeartbeats 4000000 in
theorem zudo_pid (h:UZ cap w0 O fdb vb tb fb sb pb mb c z syb qb qm m w) (pid:Int) (hw:(Lit.int .i64 pid).wf=true) (hd:aliveF m pid=true) (a bq:Int) (s t:ByteArray) (hm:mayB 17 a bq s t=true):
  Calls Tryz.prog 12 #[.pointer (some ⟨syb,0,none⟩),.int .i64 pid,.agg #[.int .i64 17,.int .i64 a,.int .i64 bq,.string s,.string t]] w (UZP cap w0 O fdb vb tb fb sb pb mb (c+10) z syb qb qm m w (.agg #[.int .i64 0,.int .i64 pid,.string ⟨#[]⟩])):=by
 obtain ⟨hal,h2,hcb,hb⟩:=h.call #[.int .i64 17,.int .i64 a,.int .i64 bq,.string s,.string t] #[.int .i64 0,.int .i64 0,.string ⟨#[]⟩] 35 32
 have c3:=h2.sy.rd 3
 have ha:=alive_is h2.pr.b pid hw true hd
 have hma:=fun w1=> may_any 17 a bq s t w1
 simp only [hm] at hma
 clear hm
 have H:=Lib.hid (And.intro hal (And.intro hcb (And.intro hb (And.intro h hw))))
 clear h h2 hal hb hcb hw hd
 go_enter Tryz.func12,Tryz.ntmps12
 go_wp2_with (first
  | (go_at_call 22;refine ha.mono ?_;rintro e w1 ⟨rfl,hB⟩;have q1:=(Blk.below hB H.out.2.1 H.out.2.1.lt).rd;have H1:=Lib.hid (And.intro (H.out.1.trans (hB.mono H.out.1.size)) (And.intro (Blk.below hB H.out.2.1 H.out.2.1.lt) (Blk.below hB H.out.2.2.1 H.out.2.2.1.lt)));clear hB ha)
  | (go_at_call 40;refine (hma _).mono ?_;rintro e w2 ⟨rfl,hB⟩;have q2:=(Blk.below hB H1.out.2.1 H1.out.2.1.lt).rd;have c9:=(H.out.2.2.2.1.below (H1.out.1.trans (hB.mono H1.out.1.size))).sy.rd;have H2:=Lib.hid (And.intro (H1.out.1.trans (hB.mono H1.out.1.size)) (And.intro (Blk.below hB H1.out.2.1 H1.out.2.1.lt) (Blk.below hB H1.out.2.2 H1.out.2.2.lt)));clear hB hma q1)
  | (go_at_call 41;refine (plain_is pid 0 0 pid rfl w2).mono ?_;rintro e w3 ⟨rfl,hBl⟩;have H3:=Lib.hid (And.intro (H2.out.1.trans (hBl.mono H2.out.1.size)) (Blk.below hBl H2.out.2.2 H2.out.2.2.lt));clear hBl)
  | (refine wpList_store_row rfl 32 (.tmp 6) (.tmp 172) rfl (w.heap.size+1) #[.int .i64 0,.int .i64 pid,.string ⟨#[]⟩] rfl rfl 32 #[.int .i64 0,.int .i64 0,.string ⟨#[]⟩] H3.out.2 info_res rfl (by simp [Value.oneCell']) ?_))
 exact bodyPost_ret (v:= .agg #[.int .i64 0,.int .i64 pid,.string ⟨#[]⟩]) (results_cellU (fn:=Tryz.f12) Tryz.results12 _ _ (w.heap.size+1) 32 #[.int .i64 0,.int .i64 pid,.string ⟨#[]⟩] _ rfl (blk_row H3.out.2 _) Tryz.underlying32 rfl info_res) rfl (UZP.stored H.out.2.2.2.1 H3.out.1 (by omega) _ (by omega))
set_option maxRecDepth 100000 in
set_option maxHeartbeats 2000000 in
theorem uchild_is (h:UZ cap w0 O fdb vb tb fb sb pb mb c z syb qb qm m w) (hc:c≤9000) (pid:Int) (hw:(Lit.int .i64 pid).wf=true) (r1 r2 r3:Int) (hr:childP m pid=(r1,r2,r3,m')) (e1 e2:Int) (he:plR (wrap64 (wrap64 (1000*r1)+r2)) r3=(e1,e2)):
  Calls Tryz.prog 55 #[.pointer (some ⟨syb,0,none⟩),.int .i64 pid] w fun e w' => e= .returned (.agg #[.int .i64 e1,.int .i64 e2,.string ⟨#[]⟩])∧PrC w' qb qm (c*10000) c m' ∧Upd (fun k=> k=qm) w w' :=by
 have hal:Below w.heap.size w (w.alloc (.cells #[.int .i64 0,.int .i64 0,.string ⟨#[]⟩] 32)):=(Below.refl _ _).alloc (Nat.le_refl _) _
 have h2:=h.below hal
 have c3:=h2.sy.rd 3
 have hch:=pchild_c h2.pr (by omega) pid hw r1 r2 r3 m' hr
 have hb:=Blk.new w #[.int .i64 0,.int .i64 0,.string ⟨#[]⟩] 32
 have H:=Lib.hid (And.intro hal (And.intro hb h.pr.lt))
 have he2:(if r3=0 then ((0:Int),wrap64 (wrap64 (1000*r1)+r2)) else (r3,0))=(e1,e2):=he
 obtain ⟨V,hV⟩:∃V,wrap64 (wrap64 (1000*r1)+r2)=V:=⟨_,rfl⟩
 rw [hV] at he2
 have HV:=Lib.hid hV
 clear h h2 hal hb hw hr he hV
 go_enter Tryz.func55,Tryz.ntmps55
 go_wp2_with (first
  | (go_at_call 95;refine hch.mono ?_;rintro e w1 ⟨rfl,hP,hU⟩;have H1:=Lib.hid (And.intro hP hU);clear hP hU hch)
  | (go_at_call 41;rw [HV.out];refine (plain_is V r3 e1 e2 he2 w1).mono ?_;rintro e w3 ⟨rfl,hBl⟩;have H3:=Lib.hid (And.intro hBl (Blk.below hBl (Blk.upd H1.out.2 H.out.2.1 (by have:=H.out.2.2.2;omega)) (Blk.upd H1.out.2 H.out.2.1 (by have:=H.out.2.2.2;omega)).lt));clear hBl)
  | (refine wpList_store_row rfl 32 (.tmp 4) (.tmp 23) rfl w.heap.size #[.int .i64 e1,.int .i64 e2,.string ⟨#[]⟩] rfl rfl 32 #[.int .i64 0,.int .i64 0,.string ⟨#[]⟩] H3.out.2 info_res rfl (by simp [Value.oneCell']) ?_))
 refine bodyPost_ret (v:= .agg #[.int .i64 e1,.int .i64 e2,.string ⟨#[]⟩]) (results_cellU (fn:=Tryz.f55) Tryz.results55 _ _ w.heap.size 32 #[.int .i64 e1,.int .i64 e2,.string ⟨#[]⟩] _ rfl (blk_row H3.out.2 _) Tryz.underlying32 rfl info_res) rfl ⟨rfl,?_,?_⟩
 ·exact (H1.out.1.below H3.out.1).upd (upd_row _ _ _) (by have:=H.out.2.2.1;omega) (by have:=H.out.2.2.2;omega)
 ·have h1:=(Upd.of_below (F:=fun k=> k=qm) H.out.1).trans H1.out.2 (fun _ _ h=> h)
  have h2:=h1.trans (Upd.of_below (F:=fun k=> k=qm) H3.out.1) (fun _ _ h=> h)
  exact h2.trans (upd_row w3 w.heap.size #[.int .i64 e1,.int .i64 e2,.string ⟨#[]⟩]) (fun k hk e=> by omega)
set_option maxRecDepth 100000 in
set_option maxHeartbeats 4000000 in
theorem zudo_child (h:UZ cap w0 O fdb vb tb fb sb pb mb c z syb qb qm m w) (hc:c≤8900) (pid:Int) (hw:(Lit.int .i64 pid).wf=true) (hd:aliveF m pid=true) (a bq:Int) (s t:ByteArray) (hm:mayB 16 a bq s t=true) (r1 r2 r3:Int) (hr:childP m pid=(r1,r2,r3,m')) (e1 e2:Int) (he:plR (wrap64 (wrap64 (1000*r1)+r2)) r3=(e1,e2)):
  Calls Tryz.prog 12 #[.pointer (some ⟨syb,0,none⟩),.int .i64 pid,.agg #[.int .i64 16,.int .i64 a,.int .i64 bq,.string s,.string t]] w (UZP cap w0 O fdb vb tb fb sb pb mb (c+10) z syb qb qm m' w (.agg #[.int .i64 e1,.int .i64 e2,.string ⟨#[]⟩])):=by
 obtain ⟨hal,h2,hcb,hb⟩:=h.call #[.int .i64 16,.int .i64 a,.int .i64 bq,.string s,.string t] #[.int .i64 0,.int .i64 0,.string ⟨#[]⟩] 35 32
 have c3:=h2.sy.rd 3
 have ha:=alive_is h2.pr.b pid hw true hd
 have hma:=fun w1=> may_any 16 a bq s t w1
 simp only [hm] at hma
 clear hm
 have hch:=fun w1 (hB:Below w.heap.size w w1)=> uchild_is (h.below hB) (by omega) pid hw r1 r2 r3 hr e1 e2 he
 have H:=Lib.hid (And.intro hal (And.intro hcb (And.intro hb (And.intro h (And.intro hch hc)))))
 clear h h2 hal hb hcb hw hd hch hr he hc
 go_enter Tryz.func12,Tryz.ntmps12
 go_wp2_with (first
  | (go_at_call 22;refine ha.mono ?_;rintro e w1 ⟨rfl,hB⟩;have q1:=(Blk.below hB H.out.2.1 H.out.2.1.lt).rd;have H1:=Lib.hid (And.intro (H.out.1.trans (hB.mono H.out.1.size)) (And.intro (Blk.below hB H.out.2.1 H.out.2.1.lt) (Blk.below hB H.out.2.2.1 H.out.2.2.1.lt)));clear hB ha)
  | (go_at_call 40;refine (hma _).mono ?_;rintro e w2 ⟨rfl,hB⟩;have q2:=(Blk.below hB H1.out.2.1 H1.out.2.1.lt).rd;have c9:=(H.out.2.2.2.1.below (H1.out.1.trans (hB.mono H1.out.1.size))).sy.rd;have H2:=Lib.hid (And.intro (H1.out.1.trans (hB.mono H1.out.1.size)) (And.intro (Blk.below hB H1.out.2.1 H1.out.2.1.lt) (Blk.below hB H1.out.2.2 H1.out.2.2.lt)));clear hB hma q1)
  | (go_at_call 55;refine (H.out.2.2.2.2.1 w2 H2.out.1).mono ?_;rintro e w3 ⟨rfl,hP,hU⟩;have H3:=Lib.hid (And.intro hP (And.intro hU (Blk.upd hU H2.out.2.2 (by have:=H.out.2.2.2.1.pr.lt.2;omega))));clear hP hU)
  | (refine wpList_store_row rfl 32 (.tmp 6) (.tmp 168) rfl (w.heap.size+1) #[.int .i64 e1,.int .i64 e2,.string ⟨#[]⟩] rfl rfl 32 #[.int .i64 0,.int .i64 0,.string ⟨#[]⟩] H3.out.2.2 info_res rfl (by simp [Value.oneCell']) ?_))
 obtain ⟨-,-,-,hX,-,hc⟩:=H.out
 obtain ⟨hB2,-,hrb⟩:=H2.out
 obtain ⟨hP,hU,hk⟩:=H3.out
 obtain ⟨k0,k1,k2,k3,k4,k5⟩:=hX.news
 have hX3:=(hX.below hB2).proc (c' :=c+10) hP hU (by omega) (by omega) (by omega)
 have hX4:=hX3.beside (upd_row w3 (w.heap.size+1) #[.int .i64 e1,.int .i64 e2,.string ⟨#[]⟩]) (fun k e=> by subst e;exact ⟨by omega,fun hk=> by have:=k1 _ hk;omega,by omega,by omega,by omega,by omega⟩)
 exact bodyPost_ret (v:= .agg #[.int .i64 e1,.int .i64 e2,.string ⟨#[]⟩]) (results_cellU (fn:=Tryz.f12) Tryz.results12 _ _ (w.heap.size+1) 32 #[.int .i64 e1,.int .i64 e2,.string ⟨#[]⟩] _ rfl (blk_row hk _) Tryz.underlying32 rfl info_res) rfl ⟨rfl,(((Upd.of_below (F:=fun k=> O k∨k=qm) hB2).trans hU (fun k _ e=> .inr e)).trans (upd_row _ _ _) (fun k hk e=> by omega)),O,hX4,fun k hk=> .inl hk⟩
end
end Go.Proofs.YtjpjafajploiaaaGreatDoor
namespace Go.Proofs.YtjpjafajploiaaaGreatDoor
open Go.RowKit Own RegJ Two
open Go.Lib hiding intOf
def statV (A:Array Value):Int:=match A with
 | #[.int .i64 _,.int .i64 lk,.bool dr,.int .i64 sz]=> wrap64 (wrap64 (wrap64 (1000*sz)+wrap64 (10*lk))+(if dr=true then 1 else 0))
 | _=> 0
theorem statF_is (ns:NSt) (l:Txt):∃i0 lk dr sz,(statF ns l).1= #[.int .i64 i0,.int .i64 lk,.bool dr,.int .i64 sz]:=by
 unfold statF
 split
 ·exact ⟨0,0,false,0,rfl⟩
 ·show ∃i0 lk dr sz,getA ns _=_
  unfold getA
  split
  ·exact ⟨_,_,_,_,rfl⟩
  ·exact ⟨0,0,false,0,rfl⟩
section
variable {cap:Nat} {w0 w w1 w2 w' W9 w8:World} {O O' O1:Nat→Prop} {fdb vb tb fb sb pb mb c c' :Nat} {z z' :Z} {syb qb qm n s rb:Nat} {m m' :PrM} {cs zs:Array Value}
open RegF in
set_option maxRecDepth 100000 in
set_option maxHeartbeats 4000000 in
theorem zustat_is (h:UZ cap w0 O fdb vb tb fb sb pb mb c z syb qb qm m w) (l:Txt) (hl:l.length≤100000) (i0 lk sz r:Int) (dr:Bool) (hA:statF z.ns l=(#[.int .i64 i0,.int .i64 lk,.bool dr,.int .i64 sz],r)) (s:ByteArray) (hs:s=B l) (sys a bq:Int) (t:ByteArray) (e1 e2:Int) (he:plR (statV #[.int .i64 i0,.int .i64 lk,.bool dr,.int .i64 sz]) r=(e1,e2)):
  Calls Tryz.prog 53 #[.pointer (some ⟨syb,0,none⟩),.agg #[.int .i64 sys,.int .i64 a,.int .i64 bq,.string s,.string t]] w fun e w' => e= .returned (.agg #[.int .i64 e1,.int .i64 e2,.string ⟨#[]⟩])∧Below w.heap.size w w' :=by
 obtain ⟨hal,h2,hcb,hb⟩:=h.call #[.int .i64 sys,.int .i64 a,.int .i64 bq,.string s,.string t] #[.int .i64 0,.int .i64 0,.string ⟨#[]⟩] 35 32
 obtain ⟨W9,hW9⟩:∃W9,((w.alloc (.cells #[.int .i64 sys,.int .i64 a,.int .i64 bq,.string s,.string t] 35)).alloc (.cells #[.int .i64 0,.int .i64 0,.string ⟨#[]⟩] 32)).drew=W9:=⟨_,rfl⟩
 have hd9:=below_dr ((w.alloc (.cells #[.int .i64 sys,.int .i64 a,.int .i64 bq,.string s,.string t] 35)).alloc (.cells #[.int .i64 0,.int .i64 0,.string ⟨#[]⟩] 32))
 rw [hW9] at hd9
 have h9:=hal.trans (hd9.mono hal.size)
 have hb9:=Blk.below hd9 hb hb.lt
 have hc9:=Blk.below hd9 hcb hcb.lt
 have hu9:=h2.below hd9
 have hst:=fun w1 (hB:Below W9.heap.size W9 w1)=> zz_stat (hu9.ez.below hB) l hl _ r hA s hs
 have HS:=Lib.hid (And.intro hst (And.intro hu9.sy (And.intro hc9 (And.intro hb9 h9))))
 clear h hal hb hcb hb9 hc9 hu9 hst h9 hA hs h2 hd9
 go_enter Tryz.func53,Tryz.ntmps53
 go_upto_region 1 with (fail)
 refine region_E (LJ W9 10 11 5 #[.int .i64 0,.int .i64 0,.bool false,.int .i64 0] #[.int .i64 i0,.int .i64 lk,.bool dr,.int .i64 sz] 184) [Is 31 (some 9) (.pointer (some ⟨syb,0,none⟩)),Is 31 (some 10) (.pointer (some ⟨syb,0,none⟩)),Is 31 (some 11) (.pointer (some ⟨syb,1,none⟩)),Is 31 (some 12) (.pointer (some ⟨vb,0,none⟩)),Is 31 (some 13) (.pointer (some ⟨w.heap.size,3,none⟩)),Is 31 (some 14) (.string s),Is 31 (some 15) (.tuple #[.agg #[.int .i64 i0,.int .i64 lk,.bool dr,.int .i64 sz],.int .i64 r]),Is 31 (some 8) (.tuple #[.agg #[.int .i64 i0,.int .i64 lk,.bool dr,.int .i64 sz],.int .i64 r]),Is 31 (some 16) (.agg #[.int .i64 i0,.int .i64 lk,.bool dr,.int .i64 sz]),Is 31 (some 17) (.int .i64 r),(fun u=> ∃b5:Nat,u= .pointer (some ⟨b5,0,none⟩)),Is 31 (none) (undef),Is 31 (some 6) (.int .i64 r)] (by kernel_rfl) (by kernel_rfl) (LJ.start _ hW9) ?_
 iterate 3
  apply wpE_op (by rfl) (by rfl) (by rfl)
  ·intro f a' w' ha hf hJ Q1 hQ
   simp only [nrm] at hQ
   go_wp2
   exact hQ _ _ rfl (hJ.put rfl rfl (slot_put_ne (a:=a') (by decide) _))
  simp only [nrm]
 apply wpE_op (by rfl) (by rfl) (by rfl)
 ·intro f a' w' ha hf hJ Q1 hQ
  have hbw:=hJ.1
  have c1:=(Blk.below hbw HS.out.2.1 HS.out.2.1.lt).rd 1
  simp only [nrm] at hQ
  go_wp2
  exact hQ _ _ rfl (hJ.put rfl rfl (slot_put_ne (a:=a') (by decide) _))
 simp only [nrm]
 apply wpE_op (by rfl) (by rfl) (by rfl)
 ·intro f a' w' ha hf hJ Q1 hQ
  simp only [nrm] at hQ
  go_wp2
  exact hQ _ _ rfl (hJ.put rfl rfl (slot_put_ne (a:=a') (by decide) _))
 simp only [nrm]
 apply wpE_op (by rfl) (by rfl) (by rfl)
 ·intro f a' w' ha hf hJ Q1 hQ
  have hbw:=hJ.1
  have c2:=(Blk.below hbw HS.out.2.2.1 HS.out.2.2.1.lt).rd 3
  simp only [nrm] at hQ
  go_wp2
  exact hQ _ _ rfl (hJ.put rfl rfl (slot_put_ne (a:=a') (by decide) _))
 simp only [nrm]
 apply wpE_op (by rfl) (by rfl) (by rfl)
 ·intro f a' w' ha hf hJ Q1 hQ
  have hbw:=hJ.1
  simp only [nrm] at hQ
  go_wp2_with (go_at_call 94;refine (HS.out.1 _ hbw).mono ?_;rintro e w8 ⟨rfl,hBc⟩)
  exact hQ _ _ rfl (hJ.call rfl rfl (slot_put_ne (a:=a') (by decide) _) hBc)
 iterate 3
  simp only [nrm]
  apply wpE_op (by rfl) (by rfl) (by rfl)
  ·intro f a' w' ha hf hJ Q1 hQ
   simp only [nrm] at hQ
   go_wp2
   exact hQ _ _ rfl (hJ.put rfl rfl (slot_put_ne (a:=a') (by decide) _))
 simp only [nrm]
 apply wpE_any (d:=5) rfl (by simp) ⟨_,0,rfl⟩ (by rfl)
 ·intro f a' w' ha hf hJ Q1 hQ
  have hsz:5 < a'.tmps.size:=by rw [ha.1];simp
  have o11:f 11=false:=by
   cases h5:f 11 with
   | false=> rfl
   | true=> exact absurd ((hf.1.1).symm.trans (hf.2.step 11 10 rfl (by kernel_rfl) h5)) (by decide)
  simp only [nrm] at hQ
  go_wp2
  exact hQ _ _ _ rfl ⟨_,rfl⟩ (hJ.alloc rfl o11 (slot_put (a:=a') hsz _))
 rintro _ ⟨b5,rfl⟩
 simp only [nrm]
 apply wpE_op (v:=undef) (by rfl) (by rfl) (by rfl)
 ·intro f a' w' ha hf hJ Q1 hQ
  have on:f 10=true:=hf.1.2 ⟨10,.data⟩ (by simp) rfl
  have e3:slot a' 5= .pointer (some ⟨b5,0,none⟩):=by
   have:=ha.2 5 (by decide)
   simp only [slot,Array.getD_eq_getD_getElem?,this];rfl
  obtain ⟨hbl,hBl⟩:=hJ.at' on e3
  rw [hf.1.1] at hBl
  simp only [nrm] at hQ
  go_wp2_with (refine wpList_store_row rfl 184 (.tmp 5) (.tmp 16) rfl b5 #[.int .i64 i0,.int .i64 lk,.bool dr,.int .i64 sz] rfl rfl 184 #[.int .i64 0,.int .i64 0,.bool false,.int .i64 0] hBl info_inf rfl (by simp [Value.oneCell']) ?_)
  exact hQ _ _ rfl (hJ.store rfl rfl rfl on e3 (blk_row hBl _) (upd_row _ _ _))
 simp only [nrm]
 apply wpE_op (by rfl) (by rfl) (by rfl)
 ·intro f a' w' ha hf hJ Q1 hQ
  simp only [nrm] at hQ
  go_wp2
  exact hQ _ _ rfl (hJ.put rfl rfl (slot_put_ne (a:=a') (by decide) _))
 simp only [nrm]
 refine wpE_nil ?_
 intro w4 hJ4
 obtain ⟨hb5,hB5⟩:=hJ4.at' rfl (b:=b5) rfl
 have hbw4:=hJ4.1
 clear hJ4
 have HW:=Lib.hid hbw4
 have c5:=hB5.rd
 have hk4:=Blk.below hbw4 HS.out.2.2.2.1 HS.out.2.2.2.1.lt
 have HK:=Lib.hid hk4
 clear hbw4 hb5 hB5 hk4
 cases dr with
 | true=>
  obtain ⟨V,hV⟩:∃V,wrap64 (wrap64 (wrap64 (1000*sz)+wrap64 (10*lk))+1)=V:=⟨_,rfl⟩
  have he2:(if r=0 then ((0:Int),V) else (r,0))=(e1,e2):=by rw [←hV];exact he
  have HV:=Lib.hid hV
  clear he hV
  go_wp2_with (first
   | (go_at_call 41;rw [HV.out];refine (plain_is V r e1 e2 he2 _).mono ?_;rintro e w5 ⟨rfl,hBp⟩;have H5:=Lib.hid (And.intro hBp (Blk.below hBp HK.out HK.out.lt));clear hBp)
   | (refine wpList_store_row rfl 32 (.tmp 4) (.tmp 30) rfl (w.heap.size+1) #[.int .i64 e1,.int .i64 e2,.string ⟨#[]⟩] rfl rfl 32 #[.int .i64 0,.int .i64 0,.string ⟨#[]⟩] H5.out.2 info_res rfl (by simp [Value.oneCell']) ?_))
  have z9:=HS.out.2.2.2.2
  have hz:=z9.size
  have z4:=z9.trans (HW.out.mono hz)
  have hz4:=z4.size
  exact bodyPost_ret (v:= .agg #[.int .i64 e1,.int .i64 e2,.string ⟨#[]⟩]) (results_cellU (fn:=Tryz.f53) Tryz.results53 _ _ (w.heap.size+1) 32 #[.int .i64 e1,.int .i64 e2,.string ⟨#[]⟩] _ rfl (blk_row H5.out.2 _) Tryz.underlying32 rfl info_res) rfl ⟨rfl,(z4.trans (H5.out.1.mono hz4)).trans ((upd_row _ _ _).below (by have:=H5.out.1.size;omega) (fun k hk=> by omega))⟩
 | false=>
  obtain ⟨V,hV⟩:∃V,wrap64 (wrap64 (wrap64 (1000*sz)+wrap64 (10*lk)))=V:=⟨_,rfl⟩
  have he2:(if r=0 then ((0:Int),V) else (r,0))=(e1,e2):=by
   have e:statV #[.int .i64 i0,.int .i64 lk,.bool false,.int .i64 sz]=V:=by
    rw [←hV]
    show wrap64 (wrap64 (wrap64 (1000*sz)+wrap64 (10*lk))+0)=_
    rw [Int.add_zero]
   rw [e] at he
   exact he
  have HV:=Lib.hid hV
  clear he hV
  go_wp2_with (first
   | (go_at_call 41;rw [HV.out];refine (plain_is V r e1 e2 he2 _).mono ?_;rintro e w5 ⟨rfl,hBp⟩;have H5:=Lib.hid (And.intro hBp (Blk.below hBp HK.out HK.out.lt));clear hBp)
   | (refine wpList_store_row rfl 32 (.tmp 4) (.tmp 30) rfl (w.heap.size+1) #[.int .i64 e1,.int .i64 e2,.string ⟨#[]⟩] rfl rfl 32 #[.int .i64 0,.int .i64 0,.string ⟨#[]⟩] H5.out.2 info_res rfl (by simp [Value.oneCell']) ?_))
  have z9:=HS.out.2.2.2.2
  have hz:=z9.size
  have z4:=z9.trans (HW.out.mono hz)
  have hz4:=z4.size
  exact bodyPost_ret (v:= .agg #[.int .i64 e1,.int .i64 e2,.string ⟨#[]⟩]) (results_cellU (fn:=Tryz.f53) Tryz.results53 _ _ (w.heap.size+1) 32 #[.int .i64 e1,.int .i64 e2,.string ⟨#[]⟩] _ rfl (blk_row H5.out.2 _) Tryz.underlying32 rfl info_res) rfl ⟨rfl,(z4.trans (H5.out.1.mono hz4)).trans ((upd_row _ _ _).below (by have:=H5.out.1.size;omega) (fun k hk=> by omega))⟩
set_option maxRecDepth 100000 in
set_option maxHeartbeats 4000000 in
theorem zudo_stat (h:UZ cap w0 O fdb vb tb fb sb pb mb c z syb qb qm m w) (pid:Int) (hw:(Lit.int .i64 pid).wf=true) (hd:aliveF m pid=true) (a bq:Int) (s t:ByteArray) (hm:mayB 12 a bq s t=true) (l:Txt) (hl:l.length≤100000) (hs:s=B l) (e1 e2:Int) (he:plR (statV (statF z.ns l).1) (statF z.ns l).2=(e1,e2)):
  Calls Tryz.prog 12 #[.pointer (some ⟨syb,0,none⟩),.int .i64 pid,.agg #[.int .i64 12,.int .i64 a,.int .i64 bq,.string s,.string t]] w (UZP cap w0 O fdb vb tb fb sb pb mb (c+10) z syb qb qm m w (.agg #[.int .i64 e1,.int .i64 e2,.string ⟨#[]⟩])):=by
 obtain ⟨hal,h2,hcb,hb⟩:=h.call #[.int .i64 12,.int .i64 a,.int .i64 bq,.string s,.string t] #[.int .i64 0,.int .i64 0,.string ⟨#[]⟩] 35 32
 have c3:=h2.sy.rd 3
 have ha:=alive_is h2.pr.b pid hw true hd
 have hma:=fun w1=> may_any 12 a bq s t w1
 simp only [hm] at hma
 clear hm
 obtain ⟨i0,lk,dr,sz,hA⟩:=statF_is z.ns l
 rw [hA] at he
 have hch:=fun w1 (hB:Below w.heap.size w w1)=> zustat_is (h.below hB) l hl i0 lk sz (statF z.ns l).2 dr (by rw [←hA]) s hs 12 a bq t e1 e2 he
 have H:=Lib.hid (And.intro hal (And.intro hcb (And.intro hb (And.intro h hch))))
 clear h h2 hal hb hcb hw hd hch hA he hs
 go_enter Tryz.func12,Tryz.ntmps12
 go_wp2_with (first
  | (go_at_call 22;refine ha.mono ?_;rintro e w1 ⟨rfl,hB⟩;have q1:=(Blk.below hB H.out.2.1 H.out.2.1.lt).rd;have H1:=Lib.hid (And.intro (H.out.1.trans (hB.mono H.out.1.size)) (And.intro (Blk.below hB H.out.2.1 H.out.2.1.lt) (Blk.below hB H.out.2.2.1 H.out.2.2.1.lt)));clear hB ha)
  | (go_at_call 40;refine (hma _).mono ?_;rintro e w2 ⟨rfl,hB⟩;have q2:=(Blk.below hB H1.out.2.1 H1.out.2.1.lt).rd;have c9:=(H.out.2.2.2.1.below (H1.out.1.trans (hB.mono H1.out.1.size))).sy.rd;have H2:=Lib.hid (And.intro (H1.out.1.trans (hB.mono H1.out.1.size)) (And.intro (Blk.below hB H1.out.2.1 H1.out.2.1.lt) (Blk.below hB H1.out.2.2 H1.out.2.2.lt)));clear hB hma q1)
  | (go_at_call 53;refine (H.out.2.2.2.2 w2 H2.out.1).mono ?_;rintro e w3 ⟨rfl,hB⟩;have H3:=Lib.hid (And.intro (H2.out.1.trans (hB.mono H2.out.1.size)) (Blk.below hB H2.out.2.2 H2.out.2.2.lt));clear hB)
  | (refine wpList_store_row rfl 32 (.tmp 6) (.tmp 158) rfl (w.heap.size+1) #[.int .i64 e1,.int .i64 e2,.string ⟨#[]⟩] rfl rfl 32 #[.int .i64 0,.int .i64 0,.string ⟨#[]⟩] H3.out.2 info_res rfl (by simp [Value.oneCell']) ?_))
 exact bodyPost_ret (v:= .agg #[.int .i64 e1,.int .i64 e2,.string ⟨#[]⟩]) (results_cellU (fn:=Tryz.f12) Tryz.results12 _ _ (w.heap.size+1) 32 #[.int .i64 e1,.int .i64 e2,.string ⟨#[]⟩] _ rfl (blk_row H3.out.2 _) Tryz.underlying32 rfl info_res) rfl (UZP.stored H.out.2.2.2.1 H3.out.1 (by omega) _ (by omega))
end
end Go.Proofs.YtjpjafajploiaaaGreatDoor
namespace Go.Proofs.YtjpjafajploiaaaGreatDoor
open Go.RowKit Own RegJ Two
open Go.Lib hiding intOf
section
variable {cap:Nat} {w0 w w1 w2 w' W9 w8:World} {O O' O1:Nat→Prop} {fdb vb tb fb sb pb mb c c' :Nat} {z z' :Z} {syb qb qm n s rb:Nat} {m m' :PrM} {cs zs:Array Value}
set_option maxRecDepth 100000 in
set_option maxHeartbeats 4000000 in
theorem zuread_is (h:UZ cap w0 O fdb vb tb fb sb pb mb c z syb qb qm m w) (pid:Int) (hw:(Lit.int .i64 pid).wf=true) (a bq:Int) (hbq:bq≤9223372036854775807) (s t:ByteArray) (ys:List Int) (er:Int) (hr:readZ z pid a bq=(ys,er,z')) (l:Txt) (hyl:ys=l.map fun c=> (c.toNat:Int)) (q:Nat) (hq:ys.length=q) (h0:er=0):
  Calls Tryz.prog 44 #[.pointer (some ⟨syb,0,none⟩),.int .i64 pid,.agg #[.int .i64 3,.int .i64 a,.int .i64 bq,.string s,.string t]] w fun e w' => e= .returned (.agg #[.int .i64 0,.int .i64 q,.string (B l)])∧Upd O w w' ∧∃O',UZ cap w0 O' fdb vb tb fb sb pb mb (c+8) z' syb qb qm m w' ∧∀k,O' k→O k∨w.heap.size≤k:=by
 subst h0
 obtain ⟨hal,h2,hcb,hb⟩:=h.call #[.int .i64 3,.int .i64 a,.int .i64 bq,.string s,.string t] #[.int .i64 0,.int .i64 0,.string ⟨#[]⟩] 35 32
 obtain ⟨W9,hW9⟩:∃W9,((w.alloc (.cells #[.int .i64 3,.int .i64 a,.int .i64 bq,.string s,.string t] 35)).alloc (.cells #[.int .i64 0,.int .i64 0,.string ⟨#[]⟩] 32))=W9:=⟨_,rfl⟩
 have hrd:=fun (W:World) (hB:Below w.heap.size w W)=> zz_read (h.below hB).ez h.mc pid hw a bq hbq ys 0 hr
 have hrO:¬O (w.heap.size+1):=fun hk=> by have:=h.news.2.1 _ hk;omega
 have hlq:l.length=q:=by rw [←hq,hyl,List.length_map]
 have HS:=Lib.hid (And.intro hrd (And.intro h2.sy (And.intro hcb (And.intro hb (And.intro hal (And.intro hq (And.intro hyl (And.intro hlq (And.intro h hrO)))))))))
 have c2:=h2.sy.rd 2
 have c4:=hcb.rd
 clear h h2 hal hb hcb hw hr hyl hq hlq hW9 hrd hrO
 go_enter Tryz.func44,Tryz.ntmps44
 go_upto_region 1 with (fail)
 go_region_with (go_at_call 83;refine (HS.out.1 _ (HS.out.2.2.2.2.1.trans ((dn _ _).mono HS.out.2.2.2.2.1.size))).mono ?_;rintro e w1 ⟨ra,cp,gb,O1,rfl,hRow,hgb,hU1,hX1,hO1⟩;rw [HS.out.2.2.2.2.2.1] at hRow ⊢;have hk1:=Blk.upd hU1 (Blk.below (dn _ _) HS.out.2.2.2.1 HS.out.2.2.2.1.lt) HS.out.2.2.2.2.2.2.2.2.2;have hz1:=(HS.out.2.2.2.2.2.2.2.2.1.below (HS.out.2.2.2.2.1.trans ((dn _ _).mono HS.out.2.2.2.2.1.size))).step hU1 hX1 hO1 (by omega);have hu1:=(Upd.of_below (F:=O) (HS.out.2.2.2.2.1.trans ((dn _ _).mono HS.out.2.2.2.2.1.size))).trans hU1 (fun _ _ h=> h);have ho1:∀k,O1 k→O k∨w.heap.size≤k:=(fun k hk=> (hO1 k hk).imp id (fun h=> Nat.le_trans (HS.out.2.2.2.2.1.trans ((dn _ _).mono HS.out.2.2.2.2.1.size)).size h));have hnr:¬O1 (w.heap.size+1):=(fun hk=> (hO1 _ hk).elim HS.out.2.2.2.2.2.2.2.2.2 (fun h=> absurd (Blk.below (dn _ _) HS.out.2.2.2.1 HS.out.2.2.2.1.lt).lt (Nat.not_lt.2 h)));have H1:=Lib.hid (And.intro hRow (And.intro hk1 (And.intro hz1 (And.intro hu1 (And.intro ho1 hnr)))));clear hRow hgb hU1 hX1 hO1 hk1 hz1 hu1 ho1 hnr)
 all_goals
  go_wp2_with (first
   | (go_at_call 41;refine (plain_is _ 0 0 (q:Nat) rfl w1).mono ?_;rintro e w3 ⟨rfl,hBp⟩;have hcv:(convert 22 9 (.slice ra q cp)).run Tryz.prog (w3.alloc (.cells #[.int .i64 0,.int .i64 (q:Nat),.string ⟨#[]⟩] 32))= .ok (.string (B l)) (w3.alloc (.cells #[.int .i64 0,.int .i64 (q:Nat),.string ⟨#[]⟩] 32)):=(by have hR:=(H1.out.1.below hBp).below ((Below.refl w3.heap.size w3).alloc (Nat.le_refl _) (.cells #[.int .i64 0,.int .i64 (q:Nat),.string ⟨#[]⟩] 32));rw [HS.out.2.2.2.2.2.2.1] at hR;rw [←HS.out.2.2.2.2.2.2.2.1] at hR ⊢;exact row_str hR);have H3:=Lib.hid (And.intro hBp (Blk.below hBp H1.out.2.1 H1.out.2.1.lt));clear hBp)
   | (refine wpList_store_row rfl 32 (.tmp 6) (.tmp 32) rfl (w.heap.size+1) #[.int .i64 0,.int .i64 q,.string (B l)] rfl rfl 32 #[.int .i64 0,.int .i64 0,.string ⟨#[]⟩] (Blk.alloc H3.out.2 _) info_res rfl (by simp [Value.oneCell']) ?_))
  exact bodyPost_ret (v:= .agg #[.int .i64 0,.int .i64 q,.string (B l)]) (results_cellU (fn:=Tryz.f44) Tryz.results44 _ _ (w.heap.size+1) 32 #[.int .i64 0,.int .i64 q,.string (B l)] _ rfl (blk_row (Blk.alloc H3.out.2 _) _) Tryz.underlying32 rfl info_res) rfl ⟨rfl,((H1.out.2.2.2.1.trans (Upd.of_below (F:=O) H3.out.1) (fun _ _ h=> h)).alloc _).trans (upd_row _ _ _) (fun k hk e=> by omega),O1,(((H1.out.2.2.1.below H3.out.1).below ((Below.refl _ _).alloc (Nat.le_refl _) _)).beside (upd_row _ _ _) (fun k e=> by subst e;obtain ⟨k0,k1,k2,k3,k4,k5⟩:=HS.out.2.2.2.2.2.2.2.2.1.news;exact ⟨by omega,H1.out.2.2.2.2.2,by omega,by omega,by omega,by omega⟩)),H1.out.2.2.2.2.1⟩
set_option maxRecDepth 100000 in
set_option maxHeartbeats 4000000 in
theorem zuread_err (h:UZ cap w0 O fdb vb tb fb sb pb mb c z syb qb qm m w) (pid:Int) (hw:(Lit.int .i64 pid).wf=true) (a bq:Int) (hbq:bq≤9223372036854775807) (s t:ByteArray) (ys:List Int) (er:Int) (hr:readZ z pid a bq=(ys,er,z')) (q:Nat) (hq:ys.length=q) (h0:er≠0):
  Calls Tryz.prog 44 #[.pointer (some ⟨syb,0,none⟩),.int .i64 pid,.agg #[.int .i64 3,.int .i64 a,.int .i64 bq,.string s,.string t]] w fun e w' => e= .returned (.agg #[.int .i64 er,.int .i64 0,.string ⟨#[]⟩])∧Upd O w w' ∧∃O',UZ cap w0 O' fdb vb tb fb sb pb mb (c+8) z' syb qb qm m w' ∧∀k,O' k→O k∨w.heap.size≤k:=by
 obtain ⟨hal,h2,hcb,hb⟩:=h.call #[.int .i64 3,.int .i64 a,.int .i64 bq,.string s,.string t] #[.int .i64 0,.int .i64 0,.string ⟨#[]⟩] 35 32
 have hrd:=fun (W:World) (hB:Below w.heap.size w W)=> zz_read (h.below hB).ez h.mc pid hw a bq hbq ys er hr
 have hrO:¬O (w.heap.size+1):=fun hk=> by have:=h.news.2.1 _ hk;omega
 have hpe:(if er=0 then ((0:Int),(q:Int)) else (er,0))=(er,0):=if_neg h0
 have dr1:(er==0)=false:=by simpa using h0
 have HS:=Lib.hid (And.intro hrd (And.intro h2.sy (And.intro hcb (And.intro hb (And.intro hal (And.intro hq (And.intro True.intro (And.intro True.intro (And.intro h hrO)))))))))
 have c2:=h2.sy.rd 2
 have c4:=hcb.rd
 clear h h2 hal hb hcb hw hr hq hrd hrO h0
 go_enter Tryz.func44,Tryz.ntmps44
 go_upto_region 1 with (fail)
 go_region_with (go_at_call 83;refine (HS.out.1 _ (HS.out.2.2.2.2.1.trans ((dn _ _).mono HS.out.2.2.2.2.1.size))).mono ?_;rintro e w1 ⟨ra,cp,gb,O1,rfl,hRow,hgb,hU1,hX1,hO1⟩;rw [HS.out.2.2.2.2.2.1] at hRow ⊢;have hk1:=Blk.upd hU1 (Blk.below (dn _ _) HS.out.2.2.2.1 HS.out.2.2.2.1.lt) HS.out.2.2.2.2.2.2.2.2.2;have hz1:=(HS.out.2.2.2.2.2.2.2.2.1.below (HS.out.2.2.2.2.1.trans ((dn _ _).mono HS.out.2.2.2.2.1.size))).step hU1 hX1 hO1 (by omega);have hu1:=(Upd.of_below (F:=O) (HS.out.2.2.2.2.1.trans ((dn _ _).mono HS.out.2.2.2.2.1.size))).trans hU1 (fun _ _ h=> h);have ho1:∀k,O1 k→O k∨w.heap.size≤k:=(fun k hk=> (hO1 k hk).imp id (fun h=> Nat.le_trans (HS.out.2.2.2.2.1.trans ((dn _ _).mono HS.out.2.2.2.2.1.size)).size h));have hnr:¬O1 (w.heap.size+1):=(fun hk=> (hO1 _ hk).elim HS.out.2.2.2.2.2.2.2.2.2 (fun h=> absurd (Blk.below (dn _ _) HS.out.2.2.2.1 HS.out.2.2.2.1.lt).lt (Nat.not_lt.2 h)));have H1:=Lib.hid (And.intro hRow (And.intro hk1 (And.intro hz1 (And.intro hu1 (And.intro ho1 hnr)))));clear hRow hgb hU1 hX1 hO1 hk1 hz1 hu1 ho1 hnr)
 all_goals
  go_wp2_with (first
   | (go_at_call 41;refine (plain_is (q:Int) er er 0 hpe w1).mono ?_;rintro e w3 ⟨rfl,hBp⟩;have H3:=Lib.hid (And.intro hBp (Blk.below hBp H1.out.2.1 H1.out.2.1.lt));clear hBp)
   | (refine wpList_store_row rfl 32 (.tmp 6) (.tmp 32) rfl (w.heap.size+1) #[.int .i64 er,.int .i64 0,.string ⟨#[]⟩] rfl rfl 32 #[.int .i64 0,.int .i64 0,.string ⟨#[]⟩] (Blk.alloc H3.out.2 _) info_res rfl (by simp [Value.oneCell']) ?_))
  exact bodyPost_ret (v:= .agg #[.int .i64 er,.int .i64 0,.string ⟨#[]⟩]) (results_cellU (fn:=Tryz.f44) Tryz.results44 _ _ (w.heap.size+1) 32 #[.int .i64 er,.int .i64 0,.string ⟨#[]⟩] _ rfl (blk_row (Blk.alloc H3.out.2 _) _) Tryz.underlying32 rfl info_res) rfl ⟨rfl,((H1.out.2.2.2.1.trans (Upd.of_below (F:=O) H3.out.1) (fun _ _ h=> h)).alloc _).trans (upd_row _ _ _) (fun k hk e=> by omega),O1,(((H1.out.2.2.1.below H3.out.1).below ((Below.refl _ _).alloc (Nat.le_refl _) _)).beside (upd_row _ _ _) (fun k e=> by subst e;obtain ⟨k0,k1,k2,k3,k4,k5⟩:=HS.out.2.2.2.2.2.2.2.2.1.news;exact ⟨by omega,H1.out.2.2.2.2.2,by omega,by omega,by omega,by omega⟩)),H1.out.2.2.2.2.1⟩
set_option maxRecDepth 100000 in
set_option maxHeartbeats 4000000 in
theorem zudo_read (h:UZ cap w0 O fdb vb tb fb sb pb mb c z syb qb qm m w) (pid:Int) (hw:(Lit.int .i64 pid).wf=true) (hd:aliveF m pid=true) (a bq:Int) (hbq:bq≤9223372036854775807) (s t:ByteArray) (hm:mayB 3 a bq s t=true) (ys:List Int) (er:Int) (hr:readZ z pid a bq=(ys,er,z')) (l:Txt) (hyl:ys=l.map fun c=> (c.toNat:Int)) (e1 e2:Int) (d:ByteArray) (he:(if er=0 then ((0:Int),(ys.length:Int),B l) else (er,0,⟨#[]⟩))=(e1,e2,d)):
  Calls Tryz.prog 12 #[.pointer (some ⟨syb,0,none⟩),.int .i64 pid,.agg #[.int .i64 3,.int .i64 a,.int .i64 bq,.string s,.string t]] w (UZP cap w0 O fdb vb tb fb sb pb mb (c+10) z' syb qb qm m w (.agg #[.int .i64 e1,.int .i64 e2,.string d])):=by
 obtain ⟨hal,h2,hcb,hb⟩:=h.call #[.int .i64 3,.int .i64 a,.int .i64 bq,.string s,.string t] #[.int .i64 0,.int .i64 0,.string ⟨#[]⟩] 35 32
 have c3:=h2.sy.rd 3
 have ha:=alive_is h2.pr.b pid hw true hd
 have hma:=fun w1=> may_any 3 a bq s t w1
 simp only [hm] at hma
 clear hm
 have hch:∀w1,Below w.heap.size w w1→Calls Tryz.prog 44 #[.pointer (some ⟨syb,0,none⟩),.int .i64 pid,.agg #[.int .i64 3,.int .i64 a,.int .i64 bq,.string s,.string t]] w1 fun e w' => e= .returned (.agg #[.int .i64 e1,.int .i64 e2,.string d])∧Upd O w1 w' ∧∃O',UZ cap w0 O' fdb vb tb fb sb pb mb (c+8) z' syb qb qm m w' ∧∀k,O' k→O k∨w1.heap.size≤k:=by
  intro w1 hB
  by_cases h0:er=0
  ·rw [if_pos h0] at he;cases he
   exact zuread_is (h.below hB) pid hw a bq hbq s t ys er hr l hyl _ rfl h0
  ·rw [if_neg h0] at he;cases he
   exact zuread_err (h.below hB) pid hw a bq hbq s t ys er hr _ rfl h0
 have H:=Lib.hid (And.intro hal (And.intro hcb (And.intro hb (And.intro h hch))))
 clear h h2 hal hb hcb hw hd hch hr hyl he
 go_enter Tryz.func12,Tryz.ntmps12
 go_wp2_with (first
  | (go_at_call 22;refine ha.mono ?_;rintro e w1 ⟨rfl,hB⟩;have q1:=(Blk.below hB H.out.2.1 H.out.2.1.lt).rd;have H1:=Lib.hid (And.intro (H.out.1.trans (hB.mono H.out.1.size)) (And.intro (Blk.below hB H.out.2.1 H.out.2.1.lt) (Blk.below hB H.out.2.2.1 H.out.2.2.1.lt)));clear hB ha)
  | (go_at_call 40;refine (hma _).mono ?_;rintro e w2 ⟨rfl,hB⟩;have q2:=(Blk.below hB H1.out.2.1 H1.out.2.1.lt).rd;have c9:=(H.out.2.2.2.1.below (H1.out.1.trans (hB.mono H1.out.1.size))).sy.rd;have H2:=Lib.hid (And.intro (H1.out.1.trans (hB.mono H1.out.1.size)) (And.intro (Blk.below hB H1.out.2.1 H1.out.2.1.lt) (Blk.below hB H1.out.2.2 H1.out.2.2.lt)));clear hB hma q1)
  | (go_at_call 44;refine (H.out.2.2.2.2 w2 H2.out.1).mono ?_;rintro e w3 ⟨rfl,hU,O3,hX,hO⟩;have H3:=Lib.hid (And.intro hU (And.intro hX (And.intro hO (Blk.upd hU H2.out.2.2 (fun hk=> by have:=H.out.2.2.2.1.news.2.1 _ hk;omega)))));clear hU hX hO)
  | (refine wpList_store_row rfl 32 (.tmp 6) (.tmp 58) rfl (w.heap.size+1) #[.int .i64 e1,.int .i64 e2,.string d] rfl rfl 32 #[.int .i64 0,.int .i64 0,.string ⟨#[]⟩] H3.out.2.2.2 info_res rfl (by simp [Value.oneCell']) ?_))
 obtain ⟨k0,k1,k2,k3,k4,k5⟩:=H.out.2.2.2.1.news
 have hz2:=H2.out.1.size
 have hrl:=H2.out.2.2.lt
 have hX4:=(H3.out.2.1.beside (upd_row w3 (w.heap.size+1) #[.int .i64 e1,.int .i64 e2,.string d]) (fun k e=> by subst e;exact ⟨by omega,fun hk=> by rcases H3.out.2.2.1 _ hk with h | h;(have:=k1 _ h;omega);omega,by omega,by omega,by omega,by omega⟩)).up (show c+8≤c+10 by omega)
 exact bodyPost_ret (v:= .agg #[.int .i64 e1,.int .i64 e2,.string d]) (results_cellU (fn:=Tryz.f12) Tryz.results12 _ _ (w.heap.size+1) 32 #[.int .i64 e1,.int .i64 e2,.string d] _ rfl (blk_row H3.out.2.2.2 _) Tryz.underlying32 rfl info_res) rfl ⟨rfl,(((Upd.of_below (F:=fun k=> O k∨k=qm) H2.out.1).trans H3.out.1 (fun k _ e=> .inl e)).trans (upd_row _ _ _) (fun k hk e=> by omega)),O3,hX4,fun k hk=> (H3.out.2.2.1 k hk).imp id (fun h=> by omega)⟩
end
end Go.Proofs.YtjpjafajploiaaaGreatDoor
