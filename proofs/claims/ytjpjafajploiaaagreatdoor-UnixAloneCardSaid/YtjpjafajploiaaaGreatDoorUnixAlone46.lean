/-
  Do: Write.
-/
import Derived.Test.YtjpjafajploiaaaGreatDoorUnixAlone45
import Derived.Test.YtjpjafajploiaaaGreatDoorUnixAlone03
import Derived.Laws.IdiomStrings
import Derived.Test.YtjpjafajploiaaaGreatDoorUnixAlone26
set_option linter.unusedSimpArgs false
set_option linter.unusedVariables false
namespace Go.Proofs.YtjpjafajploiaaaGreatDoor
open Go.RowKit Own RegJ Two
open Go.Lib hiding intOf
section
variable {cap:Nat} {w0 w w1 w2 w' W9 w8:World} {O O' O1:Nat→Prop} {fdb vb tb fb sb pb mb c c' :Nat} {z z' :Z} {syb qb qm n s rb:Nat} {m m' :PrM} {cs zs:Array Value}
theorem conv_src (w:World) (s:ByteArray) (hO:¬O w.heap.size):∃gc WC,(convert 9 22 (.string s)).run Tryz.prog w= .ok (.slice (some ⟨w.heap.size,0,none⟩) s.size gc) WC∧Below w.heap.size w WC∧SrcF O WC (.slice (some ⟨w.heap.size,0,none⟩) s.size gc) (s.data.toList.map fun c=> (c.toNat:Int)):=by
 refine ⟨_,_,run_bytes_of_string w 9 22 5 s Tryz.underlying9 Tryz.underlying22 Tryz.underlying5,?_,?_⟩
 ·exact (dn w 1).trans (((Below.refl w.drew.heap.size w.drew).alloc (Nat.le_refl _) _).mono (Nat.le_refl _))
 ·have hlen:(s.data.toList.map fun c=> (c.toNat:Int)).length=s.size:=by rw [List.length_map,Array.length_toList];rfl
  refine ⟨some ⟨w.heap.size,0,none⟩,_,by rw [hlen],by rw [hlen];exact grownCap_ge w s.size 0 5,fun hp=> ⟨w.heap.size,0,rfl,fun j u hj=> ⟨_,rfl,?_⟩,hO,by show w.heap.size < (w.heap.push _).size;simp⟩⟩
  rw [add_off]
  have h:(w.drew.alloc (.cells (bytesRow s (grownCap w s.size 0 5)) 5 ((bytesRow s (grownCap w s.size 0 5)).size,(bytesRow s (grownCap w s.size 0 5)).size+1))).heap[w.heap.size]? =some (.cells (bytesRow s (grownCap w s.size 0 5)) 5 ((bytesRow s (grownCap w s.size 0 5)).size,(bytesRow s (grownCap w s.size 0 5)).size+1)):=by show (w.heap.push _)[w.heap.size]? =_;simp
  unfold World.cell?
  rw [h]
  have hj2:=hj
  unfold ucells at hj2
  rw [List.map_map,List.getElem?_map] at hj2
  have hjl:j < s.data.size:=by
   rcases Nat.lt_or_ge j s.data.size with h | h
   ·exact h
   ·rw [List.getElem?_eq_none (by simpa using h)] at hj2;cases hj2
  simp only [bytesRow]
  rw [if_neg (by simp)]
  rw [Array.getElem?_append_left (by simpa using hjl),Array.getElem?_map]
  rw [Array.getElem?_toList] at hj2
  exact hj2
set_option maxRecDepth 100000 in
set_option maxHeartbeats 4000000 in
theorem zudo_write (h:UZ cap w0 O fdb vb tb fb sb pb mb c z syb qb qm m w) (hc:c≤8900) (pid:Int) (hw:(Lit.int .i64 pid).wf=true) (hd:aliveF m pid=true) (a bq:Int) (s t:ByteArray) (hs6:s.size≤100000) (hm:mayB 4 a bq s t=true) (v1 v2:Int) (hz:writeZ cap z pid a (s.data.toList.map fun c=> (c.toNat:Int))=(v1,v2,z')) (r1 r2:Int) (hr:plR v1 v2=(r1,r2)):
  Calls Tryz.prog 12 #[.pointer (some ⟨syb,0,none⟩),.int .i64 pid,.agg #[.int .i64 4,.int .i64 a,.int .i64 bq,.string s,.string t]] w (UZP cap w0 O fdb vb tb fb sb pb mb (c+10) z' syb qb qm m w (resV r1 r2 ⟨#[]⟩)):=by
 obtain ⟨hal,h2,hcb,hb⟩:=h.call #[.int .i64 4,.int .i64 a,.int .i64 bq,.string s,.string t] #[.int .i64 0,.int .i64 0,.string ⟨#[]⟩] 35 32
 have c3:=h2.sy.rd 3
 have ha:=alive_is h2.pr.b pid hw true hd
 have hma:=fun w1=> may_any 4 a bq s t w1
 simp only [hm] at hma
 clear hm
 have hlen:(s.data.toList.map fun c=> (c.toNat:Int)).length=s.size:=by rw [List.length_map,Array.length_toList];rfl
 have hcall:=fun (W9:World) (hX9:UZ cap w0 O fdb vb tb fb sb pb mb c z syb qb qm m W9) gc ad (hv:SrcF O W9 (.slice ad s.size gc) (s.data.toList.map fun c=> (c.toNat:Int)))=> zz_write hX9.ez hX9.mc pid hw a (s.data.toList.map fun c=> (c.toNat:Int)) s.size gc ad hlen hs6 hv v1 v2 hz
 have H:=Lib.hid (And.intro hal (And.intro hcb (And.intro hb (And.intro h hcall))))
 clear h h2 hal hb hcb hw hd hc hcall hlen hz
 go_enter Tryz.func12,Tryz.ntmps12
 go_upto_region 15 with (first
  | (go_at_call 22;refine ha.mono ?_;rintro e w1 ⟨rfl,hB⟩;have q1:=(Blk.below hB H.out.2.1 H.out.2.1.lt).rd;have H1:=Lib.hid (And.intro (H.out.1.trans (hB.mono H.out.1.size)) (And.intro (Blk.below hB H.out.2.1 H.out.2.1.lt) (Blk.below hB H.out.2.2.1 H.out.2.2.1.lt)));clear hB ha)
  | (go_at_call 40;refine (hma _).mono ?_;rintro e w2 ⟨rfl,hB⟩;have q2:=(Blk.below hB H1.out.2.1 H1.out.2.1.lt).rd;have c9:=(H.out.2.2.2.1.below (H1.out.1.trans (hB.mono H1.out.1.size))).sy.rd;have H2:=Lib.hid (And.intro (H1.out.1.trans (hB.mono H1.out.1.size)) (And.intro (Blk.below hB H1.out.2.1 H1.out.2.1.lt) (Blk.below hB H1.out.2.2 H1.out.2.2.lt)));clear hB hma q1))
 obtain ⟨-,-,-,hX,hcall⟩:=H.out
 obtain ⟨hB2,hcb2,hrb2⟩:=H2.out
 obtain ⟨W9,hW9⟩:∃W9,w2.drew=W9:=⟨_,rfl⟩
 have hd9:=below_dr w2
 rw [hW9] at hd9
 have h9:=hB2.trans (hd9.mono hB2.size)
 obtain ⟨k0,k1,k2,k3,k4,k5⟩:=hX.news
 have hz9:=h9.size
 obtain ⟨gc,WC,hcv,hBC,hsrc⟩:=conv_src (O:=O) W9 s (fun hk=> by have:=k1 _ hk;omega)
 have h9C:=h9.trans (hBC.mono hz9)
 have hX9:=hX.below h9
 have hXC:=hX.below h9C
 have hrb9:=Blk.below hd9 hrb2 hrb2.lt
 have hrbC:=Blk.below hBC hrb9 hrb9.lt
 have hcb9:=Blk.below hd9 hcb2 hcb2.lt
 have hcbC:=Blk.below hBC hcb9 hcb9.lt
 have hrO:¬O (w.heap.size+1):=fun hk=> by have:=k1 _ hk;omega
 obtain ⟨RQ,hRQ⟩:∃RQ,RQ=UQ cap w0 O fdb vb tb fb sb pb mb (c+8) z' syb qb qm m WC (w.heap.size+1) #[.int .i64 0,.int .i64 0,.string ⟨#[]⟩]:=⟨_,rfl⟩
 obtain ⟨RF,hRF⟩:∃RF,RF=UQ cap w0 O fdb vb tb fb sb pb mb (c+8) z' syb qb qm m WC (w.heap.size+1) #[.int .i64 r1,.int .i64 r2,.string ⟨#[]⟩]:=⟨_,rfl⟩
 have hcl:Calls Tryz.prog 45 #[.pointer (some ⟨fdb,0,none⟩),.int .i64 pid,.int .i64 a,.slice (some ⟨W9.heap.size,0,none⟩) s.size gc] WC fun e w8=> e= .returned (.tuple #[.int .i64 v1,.int .i64 v2])∧RQ w8:=by
  rw [hRQ];exact (hcall WC hXC gc _ hsrc).mono (fun e w8 hq=> UQ.zp hXC hrbC hrO hq (by omega))
 have hpl:∀w1 w8,RQ w1→Below w1.heap.size w1 w8→RQ w8:=by rw [hRQ];exact fun w1 w8 h hB=> h.below hB
 have hrw:∀w1,RQ w1→Blk w1 (w.heap.size+1) #[.int .i64 0,.int .i64 0,.string ⟨#[]⟩] 32:=by rw [hRQ];exact fun w1 h=> h.2
 have hsf:∀w1,RQ w1→RF (w1.setRow (w.heap.size+1) #[.int .i64 r1,.int .i64 r2,.string ⟨#[]⟩]):=by rw [hRQ,hRF];exact fun w1 h=> h.store (by omega) hrO hrbC.lt ⟨by omega,by omega,by omega,by omega⟩ #[.int .i64 r1,.int .i64 r2,.string ⟨#[]⟩]
 have hcell:∀w1,w1=W9∨w1=WC→w1.cell? ⟨syb,2,none⟩=some (.pointer (some ⟨fdb,0,none⟩))∧w1.cell? ⟨w.heap.size,1,none⟩=some (.int .i64 a)∧w1.cell? ⟨w.heap.size,3,none⟩=some (.string s):=by
  intro w1 hw1
  rcases hw1 with e | e
  ·rw [e];exact ⟨hX9.sy.rd 2,hcb9.rd 1,hcb9.rd 3⟩
  ·rw [e];exact ⟨hXC.sy.rd 2,hcbC.rd 1,hcbC.rd 3⟩
 have HR:=Lib.hid (And.intro hcl (And.intro hpl (And.intro hrw (And.intro hsf (And.intro hcell hcv)))))
 have HF:=Lib.hid (And.intro hRF h9C)
 clear hX hcall hB2 hcb2 hrb2 hd9 h9 hX9 k0 k1 k2 k3 k4 k5 hrb9 hrO hpl hcl hrw hsf hRQ hRF q2 hcv hBC hsrc h9C hXC hrbC hcb9 hcbC hcell hz9 c9
 refine region_V 9 10 13 14 W9 WC RQ RQ RF hW9 (by kernel_rfl) (by kernel_rfl) ?_
 iterate 3
  apply wpJ_op rfl (by rfl)
  ·intro f w1 hf hJ Q1 hQ
   simp only [nrm] at hQ
   go_wp2_with (fail)
   exact hQ _ _ rfl (hJ.other rfl hf (by decide) (by decide) (by decide) (by decide))
  simp only [nrm]
 apply wpJ_op rfl (by rfl)
 ·intro f w1 hf hJ Q1 hQ
  have hA:f 10=false:=path_no hJ.1 [3] (by kernel_rfl) (by decide) hf.1
  have hB:f 13=false:=path_no hJ.1 [11,10] (by kernel_rfl) (by decide) hA
  have hS:f 14=false:=path_no hJ.1 [13] (by kernel_rfl) (by decide) hB
  have c3:=(HR.out.2.2.2.2.1 w1 (hJ.pre hA hB hS)).1
  simp only [nrm] at hQ
  go_wp2_with (fail)
  exact hQ _ _ rfl (hJ.other rfl hf (by decide) (by decide) (by decide) (by decide))
 iterate 2
  simp only [nrm]
  apply wpJ_op rfl (by rfl)
  ·intro f w1 hf hJ Q1 hQ
   simp only [nrm] at hQ
   go_wp2_with (fail)
   exact hQ _ _ rfl (hJ.other rfl hf (by decide) (by decide) (by decide) (by decide))
 simp only [nrm]
 apply wpJ_op rfl (by rfl)
 ·intro f w1 hf hJ Q1 hQ
  have hA:f 10=false:=path_no hJ.1 [6] (by kernel_rfl) (by decide) hf.1
  have hB:f 13=false:=path_no hJ.1 [11,10] (by kernel_rfl) (by decide) hA
  have hS:f 14=false:=path_no hJ.1 [13] (by kernel_rfl) (by decide) hB
  have c6:=(HR.out.2.2.2.2.1 w1 (hJ.pre hA hB hS)).2.1
  simp only [nrm] at hQ
  go_wp2_with (fail)
  exact hQ _ _ rfl (hJ.other rfl hf (by decide) (by decide) (by decide) (by decide))
 simp only [nrm]
 apply wpJ_op rfl (by rfl)
 ·intro f w1 hf hJ Q1 hQ
  simp only [nrm] at hQ
  go_wp2_with (fail)
  exact hQ _ _ rfl (hJ.other rfl hf (by decide) (by decide) (by decide) (by decide))
 simp only [nrm]
 apply wpJ_op rfl (by rfl)
 ·intro f w1 hf hJ Q1 hQ
  have hA:f 10=false:=path_no hJ.1 [9,8] (by kernel_rfl) (by decide) hf.1
  have hB:f 13=false:=path_no hJ.1 [11,10] (by kernel_rfl) (by decide) hA
  have hS:f 14=false:=path_no hJ.1 [13] (by kernel_rfl) (by decide) hB
  have c8:=(HR.out.2.2.2.2.1 w1 (hJ.pre hA hB hS)).2.2
  simp only [nrm] at hQ
  go_wp2_with (fail)
  exact hQ _ _ rfl (hJ.other rfl hf (by decide) (by decide) (by decide) (by decide))
 simp only [nrm]
 apply wpJ_op rfl (by rfl)
 ·intro f w1 hf hJ Q1 hQ
  have hA:f 10=false:=path_no hJ.1 [9] (by kernel_rfl) (by decide) hf.1
  have hB:f 13=false:=path_no hJ.1 [11,10] (by kernel_rfl) (by decide) hA
  have hS:f 14=false:=path_no hJ.1 [13] (by kernel_rfl) (by decide) hB
  rw [hJ.atC hf.1 hA hB hS]
  have hcv:=HR.out.2.2.2.2.2
  simp only [nrm] at hQ
  go_wp2_with (fail)
  exact hQ _ _ rfl (hJ.goC rfl hf hA hB hS (by decide) (by decide) (by decide))
 simp only [nrm]
 apply wpJ_op rfl (by rfl)
 ·intro f w1 hf hJ Q1 hQ
  have hB:f 13=false:=path_no hJ.1 [11,10] (by kernel_rfl) (by decide) hf.1
  have hS:f 14=false:=path_no hJ.1 [13] (by kernel_rfl) (by decide) hB
  have hC:f 9=true:=up_dep hf 9 (by kernel_rfl)
  rw [hJ.atA hC hf.1 hB hS]
  simp only [nrm] at hQ
  go_wp2_with (go_at_call 45;refine HR.out.1.mono ?_;rintro e w8 ⟨rfl,hq⟩)
  exact hQ _ _ rfl (hJ.goA rfl hf hB hS (by decide) (by decide) hq)
 iterate 2
  simp only [nrm]
  apply wpJ_op rfl (by rfl)
  ·intro f w1 hf hJ Q1 hQ
   simp only [nrm] at hQ
   go_wp2_with (fail)
   exact hQ _ _ rfl (hJ.other rfl hf (by decide) (by decide) (by decide) (by decide))
 simp only [nrm]
 apply wpJ_op rfl (by rfl)
 ·intro f w1 hf hJ Q1 hQ
  have hS:f 14=false:=path_no hJ.1 [13] (by kernel_rfl) (by decide) hf.1
  have hA:f 10=true:=up_dep hf 10 (by kernel_rfl)
  have hR1:=hJ.atB hA hf.1 hS
  simp only [nrm] at hQ
  go_wp2_with (go_at_call 41;refine (plain_is v1 v2 r1 r2 hr w1).mono ?_;rintro e w8 ⟨rfl,hBl⟩;have hq:=HR.out.2.1 _ _ hR1 hBl)
  exact hQ _ _ rfl (hJ.goB rfl hf hS (by decide) hq)
 simp only [nrm]
 apply wpJ_op (v:=undef) rfl (by rfl)
 ·intro f w1 hf hJ Q1 hQ
  have hB:f 13=true:=up_dep hf 13 (by kernel_rfl)
  have hR1:=hJ.atS hB hf.1
  simp only [nrm] at hQ
  go_wp2_with (refine wpList_store_row rfl 32 (.tmp 6) (.tmp 74) rfl (w.heap.size+1) #[.int .i64 r1,.int .i64 r2,.string ⟨#[]⟩] rfl rfl 32 #[.int .i64 0,.int .i64 0,.string ⟨#[]⟩] (HR.out.2.2.1 _ hR1) info_res rfl (by simp [Value.oneCell']) ?_)
  exact hQ _ _ rfl (hJ.goS rfl hf (HR.out.2.2.2.1 _ hR1))
 simp only [nrm]
 refine wpJ_nil ?_
 intro w9 hJ9
 have hq9:=hJ9.fin rfl
 clear hJ9
 obtain ⟨hRF,h9C⟩:=HF.out
 rw [hRF] at hq9
 go_wp2_with (fail)
 exact bodyPost_ret (v:=resV r1 r2 ⟨#[]⟩) (results_cellU (fn:=Tryz.f12) Tryz.results12 _ _ (w.heap.size+1) 32 #[.int .i64 r1,.int .i64 r2,.string ⟨#[]⟩] _ rfl hq9.2 Tryz.underlying32 rfl info_res) rfl ((hq9.up (show c+8≤c+10 by omega)).fin h9C (by omega))
end
end Go.Proofs.YtjpjafajploiaaaGreatDoor
namespace Go.Proofs.YtjpjafajploiaaaGreatDoor
open Go.RowKit Own RegJ Two
open Go.Lib hiding intOf
def listF (ns:NSt) (l:Txt):List En×Int:=if (walkR ns l).2≠0 then ([],(walkR ns l).2) else match dirAt ns (walkR ns l).1 with
 | none=> ([],11)
 | some nd=> (nd.es,0)
def listD (es:List En):Txt:=es.flatMap fun x=> x.1++ [10]
section
variable {cap:Nat} {w0 w w1 w2 w' W9 w8:World} {O O' O1:Nat→Prop} {fdb vb tb fb sb pb mb c c' :Nat} {z z' :Z} {syb qb qm n s rb:Nat} {m m' :PrM} {cs zs:Array Value}
theorem zz_list (h:EZ cap w0 O fdb vb tb fb sb pb mb c z w) (l:Txt) (hl:l.length≤100000) (es:List En) (er:Int) (hr:listF z.ns l=(es,er)) (s:ByteArray) (hs:s=B l):
  Calls Tryz.prog 29 #[.pointer (some ⟨vb,0,none⟩),.string s] w fun e w' => ∃a cp b,e= .returned (.tuple #[.slice a es.length cp,.int .i64 er])∧Row2 w' 188 (.slice a es.length cp) (es.map enV) b∧Below w.heap.size w w' :=by
 subst hs
 refine h.vv (fun C lo hV=> ?_)
 obtain ⟨x,y,hw⟩:∃x y,walkR z.ns l=(x,y):=⟨_,_,rfl⟩
 unfold listF at hr
 rw [hw] at hr
 simp only at hr
 by_cases h0:y=0
 ·subst h0
  rw [if_neg (by decide)] at hr
  cases hd:dirAt z.ns x with
  | none=>
   rw [hd] at hr;cases hr
   refine (lst_no hV l hl x hw hd).mono ?_
   rintro e w1 ⟨rfl,hB⟩
   exact ⟨none,0,none,rfl,.inl ⟨rfl,rfl,rfl⟩,hB⟩
  | some nd=>
   rw [hd] at hr;cases hr
   obtain ⟨i,rfl,hi,hdir⟩:=dirAt_some hd
   refine (lst_yes hV l hl i nd hi hdir hw).mono ?_
   rintro e w1 ⟨w2,hB,v,b,rfl,hR,hb,hB2⟩
   obtain ⟨a,cp,rfl⟩:=hR.slice
   rw [List.length_map] at hR ⊢
   exact ⟨a,cp,b,rfl,hR,hB.trans (hB2.mono hB.size)⟩
 ·rw [if_pos h0] at hr;cases hr
  refine (lst_err hV l hl x er hw h0).mono ?_
  rintro e w1 ⟨rfl,hB⟩
  exact ⟨none,0,none,rfl,.inl ⟨rfl,rfl,rfl⟩,hB⟩
theorem listD_take {es:List En} {i:Nat} {x:En} (h:es[i]? =some x):listD (es.take (i+1))=listD (es.take i)++(x.1++ [10]):=by
 unfold listD
 rw [List.take_add_one,h,List.flatMap_append]
 simp
theorem B_sz (l:Txt):(B l).size=l.length:=by simp [B,ByteArray.size]
theorem listD_len:∀(es:List En),(∀x∈es,x.1.length≤1000)→(listD es).length≤1001*es.length
 | [],_=> Nat.le_refl _
 | x::r,h=> by
  have h1:=listD_len r (fun y hy=> h y (List.mem_cons_of_mem _ hy))
  have h2:=h x (List.mem_cons_self ..)
  unfold listD at h1 ⊢
  rw [List.flatMap_cons,List.length_append,List.length_append,List.length_cons]
  simp only [List.length_cons,List.length_nil]
  omega
set_option maxRecDepth 100000 in
set_option maxHeartbeats 4000000 in
theorem zulist_is (h:UZ cap w0 O fdb vb tb fb sb pb mb c z syb qb qm m w) (l:Txt) (hl:l.length≤100000) (es:List En) (er:Int) (hr:listF z.ns l=(es,er)) (hlen:es.length≤100000) (hnm:∀x∈es,x.1.length≤1000) (s:ByteArray) (hs:s=B l) (a bq:Int) (t:ByteArray) (e1 e2:Int) (he:plR (es.length:Int) er=(e1,e2)):
  Calls Tryz.prog 54 #[.pointer (some ⟨syb,0,none⟩),.agg #[.int .i64 13,.int .i64 a,.int .i64 bq,.string s,.string t]] w fun e w' => e= .returned (.agg #[.int .i64 e1,.int .i64 e2,.string (B (listD es))])∧Below w.heap.size w w' :=by
 obtain ⟨hal,h2,hcb,hb⟩:=h.call #[.int .i64 13,.int .i64 a,.int .i64 bq,.string s,.string t] #[.int .i64 0,.int .i64 0,.string ⟨#[]⟩] 35 32
 have hls:=fun (W:World) (hB:Below w.heap.size w W)=> zz_list (h.below hB).ez l hl es er hr s hs
 obtain ⟨q,hq⟩:∃q,es.length=q:=⟨_,rfl⟩
 have hpe:(if er=0 then ((0:Int),(q:Int)) else (er,0))=(e1,e2):=by rw [←hq];exact he
 have HS:=Lib.hid (And.intro hls (And.intro hb (And.intro hal (And.intro hq (And.intro hlen hnm)))))
 have c2:=h2.sy.rd 1
 have c4:=hcb.rd
 clear h h2 hal hb hcb hr hs hls hq he hlen hnm
 go_enter Tryz.func54,Tryz.ntmps54
 go_upto_region 1 with (fail)
 go_region_with (go_at_call 29;refine (HS.out.1 _ (HS.out.2.2.1.trans ((dn _ _).mono HS.out.2.2.1.size))).mono ?_;rintro e w1 ⟨ra,cp,gb,rfl,hRow,hB1⟩;rw [HS.out.2.2.2.1] at hRow ⊢;have hk1:=Blk.below hB1 (Blk.below (dn _ _) HS.out.2.1 HS.out.2.1.lt) (Blk.below (dn _ _) HS.out.2.1 HS.out.2.1.lt).lt;have hw1:=(HS.out.2.2.1.trans ((dn _ _).mono HS.out.2.2.1.size)).trans (hB1.mono (HS.out.2.2.1.trans ((dn _ _).mono HS.out.2.2.1.size)).size);have H1:=Lib.hid (And.intro hRow (And.intro hk1 hw1));clear hRow hB1 hk1 hw1)
 all_goals
  have hq6:q≤100000:=by rw [←HS.out.2.2.2.1];exact HS.out.2.2.2.2.1
  go_wp2_with (go_at_call 41;refine (plain_is (q:Int) er e1 e2 hpe w1).mono ?_;rintro e w3 ⟨rfl,hBp⟩;have H3:=Lib.hid (And.intro (H1.out.1.below hBp) (And.intro (Blk.below hBp H1.out.2.1 H1.out.2.1.lt) (H1.out.2.2.trans (hBp.mono H1.out.2.2.size))));clear hBp)
  go_loopw [26] (fun ix wr=> ∃i:Nat,i≤q∧ix= .int .i64 i∧Hid (Blk wr w3.heap.size #[.int .i64 e1,.int .i64 e2,.string (B (listD (es.take i)))] 32∧Below w3.heap.size w3 wr)) (fun ix _=> q - (intOf ix).toNat)
  case atStart=> exact ⟨0,Nat.zero_le _,rfl,Lib.hid ⟨Blk.new w3 _ _,(Below.refl _ _).alloc (Nat.le_refl _) _⟩⟩
  case round=>
   obtain ⟨i,hi,rfl,H⟩:=hrel
   obtain ⟨hRb,hBw⟩:=H.out
   by_cases him:i < q
   ·have d1:decide ((i:Int) < q)=true:=by simp;omega
    have i1:(i:Int) < q:=by omega
    have i2:(0:Int)≤i:=by omega
    obtain ⟨dx,hdx⟩:∃dx,es[i]? =some dx:=⟨_,List.getElem?_eq_getElem (by rw [HS.out.2.2.2.1];exact him)⟩
    obtain ⟨kg,rfl,hk1,hk2⟩:=(H3.out.1.rd.below hBw) i (enV dx) (by rw [List.getElem?_map,hdx];rfl)
    have hT:=listD_take hdx
    obtain ⟨nm,vi⟩:=dx
    simp only [enV] at hk1 hk2 hT
    obtain ⟨Sx,hSx⟩:∃Sx,B (listD (es.take i))=Sx:=⟨_,rfl⟩
    obtain ⟨Nx,hNx⟩:∃Nx,B nm=Nx:=⟨_,rfl⟩
    rw [hNx] at hk1
    rw [hSx] at hRb
    have hRa:=hRb.alloc (.cells #[.string Nx,.int .i64 vi] 188)
    have k5:=hRa.rd
    have f5:=hRa.nf 2
    have hbd:Sx.size+(Nx.size+1)≤9223372036854775807:=by
     have g1:=listD_len (es.take i) (fun x hx=> HS.out.2.2.2.2.2 x (List.mem_of_mem_take hx))
     have g2:=HS.out.2.2.2.2.2 _ (List.mem_of_getElem? hdx)
     have g3:=List.length_take_le i es
     rw [←hSx,←hNx,B_sz,B_sz]
     simp only at g2
     have g4:=HS.out.2.2.2.2.1
     have g5:(es.take i).length≤es.length:=by rw [List.length_take];omega
     omega
    have d5:¬9223372036854775807 < Sx.size+(Nx.size+1):=by omega
    have HD:=Lib.hid (And.intro hT (And.intro hRa hBw))
    have HX:=Lib.hid (And.intro hSx hNx)
    clear hdx hT hRb hBw hSx hNx hRa
    go_wp2_with (fail)
    go_roundw
    case rel=>
     obtain ⟨hT,hRa,hBw⟩:=HD.out
     have e:Sx++(Nx++⟨#[10]⟩)=B (listD (es.take (i+1))):=by
      rw [hT,←B_app,←B_app,HX.out.1,HX.out.2]
     refine ⟨i+1,by omega,by go_num,Lib.hid ⟨?_,?_⟩⟩
     ·rw [←e];exact Blk.of (hRa.set 2 _) rfl
     ·exact (hBw.alloc hBw.size _).trans (((Upd.refl (fun k=> k=w3.heap.size) _).setCell (p:=⟨w3.heap.size,2,none⟩) (fun _=> rfl) _).below (by have:=hBw.size;simp;omega) (fun k hk=> by omega))
    case measure=> simp [intOf];omega
   ·have d1:decide ((i:Int) < q)=false:=by simp;omega
    obtain rfl:i=q:=by omega
    rw [List.take_of_length_le (by rw [HS.out.2.2.2.1];exact Nat.le_refl _)] at hRb
    have k5:=hRb.rd
    have hbr:=Blk.below hBw H3.out.2.1 H3.out.2.1.lt
    have HG:=Lib.hid (And.intro hbr hBw)
    clear hRb hBw hbr
    go_wp2_with ((refine wpList_store_row rfl 32 (.tmp 4) (.tmp 38) rfl (w.heap.size+1) #[.int .i64 e1,.int .i64 e2,.string (B (listD es))] rfl rfl 32 #[.int .i64 0,.int .i64 0,.string ⟨#[]⟩] HG.out.1 info_res rfl (by simp [Value.oneCell']) ?_))
    exact bodyPost_ret (v:= .agg #[.int .i64 e1,.int .i64 e2,.string (B (listD es))]) (results_cellU (fn:=Tryz.f54) Tryz.results54 _ _ (w.heap.size+1) 32 #[.int .i64 e1,.int .i64 e2,.string (B (listD es))] _ rfl (blk_row HG.out.1 _) Tryz.underlying32 rfl info_res) rfl ⟨rfl,(H3.out.2.2.trans (HG.out.2.mono H3.out.2.2.size)).trans ((upd_row _ _ _).below (by have:=HG.out.2.size;have:=H3.out.2.2.size;omega) (fun k hk=> by omega))⟩
set_option maxRecDepth 100000 in
set_option maxHeartbeats 4000000 in
theorem zudo_list (h:UZ cap w0 O fdb vb tb fb sb pb mb c z syb qb qm m w) (pid:Int) (hw:(Lit.int .i64 pid).wf=true) (hd:aliveF m pid=true) (a bq:Int) (s t:ByteArray) (hm:mayB 13 a bq s t=true) (l:Txt) (hl:l.length≤100000) (hs:s=B l) (es:List En) (er:Int) (hr:listF z.ns l=(es,er)) (hlen:es.length≤100000) (hnm:∀x∈es,x.1.length≤1000) (e1 e2:Int) (he:plR (es.length:Int) er=(e1,e2)):
  Calls Tryz.prog 12 #[.pointer (some ⟨syb,0,none⟩),.int .i64 pid,.agg #[.int .i64 13,.int .i64 a,.int .i64 bq,.string s,.string t]] w (UZP cap w0 O fdb vb tb fb sb pb mb (c+10) z syb qb qm m w (.agg #[.int .i64 e1,.int .i64 e2,.string (B (listD es))])):=by
 obtain ⟨hal,h2,hcb,hb⟩:=h.call #[.int .i64 13,.int .i64 a,.int .i64 bq,.string s,.string t] #[.int .i64 0,.int .i64 0,.string ⟨#[]⟩] 35 32
 have c3:=h2.sy.rd 3
 have ha:=alive_is h2.pr.b pid hw true hd
 have hma:=fun w1=> may_any 13 a bq s t w1
 simp only [hm] at hma
 clear hm
 have hch:=fun w1 (hB:Below w.heap.size w w1)=> zulist_is (h.below hB) l hl es er hr hlen hnm s hs a bq t e1 e2 he
 have H:=Lib.hid (And.intro hal (And.intro hcb (And.intro hb (And.intro h hch))))
 clear h h2 hal hb hcb hw hd hch hr he hs hlen hnm
 go_enter Tryz.func12,Tryz.ntmps12
 go_wp2_with (first
  | (go_at_call 22;refine ha.mono ?_;rintro e w1 ⟨rfl,hB⟩;have q1:=(Blk.below hB H.out.2.1 H.out.2.1.lt).rd;have H1:=Lib.hid (And.intro (H.out.1.trans (hB.mono H.out.1.size)) (And.intro (Blk.below hB H.out.2.1 H.out.2.1.lt) (Blk.below hB H.out.2.2.1 H.out.2.2.1.lt)));clear hB ha)
  | (go_at_call 40;refine (hma _).mono ?_;rintro e w2 ⟨rfl,hB⟩;have q2:=(Blk.below hB H1.out.2.1 H1.out.2.1.lt).rd;have c9:=(H.out.2.2.2.1.below (H1.out.1.trans (hB.mono H1.out.1.size))).sy.rd;have H2:=Lib.hid (And.intro (H1.out.1.trans (hB.mono H1.out.1.size)) (And.intro (Blk.below hB H1.out.2.1 H1.out.2.1.lt) (Blk.below hB H1.out.2.2 H1.out.2.2.lt)));clear hB hma q1)
  | (go_at_call 54;refine (H.out.2.2.2.2 w2 H2.out.1).mono ?_;rintro e w3 ⟨rfl,hB⟩;have H3:=Lib.hid (And.intro (H2.out.1.trans (hB.mono H2.out.1.size)) (Blk.below hB H2.out.2.2 H2.out.2.2.lt));clear hB)
  | (refine wpList_store_row rfl 32 (.tmp 6) (.tmp 163) rfl (w.heap.size+1) #[.int .i64 e1,.int .i64 e2,.string (B (listD es))] rfl rfl 32 #[.int .i64 0,.int .i64 0,.string ⟨#[]⟩] H3.out.2 info_res rfl (by simp [Value.oneCell']) ?_))
 exact bodyPost_ret (v:= .agg #[.int .i64 e1,.int .i64 e2,.string (B (listD es))]) (results_cellU (fn:=Tryz.f12) Tryz.results12 _ _ (w.heap.size+1) 32 #[.int .i64 e1,.int .i64 e2,.string (B (listD es))] _ rfl (blk_row H3.out.2 _) Tryz.underlying32 rfl info_res) rfl (UZP.stored H.out.2.2.2.1 H3.out.1 (by omega) _ (by omega))
end
end Go.Proofs.YtjpjafajploiaaaGreatDoor
namespace Go.Proofs.YtjpjafajploiaaaGreatDoor
open Go.RowKit Own RegJ Two
open Go.Lib hiding intOf
abbrev UR:=Int×Int×ByteArray
def nb (p:Int×Int):UR:=(p.1,p.2,⟨#[]⟩)
def tx (s:ByteArray):Txt:=s.data.toList
theorem tx_B (s:ByteArray):s=B (tx s):=by cases s;simp [B,tx]
theorem tx_len (s:ByteArray):(tx s).length=s.size:=by unfold tx;rw [Array.length_toList];rfl
def u8s (s:ByteArray):List Int:=s.data.toList.map fun c=> (c.toNat:Int)
def toU (ys:List Int):Txt:=ys.map fun y=> UInt8.ofNat y.toNat
theorem toU_is {ys:List Int} (h:∀y∈ys,0≤y∧y < 256):ys=(toU ys).map fun c=> (c.toNat:Int):=by
 unfold toU
 rw [List.map_map]
 refine (List.map_id ys).symm.trans (List.map_congr_left fun y hy=> ?_)
 have:=h y hy
 show y=((UInt8.ofNat y.toNat).toNat:Int)
 rw [UInt8.toNat_ofNat']
 omega
noncomputable def udoK (cap:Nat) (z:Z) (m:PrM) (pid sys a b:Int) (s t:ByteArray):UR×Z×PrM:=
 if sys=1 then (nb (plR (openZ z pid (tx s) a).1 (openZ z pid (tx s) a).2.1),(openZ z pid (tx s) a).2.2,m)
 else if sys=2 then (nb (plR 0 (closeZ z pid a).1),(closeZ z pid a).2,m)
 else if sys=3 then ((if (readZ z pid a b).2.1=0 then (0,((readZ z pid a b).1.length:Int),B (toU (readZ z pid a b).1)) else ((readZ z pid a b).2.1,0,⟨#[]⟩)),(readZ z pid a b).2.2,m)
 else if sys=4 then (nb (plR (writeZ cap z pid a (u8s s)).1 (writeZ cap z pid a (u8s s)).2.1),(writeZ cap z pid a (u8s s)).2.2,m)
 else if sys=5 then (nb (plR 0 (seekZ z pid a b).1),(seekZ z pid a b).2,m)
 else if sys=6 then (nb (plR (dupZ z pid a).1 (dupZ z pid a).2.1),(dupZ z pid a).2.2,m)
 else if sys=7 then (nb (plR 0 (linkF z.ns (tx s) (tx t)).1),{z with ns:=(linkF z.ns (tx s) (tx t)).2},m)
 else if sys=8 then (nb (plR 0 (atPar z.ns (tx s) (fun d nm=> remF z.ns d nm false 12)).1),{z with ns:=(atPar z.ns (tx s) (fun d nm=> remF z.ns d nm false 12)).2},m)
 else if sys=9 then (nb (plR 0 (atPar z.ns (tx s) (mkdirF z.ns)).1),{z with ns:=(atPar z.ns (tx s) (mkdirF z.ns)).2},m)
 else if sys=10 then (nb (plR 0 (atPar z.ns (tx s) (fun d nm=> remF z.ns d nm true 11)).1),{z with ns:=(atPar z.ns (tx s) (fun d nm=> remF z.ns d nm true 11)).2},m)
 else if sys=11 then (nb (plR (pipeZ cap z pid).1 (pipeZ cap z pid).2.1),(pipeZ cap z pid).2.2,m)
 else if sys=12 then (nb (plR (statV (statF z.ns (tx s)).1) (statF z.ns (tx s)).2),z,m)
 else if sys=13 then (((plR ((listF z.ns (tx s)).1.length:Int) (listF z.ns (tx s)).2).1,(plR ((listF z.ns (tx s)).1.length:Int) (listF z.ns (tx s)).2).2,B (listD (listF z.ns (tx s)).1)),z,m)
 else if sys=16 then (nb (plR (wrap64 (wrap64 (1000*(childP m pid).1)+(childP m pid).2.1)) (childP m pid).2.2.1),z,(childP m pid).2.2.2)
 else if sys=17 then ((0,pid,⟨#[]⟩),z,m)
 else ((19,0,⟨#[]⟩),z,m)
noncomputable def udoZ (cap:Nat) (z:Z) (m:PrM) (pid sys a b:Int) (s t:ByteArray):UR×Z×PrM:=
 if aliveF m pid=false then ((4,0,⟨#[]⟩),z,m) else if mayB sys a b s t=false then ((19,0,⟨#[]⟩),z,m) else udoK cap z m pid sys a b s t
structure BY (z:Z):Prop where
 bs:∀i nd,z.ns i=some nd→(∀y∈nd.bs,0≤y∧y < 256)∧∀x∈nd.es,x.1.length≤1000
 pp:∀i p,z.ps i=some p→∀y∈p.dt,0≤y∧y < 256
section
variable {cap:Nat} {w0 w w1 w2 w' W9 w8:World} {O O' O1:Nat→Prop} {fdb vb tb fb sb pb mb c c' :Nat} {z z' :Z} {syb qb qm n s rb:Nat} {m m' :PrM} {cs zs:Array Value}
theorem filesOf_some {ns:NSt} {id:Int} {bs:List Int} (h:fsAt (filesOf ns) id=some bs):∃i nd,ns i=some nd∧nd.bs=bs:=by
 obtain ⟨i,-,hi⟩:=fsAt_some h
 unfold filesOf at hi
 cases hn:ns i with
 | none=> rw [hn] at hi;cases hi
 | some nd=>
  rw [hn] at hi
  simp only at hi
  split at hi
  ·cases hi
  ·exact ⟨i,nd,hn,Option.some.inj hi⟩
theorem preadF_by (hY:BY z) (id n:Int):∀y∈(preadF z.ps id n).1,0≤y∧y < 256:=by
 unfold preadF
 cases hat:psAt z.ps id with
 | none=> intro y hy;cases hy
 | some p=>
  obtain ⟨i,-,hi⟩:=psAt_some hat
  simp only
  repeat' split
  all_goals intro y hy
  all_goals first | (cases hy;done) | exact hY.pp i p hi y (List.mem_of_mem_take hy)
theorem readV_by (hY:BY z) (id off n:Int):∀y∈(readV (filesOf z.ns) id off n).1,0≤y∧y < 256:=by
 unfold readV
 cases hbs:fsAt (filesOf z.ns) id with
 | none=> intro y hy;cases hy
 | some bs=>
  obtain ⟨i,nd,hi,rfl⟩:=filesOf_some hbs
  simp only
  split
  ·intro y hy;cases hy
  ·intro y hy
   exact (hY.bs i nd hi).1 y (List.mem_of_mem_drop (List.mem_of_mem_take hy))
theorem readZ_by (hY:BY z) (pid d n:Int):∀y∈(readZ z pid d n).1,0≤y∧y < 256:=by
 unfold readZ Z.on
 cases z.pr pid with
 | none=> intro y hy;cases hy
 | some f=>
  simp only
  cases fdZ f d with
  | none=> intro y hy;cases hy
  | some k=>
   simp only
   by_cases h1:(z.th k).wr=true
   ·rw [if_pos h1];intro y hy;cases hy
   ·rw [if_neg h1]
    by_cases h2:(z.th k).pp=true
    ·rw [if_pos h2];exact preadF_by hY _ _
    ·rw [if_neg h2];exact readV_by hY _ _ _
theorem path_len {s:ByteArray} (h:pathB s=true):s.size≤100:=by simpa [pathB] using h
theorem zudo_is (h:UZ cap w0 O fdb vb tb fb sb pb mb c z syb qb qm m w) (hc:c≤8900) (hY:BY z) (pid:Int) (hw:(Lit.int .i64 pid).wf=true) (sys a b:Int) (s t:ByteArray) (r1 r2:Int) (d:ByteArray) (hr:udoZ cap z m pid sys a b s t=((r1,r2,d),z',m')):
  Calls Tryz.prog 12 #[.pointer (some ⟨syb,0,none⟩),.int .i64 pid,.agg #[.int .i64 sys,.int .i64 a,.int .i64 b,.string s,.string t]] w (UZP cap w0 O fdb vb tb fb sb pb mb (c+10) z' syb qb qm m' w (.agg #[.int .i64 r1,.int .i64 r2,.string d])):=by
 unfold udoZ at hr
 cases hd:aliveF m pid with
 | false=> rw [if_pos hd] at hr;cases hr;exact zudo_dead h pid hw hd sys a b s t
 | true=>
  rw [if_neg (by rw [hd];decide)] at hr
  cases hm:mayB sys a b s t with
  | false=> rw [if_pos hm] at hr;cases hr;exact zudo_bad h pid hw hd sys a b s t hm
  | true=>
   rw [if_neg (by rw [hm];decide)] at hr
   have hsys:sys=1∨sys=2∨sys=3∨sys=4∨sys=5∨sys=6∨sys=7∨sys=8∨sys=9∨sys=10∨sys=11∨sys=12∨sys=13∨sys=14∨sys=15∨sys=16∨sys=17:=by
    rcases Decidable.em (sys < 1∨17 < sys) with hx | hx
    ·rw [mayB_x hx] at hm;cases hm
    ·omega
   have hlen:∀u:ByteArray,pathB u=true→(tx u).length≤100000:=fun u hu=> by rw [tx_len];have:=path_len hu;omega
   rcases hsys with rfl | rfl | rfl | rfl | rfl | rfl | rfl | rfl | rfl | rfl | rfl | rfl | rfl | rfl | rfl | rfl | rfl
   ·have hp:=hm;rw [mayB_1] at hp;simp only [Bool.and_eq_true] at hp
    cases hr
    exact zudo_open h hc pid hw hd a b s t hm (tx s) (hlen s hp.1.1.1) (tx_B s) _ _ rfl
   ·cases hr
    exact zudo_close h hc pid hw hd a b s t hm _ _ rfl
   ·have hp:=hm;rw [mayB_3] at hp;simp only [Bool.and_eq_true,withinB,decide_eq_true_eq] at hp
    have e1:(udoK cap z m pid 3 a b s t)=((if (readZ z pid a b).2.1=0 then (0,((readZ z pid a b).1.length:Int),B (toU (readZ z pid a b).1)) else ((readZ z pid a b).2.1,0,⟨#[]⟩)),(readZ z pid a b).2.2,m):=rfl
    rw [e1] at hr
    obtain ⟨g1,g2⟩:=Prod.mk.inj hr
    obtain ⟨rfl,rfl⟩:=Prod.mk.inj g2
    exact zudo_read h pid hw hd a b (by omega) s t hm _ _ rfl (toU (readZ z pid a b).1) (toU_is (readZ_by hY pid a b)) _ _ _ g1
   ·have hp:=hm;rw [mayB_4] at hp;simp only [Bool.and_eq_true,decide_eq_true_eq] at hp
    cases hr
    exact zudo_write h hc pid hw hd a b s t (by omega) hm _ _ rfl _ _ rfl
   ·have hp:=hm;rw [mayB_5] at hp;simp only [Bool.and_eq_true,withinB,decide_eq_true_eq] at hp
    cases hr
    exact zudo_seek h hc pid hw hd a b s t hm (by omega) _ _ rfl
   ·cases hr
    exact zudo_dup h hc pid hw hd a b s t hm _ _ rfl
   ·have hp:=hm;rw [mayB_7] at hp;simp only [Bool.and_eq_true] at hp
    cases hr
    exact zudo_link h hc pid hw hd a b s t hm (tx s) (tx t) (hlen s hp.1.1.1) (hlen t hp.1.1.2) (tx_B s) (tx_B t) _ _ rfl
   ·have hp:=hm;rw [mayB_8] at hp;simp only [Bool.and_eq_true] at hp
    cases hr
    exact zudo_unlink h hc pid hw hd a b s t hm (tx s) (hlen s hp.1.1.1) (tx_B s) _ _ rfl
   ·have hp:=hm;rw [mayB_9] at hp;simp only [Bool.and_eq_true] at hp
    cases hr
    exact zudo_mkdir h hc pid hw hd a b s t hm (tx s) (hlen s hp.1.1.1) (tx_B s) _ _ rfl
   ·have hp:=hm;rw [mayB_10] at hp;simp only [Bool.and_eq_true] at hp
    cases hr
    exact zudo_rmdir h hc pid hw hd a b s t hm (tx s) (hlen s hp.1.1.1) (tx_B s) _ _ rfl
   ·cases hr
    exact zudo_pipe h hc pid hw hd a b s t hm _ _ rfl
   ·have hp:=hm;rw [mayB_12] at hp;simp only [Bool.and_eq_true] at hp
    cases hr
    exact zudo_stat h pid hw hd a b s t hm (tx s) (hlen s hp.1.1.1) (tx_B s) _ _ rfl
   ·have hp:=hm;rw [mayB_13] at hp;simp only [Bool.and_eq_true] at hp
    cases hr
    have hes:(listF z.ns (tx s)).1.length≤100000∧∀x∈(listF z.ns (tx s)).1,x.1.length≤1000:=by
     unfold listF
     split
     ·exact ⟨Nat.zero_le _,fun x hx=> by cases hx⟩
     ·split
      ·exact ⟨Nat.zero_le _,fun x hx=> by cases hx⟩
      ·rename_i nd hdd
       obtain ⟨i,-,hi,-⟩:=dirAt_some hdd
       refine ⟨?_,(hY.bs i nd hi).2⟩
       obtain ⟨S,φ,hE,_⟩:=h.ez
       have:=hE.iv.len i nd hi
       simp only
       omega
    exact zudo_list h pid hw hd a b s t hm (tx s) (hlen s hp.1.1.1) (tx_B s) _ _ rfl hes.1 hes.2 _ _ rfl
   ·cases hr;exact zudo_no14 h pid hw hd a b s t hm
   ·cases hr;exact zudo_no15 h pid hw hd a b s t hm
   ·cases hr
    exact zudo_child h hc pid hw hd a b s t hm _ _ _ rfl _ _ rfl
   ·cases hr;exact zudo_pid h pid hw hd a b s t hm
end
end Go.Proofs.YtjpjafajploiaaaGreatDoor
