/-
  Pipes: bytes put and got; Write and Read.
-/
import Derived.Test.YtjpjafajploiaaaGreatDoorUnixAlone32
set_option linter.unusedSimpArgs false
set_option linter.unusedVariables false
namespace Go.Proofs.YtjpjafajploiaaaGreatDoor
open Go.RowKit Own RegJ Two
open Go.Lib hiding intOf
abbrev piC (f:Nat) (v:Value) (rd wt:Int):Array Value:= #[.int .i64 f,.int .i64 0,.int .i64 64,v,.int .i64 rd,.int .i64 wt]
section
variable {w w' :World}
set_option maxRecDepth 100000 in
theorem pput_is {k f:Nat} {rd wt:Int} {v0:Value} {dt:List Int} {row:Option Nat} (hB:Blk w k (piC f v0 rd wt) 234) (hR:RowV w 5 v0 (ucells dt) row) (hk:row≠some k) (b:List Int) (n:Nat) (hn:b.length=n) (a:Option Addr) (c:Nat)
  (hsrc:0 < b.length→∃g q,a=some ⟨g,q,none⟩∧RdV w (some ⟨g,q,none⟩) (ucells b)) (hl:dt.length+b.length≤64):
  Calls Tryz.prog 194 #[.pointer (some ⟨k,0,none⟩),.slice a n c] w fun e w' => e= .returned (.slice none 0 0)∧∃v' row',Blk w' k (piC f v' rd wt) 234∧RowV w' 5 v' (ucells (dt++b)) row' ∧(∀g,row' =some g→row=some g∨w.heap.size≤g)∧Upd (fun j=> j=k∨row=some j) w w' :=by
 obtain ⟨a0,c0,rfl,-,-⟩:=hR.len_u8
 have c1:=hB.rd
 have hs2:0 < n→∃A,a=some A∧∀(j:Nat) (u:Value),(ucells b)[j]? =some u→w.cell? (A.add j)=some u:=fun h0=> by
  obtain ⟨g,q,e,hr⟩:=hsrc (by omega)
  exact ⟨⟨g,q,none⟩,e,fun j u hj=> by obtain ⟨A',e2,h2⟩:=hr j u hj;cases e2;exact h2⟩
 have hbl:(ucells b).length=n:=by simp [hn]
 have H:=Lib.hid (And.intro hB (And.intro hR (And.intro hk (And.intro hs2 (And.intro hbl (And.intro hl hn))))))
 obtain ⟨L,hL⟩:∃L,dt.length=L:=⟨_,rfl⟩
 rw [hL] at c1
 have HL:=Lib.hid hL
 clear hB hR hk hsrc hl hs2 hbl hn hL
 go_enter Tryz.func194,Tryz.ntmps194
 go_wp2_with (at_builtin;refine wp_appV rfl _ _ 22 5 (.int .u8 0) 1 (by kernel_rfl) rfl (by decide) under8 rfl (.slice a0 L c0) (ucells dt) row rfl (by have h:=H.out.2.1;rw [HL.out] at h;exact h) a n c (ucells b) H.out.2.2.2.2.1 rfl H.out.2.2.2.1 (ucells_one b) (by (have:=H.out.2.2.2.2.2.1;simp;omega)) ?_;intro v' w1 b' hI hb' hu;obtain ⟨a2,c2,rfl,-,-⟩:=hI.slice;have hB1:=Blk.upd hu H.out.1 H.out.2.2.1;have k1:=hB1.rd;have f1:=hB1.nf;have H1:=Lib.hid (And.intro hI (And.intro hb' (And.intro hu hB1)));clear hI hb' hu hB1)
 go_ret
 obtain ⟨hI,hb',hu,hB1⟩:=H1.out
 have el:(ucells dt++ucells b).length=dt.length+b.length:=by simp
 rw [el] at hI
 have hu2:Upd (fun j=> j=k∨row=some j) w (w1.setCell ⟨k,3,none⟩ (.slice a2 (dt.length+b.length) c2)):=(hu.mono (fun j _ e=> .inr e)).setCell (p:=⟨k,3,none⟩) (fun _=> .inl rfl) _
 have e5:ucells dt++ucells b=ucells (dt++b):=by simp [ucells]
 refine ⟨rfl,_,b',(hB1.set 3 _).of rfl,?_,hb',hu2⟩
 rw [←e5]
 exact hI.upd ((Upd.refl (fun j=> j=k) w1).setCell (p:=⟨k,3,none⟩) (fun _=> rfl) _) (fun g hg e=> by
  rcases hb' g hg with h1 | h1
  ·exact H.out.2.2.1 (by rw [h1,e])
  ·have:=H.out.1.lt;omega)
theorem slL (g L c d:Nat) (hd:d≤L) (hc:L≤c) (w:World):(Instr.slice 22 (.slice (some ⟨g,0,none⟩) L c) (some (.int .i64 d)) none none).run Tryz.prog w= .ok (.slice (some (if c=d then ⟨g,0,none⟩ else ⟨g,d,none⟩)) (L - d) (c - d)) w:=by
 rw [run_slice_l w 22 (some ⟨g,0,none⟩) L c und8 .i64 d (by omega) (by omega),siz8]
 simp only [Result.andThen_ok,sliced,Int.toNat_natCast,Nat.mul_one]
 by_cases e:c=d
 ·rw [if_pos e,if_pos e]
 ·rw [if_neg e,if_neg e]
  simp [Addr.add]
  intro h;exact h.symm
theorem slH (g m:Nat) (w:World):(Instr.slice 22 (.slice (some ⟨g,0,none⟩) m m) none (some (.int .i64 m)) none).run Tryz.prog w= .ok (.slice (some ⟨g,0,none⟩) m m) w:=by
 rw [run_slice_h w 22 (some ⟨g,0,none⟩) m m und8 .i64 m (by omega) (by omega),siz8]
 simp only [Result.andThen_ok,sliced,Int.toNat_natCast,Nat.mul_one,Nat.zero_mul,Nat.sub_zero]
 split <;> simp [Addr.add]
def GetP (k f g m:Nat) (rd wt:Int) (dt:List Int) (w:World) (e:Ending) (w' :World):Prop:=e= .returned (.slice (some ⟨g,0,none⟩) m m)∧∃v' row',Blk w' k (piC f v' rd wt) 234∧RowV w' 5 v' (ucells (dt.drop m)) row' ∧(∀j,row' =some j→w.heap.size≤j)∧Upd (fun j=> j=k∨j=g) w w' ∧Blk w' g (ucells (dt.take m)).toArray 5
set_option maxRecDepth 100000 in
set_option maxHeartbeats 1000000 in
theorem pget_is {k f g m:Nat} {rd wt:Int} {v0:Value} {dt:List Int} {row:Option Nat} (hB:Blk w k (piC f v0 rd wt) 234) (hR:RowV w 5 v0 (ucells dt) row) (hk:row≠some k) (hgk:g≠k) (hgr:row≠some g) {cs:Array Value} (hG:Blk w g cs 5) (hcs:cs.size=m) (hm:m≤dt.length) (hd0:0 < dt.length) (hl:dt.length≤64):
  Calls Tryz.prog 227 #[.pointer (some ⟨k,0,none⟩),.slice (some ⟨g,0,none⟩) m m] w (GetP k f g m rd wt dt w):=by
 obtain ⟨q,cap,rest,rfl,rfl,hQ,hc,hcm⟩:=RowV.some_of hR (by simp [ucells];intro e;rw [e] at hd0;exact absurd hd0 (by simp))
 have hul:(ucells dt).length=dt.length:=by simp
 rw [hul] at hB hR
 have c1:=hB.rd
 have hLc:dt.length≤cap:=by rw [hc];simp
 obtain ⟨L,hL⟩:∃L,dt.length=L:=⟨_,rfl⟩
 have hqk:q≠k:=fun e=> hk (by rw [e])
 have hqg:q≠g:=fun e=> hgr (by rw [e])
 -- the copy
 have hys:(ucells (dt.take m)).length=Nat.min L m:=by
  have:Nat.min L m=min L m:=rfl
  simp [ucells];omega
 have hsrc:∀j v,(ucells (dt.take m))[j]? =some v→w.cell? ((⟨q,0,none⟩:Addr).add j)=some v:=fun j v hj=> by
  have hj' :=(List.getElem?_eq_some_iff.1 hj).1
  rw [add_off,hQ.rd,List.getElem?_toArray]
  simp only [ucells,List.length_map,List.length_take] at hj'
  rw [List.getElem?_append_left (by simp;omega)]
  rw [←hj]
  simp only [ucells,List.getElem?_map]
  rw [List.getElem?_take_of_lt (by omega)]
 obtain ⟨w1,hw1⟩:∃w1,w1=w.setRow g (cs.toList.take 0++(ucells (dt.take m)++cs.toList.drop (0+(ucells (dt.take m)).length))).toArray:=⟨_,rfl⟩
 have hu1:Upd (fun j=> j=g) w w1:=by rw [hw1];exact upd_setRow (F:=fun j=> j=g) (Upd.refl _ _) (fun _=> rfl) _
 have hg1:Blk w1 g (ucells (dt.take m)).toArray 5:=by
  have h3:=setRow_heap w g _ (cs.toList.take 0++(ucells (dt.take m)++cs.toList.drop (0+(ucells (dt.take m)).length))).toArray _ _ hG
  rw [←hw1] at h3
  refine Blk.of h3 ?_
  rw [List.take_zero,List.nil_append,List.drop_of_length_le (by simp [ucells];omega),List.append_nil]
 have hB1:=Blk.upd hu1 hB hgk.symm
 have hQ1:=Blk.upd hu1 hQ hqg
 have k1:=hB1.rd
 -- what is left
 have hsl:=slL q L cap m (by omega) (by omega)
 have hrd:RdV w1 (some (if cap=m then ⟨q,0,none⟩ else ⟨q,m,none⟩)) (ucells (dt.drop m)):=fun j v hj=> by
  refine ⟨_,rfl,?_⟩
  have hj' :=(List.getElem?_eq_some_iff.1 hj).1
  simp only [ucells,List.length_map,List.length_drop] at hj'
  rw [if_neg (by omega),Addr.add_mid,hQ1.rd,List.getElem?_toArray,List.getElem?_append_left (by simp;omega),←hj]
  simp only [ucells,List.getElem?_map,List.getElem?_drop]
 have hcl:=cloneB_is (w:=w1) (if cap=m then ⟨q,0,none⟩ else ⟨q,m,none⟩) (cap - m) (dt.drop m) (L - m) (by simp;omega) hrd (by simp;omega)
 have hsh:=slH g m
 generalize (if cap=m then (⟨q,0,none⟩:Addr) else ⟨q,m,none⟩)=A at*
 have H:=Lib.hid (And.intro hys (And.intro hsrc (And.intro hw1 (And.intro hG (And.intro hcs (And.intro hg1 (And.intro hB1 (And.intro hu1 (And.intro hgk hB.lt)))))))))
 have hmn:Nat.min L m=m:=by have:Nat.min L m=min L m:=rfl;omega
 have hone:=ucells_one (dt.take m)
 have HGP:∀w',GetP k f g m rd wt dt w (.returned (.slice (some ⟨g,0,none⟩) m m)) w' ↔∃v' row',Blk w' k (piC f v' rd wt) 234∧RowV w' 5 v' (ucells (dt.drop m)) row' ∧(∀j,row' =some j→w.heap.size≤j)∧Upd (fun j=> j=k∨j=g) w w' ∧Blk w' g (ucells (dt.take m)).toArray 5:=fun w' => ⟨fun h=> h.2,fun h=> ⟨rfl,h⟩⟩
 have HGP:=Lib.hid HGP
 have hCl:(ucells (dt.take m)).length=m:=by simp;omega
 generalize ucells (dt.take m)=C at*
 rw [hL] at c1 k1
 have HL:=Lib.hid hL
 clear hB hR hk hgr hG hcs hQ hc hcm hul hLc hqk hqg hys hsrc hw1 hg1 hB1 hQ1 hrd hgk
 go_enter Tryz.func227,Tryz.ntmps227
 go_wp2_with (first
  | (refine wpList_copy_own rfl (.tmp 6) (.tmp 10) 22 22 rfl 5 under8 (by kernel_rfl) g 0 m m ⟨q,0,none⟩ L cap rfl rfl cs 5 H.out.2.2.2.1 C H.out.1 H.out.2.1 (by rw [hCl,H.out.2.2.2.2.1];omega) hone ?_;rw [←H.out.2.2.1])
  | (go_at_call 246;(with_reducible refine hcl.mono ?_);rintro e w2 ⟨v1,b1,rfl,hq⟩;obtain ⟨a2,c2,rfl,-,-⟩:=hq.1.slice;have hB2:=Blk.below hq.2.2 H.out.2.2.2.2.2.2.1 H.out.2.2.2.2.2.2.1.lt;have k2:=hB2.rd;have f2:=hB2.nf;have H2:=Lib.hid (And.intro hq hB2);clear hq hcl hB2))
 go_ret
 obtain ⟨hq,hB2⟩:=H2.out
 have el:(ucells (dt.drop m)).length=L - m:=by rw [←HL.out];simp
 have hu2:Upd (fun j=> j=k∨j=g) w w2:=(H.out.2.2.2.2.2.2.2.1.mono (fun j _ e=> .inr e)).trans (Upd.of_below (F:=fun j=> j=k∨j=g) hq.2.2) (fun _ _ h=> h)
 refine (HGP.out _).2 ⟨.slice a2 (L - m) c2,b1,(hB2.set 3 _).of rfl,?_,(fun j hj=> Nat.le_trans H.out.2.2.2.2.2.2.2.1.size (hq.2.1 j hj)),hu2.setCell (p:=⟨k,3,none⟩) (fun _=> .inl rfl) _,Blk.upd ((Upd.refl (fun j=> j=k) w2).setCell (p:=⟨k,3,none⟩) (fun _=> rfl) _) (Blk.below hq.2.2 H.out.2.2.2.2.2.1 H.out.2.2.2.2.2.1.lt) H.out.2.2.2.2.2.2.2.2.1⟩
 have h1:=hq.1
 rw [el] at h1
 exact h1.upd ((Upd.refl (fun j=> j=k) w2).setCell (p:=⟨k,3,none⟩) (fun _=> rfl) _) (fun j hj e=> by have h2:=hq.2.1 j hj;have h3:=H.out.2.2.2.2.2.2.2.1.size;have h4:=H.out.2.2.2.2.2.2.2.2.2;subst e;omega)
end
end Go.Proofs.YtjpjafajploiaaaGreatDoor
/-
 The slab:its classes,a sheet's free pieces,which pieces are there.
-/
namespace Go.Proofs.YtjpjafajploiaaaGreatDoor
open Go.RowKit Own RegJ Two
open Go.Lib hiding intOf
section
variable {w w' :World}
set_option maxRecDepth 100000 in
theorem class64 (w:World):Calls Tryz.prog 200 #[.int .i64 64] w fun e w' => e= .returned (.int .i64 64)∧w=w' :=by
 go_enter Tryz.func200,Tryz.ntmps200
 go_wp2_with (fail)
 go_loopw [3] (fun v3 wr=> (v3= .int .i64 16∨v3= .int .i64 32∨v3= .int .i64 64)∧wr=w) (fun v3 _=> 64 - (intOf v3).toNat)
 case atStart=> exact ⟨.inl rfl,rfl⟩
 case round=>
  obtain ⟨h3,rfl⟩:=hrel
  rcases h3 with rfl | rfl | rfl
  ·go_wp2_with (fail)
   go_roundw
   case rel=> exact ⟨.inr (.inl (by go_num)),by trivial⟩
   case measure=> simp [intOf]
  ·go_wp2_with (fail)
   go_roundw
   case rel=> exact ⟨.inr (.inr (by go_num)),by trivial⟩
   case measure=> simp [intOf]
  ·go_wp2_with (fail)
   go_ret
   exact ⟨rfl,rfl⟩
theorem zero_i (w:World):(zeroValue 3).run Tryz.prog w= .ok (.int .i64 0) w:=by kernel_rfl
theorem zero_sh (w:World):(zeroValue 300).run Tryz.prog w= .ok (.pointer none) w:=by kernel_rfl
theorem tk_look {u n s:Nat} (h:MapI w Tryz.prog 3 u n s tkM):(Instr.lookup 301 (.map (some u)) (.int .i64 0) false).run Tryz.prog w= .ok (.int .i64 1) w:=
 h.look Tryz.underlying3 Tryz.underlying301 (zero_i w) 0 (by decide)
set_option maxRecDepth 100000 in
theorem sheet_full {t u n:Nat} (hB:Blk w t #[.int .i64 64,.map (some u)] 303) (hm:MapI w Tryz.prog 3 u n 1 tkM):
  Calls Tryz.prog 202 #[.pointer (some ⟨t,0,none⟩)] w fun e w' => e= .returned (.tuple #[.int .i64 0,.bool false])∧w=w' :=by
 have c1:=hB.rd
 have hl:=tk_look hm
 clear hB hm
 go_enter Tryz.func202,Tryz.ntmps202
 go_wp2_with (fail)
 go_loopw [10] (fun v10 wr=> (v10= .int .i64 0∨v10= .int .i64 1)∧wr=w) (fun v10 _=> 1 - (intOf v10).toNat)
 case atStart=> exact ⟨.inl rfl,rfl⟩
 case round=>
  obtain ⟨h3,rfl⟩:=hrel
  rcases h3 with rfl | rfl
  ·go_wp2_with (fail)
   go_roundw
   case rel=> exact ⟨.inr (by go_num),by trivial⟩
   case measure=> simp [intOf]
  ·go_wp2_with (fail)
   go_returns
   exact ⟨rfl,rfl⟩
variable {po:PRl→Option Nat} {fo:Nat→Nat} {ps:PS} {fb N:Nat}
theorem PpI.sh_look (h:PpI w po fo ps fb N) {mp:Nat} (hmp:po .mp=some mp) {i:Nat} {p:Pi} (hp:ps i=some p) {t:Nat} (ht:po (.sh i)=some t) (W:World) (hB:Below w.heap.size w W):(Instr.lookup 160 (.map (some mp)) (.int .i64 (fo i)) false).run Tryz.prog W= .ok (.pointer (some ⟨t,0,none⟩)) W:=by
 obtain ⟨pb,sl,mp',n,s,t1,t2,t3,t4,t5,t6,t7⟩:=h.top
 obtain rfl:mp=mp' :=by rw [hmp] at t3;exact Option.some.inj t3
 have hf:=h.f64 i p hp
 have hl:=(t6.upd (Upd.of_below (F:=fun _=> False) hB) (fun h=> h)).look Tryz.underlying3 Tryz.underlying160 (zero_sh W) (fo i) (by simp [Lit.wf,IntKind.min,IntKind.max,IntKind.signed,IntKind.bits];omega)
 rw [hl]
 unfold shM
 rw [h.at' hp]
 simp [ht,ptr]
set_option maxRecDepth 100000 in
theorem has_yes (h:PpI w po fo ps fb N) {sl:Nat} (hsl:po .sl=some sl) {i:Nat} {p:Pi} (hp:ps i=some p):
  Calls Tryz.prog 187 #[.pointer (some ⟨sl,0,none⟩),.agg #[.int .i64 (fo i),.int .i64 0,.int .i64 64]] w fun e w' => e= .returned (.bool true)∧Below w.heap.size w w' :=by
 obtain ⟨pb,sl',mp,n,s,t1,t2,t3,t4,t5,t6,t7⟩:=h.top
 obtain rfl:sl=sl' :=by rw [hsl] at t2;exact Option.some.inj t2
 obtain ⟨k,v,t,u,n,k1,k2,k3,k4,k5,k6,k7,k8,k9⟩:=h.pipe i p hp
 have hal:=(Below.refl w.heap.size w).alloc (Nat.le_refl _) (.cells #[.int .i64 (fo i),.int .i64 0,.int .i64 64] 231)
 have c1:=(t5.alloc (.cells #[.int .i64 (fo i),.int .i64 0,.int .i64 64] 231)).rd
 have c2:=(k6.alloc (.cells #[.int .i64 (fo i),.int .i64 0,.int .i64 64] 231)).rd
 have c3:=(Blk.new w #[.int .i64 (fo i),.int .i64 0,.int .i64 64] 231).rd
 have l1:=fun q=> h.sh_look t3 hp k5 _ (hal.trans ((dn _ q).mono hal.size))
 have l2:=fun q q' => tk_look (k8.upd (Upd.of_below (F:=fun _=> False) (hal.trans (((dn _ q).trans ((dn _ q').mono (by simp))).mono hal.size))) (fun h=> h))
 have l3:=fun q=> tk_look (k8.upd (Upd.of_below (F:=fun _=> False) (hal.trans ((dn _ q).mono hal.size))) (fun h=> h))
 have HB:=Lib.hid hal
 clear h hp t1 t2 t3 t4 t5 t6 t7 k1 k2 k3 k4 k5 k6 k7 k8 k9 hal hsl
 go_enter Tryz.func187,Tryz.ntmps187
 iterate 2
  go_wp2_with (fail)
  go_quiet (fail)
 go_wp2_with (fail)
 go_ret
 exact ⟨rfl,HB.out.trans (((dn _ _).trans ((dn _ _).mono (by simp))).mono (by simp))⟩
end
end Go.Proofs.YtjpjafajploiaaaGreatDoor
/-
 Pipes:Write and Read.
-/
namespace Go.Proofs.YtjpjafajploiaaaGreatDoor
open Go.RowKit Own RegJ Two
open Go.Lib hiding intOf
section
variable {w w' :World} {po:PRl→Option Nat} {fo:Nat→Nat} {ps ps' :PS} {fb N:Nat}
def PQ (w:World) (po:PRl→Option Nat) (fo:Nat→Nat) (ps' :PS) (fb N:Nat) (v:Value) (e:Ending) (w' :World):Prop:=e= .returned v∧∃po',PpI w' po' fo ps' fb N∧OFr po po' w w' ∧po' .pp=po .pp
theorem PQ.same {v:Value} (h:PpI w po fo ps fb N):PQ w po fo ps fb N v (.returned v) w:=⟨rfl,po,h,OFr.refl _ _,rfl⟩
def PRead (w:World) (po:PRl→Option Nat) (fo:Nat→Nat) (ps' :PS) (fb N:Nat) (ys:List Int) (er:Int) (e:Ending) (w' :World):Prop:=∃a cp row po',e= .returned (.tuple #[.slice a ys.length cp,.int .i64 er])∧RowV w' 5 (.slice a ys.length cp) (ucells ys) row∧(∀g,row=some g→w.heap.size≤g∧∀r,po' r≠some g)∧PpI w' po' fo ps' fb N∧OFr po po' w w' ∧po' .pp=po .pp
theorem PRead.nil {er:Int} (h:PpI w po fo ps fb N):PRead w po fo ps fb N [] er (.returned (.tuple #[.slice none 0 0,.int .i64 er])) w:=⟨none,0,none,po,rfl,.inl ⟨rfl,rfl,rfl⟩,(fun g hg=> by cases hg),h,OFr.refl _ _,rfl⟩
theorem PpI.the (h:PpI w po fo ps fb N) {i:Nat} {p:Pi} (hp:ps i=some p):∃k a c,po (.pi i)=some k∧Blk w k (piC (fo i) (.slice a p.dt.length c) p.rd p.wt) 234∧RowV w 5 (.slice a p.dt.length c) (ucells p.dt) (po (.row i))∧p.dt.length≤64∧po (.row i)≠some k:=by
 obtain ⟨k,v,t,u,n,k1,k2,k3,k4,_⟩:=h.pipe i p hp
 obtain ⟨a,c,rfl,-,-⟩:=k3.len_u8
 exact ⟨k,a,c,k1,k2,k3,k4,fun e=> by have:=h.inj _ _ _ e k1;cases this⟩
theorem pp_findy (h:PpI w po fo ps fb N) {pb:Nat} (hpb:po .pp=some pb) {i:Nat} {p:Pi} (hp:ps i=some p) {k:Nat} (hk:po (.pi i)=some k):Calls Tryz.prog 135 #[.pointer (some ⟨pb,0,none⟩),.int .i64 i] w fun e w' => e= .returned (.tuple #[.pointer (some ⟨k,0,none⟩),.int .i64 0])∧w=w' :=by
 have hf:=pp_find h hpb i
 have hat:psAt ps i=some p:=by unfold psAt;rw [if_pos (by omega)];simpa using hp
 rw [hat] at hf
 simp only [Int.toNat_natCast,hk,ptr] at hf
 exact hf
theorem pp_findn (h:PpI w po fo ps fb N) {pb:Nat} (hpb:po .pp=some pb) {id:Int} (hn:psAt ps id=none):Calls Tryz.prog 135 #[.pointer (some ⟨pb,0,none⟩),.int .i64 id] w fun e w' => e= .returned (.tuple #[.pointer none,.int .i64 4])∧w=w' :=by
 have hf:=pp_find h hpb id
 rw [hn] at hf
 exact hf
theorem SrcF.sl {O:Nat→Prop} {v:Value} {b:List Int} (h:SrcF O w v b):∃a c,v= .slice a b.length c:=by
 obtain ⟨a,c,rfl,_⟩:=h
 exact ⟨a,c,rfl⟩
set_option maxRecDepth 100000 in
set_option maxHeartbeats 2000000 in
theorem pp_write (h:PpI w po fo ps fb N) {pb:Nat} (hpb:po .pp=some pb) (id:Int) (b:List Int) (v:Value) (hv:SrcF (fun k=> ∃r,po r=some k) w v b) (r:Int) (hr:pwriteF ps id b=(r,ps')):
  Calls Tryz.prog 144 #[.pointer (some ⟨pb,0,none⟩),.int .i64 id,v] w (PQ w po fo ps' fb N (.int .i64 r)):=by
 obtain ⟨a,cv,rfl,hcv,hsrc⟩:=hv
 unfold pwriteF at hr
 cases hat:psAt ps id with
 | none=>
  rw [hat] at hr
  cases hr
  have hf:=pp_findn h hpb hat
  have H:=Lib.hid h
  clear h hpb hat hsrc hcv
  go_enter Tryz.func144,Tryz.ntmps144
  go_wp2_with (go_at_call 135;refine hf.mono ?_;rintro e w1 ⟨rfl,rfl⟩)
  go_ret
  exact PQ.same H.out
 | some p=>
  rw [hat] at hr
  simp only at hr
  obtain ⟨i,rfl,hp⟩:=psAt_some hat
  obtain ⟨k,a0,c0,hk,hB,hR,hl64,hrk⟩:=h.the hp
  have hf:=pp_findy h hpb hp hk
  have c1:=hB.rd
  obtain ⟨n,hn⟩:∃n,b.length=n:=⟨_,rfl⟩
  obtain ⟨L,hL⟩:∃L,p.dt.length=L:=⟨_,rfl⟩
  rw [hn] at hr hcv ⊢
  rw [hL] at hr c1
  by_cases e1:p.wt=0
  ·rw [if_pos e1] at hr
   cases hr
   have H:=Lib.hid h
   rw [e1] at c1
   clear h hpb hat hsrc hcv hp hk hB hR hl64 hrk
   go_enter Tryz.func144,Tryz.ntmps144
   go_wp2_with (go_at_call 135;refine hf.mono ?_;rintro e w1 ⟨rfl,rfl⟩)
   go_ret
   exact PQ.same H.out
  rw [if_neg e1] at hr
  have g1:(p.wt==0)=false:=by simpa using e1
  by_cases e2:p.rd=0
  ·rw [if_pos e2] at hr
   cases hr
   have H:=Lib.hid h
   rw [e2] at c1
   clear h hpb hat hsrc hcv hp hk hB hR hl64 hrk
   go_enter Tryz.func144,Tryz.ntmps144
   go_wp2_with (go_at_call 135;refine hf.mono ?_;rintro e w1 ⟨rfl,rfl⟩)
   go_ret
   exact PQ.same H.out
  rw [if_neg e2] at hr
  have g2:(p.rd==0)=false:=by simpa using e2
  by_cases e3:n=0
  ·rw [if_pos e3] at hr
   cases hr
   have H:=Lib.hid h
   subst e3
   clear h hpb hat hsrc hcv hp hk hB hR hl64 hrk
   go_enter Tryz.func144,Tryz.ntmps144
   go_wp2_with (go_at_call 135;refine hf.mono ?_;rintro e w1 ⟨rfl,rfl⟩)
   go_ret
   exact PQ.same H.out
  rw [if_neg e3] at hr
  have g3:((n:Int)==0)=false:=by simp;omega
  by_cases e4:64 < n
  ·rw [if_pos e4] at hr
   cases hr
   have H:=Lib.hid h
   have g4:decide ((n:Int) > 64)=true:=by simp;omega
   clear h hpb hat hsrc hcv hp hk hB hR hl64 hrk
   go_enter Tryz.func144,Tryz.ntmps144
   go_wp2_with (go_at_call 135;refine hf.mono ?_;rintro e w1 ⟨rfl,rfl⟩)
   go_ret
   exact PQ.same H.out
  rw [if_neg e4] at hr
  have g4:decide ((n:Int) > 64)=false:=by simp;omega
  have hl64' :(64:Int) - L≥0:=by omega
  by_cases e5:64 < n+L
  ·rw [if_pos e5] at hr
   cases hr
   have H:=Lib.hid h
   have g5:decide ((n:Int) > 64 - L)=true:=by simp;omega
   clear h hpb hat hsrc hcv hp hk hB hR hl64 hrk
   go_enter Tryz.func144,Tryz.ntmps144
   go_wp2_with (go_at_call 135;refine hf.mono ?_;rintro e w1 ⟨rfl,rfl⟩)
   go_ret
   exact PQ.same H.out
  rw [if_neg e5] at hr
  simp only [Int.toNat_natCast] at hr
  cases hr
  have g5:decide ((n:Int) > 64 - L)=false:=by simp;omega
  have hput:=pput_is hB hR hrk b n hn a cv (fun h0=> by obtain ⟨g,q,e,h3,_⟩:=hsrc (by omega);exact ⟨g,q,e,h3⟩) (by omega)
  have H:=Lib.hid (And.intro h (And.intro hp (And.intro hk (by omega:p.dt.length+b.length≤64))))
  clear h hpb hat hsrc hcv hp hk hB hR hl64 hrk
  go_enter Tryz.func144,Tryz.ntmps144
  go_wp2_with (first
   | (go_at_call 135;refine hf.mono ?_;rintro e w1 ⟨rfl,rfl⟩)
   | (go_at_call 194;refine hput.mono ?_;rintro e w2 ⟨rfl,hq⟩;have HQ:=Lib.hid hq;clear hq hput))
  go_ret
  obtain ⟨v',row',q1,q2,q3,q4⟩:=HQ.out
  obtain ⟨h,hp,hk,hl⟩:=H.out
  obtain ⟨k1,k2⟩:=h.put (p' := {p with dt:=p.dt++b}) hp hk q1 q2 (by simp;omega) q4 q3
  exact ⟨rfl,_,k1,k2,rfl⟩
set_option maxRecDepth 100000 in
set_option maxHeartbeats 2000000 in
theorem pp_read (h:PpI w po fo ps fb N) {pb:Nat} (hpb:po .pp=some pb) (id n:Int) (hn:n≤9223372036854775807) (ys:List Int) (er:Int) (hr:preadF ps id n=(ys,er,ps')):
  Calls Tryz.prog 190 #[.pointer (some ⟨pb,0,none⟩),.int .i64 id,.int .i64 n] w (PRead w po fo ps' fb N ys er):=by
 unfold preadF at hr
 cases hat:psAt ps id with
 | none=>
  rw [hat] at hr
  cases hr
  have hf:=pp_findn h hpb hat
  have H:=Lib.hid h
  clear h hpb hat
  go_enter Tryz.func190,Tryz.ntmps190
  go_wp2_with (go_at_call 135;refine hf.mono ?_;rintro e w1 ⟨rfl,rfl⟩)
  go_returns
  exact PRead.nil H.out
 | some p=>
  rw [hat] at hr
  simp only at hr
  obtain ⟨i,rfl,hp⟩:=psAt_some hat
  obtain ⟨k,a0,c0,hk,hB,hR,hl64,hrk⟩:=h.the hp
  have hf:=pp_findy h hpb hp hk
  have c1:=hB.rd
  obtain ⟨L,hL⟩:∃L,p.dt.length=L:=⟨_,rfl⟩
  rw [hL] at c1
  by_cases e1:p.rd=0
  ·rw [if_pos e1] at hr
   cases hr
   have H:=Lib.hid h
   rw [e1] at c1
   clear h hpb hat hp hk hB hR hl64 hrk
   go_enter Tryz.func190,Tryz.ntmps190
   go_wp2_with (go_at_call 135;refine hf.mono ?_;rintro e w1 ⟨rfl,rfl⟩)
   go_returns
   exact PRead.nil H.out
  rw [if_neg e1] at hr
  have g1:(p.rd==0)=false:=by simpa using e1
  by_cases e2:n < 0
  ·rw [if_pos e2] at hr
   cases hr
   have H:=Lib.hid h
   have g2:decide (n < 0)=true:=by simpa using e2
   clear h hpb hat hp hk hB hR hl64 hrk
   go_enter Tryz.func190,Tryz.ntmps190
   go_wp2_with (go_at_call 135;refine hf.mono ?_;rintro e w1 ⟨rfl,rfl⟩)
   go_returns
   exact PRead.nil H.out
  rw [if_neg e2] at hr
  have g2:decide (n < 0)=false:=by simpa using e2
  by_cases e3:p.dt= []
  ·have hL0:L=0:=by rw [←hL,e3];rfl
   subst hL0
   by_cases e4:n=0
   ·rw [if_pos ⟨e3,.inl e4⟩] at hr
    cases hr
    have H:=Lib.hid h
    subst e4
    clear h hpb hat hp hk hB hR hl64 hrk
    go_enter Tryz.func190,Tryz.ntmps190
    go_wp2_with (go_at_call 135;refine hf.mono ?_;rintro e w1 ⟨rfl,rfl⟩)
    go_returns
    exact PRead.nil H.out
   have g4:(n==0)=false:=by simpa using e4
   by_cases e5:p.wt=0
   ·rw [if_pos ⟨e3,.inr e5⟩] at hr
    cases hr
    have H:=Lib.hid h
    rw [e5] at c1
    clear h hpb hat hp hk hB hR hl64 hrk
    go_enter Tryz.func190,Tryz.ntmps190
    go_wp2_with (go_at_call 135;refine hf.mono ?_;rintro e w1 ⟨rfl,rfl⟩)
    go_returns
    exact PRead.nil H.out
   have g5:(p.wt==0)=false:=by simpa using e5
   rw [if_neg (fun hh=> hh.2.elim e4 e5),if_pos e3] at hr
   cases hr
   have H:=Lib.hid h
   clear h hpb hat hp hk hB hR hl64 hrk
   go_enter Tryz.func190,Tryz.ntmps190
   go_wp2_with (go_at_call 135;refine hf.mono ?_;rintro e w1 ⟨rfl,rfl⟩)
   go_returns
   exact PRead.nil H.out
  rw [if_neg (fun hh=> e3 hh.1),if_neg e3] at hr
  simp only [Int.toNat_natCast] at hr
  have hL1:0 < L:=by rw [←hL];exact List.length_pos_iff.2 e3
  have g3:((L:Int)==0)=false:=by simp;omega
  obtain ⟨q,rfl⟩:=Int.eq_ofNat_of_zero_le (show 0≤n by omega)
  simp only [Int.toNat_natCast] at hr
  obtain ⟨m,hm⟩:∃m,m=min q L:=⟨_,rfl⟩
  have hor:((q:Int)=(m:Nat)∧(q:Int)≤L)∨((L:Int)=(m:Nat)∧(L:Int) < q):=by omega
  have htk:p.dt.take q=p.dt.take m:=by
   by_cases hq:q≤L
   ·rw [show m=q by omega]
   ·rw [List.take_of_length_le (by omega),List.take_of_length_le (by omega)]
  have hdr:p.dt.drop q=p.dt.drop m:=by
   by_cases hq:q≤L
   ·rw [show m=q by omega]
   ·rw [List.drop_of_length_le (by omega),List.drop_of_length_le (by omega)]
  rw [htk,hdr] at hr
  cases hr
  have hmk:∀w',(Instr.makeSlice 22 (.int .i64 m) (.int .i64 m)).run Tryz.prog w' = .ok (.slice (some ⟨w'.heap.size,0,none⟩) m m) (w'.alloc (.cells (madeCells (Value.int .u8 0).cells (m*1)) 5)):=make_of' 22 5 (.int .u8 0) 1 1 m Tryz.underlying22 (by kernel_rfl) (by omega) (by omega)
  have hsz:(madeCells (Value.int .u8 0).cells (m*1)).size=m:=by simp [madeCells]
  generalize madeCells (Value.int .u8 0).cells (m*1)=Z at hmk hsz
  have hal:=(Below.refl w.heap.size w).alloc (Nat.le_refl _) (.cells Z 5)
  have hkl:=hB.lt
  have hget:=pget_is (g:=w.heap.size) (m:=m) (hB.alloc (.cells Z 5)) (hR.below hal) hrk (by omega) (fun e=> by have:=hR.lt _ e;omega) (Blk.new w Z 5) hsz (by omega) (by omega) hl64
  have H:=Lib.hid (And.intro h (And.intro hp (And.intro hk (And.intro hL (And.intro hal (And.intro hl64 (show m≤L by omega)))))))
  have c2:=(hB.alloc (.cells Z 5)).rd
  have HMM:=Lib.hid hm
  clear h hpb hat hp hk hB hR hl64 hrk hal hkl htk hdr hsz hm
  go_enter Tryz.func190,Tryz.ntmps190
  rcases hor with ⟨e6,e7⟩ | ⟨e6,e7⟩
  ·obtain rfl:q=m:=by omega
   have hmin:min (q:Int) (L:Int)=(q:Int):=by omega
   clear e6
   go_wp2_with (first
    | (go_at_call 135;refine hf.mono ?_;rintro e w1 ⟨rfl,rfl⟩)
    | (go_at_call 227;refine hget.mono ?_;rintro e w2 ⟨rfl,hq⟩;have HQ:=Lib.hid hq;clear hq hget))
   go_returns
   obtain ⟨v',row',q1,q2,q3,q4,q5⟩:=HQ.out
   obtain ⟨h,hp,hk,hL,hal,hl64,hmL⟩:=H.out
   have hm:=HMM.out
   have hu:Upd (fun j=> j=k∨po (.row i)=some j) w w2:=(Upd.of_below hal).trans q4 (fun j hj e=> by
    rcases e with e | e
    ·exact .inl e
    ·omega)
   obtain ⟨k1,k2⟩:=h.put (p' := {p with dt:=p.dt.drop q}) hp hk q1 q2 (by simp;omega) hu (fun g hg=> .inr (Nat.le_trans hal.size (q3 g hg)))
   have el:(p.dt.take q).length=q:=by rw [List.length_take];omega
   refine ⟨some ⟨w.heap.size,0,none⟩,q,some w.heap.size,_,(by rw [el];rfl),?_,fun g hg=> ?_,k1,k2,rfl⟩
   ·rw [el]
    exact .inr ⟨w.heap.size,q,[],by simp;omega,rfl,by rw [List.append_nil];exact q5,by simp;omega,by unfold maxLen;omega⟩
   ·cases hg
    refine ⟨Nat.le_refl _,fun r hr=> ?_⟩
    rcases poRow_old hr with ⟨g1,_⟩ | ⟨_,g1⟩
    ·have:=h.lt r _ g1;omega
    ·have h9:=q3 _ g1
     have h8:(w.alloc (.cells Z 5)).heap.size=w.heap.size+1:=by simp
     omega
  ·obtain rfl:L=m:=by omega
   have hmin:min (q:Int) (L:Int)=(L:Int):=by omega
   clear e6
   go_wp2_with (first
    | (go_at_call 135;refine hf.mono ?_;rintro e w1 ⟨rfl,rfl⟩)
    | (go_at_call 227;refine hget.mono ?_;rintro e w2 ⟨rfl,hq⟩;have HQ:=Lib.hid hq;clear hq hget))
   go_returns
   obtain ⟨v',row',q1,q2,q3,q4,q5⟩:=HQ.out
   obtain ⟨h,hp,hk,hL,hal,hl64,hmL⟩:=H.out
   have hm:=HMM.out
   have hu:Upd (fun j=> j=k∨po (.row i)=some j) w w2:=(Upd.of_below hal).trans q4 (fun j hj e=> by
    rcases e with e | e
    ·exact .inl e
    ·omega)
   obtain ⟨k1,k2⟩:=h.put (p' := {p with dt:=p.dt.drop L}) hp hk q1 q2 (by simp;omega) hu (fun g hg=> .inr (Nat.le_trans hal.size (q3 g hg)))
   have el:(p.dt.take L).length=L:=by rw [List.length_take];omega
   refine ⟨some ⟨w.heap.size,0,none⟩,L,some w.heap.size,_,(by rw [el];rfl),?_,fun g hg=> ?_,k1,k2,rfl⟩
   ·rw [el]
    exact .inr ⟨w.heap.size,L,[],by simp;omega,rfl,by rw [List.append_nil];exact q5,by simp;omega,by unfold maxLen;omega⟩
   ·cases hg
    refine ⟨Nat.le_refl _,fun r hr=> ?_⟩
    rcases poRow_old hr with ⟨g1,_⟩ | ⟨_,g1⟩
    ·have:=h.lt r _ g1;omega
    ·have h9:=q3 _ g1
     have h8:(w.alloc (.cells Z 5)).heap.size=w.heap.size+1:=by simp
     omega
end
end Go.Proofs.YtjpjafajploiaaaGreatDoor
