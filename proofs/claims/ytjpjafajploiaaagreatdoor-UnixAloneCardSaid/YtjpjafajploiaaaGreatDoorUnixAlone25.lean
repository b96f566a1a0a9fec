/-
  Descriptors: Open, Dup, Seek, Read, Write, Close, of files.
-/
import Derived.Test.YtjpjafajploiaaaGreatDoorUnixAlone24
import Derived.Test.YtjpjafajploiaaaGreatDoorUnixAlone03
set_option linter.unusedSimpArgs false
set_option linter.unusedVariables false
namespace Go.Proofs.YtjpjafajploiaaaGreatDoor
open Go.RowKit Own RegJ Two
open Go.Lib hiding intOf
theorem blk_ne {w:World} {b b' :Nat} {cs cs' :Array Value} {T T' :TypeId} (h:Blk w b cs T) (h' :Blk w b' cs' T') (hT:T≠T'):b≠b' :=by
 intro e
 subst e
 unfold Blk at h h'
 rw [h] at h'
 injection h' with h'
 injection h' with _ h'
 exact hT h'
def FS.setsl (S:FS) (b d:Nat) (x:Option Nat):FS:=⟨S.pr,upN S.sl b (upN (S.sl b) d x),S.th⟩
def FS.setth (S:FS) (x:Nat) (t:Th):FS:=⟨S.pr,S.sl,upN S.th x (some t)⟩
def FS.put (S:FS) (b d x:Nat) (t:Th):FS:=(S.setth x t).setsl b d (some x)
section
variable {w w1:World} {fdb vb pb mb N:Nat} {S:FS}
theorem FdB.newth (h:FdB w fdb vb pb mb N S) (t:Th) (hB:Below w.heap.size w w1) (hx:Blk w1 w.heap.size (thC t) 173):FdB w1 fdb vb pb mb N (S.setth w.heap.size t):=by
 have h1:=h.below hB
 refine ⟨h1.f,h1.m,h1.t,fun y u hy=> ?_,fun i b hi d x hd hs=> ?_,h1.j⟩
 ·unfold FS.setth upN at hy
  simp only at hy
  split at hy
  ·rename_i e;subst e;cases hy;exact hx
  ·exact h1.x y u hy
 ·obtain ⟨u,hu⟩:=h1.r i b hi d x hd hs
  unfold FS.setth upN
  simp only
  by_cases e:x=w.heap.size
  ·exact ⟨t,if_pos e⟩
  ·exact ⟨u,by rw [if_neg e];exact hu⟩
theorem FdB.tne (h:FdB w fdb vb pb mb N S) {i:Int} {b:Nat} (hi:S.pr i=some b):b≠fdb∧b≠mb∧∀y u,S.th y=some u→y≠b:=by
 obtain ⟨n,s,hm,_⟩:=h.m
 have hb:=h.t i b hi
 exact ⟨blk_ne hb h.f (by decide),hm.ne_blk hb,fun y u hy=> blk_ne (h.x y u hy) hb (by decide)⟩
theorem FdB.xne (h:FdB w fdb vb pb mb N S) {x:Nat} {t:Th} (hx:S.th x=some t):x≠fdb∧x≠mb∧∀i b,S.pr i=some b→b≠x:=by
 obtain ⟨n,s,hm,_⟩:=h.m
 have hb:=h.x x t hx
 exact ⟨blk_ne hb h.f (by decide),hm.ne_blk hb,fun i b hi=> blk_ne (h.t i b hi) hb (by decide)⟩
theorem FdB.setsl (h:FdB w fdb vb pb mb N S) {i:Int} {b:Nat} (hi:S.pr i=some b) (d:Nat) (hd:d < 8) (x:Option Nat) (hx:∀y,x=some y→∃t,S.th y=some t):FdB (w.setCell ⟨b,d,none⟩ (ptb x)) fdb vb pb mb N (S.setsl b d x):=by
 obtain ⟨n1,n2,n3⟩:=h.tne hi
 have hu:Upd (fun k=> k=b) w (w.setCell ⟨b,d,none⟩ (ptb x)):=(Upd.refl (fun k=> k=b) w).setCell (p:=⟨b,d,none⟩) (fun _=> rfl) _
 obtain ⟨n,s,hm,hn⟩:=h.m
 refine ⟨Blk.upd hu h.f (fun e=> n1 e.symm),⟨n,s,hm.upd hu (fun e=> n2 e.symm),hn⟩,fun j b' hj=> ?_,fun y t hy=> Blk.upd hu (h.x y t hy) (n3 y t hy),fun j b' hj d' x' hd' hs=> ?_,h.j⟩
 ·unfold FS.setsl
  simp only
  by_cases e:b' =b
  ·subst e
   rw [upN_eq,←slC_set _ hd]
   exact Blk.set (h.t i _ hi) d (ptb x)
  ·rw [upN_ne _ _ e]
   exact Blk.upd hu (h.t j b' hj) e
 ·unfold FS.setsl at hs
  simp only at hs
  by_cases e:b' =b
  ·subst e
   rw [upN_eq] at hs
   unfold upN at hs
   split at hs
   ·exact hx x' hs
   ·exact h.r j b' hj d' x' hd' hs
  ·rw [upN_ne _ _ e] at hs
   exact h.r j b' hj d' x' hd' hs
theorem FdB.setth (h:FdB w fdb vb pb mb N S) {x:Nat} {t0:Th} (hx:S.th x=some t0) (t:Th) (k:Nat) (v:Value) (ht:(thC t0).setIfInBounds k v=thC t):FdB (w.setCell ⟨x,k,none⟩ v) fdb vb pb mb N (S.setth x t):=by
 obtain ⟨n1,n2,n3⟩:=h.xne hx
 have hu:Upd (fun k=> k=x) w (w.setCell ⟨x,k,none⟩ v):=(Upd.refl (fun k=> k=x) w).setCell (p:=⟨x,k,none⟩) (fun _=> rfl) _
 obtain ⟨n,s,hm,hn⟩:=h.m
 refine ⟨Blk.upd hu h.f (fun e=> n1 e.symm),⟨n,s,hm.upd hu (fun e=> n2 e.symm),hn⟩,fun j b' hj=> Blk.upd hu (h.t j b' hj) (n3 j b' hj),fun y u hy=> ?_,fun j b' hj d' x' hd' hs=> ?_,h.j⟩
 ·unfold FS.setth at hy
  simp only at hy
  by_cases e:y=x
  ·subst e
   rw [upN_eq] at hy
   cases hy
   rw [←ht]
   exact Blk.set (h.x _ t0 hx) k v
  ·rw [upN_ne _ _ e] at hy
   exact Blk.upd hu (h.x y u hy) e
 ·obtain ⟨u,hu⟩:=h.r j b' hj d' x' hd' hs
  unfold FS.setth upN
  simp only
  by_cases e:x' =x
  ·exact ⟨t,if_pos e⟩
  ·exact ⟨u,by rw [if_neg e];exact hu⟩
theorem Ow.setsl {k b d:Nat} {x:Option Nat} (h:Ow fdb mb (S.setsl b d x) k):Ow fdb mb S k:=h
theorem Ow.setth {k x:Nat} {t:Th} (h:Ow fdb mb (S.setth x t) k):Ow fdb mb S k∨k=x:=by
 rcases h with h | h | h | h
 ·exact .inl (.inl h)
 ·exact .inl (.inr (.inl h))
 ·exact .inl (.inr (.inr (.inl h)))
 ·unfold FS.setth upN at h
  simp only at h
  split at h
  ·exact .inr (by assumption)
  ·exact .inl (.inr (.inr (.inr h)))
end
section
variable {w0 w w1 w2 w' :World} {O O1:Nat→Prop} {fdb vb tb fb sb pb mb:Nat} {ns ns' :NSt} {c N N' :Nat} {S S' :FS}
theorem Ow.th {x:Nat} {t0 t:Th} (hx:S.th x=some t0) {k:Nat} (h:Ow fdb mb (S.setth x t) k):Ow fdb mb S k:=(Ow.setth h).elim (fun h=> h) (fun e=> by subst e;exact .inr (.inr (.inr (by rw [hx];rfl))))
theorem FP.then_own [Inhabited CapT] (hU:Upd O w w1) (hD:FX w0 O1 fdb vb tb fb sb pb mb ns c N S w1) (hO1:∀k,O1 k→O k∨w.heap.size≤k) (hu:Upd (Ow fdb mb S) w1 w2) (hB:FdB w2 fdb vb pb mb N' S') (hO:∀k,Ow fdb mb S' k→Ow fdb mb S k∨w1.heap.size≤k) (v:Value):FP w0 O fdb vb tb fb sb pb mb ns c N' S' w v (.returned v) w2:=by
 obtain ⟨k1,k2⟩:=hD.own hu hB hO
 refine ⟨rfl,hU.trans k1 (fun i hi hk=> (hO1 i hk).elim id (fun h=> by omega)),_,k2,fun k hk=> ?_⟩
 rcases hk with hk | hk
 ·exact hO1 k hk
 ·exact .inr (Nat.le_trans hU.size hk.1)
theorem SrcF.below {v:Value} {b:List Int} (h:SrcF O w v b) (hB:Below w.heap.size w w1):SrcF O w1 v b:=by
 obtain ⟨a,cp,rfl,h1,h2⟩:=h
 refine ⟨a,cp,rfl,h1,fun hp=> ?_⟩
 obtain ⟨g,q,rfl,h3,h4,h5⟩:=h2 hp
 exact ⟨g,q,rfl,rdv_far h3 h5 hB,h4,Nat.lt_of_lt_of_le h5 hB.size⟩
theorem FP.seq [Inhabited CapT] {v:Value} {e:Ending} (h:Upd O w w1) (hO1:∀k,O1 k→O k∨w.heap.size≤k) (k:FP w0 O1 fdb vb tb fb sb pb mb ns c N S w1 v e w2):FP w0 O fdb vb tb fb sb pb mb ns c N S w v e w2:=by
 obtain ⟨k1,k2,O2,k3,k4⟩:=k
 refine ⟨k1,h.trans k2 (fun i hi hk=> (hO1 i hk).elim id (fun h=> by omega)),O2,k3,fun j hj=> ?_⟩
 rcases k4 j hj with hj | hj
 ·exact hO1 j hj
 ·exact .inr (Nat.le_trans h.size hj)
abbrev flE (n:Int):Bool:=Go.bits Go.BinOp.and Go.IntKind.i64 n 4 !=0
set_option maxRecDepth 100000 in
set_option maxHeartbeats 2000000 in
theorem k_open [Inhabited CapT] (h:FX w0 O fdb vb tb fb sb pb mb ns c N S w) (hc:c≤9000) (pid:Int) (hw:(Lit.int .i64 pid).wf=true) (b:Nat) (hb:S.pr pid=some b) (d:Nat) (hd:d < 8) (hn:S.sl b d=none) (hl:∀k,k < d→S.sl b k≠none)
  (l:Txt) (hll:l.length≤100000) (n id:Int) (hr:openF ns l n=(id,0,ns')) (s:ByteArray) (hs:s=B l):
  Calls Tryz.prog 42 #[.pointer (some ⟨fdb,0,none⟩),.int .i64 pid,.string s,.int .i64 n] w fun e w' => ∃x,w.heap.size≤x∧FP w0 O fdb vb tb fb sb pb mb ns' (c+3) N (S.put b d x ⟨false,false,id,0,flE n,1⟩) w (.tuple #[.int .i64 d,.int .i64 0]) e w' :=by
 obtain ⟨fr,hfr⟩:=freeL_least (S.sl b) d hn hl 8 hd
 have hfree:=k_free h.fd pid hw b hb 1 (.int .i64 0) 0 (fun e w' => FreeP w ((d:Int)::fr) e w') (fun _ e w' hp=> by rw [hfr] at hp;exact hp) (fun hlt=> by rw [hfr] at hlt;simp at hlt)
 obtain ⟨m,hm⟩:∃m,fr.length+1=m:=⟨_,rfl⟩
 have m1:0 < m:=by omega
 have m2:(0:Int) < m:=by omega
 have c0:∀w1,Below w.heap.size w w1→w1.cell? ⟨fdb,0,none⟩=some (.pointer (some ⟨vb,0,none⟩)):=fun w1 hB=> (h.fd.below hB).f.rd 0
 have hop:=fun w1 (hB:Below w.heap.size w w1)=> v_open (h.below hB) hc l hll n id 0 ns' hr s hs
 have HE:=Lib.hid (And.intro h (And.intro hb (And.intro hw hn)))
 clear h hb hw hn hl hr hs hfr
 go_enter Tryz.func42,Tryz.ntmps42
 go_upto_region 7 with (first
  | (go_at_call 78;refine hfree.mono ?_;rintro e w1 ⟨a,cp,gr,rfl,hR,hgO,hB1⟩;have c1:=c0 w1 hB1;have H1:=Lib.hid (And.intro hR (And.intro hgO hB1));rw [show ((d:Int)::fr).length=m from by rw [←hm];rfl] at hR ⊢;have ho:=hop w1 hB1;clear hfree hop c0 hR hB1 hgO)
  | (go_at_call 79;refine ho.mono ?_;rintro e w2 ⟨rfl,hU2,O2,hD2,hO2⟩;have H2:=Lib.hid (And.intro hU2 (And.intro hD2 hO2));clear hU2 hD2 hO2 ho c1))
 obtain ⟨hR,hgO,hB1⟩:=H1.out
 obtain ⟨hU2,hD2,hO2⟩:=H2.out
 obtain ⟨g,rfl,hg1,hcell⟩:∃g,a=some ⟨g,0,none⟩∧w.heap.size≤g∧w1.cell? ⟨g,0,none⟩=some (.int .i64 d):=by
  rcases hR with ⟨hv,_⟩ | ⟨g,cap,rest,hv,hgr,hBk,_⟩
  ·simp only [Value.slice.injEq,List.length_cons] at hv
   omega
  ·simp only [Value.slice.injEq] at hv
   exact ⟨g,hv.1,hgO g hgr,by rw [hBk.rd];rfl⟩
 have hgl:=World.block_lt_of_cell? _ _ hcell
 have hcell2:w2.cell? ⟨g,0,none⟩=some (.int .i64 d):=cell_upd hU2 hcell (fun hk=> by have:=(HE.out.1.rng g hk).2;omega)
 have hal:Below w2.heap.size w2 (w2.alloc (.cells #[.bool false,.bool false,.int .i64 id,.int .i64 0,.bool (flE n),.int .i64 1] 173)).drew:=((Below.refl _ _).alloc (Nat.le_refl _) _).trans ((dn _ 1).mono (by simp))
 have hf2:=hD2.fd
 have hfA:=hf2.newth ⟨false,false,id,0,flE n,1⟩ hal ((Blk.new w2 _ _).drew)
 have hbA:(S.setth w2.heap.size ⟨false,false,id,0,flE n,1⟩).pr pid=some b:=HE.out.2.1
 have hfS:=hfA.setsl hbA d hd (some w2.heap.size) (fun y hy=> by cases hy;exact ⟨_,upN_eq _ _ _⟩)
 have hfin:=FP.then_own (O:=O) (w:=w) ((Upd.of_below (F:=O) hB1).trans hU2 (fun _ _ h=> h)) hD2 (fun k hk=> (hO2 k hk).imp (fun h=> h) (fun h=> Nat.le_trans hB1.size h)) (((Upd.of_below (F:=Ow fdb mb S) hal).setCell (p:=⟨b,d,none⟩) (fun _=> .inr (.inr (.inl ⟨pid,HE.out.2.1⟩))) (ptb (some w2.heap.size)))) hfS (fun k hk=> by have hk2:Ow fdb mb (S.setth w2.heap.size ⟨false,false,id,0,flE n,1⟩) k:=hk;exact (Ow.setth hk2).imp (fun h=> h) (fun e=> by rw [e];exact Nat.le_refl _)) (.tuple #[.int .i64 d,.int .i64 0])
 have hlW:=(hf2.below (dn w2 1)).look pid HE.out.2.2.1
 have hlA:=(hf2.below hal).look pid HE.out.2.2.1
 rw [HE.out.2.1] at hlW hlA
 have hsl:=hfA.slot hbA hd
 have hnf:=(hfA.t pid b hbA).nf d
 have hFW:(fun u=> u.cell? ⟨fdb,2,none⟩=some (.map (some mb))∧(Instr.lookup 152 (.map (some mb)) (.int .i64 pid) false).run Tryz.prog u= .ok (.pointer (some ⟨b,0,none⟩)) u∧u.cell? ⟨g,0,none⟩=some (.int .i64 d)) w2.drew:=⟨hf2.f.rd 2,hlW,hcell2⟩
 have hFA:(fun u=> u.cell? ⟨fdb,2,none⟩=some (.map (some mb))∧(Instr.lookup 152 (.map (some mb)) (.int .i64 pid) false).run Tryz.prog u= .ok (.pointer (some ⟨b,0,none⟩)) u∧u.cell? ⟨g,0,none⟩=some (.int .i64 d)) (w2.alloc (.cells #[.bool false,.bool false,.int .i64 id,.int .i64 0,.bool (flE n),.int .i64 1] 173)).drew:=⟨(hf2.below hal).f.rd 2,hlA,(hal.cell (p:=⟨g,0,none⟩) (Nat.lt_of_lt_of_le hgl hU2.size)).trans hcell2⟩
 have hgc:(w2.alloc (.cells #[.bool false,.bool false,.int .i64 id,.int .i64 0,.bool (flE n),.int .i64 1] 173)).drew.setCell ⟨b,d,none⟩ (.pointer (some ⟨w2.heap.size,0,none⟩))=(w2.alloc (.cells #[.bool false,.bool false,.int .i64 id,.int .i64 0,.bool (flE n),.int .i64 1] 173)).drew.setCell ⟨b,d,none⟩ (ptb (some w2.heap.size)):=rfl
 have hcS:((w2.alloc (.cells #[.bool false,.bool false,.int .i64 id,.int .i64 0,.bool (flE n),.int .i64 1] 173)).drew.setCell ⟨b,d,none⟩ (.pointer (some ⟨w2.heap.size,0,none⟩))).cell? ⟨g,0,none⟩=some (.int .i64 d):=by
  rw [hgc]
  exact cell_upd ((Upd.refl (fun k=> k=b) _).setCell (p:=⟨b,d,none⟩) (fun _=> rfl) _) hFA.2.2 (fun e=> by have:=(HE.out.1.fd.t pid b HE.out.2.1).lt;simp only at e;omega)
 have i1:(d:Int) < 8:=by omega
 have i2:(0:Int)≤d:=by omega
 have HQ:=Lib.hid (And.intro hFW (And.intro hFA (And.intro hsl (And.intro hnf (And.intro hfin (And.intro hcS (Nat.le_trans hB1.size hU2.size)))))))
 clear hR hgO hB1 hU2 hD2 hO2 hg1 hcell hgl hcell2 hal hf2 hfA hbA hfS hfin hlW hlA hsl hnf hFW hFA hgc hcS H1 H2
 refine region_K 14 17 17 (w2.drew) ((w2.alloc (.cells #[.bool false,.bool false,.int .i64 id,.int .i64 0,.bool (flE n),.int .i64 1] 173)).drew) ((w2.alloc (.cells #[.bool false,.bool false,.int .i64 id,.int .i64 0,.bool (flE n),.int .i64 1] 173)).drew.setCell ⟨b,d,none⟩ (.pointer (some ⟨w2.heap.size,0,none⟩))) ((w2.alloc (.cells #[.bool false,.bool false,.int .i64 id,.int .i64 0,.bool (flE n),.int .i64 1] 173)).drew.setCell ⟨b,d,none⟩ (.pointer (some ⟨w2.heap.size,0,none⟩))) rfl (by kernel_rfl) (by kernel_rfl) ?_
 iterate 3
  apply wpJ_op rfl (by rfl)
  ·intro f w1 hf hJ Q1 hQ
   simp only [nrm] at hQ
   go_wp2_with (fail)
   exact hQ _ _ rfl (hJ.other rfl hf (by decide) (by decide) (by decide))
  simp only [nrm]
 apply wpJ_op rfl (by rfl)
 ·intro f w1 hf hJ Q1 hQ
  have hS:f 17=false:=path_no hJ.1 [16,15,5,3] (by kernel_rfl) (by decide) hf.1
  have hF:=KJ.pre2 (F:=(fun u=> u.cell? ⟨fdb,2,none⟩=some (.map (some mb))∧(Instr.lookup 152 (.map (some mb)) (.int .i64 pid) false).run Tryz.prog u= .ok (.pointer (some ⟨b,0,none⟩)) u∧u.cell? ⟨g,0,none⟩=some (.int .i64 d))) hJ hS HQ.out.1 HQ.out.2.1
  have k0:=hF.1
  simp only [nrm] at hQ
  go_wp2_with (fail)
  exact hQ _ _ rfl (hJ.other rfl hf (by decide) (by decide) (by decide))
 simp only [nrm]
 apply wpJ_op rfl (by rfl)
 ·intro f w1 hf hJ Q1 hQ
  simp only [nrm] at hQ
  go_wp2_with (fail)
  exact hQ _ _ rfl (hJ.other rfl hf (by decide) (by decide) (by decide))
 simp only [nrm]
 apply wpJ_op rfl (by rfl)
 ·intro f w1 hf hJ Q1 hQ
  have hS:f 17=false:=path_no hJ.1 [16,15,5] (by kernel_rfl) (by decide) hf.1
  have hF:=KJ.pre2 (F:=(fun u=> u.cell? ⟨fdb,2,none⟩=some (.map (some mb))∧(Instr.lookup 152 (.map (some mb)) (.int .i64 pid) false).run Tryz.prog u= .ok (.pointer (some ⟨b,0,none⟩)) u∧u.cell? ⟨g,0,none⟩=some (.int .i64 d))) hJ hS HQ.out.1 HQ.out.2.1
  have k1:=hF.2.1
  simp only [nrm] at hQ
  go_wp2_with (fail)
  exact hQ _ _ rfl (hJ.other rfl hf (by decide) (by decide) (by decide))
 iterate 2
  simp only [nrm]
  apply wpJ_op rfl (by rfl)
  ·intro f w1 hf hJ Q1 hQ
   simp only [nrm] at hQ
   go_wp2_with (fail)
   exact hQ _ _ rfl (hJ.other rfl hf (by decide) (by decide) (by decide))
 simp only [nrm]
 apply wpJ_op rfl (by rfl)
 ·intro f w1 hf hJ Q1 hQ
  have hS:f 17=false:=path_no hJ.1 [16,8] (by kernel_rfl) (by decide) hf.1
  have hF:=KJ.pre2 (F:=(fun u=> u.cell? ⟨fdb,2,none⟩=some (.map (some mb))∧(Instr.lookup 152 (.map (some mb)) (.int .i64 pid) false).run Tryz.prog u= .ok (.pointer (some ⟨b,0,none⟩)) u∧u.cell? ⟨g,0,none⟩=some (.int .i64 d))) hJ hS HQ.out.1 HQ.out.2.1
  have k2:=hF.2.2
  simp only [nrm] at hQ
  go_wp2_with (fail)
  exact hQ _ _ rfl (hJ.other rfl hf (by decide) (by decide) (by decide))
 iterate 5
  simp only [nrm]
  apply wpJ_op rfl (by rfl)
  ·intro f w1 hf hJ Q1 hQ
   simp only [nrm] at hQ
   go_wp2_with (fail)
   exact hQ _ _ rfl (hJ.other rfl hf (by decide) (by decide) (by decide))
 simp only [nrm]
 apply wpJ_op rfl (by rfl)
 ·intro f w1 hf hJ Q1 hQ
  have hS:f 17=false:=path_no hJ.1 [14] (by kernel_rfl) (by decide) hf.1
  rw [hJ.atA hf.1 hS hS]
  simp only [nrm] at hQ
  go_wp2_with (fail)
  exact hQ _ _ rfl (hJ.goA rfl hf hS hS (by decide) (by decide))
 iterate 2
  simp only [nrm]
  apply wpJ_op rfl (by rfl)
  ·intro f w1 hf hJ Q1 hQ
   simp only [nrm] at hQ
   go_wp2_with (fail)
   exact hQ _ _ rfl (hJ.other rfl hf (by decide) (by decide) (by decide))
 simp only [nrm]
 apply wpJ_op (v:=undef) rfl (by rfl)
 ·intro f w1 hf hJ Q1 hQ
  have hA:f 14=true:=up_dep hf 14 (by kernel_rfl)
  rw [hJ.atC hA hf.1 hf.1]
  have k3:=HQ.out.2.2.1
  have k4:=HQ.out.2.2.2.1
  simp only [nrm] at hQ
  go_wp2_with (fail)
  exact hQ _ _ rfl (hJ.goS rfl hf)
 simp only [nrm]
 refine wpJ_nil ?_
 intro w9 hJ9
 rw [hJ9.fin rfl]
 clear hJ9
 have k5:=HQ.out.2.2.2.2.2.1
 have k6:=HQ.out.2.2.2.2.1
 rw [show ptb (some w2.heap.size)= .pointer (some ⟨w2.heap.size,0,none⟩) from rfl] at k6
 generalize ((w2.alloc (.cells #[.bool false,.bool false,.int .i64 id,.int .i64 0,.bool (flE n),.int .i64 1] 173)).drew.setCell ⟨b,d,none⟩ (.pointer (some ⟨w2.heap.size,0,none⟩)))=W9 at k5 k6 ⊢
 have H6:=Lib.hid k6
 clear k6
 go_wp2_with (fail)
 go_ret2
 exact ⟨w2.heap.size,HQ.out.2.2.2.2.2.2,H6.out⟩
set_option maxRecDepth 100000 in
set_option maxHeartbeats 2000000 in
theorem k_seek [Inhabited CapT] (h:FX w0 O fdb vb tb fb sb pb mb ns c N S w) (pid:Int) (hw:(Lit.int .i64 pid).wf=true) (b:Nat) (hb:S.pr pid=some b) (d x:Nat) (hd:d < 8) (hx:S.sl b d=some x) (t:Th) (ht:S.th x=some t) (hp:t.pp=false) (off:Int) (h0:0≤off):
  Calls Tryz.prog 46 #[.pointer (some ⟨fdb,0,none⟩),.int .i64 pid,.int .i64 d,.int .i64 off] w (FP w0 O fdb vb tb fb sb pb mb ns c N (S.setth x {t with pl:=off}) w (.int .i64 0)):=by
 have hg:=k_get h.fd pid hw b hb d x hd hx
 have hB:=h.fd.x x t ht
 have c0:w.cell? ⟨x,0,none⟩=some (.bool false):=by rw [←hp];exact hB.rd 0
 have c3:=hB.rd 3
 have f3:=hB.nf 3
 have d1:decide (off < 0)=false:=decide_eq_false (by omega)
 have hfin:=FP.then_own (O1:=O) (Upd.refl O w) h (fun k hk=> .inl hk) ((Upd.refl (Ow fdb mb S) w).setCell (p:=⟨x,3,none⟩) (fun _=> .inr (.inr (.inr (by rw [ht];rfl)))) (.int .i64 off)) (h.fd.setth ht {t with pl:=off} 3 (.int .i64 off) rfl) (fun k hk=> .inl (Ow.th ht hk)) (.int .i64 0)
 have HF:=Lib.hid hfin
 clear h hB ht hfin hb hx hp
 go_enter Tryz.func46,Tryz.ntmps46
 go_wp2_with (go_at_call 80;refine hg.mono ?_;rintro e w1 ⟨rfl,rfl⟩)
 go_ret
 exact HF.out
set_option maxRecDepth 100000 in
set_option maxHeartbeats 2000000 in
theorem k_dup [Inhabited CapT] (h:FX w0 O fdb vb tb fb sb pb mb ns c N S w) (pid:Int) (hw:(Lit.int .i64 pid).wf=true) (b:Nat) (hb:S.pr pid=some b) (d x:Nat) (hd:d < 8) (hx:S.sl b d=some x) (t:Th) (ht:S.th x=some t) (hnm: -100000≤t.nm∧t.nm≤100000)
  (d2:Nat) (hd2:d2 < 8) (hn:S.sl b d2=none) (hl:∀k,k < d2→S.sl b k≠none):
  Calls Tryz.prog 47 #[.pointer (some ⟨fdb,0,none⟩),.int .i64 pid,.int .i64 d] w (FP w0 O fdb vb tb fb sb pb mb ns c N ((S.setsl b d2 (some x)).setth x {t with nm:=t.nm+1}) w (.tuple #[.int .i64 d2,.int .i64 0])):=by
 obtain ⟨fr,hfr⟩:=freeL_least (S.sl b) d2 hn hl 8 hd2
 have hfree:=k_free h.fd pid hw b hb 1 (.int .i64 0) 0 (fun e w' => FreeP w ((d2:Int)::fr) e w') (fun _ e w' hp=> by rw [hfr] at hp;exact hp) (fun hlt=> by rw [hfr] at hlt;simp at hlt)
 obtain ⟨m,hm⟩:∃m,fr.length+1=m:=⟨_,rfl⟩
 have m1:0 < m:=by omega
 have m2:(0:Int) < m:=by omega
 have hg:=k_get h.fd pid hw b hb d x hd hx
 have HE:=Lib.hid (And.intro h (And.intro hb (And.intro hw (And.intro hn ht))))
 clear h hb hw hn hl hfr hx ht
 go_enter Tryz.func47,Tryz.ntmps47
 go_upto_region 7 with (first
  | (go_at_call 80;refine hg.mono ?_;rintro e w1 ⟨rfl,rfl⟩)
  | (go_at_call 78;refine hfree.mono ?_;rintro e wd ⟨a,cp,gr,rfl,hR,hgO,hB1⟩;have H1:=Lib.hid (And.intro hR (And.intro hgO hB1));rw [show ((d2:Int)::fr).length=m from by rw [←hm];rfl] at hR ⊢;clear hfree hR hB1 hgO))
 obtain ⟨hR,hgO,hB1⟩:=H1.out
 obtain ⟨g,rfl,hg1,hcell⟩:∃g,a=some ⟨g,0,none⟩∧w.heap.size≤g∧wd.cell? ⟨g,0,none⟩=some (.int .i64 d2):=by
  rcases hR with ⟨hv,_⟩ | ⟨g,cap,rest,hv,hgr,hBk,_⟩
  ·simp only [Value.slice.injEq,List.length_cons] at hv
   omega
  ·simp only [Value.slice.injEq] at hv
   exact ⟨g,hv.1,hgO g hgr,by rw [hBk.rd];rfl⟩
 have hgl:=World.block_lt_of_cell? _ _ hcell
 have hD1:=HE.out.1.below hB1
 have hf1:=hD1.fd
 have hfd:=(hf1.below (dn wd 1))
 have hS1:=hfd.setsl HE.out.2.1 d2 hd2 (some x) (fun y hy=> by cases hy;exact ⟨t,HE.out.2.2.2.2⟩)
 have hth1:(S.setsl b d2 (some x)).th x=some t:=HE.out.2.2.2.2
 have hS2:=hS1.setth hth1 {t with nm:=t.nm+1} 5 (.int .i64 (t.nm+1)) rfl
 have hu2:Upd (Ow fdb mb S) wd (((wd.drewN 1).setCell ⟨b,d2,none⟩ (ptb (some x))).setCell ⟨x,5,none⟩ (.int .i64 (t.nm+1))):=((Upd.of_below (F:=Ow fdb mb S) (dn wd 1)).setCell (p:=⟨b,d2,none⟩) (fun _=> .inr (.inr (.inl ⟨pid,HE.out.2.1⟩))) _).setCell (p:=⟨x,5,none⟩) (fun _=> .inr (.inr (.inr (by rw [HE.out.2.2.2.2];rfl)))) _
 have hfin:=FP.then_own (O:=O) (w:=w) (Upd.of_below (F:=O) hB1) hD1 (fun k hk=> .inl hk) hu2 hS2 (fun k hk=> .inl (Ow.setsl (Ow.th hth1 hk))) (.tuple #[.int .i64 d2,.int .i64 0])
 have hlW:=hfd.look pid HE.out.2.2.1
 rw [HE.out.2.1] at hlW
 have hFW:(fun u=> u.cell? ⟨fdb,2,none⟩=some (.map (some mb))∧(Instr.lookup 152 (.map (some mb)) (.int .i64 pid) false).run Tryz.prog u= .ok (.pointer (some ⟨b,0,none⟩)) u∧u.cell? ⟨g,0,none⟩=some (.int .i64 d2)) wd.drew:=⟨hf1.f.rd 2,hlW,hcell⟩
 have hsl:wd.drew.cell? ⟨b,d2,none⟩=some (ptb (S.sl b d2)):=hfd.slot HE.out.2.1 hd2
 have hnf:wd.drew.frozen? ⟨b,d2,none⟩=false:=(hfd.t pid b HE.out.2.1).nf d2
 have hxB:=hS1.x x t hth1
 have hgb:g≠b:=by have:=(HE.out.1.fd.t pid b HE.out.2.1).lt;omega
 have hcS:(wd.drew.setCell ⟨b,d2,none⟩ (.pointer (some ⟨x,0,none⟩))).cell? ⟨g,0,none⟩=some (.int .i64 d2):=cell_upd ((Upd.refl (fun k=> k=b) _).setCell (p:=⟨b,d2,none⟩) (fun _=> rfl) _) hFW.2.2 (fun e=> hgb (by simpa using e))
 have hgx:g≠x:=by have:=(HE.out.1.fd.x x t HE.out.2.2.2.2).lt;omega
 have i1:(d2:Int) < 8:=by omega
 have i2:(0:Int)≤d2:=by omega
 have HQ:=Lib.hid (And.intro hFW (And.intro hsl (And.intro hnf (And.intro hcS (And.intro hxB (And.intro hfin hgx))))))
 clear hR hgO hB1 hg1 hcell hgl hD1 hf1 hfd hS1 hth1 hS2 hu2 hfin hlW hFW hsl hnf hxB hgb hcS hgx H1
 refine region_S 12 wd.drew (wd.drew.setCell ⟨b,d2,none⟩ (.pointer (some ⟨x,0,none⟩))) rfl (by kernel_rfl) (by kernel_rfl) ?_
 iterate 3
  apply wpJ_op rfl (by rfl)
  ·intro f w1 hf hJ Q1 hQ
   simp only [nrm] at hQ
   go_wp2_with (fail)
   exact hQ _ _ rfl (hJ.other rfl hf (by decide))
  simp only [nrm]
 apply wpJ_op rfl (by rfl)
 ·intro f w1 hf hJ Q1 hQ
  have hS:f 12=false:=path_no hJ.1 [11,10,5,3] (by kernel_rfl) (by decide) hf.1
  rw [hJ.atS hS]
  have hF:=HQ.out.1
  have k0:=hF.1
  simp only [nrm] at hQ
  go_wp2_with (fail)
  exact hQ _ _ rfl (by have h9:=hJ.other rfl hf (by decide);rwa [hJ.atS hS] at h9)
 simp only [nrm]
 apply wpJ_op rfl (by rfl)
 ·intro f w1 hf hJ Q1 hQ
  simp only [nrm] at hQ
  go_wp2_with (fail)
  exact hQ _ _ rfl (hJ.other rfl hf (by decide))
 simp only [nrm]
 apply wpJ_op rfl (by rfl)
 ·intro f w1 hf hJ Q1 hQ
  have hS:f 12=false:=path_no hJ.1 [11,10,5] (by kernel_rfl) (by decide) hf.1
  rw [hJ.atS hS]
  have hF:=HQ.out.1
  have k1:=hF.2.1
  simp only [nrm] at hQ
  go_wp2_with (fail)
  exact hQ _ _ rfl (by have h9:=hJ.other rfl hf (by decide);rwa [hJ.atS hS] at h9)
 iterate 2
  simp only [nrm]
  apply wpJ_op rfl (by rfl)
  ·intro f w1 hf hJ Q1 hQ
   simp only [nrm] at hQ
   go_wp2_with (fail)
   exact hQ _ _ rfl (hJ.other rfl hf (by decide))
 simp only [nrm]
 apply wpJ_op rfl (by rfl)
 ·intro f w1 hf hJ Q1 hQ
  have hS:f 12=false:=path_no hJ.1 [11,8] (by kernel_rfl) (by decide) hf.1
  rw [hJ.atS hS]
  have hF:=HQ.out.1
  have k2:=hF.2.2
  simp only [nrm] at hQ
  go_wp2_with (fail)
  exact hQ _ _ rfl (by have h9:=hJ.other rfl hf (by decide);rwa [hJ.atS hS] at h9)
 iterate 3
  simp only [nrm]
  apply wpJ_op rfl (by rfl)
  ·intro f w1 hf hJ Q1 hQ
   simp only [nrm] at hQ
   go_wp2_with (fail)
   exact hQ _ _ rfl (hJ.other rfl hf (by decide))
 simp only [nrm]
 apply wpJ_op (v:=undef) rfl (by rfl)
 ·intro f w1 hf hJ Q1 hQ
  rw [hJ.atS hf.1]
  have k3:=HQ.out.2.1
  have k4:=HQ.out.2.2.1
  simp only [nrm] at hQ
  go_wp2_with (fail)
  exact hQ _ _ rfl (hJ.goS rfl hf)
 simp only [nrm]
 refine wpJ_nil ?_
 intro w9 hJ9
 rw [hJ9.fin rfl]
 clear hJ9
 have k5:=HQ.out.2.2.2.1
 have k6:=HQ.out.2.2.2.2.2.1
 have k7:=HQ.out.2.2.2.2.1
 rw [show ptb (some x)= .pointer (some ⟨x,0,none⟩) from rfl] at k6 k7
 change FP _ _ _ _ _ _ _ _ _ _ _ _ _ _ _ _ ((wd.drew.setCell ⟨b,d2,none⟩ (.pointer (some ⟨x,0,none⟩))).setCell ⟨x,5,none⟩ (.int .i64 (t.nm+1))) at k6
 change Blk (wd.drew.setCell ⟨b,d2,none⟩ (.pointer (some ⟨x,0,none⟩))) x _ _ at k7
 generalize (wd.drew.setCell ⟨b,d2,none⟩ (.pointer (some ⟨x,0,none⟩)))=W9 at k5 k6 k7 ⊢
 have k8:=k7.rd 5
 have k9:=k7.nf 5
 have ka:(W9.setCell ⟨x,5,none⟩ (.int .i64 (t.nm+1))).cell? ⟨g,0,none⟩=some (.int .i64 d2):=cell_upd ((Upd.refl (fun k=> k=x) W9).setCell (p:=⟨x,5,none⟩) (fun _=> rfl) _) k5 (fun e=> HQ.out.2.2.2.2.2.2 (by simpa using e))
 have j1: -100000≤t.nm:=hnm.1
 have j2:t.nm≤100000:=hnm.2
 have H6:=Lib.hid k6
 clear k6 k7 k5
 go_wp2_with (fail)
 go_ret2
 exact H6.out
set_option maxRecDepth 100000 in
set_option maxHeartbeats 4000000 in
theorem kf_write [Inhabited CapT] {ns2:NSt} (h:FX w0 O fdb vb tb fb sb pb mb ns c N S w) (x:Nat) (t:Th) (ht:S.th x=some t) (hid:(Lit.int .i64 t.id).wf=true) (bs:List Int) (m cp:Nat) (a:Option Addr) (hm:bs.length=m) (hm6:m≤100000) (hv:SrcF O w (.slice a m cp) bs)
  (p:Int) (hp0:0≤p∧p+(m:Int)≤9223372036854775807) (hp:(t.en=false∧t.pl=p)∨(t.en=true∧∃e,sizeV (filesOf ns) t.id=(p,e))) (hr:wrF ns capN t.id p bs=(0,ns2)):
  Calls Tryz.prog 84 #[.pointer (some ⟨fdb,0,none⟩),.pointer (some ⟨x,0,none⟩),.slice a m cp] w (FP w0 O fdb vb tb fb sb pb mb ns2 c N (S.setth x {t with pl:=p+m}) w (.int .i64 0)):=by
 have hB:=h.fd.x x t ht
 have HE:=Lib.hid (And.intro h (And.intro hid (And.intro (show bs.length≤1000000 by omega) (And.intro hv (And.intro hr ht)))))
 have j1:=hp0.1
 have j2:=hp0.2
 rcases hp with ⟨hen,hpl⟩ | ⟨hen,er,hsv⟩
 ·have c3:w.cell? ⟨x,3,none⟩=some (.int .i64 p):=by rw [←hpl];exact hB.rd 3
  have c4:w.cell? ⟨x,4,none⟩=some (.bool false):=by rw [←hen];exact hB.rd 4
  clear h hB ht hid hv hr hen hpl
  go_enter Tryz.func84,Tryz.ntmps84
  go_upto_region 4 with (fail)
  clear c3 c4
  have hBX:Below w.heap.size w w:=(Below.refl _ _)
  have hDX:=HE.out.1.below hBX
  have hDd:=hDX.below (dn w 1)
  have hBd:Below w.heap.size w (w.drewN 1):=hBX.trans ((dn w 1).mono hBX.size)
  have hst:Calls Tryz.prog 141 #[.pointer (some ⟨vb,0,none⟩)] w.drew fun e w' => e= .returned (.pointer (some ⟨sb,0,none⟩))∧w.drew=w' :=v_store hDd
  have hwr:Calls Tryz.prog 143 #[.pointer (some ⟨sb,0,none⟩),.int .i64 t.id,.int .i64 p,.slice a m cp] w.drew fun e w9=> e= .returned (.int .i64 0)∧(Upd O w w9∧∃O9,FX w0 O9 fdb vb tb fb sb pb mb ns2 c N S w9∧∀k,O9 k→O k∨w.heap.size≤k):=(v_write hDd t.id HE.out.2.1 p bs HE.out.2.2.1 _ (HE.out.2.2.2.1.below hBd) 0 ns2 HE.out.2.2.2.2.1).mono (fun e w9 hh=> FP.ahead hBd hh)
  have hF0:(fun u=> u.cell? ⟨fdb,0,none⟩=some (.pointer (some ⟨vb,0,none⟩))∧u.cell? ⟨x,2,none⟩=some (.int .i64 t.id)) w.drew:=⟨hDd.fd.f.rd 0,(hDd.fd.x x t HE.out.2.2.2.2.2).rd 2⟩
  have HQ:=Lib.hid (And.intro hF0 (And.intro hst hwr))
  clear hBX hDX hDd hBd hst hwr hF0
  refine region_C 11 w.drew (fun w9=> (Upd O w w9∧∃O9,FX w0 O9 fdb vb tb fb sb pb mb ns2 c N S w9∧∀k,O9 k→O k∨w.heap.size≤k)) rfl (by kernel_rfl) (by kernel_rfl) ?_
  iterate 3
   apply wpJ_op rfl (by rfl)
   ·intro f w1 hf hJ Q1 hQ
    simp only [nrm] at hQ
    go_wp2_with (go_at_call 141;refine k1.mono ?_;rintro e w8 ⟨rfl,rfl⟩)
    exact hQ _ _ rfl (hJ.other rfl hf (by decide))
   simp only [nrm]
  apply wpJ_op rfl (by rfl)
  ·intro f w1 hf hJ Q1 hQ
   have hC:f 11=false:=path_no hJ.1 [4,3] (by kernel_rfl) (by decide) hf.1
   rw [hJ.atC hC]
   have hF:=HQ.out.1
   have k0:=hF.1
   simp only [nrm] at hQ
   go_wp2_with (go_at_call 141;refine k1.mono ?_;rintro e w8 ⟨rfl,rfl⟩)
   exact hQ _ _ rfl (by have h9:=hJ.other rfl hf (by decide);rwa [hJ.atC hC] at h9)
  simp only [nrm]
  apply wpJ_op rfl (by rfl)
  ·intro f w1 hf hJ Q1 hQ
   have hC:f 11=false:=path_no hJ.1 [4] (by kernel_rfl) (by decide) hf.1
   rw [hJ.atC hC]
   have hF:=HQ.out.1
   have k1:=HQ.out.2.1
   simp only [nrm] at hQ
   go_wp2_with (go_at_call 141;refine k1.mono ?_;rintro e w8 ⟨rfl,rfl⟩)
   exact hQ _ _ rfl (by have h9:=hJ.other rfl hf (by decide);rwa [hJ.atC hC] at h9)
  iterate 3
   simp only [nrm]
   apply wpJ_op rfl (by rfl)
   ·intro f w1 hf hJ Q1 hQ
    simp only [nrm] at hQ
    go_wp2_with (go_at_call 141;refine k1.mono ?_;rintro e w8 ⟨rfl,rfl⟩)
    exact hQ _ _ rfl (hJ.other rfl hf (by decide))
  simp only [nrm]
  apply wpJ_op rfl (by rfl)
  ·intro f w1 hf hJ Q1 hQ
   have hC:f 11=false:=path_no hJ.1 [8] (by kernel_rfl) (by decide) hf.1
   rw [hJ.atC hC]
   have hF:=HQ.out.1
   have k2:=hF.2
   simp only [nrm] at hQ
   go_wp2_with (go_at_call 141;refine k1.mono ?_;rintro e w8 ⟨rfl,rfl⟩)
   exact hQ _ _ rfl (by have h9:=hJ.other rfl hf (by decide);rwa [hJ.atC hC] at h9)
  iterate 2
   simp only [nrm]
   apply wpJ_op rfl (by rfl)
   ·intro f w1 hf hJ Q1 hQ
    simp only [nrm] at hQ
    go_wp2_with (go_at_call 141;refine k1.mono ?_;rintro e w8 ⟨rfl,rfl⟩)
    exact hQ _ _ rfl (hJ.other rfl hf (by decide))
  simp only [nrm]
  apply wpJ_op rfl (by rfl)
  ·intro f w1 hf hJ Q1 hQ
   rw [hJ.atC hf.1]
   simp only [nrm] at hQ
   go_wp2_with (have kw:=HQ.out.2.2;go_at_call 143;refine kw.mono ?_;rintro e w8 ⟨rfl,hq⟩)
   exact hQ _ _ rfl (hJ.goC rfl hf hq)
  simp only [nrm]
  apply wpJ_op rfl (by rfl)
  ·intro f w1 hf hJ Q1 hQ
   simp only [nrm] at hQ
   go_wp2_with (go_at_call 141;refine k1.mono ?_;rintro e w8 ⟨rfl,rfl⟩)
   exact hQ _ _ rfl (hJ.other rfl hf (by decide))
  simp only [nrm]
  refine wpJ_nil ?_
  intro w9 hJ9
  have hq9:=hJ9.fin rfl
  clear hJ9
  obtain ⟨hU9,O9,hD9,hO9⟩:=hq9
  have hB9:=hD9.fd.x x t HE.out.2.2.2.2.2
  have k3:=hB9.rd 3
  have f3:=hB9.nf 3
  have hfin:=FP.then_own hU9 hD9 hO9 ((Upd.refl (Ow fdb mb S) w9).setCell (p:=⟨x,3,none⟩) (fun _=> .inr (.inr (.inr (by rw [HE.out.2.2.2.2.2];rfl)))) (.int .i64 (p+m))) (hD9.fd.setth HE.out.2.2.2.2.2 {t with pl:=p+m} 3 (.int .i64 (p+m)) rfl) (fun k hk=> .inl (Ow.th HE.out.2.2.2.2.2 hk)) (.int .i64 0)
  have HF:=Lib.hid hfin
  clear hfin hU9 hD9 hO9 hB9 HQ
  go_wp2_with (fail)
  go_ret
  exact HF.out
 ·have c3:w.cell? ⟨x,3,none⟩=some (.int .i64 t.pl):=hB.rd 3
  have c4:w.cell? ⟨x,4,none⟩=some (.bool true):=by rw [←hen];exact hB.rd 4
  have hDd:=h.below (dn w 1)
  have hst:Calls Tryz.prog 141 #[.pointer (some ⟨vb,0,none⟩)] w.drew fun e w' => e= .returned (.pointer (some ⟨sb,0,none⟩))∧w.drew=w' :=v_store hDd
  have hsz:Calls Tryz.prog 142 #[.pointer (some ⟨sb,0,none⟩),.int .i64 t.id] w.drew fun e w' => e= .returned (.tuple #[.int .i64 p,.int .i64 er])∧w.drew=w' :=v_size hDd t.id hid p er hsv
  have k0:w.drew.cell? ⟨fdb,0,none⟩=some (.pointer (some ⟨vb,0,none⟩)):=hDd.fd.f.rd 0
  have k2:w.drew.cell? ⟨x,2,none⟩=some (.int .i64 t.id):=(hDd.fd.x x t ht).rd 2
  clear h hB ht hid hv hr hen hsv hDd
  go_enter Tryz.func84,Tryz.ntmps84
  go_upto_region 3 with (fail)
  refine region_J (fun _ w1=> w1=w.drew) (by kernel_rfl) (by kernel_rfl) rfl ?_
  iterate 14
   apply wpJ_op rfl (by rfl)
   ·intro f w1 hf hJ Q1 hQ
    subst hJ
    simp only [nrm] at hQ
    go_wp2_with (first | (go_at_call 141;refine hst.mono ?_;rintro e w8 ⟨rfl,rfl⟩) | (go_at_call 142;refine hsz.mono ?_;rintro e w8 ⟨rfl,rfl⟩))
    exact hQ _ _ rfl rfl
   simp only [nrm]
  refine wpJ_nil ?_
  intro w9 hJ9
  subst hJ9
  clear c3 c4 k0 k2 hst hsz
  have hdb:=Lib.hid (show Below w.heap.size w w.drew from dn w 1)
  generalize w.drew=wq at*
  go_upto_region 4 with (fail)
  have hBX:Below w.heap.size w wq:=hdb.out
  have hDX:=HE.out.1.below hBX
  have hDd:=hDX.below (dn wq 1)
  have hBd:Below w.heap.size w (wq.drewN 1):=hBX.trans ((dn wq 1).mono hBX.size)
  have hst:Calls Tryz.prog 141 #[.pointer (some ⟨vb,0,none⟩)] wq.drew fun e w' => e= .returned (.pointer (some ⟨sb,0,none⟩))∧wq.drew=w' :=v_store hDd
  have hwr:Calls Tryz.prog 143 #[.pointer (some ⟨sb,0,none⟩),.int .i64 t.id,.int .i64 p,.slice a m cp] wq.drew fun e w9=> e= .returned (.int .i64 0)∧(Upd O w w9∧∃O9,FX w0 O9 fdb vb tb fb sb pb mb ns2 c N S w9∧∀k,O9 k→O k∨w.heap.size≤k):=(v_write hDd t.id HE.out.2.1 p bs HE.out.2.2.1 _ (HE.out.2.2.2.1.below hBd) 0 ns2 HE.out.2.2.2.2.1).mono (fun e w9 hh=> FP.ahead hBd hh)
  have hF0:(fun u=> u.cell? ⟨fdb,0,none⟩=some (.pointer (some ⟨vb,0,none⟩))∧u.cell? ⟨x,2,none⟩=some (.int .i64 t.id)) wq.drew:=⟨hDd.fd.f.rd 0,(hDd.fd.x x t HE.out.2.2.2.2.2).rd 2⟩
  have HQ:=Lib.hid (And.intro hF0 (And.intro hst hwr))
  clear hBX hDX hDd hBd hst hwr hF0
  refine region_C 11 wq.drew (fun w9=> (Upd O w w9∧∃O9,FX w0 O9 fdb vb tb fb sb pb mb ns2 c N S w9∧∀k,O9 k→O k∨w.heap.size≤k)) rfl (by kernel_rfl) (by kernel_rfl) ?_
  iterate 3
   apply wpJ_op rfl (by rfl)
   ·intro f w1 hf hJ Q1 hQ
    simp only [nrm] at hQ
    go_wp2_with (go_at_call 141;refine k1.mono ?_;rintro e w8 ⟨rfl,rfl⟩)
    exact hQ _ _ rfl (hJ.other rfl hf (by decide))
   simp only [nrm]
  apply wpJ_op rfl (by rfl)
  ·intro f w1 hf hJ Q1 hQ
   have hC:f 11=false:=path_no hJ.1 [4,3] (by kernel_rfl) (by decide) hf.1
   rw [hJ.atC hC]
   have hF:=HQ.out.1
   have k0:=hF.1
   simp only [nrm] at hQ
   go_wp2_with (go_at_call 141;refine k1.mono ?_;rintro e w8 ⟨rfl,rfl⟩)
   exact hQ _ _ rfl (by have h9:=hJ.other rfl hf (by decide);rwa [hJ.atC hC] at h9)
  simp only [nrm]
  apply wpJ_op rfl (by rfl)
  ·intro f w1 hf hJ Q1 hQ
   have hC:f 11=false:=path_no hJ.1 [4] (by kernel_rfl) (by decide) hf.1
   rw [hJ.atC hC]
   have hF:=HQ.out.1
   have k1:=HQ.out.2.1
   simp only [nrm] at hQ
   go_wp2_with (go_at_call 141;refine k1.mono ?_;rintro e w8 ⟨rfl,rfl⟩)
   exact hQ _ _ rfl (by have h9:=hJ.other rfl hf (by decide);rwa [hJ.atC hC] at h9)
  iterate 3
   simp only [nrm]
   apply wpJ_op rfl (by rfl)
   ·intro f w1 hf hJ Q1 hQ
    simp only [nrm] at hQ
    go_wp2_with (go_at_call 141;refine k1.mono ?_;rintro e w8 ⟨rfl,rfl⟩)
    exact hQ _ _ rfl (hJ.other rfl hf (by decide))
  simp only [nrm]
  apply wpJ_op rfl (by rfl)
  ·intro f w1 hf hJ Q1 hQ
   have hC:f 11=false:=path_no hJ.1 [8] (by kernel_rfl) (by decide) hf.1
   rw [hJ.atC hC]
   have hF:=HQ.out.1
   have k2:=hF.2
   simp only [nrm] at hQ
   go_wp2_with (go_at_call 141;refine k1.mono ?_;rintro e w8 ⟨rfl,rfl⟩)
   exact hQ _ _ rfl (by have h9:=hJ.other rfl hf (by decide);rwa [hJ.atC hC] at h9)
  iterate 2
   simp only [nrm]
   apply wpJ_op rfl (by rfl)
   ·intro f w1 hf hJ Q1 hQ
    simp only [nrm] at hQ
    go_wp2_with (go_at_call 141;refine k1.mono ?_;rintro e w8 ⟨rfl,rfl⟩)
    exact hQ _ _ rfl (hJ.other rfl hf (by decide))
  simp only [nrm]
  apply wpJ_op rfl (by rfl)
  ·intro f w1 hf hJ Q1 hQ
   rw [hJ.atC hf.1]
   simp only [nrm] at hQ
   go_wp2_with (have kw:=HQ.out.2.2;go_at_call 143;refine kw.mono ?_;rintro e w8 ⟨rfl,hq⟩)
   exact hQ _ _ rfl (hJ.goC rfl hf hq)
  simp only [nrm]
  apply wpJ_op rfl (by rfl)
  ·intro f w1 hf hJ Q1 hQ
   simp only [nrm] at hQ
   go_wp2_with (go_at_call 141;refine k1.mono ?_;rintro e w8 ⟨rfl,rfl⟩)
   exact hQ _ _ rfl (hJ.other rfl hf (by decide))
  simp only [nrm]
  refine wpJ_nil ?_
  intro w9 hJ9
  have hq9:=hJ9.fin rfl
  clear hJ9
  obtain ⟨hU9,O9,hD9,hO9⟩:=hq9
  have hB9:=hD9.fd.x x t HE.out.2.2.2.2.2
  have k3:=hB9.rd 3
  have f3:=hB9.nf 3
  have hfin:=FP.then_own hU9 hD9 hO9 ((Upd.refl (Ow fdb mb S) w9).setCell (p:=⟨x,3,none⟩) (fun _=> .inr (.inr (.inr (by rw [HE.out.2.2.2.2.2];rfl)))) (.int .i64 (p+m))) (hD9.fd.setth HE.out.2.2.2.2.2 {t with pl:=p+m} 3 (.int .i64 (p+m)) rfl) (fun k hk=> .inl (Ow.th HE.out.2.2.2.2.2 hk)) (.int .i64 0)
  have HF:=Lib.hid hfin
  clear hfin hU9 hD9 hO9 hB9 HQ
  go_wp2_with (fail)
  go_ret
  exact HF.out
set_option maxRecDepth 100000 in
set_option maxHeartbeats 2000000 in
theorem k_write [Inhabited CapT] {ns2:NSt} (h:FX w0 O fdb vb tb fb sb pb mb ns c N S w) (pid:Int) (hw:(Lit.int .i64 pid).wf=true) (b:Nat) (hb:S.pr pid=some b) (d x:Nat) (hd:d < 8) (hx:S.sl b d=some x) (t:Th) (ht:S.th x=some t) (hpp:t.pp=false) (hid:(Lit.int .i64 t.id).wf=true) (bs:List Int) (m cp:Nat) (a:Option Addr) (hm:bs.length=m) (hm6:m≤100000) (hv:SrcF O w (.slice a m cp) bs)
  (p:Int) (hp0:0≤p∧p+(m:Int)≤9223372036854775807) (hp:(t.en=false∧t.pl=p)∨(t.en=true∧∃e,sizeV (filesOf ns) t.id=(p,e))) (hr:wrF ns capN t.id p bs=(0,ns2)):
  Calls Tryz.prog 45 #[.pointer (some ⟨fdb,0,none⟩),.int .i64 pid,.int .i64 d,.slice a m cp] w (FP w0 O fdb vb tb fb sb pb mb ns2 c N (S.setth x {t with pl:=p+m}) w (.tuple #[.int .i64 m,.int .i64 0])):=by
 have hg:=k_get h.fd pid hw b hb d x hd hx
 have hB:=h.fd.x x t ht
 have c0:w.cell? ⟨x,0,none⟩=some (.bool false):=by rw [←hpp];exact hB.rd 0
 have hfw:=kf_write h x t ht hid bs m cp a hm hm6 hv p hp0 hp hr
 clear h hB ht hb hx hpp hid hv hr hp hp0
 go_enter Tryz.func45,Tryz.ntmps45
 go_wp2_with (first
  | (go_at_call 80;refine hg.mono ?_;rintro e w1 ⟨rfl,rfl⟩)
  | (go_at_call 84;refine hfw.mono ?_;rintro e w2 ⟨rfl,hq⟩;have HF:=Lib.hid hq;clear hq hfw))
 go_ret2
 exact ⟨rfl,HF.out⟩
set_option maxRecDepth 100000 in
set_option maxHeartbeats 2000000 in
theorem k_close [Inhabited CapT] (h:FX w0 O fdb vb tb fb sb pb mb ns c N S w) (pid:Int) (hw:(Lit.int .i64 pid).wf=true) (b:Nat) (hb:S.pr pid=some b) (d x:Nat) (hd:d < 8) (hx:S.sl b d=some x) (t:Th) (ht:S.th x=some t) (hnm:2≤t.nm∧t.nm≤100000):
  Calls Tryz.prog 43 #[.pointer (some ⟨fdb,0,none⟩),.int .i64 pid,.int .i64 d] w (FP w0 O fdb vb tb fb sb pb mb ns c N ((S.setsl b d none).setth x {t with nm:=t.nm - 1}) w (.int .i64 0)):=by
 have hg:=k_get h.fd pid hw b hb d x hd hx
 have hf:=h.fd
 have hl:=hf.look pid hw
 rw [hb] at hl
 simp only [ptb,Option.map] at hl
 have c2:=hf.f.rd 2
 have c3:=hf.slot hb hd
 rw [hx] at c3
 simp only [ptb,Option.map] at c3
 have f3:=(hf.t pid b hb).nf d
 have hS1:=hf.setsl hb d hd none (fun y hy=> by cases hy)
 have hx1:=hS1.x x t ht
 have k1:=hx1.rd 5
 have g1:=hx1.nf 5
 have hS2:=hS1.setth (x:=x) (t0:=t) ht {t with nm:=t.nm - 1} 5 (.int .i64 (t.nm - 1)) rfl
 have hx2:=hS2.x x {t with nm:=t.nm - 1} (upN_eq _ _ _)
 have k2:=hx2.rd
 have hu2:Upd (Ow fdb mb S) w ((w.setCell ⟨b,d,none⟩ (.pointer none)).setCell ⟨x,5,none⟩ (.int .i64 (t.nm - 1))):=((Upd.refl (Ow fdb mb S) w).setCell (p:=⟨b,d,none⟩) (fun _=> .inr (.inr (.inl ⟨pid,hb⟩))) _).setCell (p:=⟨x,5,none⟩) (fun _=> .inr (.inr (.inr (by rw [ht];rfl)))) _
 have hOw:∀k,Ow fdb mb ((S.setsl b d none).setth x {t with nm:=t.nm - 1}) k→Ow fdb mb S k∨w.heap.size≤k:=fun k hk=> .inl (Ow.setsl (b:=b) (d:=d) (x:=none) (Ow.th (S:=S.setsl b d none) (x:=x) (t0:=t) ht hk))
 rw [show ptb none= .pointer none from rfl] at k1 g1 k2 hS2 hx2
 have i1:(d:Int) < 8:=by omega
 have i2:(0:Int)≤d:=by omega
 have j1:=hnm.1
 have j2:=hnm.2
 have d1:t.nm - 1 > 0:=by omega
 have hfin:=FP.then_own (O1:=O) (Upd.refl O w) h (fun k hk=> .inl hk) hu2 hS2 hOw (.int .i64 0)
 have HF:=Lib.hid hfin
 have e5:((w.setCell ⟨b,d,none⟩ (.pointer none)).setCell ⟨x,5,none⟩ (.int .i64 (t.nm - 1))).cell? ⟨x,5,none⟩=some (.int .i64 (t.nm - 1)):=k2 5
 clear h hf hb hx ht hS1 hx1 hS2 hx2 k2 hu2 hOw hfin
 go_enter Tryz.func43,Tryz.ntmps43
 go_wp2_with (go_at_call 80;refine hg.mono ?_;rintro e w1 ⟨rfl,rfl⟩)
 go_ret
 exact HF.out
set_option maxRecDepth 100000 in
set_option maxHeartbeats 2000000 in
theorem k_closef [Inhabited CapT] {ns2:NSt} (h:FX w0 O fdb vb tb fb sb pb mb ns c N S w) (hc:c≤9000) (pid:Int) (hw:(Lit.int .i64 pid).wf=true) (b:Nat) (hb:S.pr pid=some b) (d x:Nat) (hd:d < 8) (hx:S.sl b d=some x) (t:Th) (ht:S.th x=some t) (hnm: -100000≤t.nm∧t.nm≤1) (hpp:t.pp=false) (r:Int) (hr:closeF ns t.id=(r,ns2)):
  Calls Tryz.prog 43 #[.pointer (some ⟨fdb,0,none⟩),.int .i64 pid,.int .i64 d] w (FP w0 O fdb vb tb fb sb pb mb ns2 (c+1) N ((S.setsl b d none).setth x {t with nm:=t.nm - 1}) w (.int .i64 0)):=by
 have hg:=k_get h.fd pid hw b hb d x hd hx
 have hf:=h.fd
 have hl:=hf.look pid hw
 rw [hb] at hl
 simp only [ptb,Option.map] at hl
 have c2:=hf.f.rd 2
 have c3:=hf.slot hb hd
 rw [hx] at c3
 simp only [ptb,Option.map] at c3
 have f3:=(hf.t pid b hb).nf d
 have hS1:=hf.setsl hb d hd none (fun y hy=> by cases hy)
 have hx1:=hS1.x x t ht
 have k1:=hx1.rd 5
 have g1:=hx1.nf 5
 have hS2:=hS1.setth (x:=x) (t0:=t) ht {t with nm:=t.nm - 1} 5 (.int .i64 (t.nm - 1)) rfl
 have hx2:=hS2.x x {t with nm:=t.nm - 1} (upN_eq _ _ _)
 have k2:=hx2.rd
 have hu2:Upd (Ow fdb mb S) w ((w.setCell ⟨b,d,none⟩ (.pointer none)).setCell ⟨x,5,none⟩ (.int .i64 (t.nm - 1))):=((Upd.refl (Ow fdb mb S) w).setCell (p:=⟨b,d,none⟩) (fun _=> .inr (.inr (.inl ⟨pid,hb⟩))) _).setCell (p:=⟨x,5,none⟩) (fun _=> .inr (.inr (.inr (by rw [ht];rfl)))) _
 have hOw:∀k,Ow fdb mb ((S.setsl b d none).setth x {t with nm:=t.nm - 1}) k→Ow fdb mb S k∨w.heap.size≤k:=fun k hk=> .inl (Ow.setsl (b:=b) (d:=d) (x:=none) (Ow.th (S:=S.setsl b d none) (x:=x) (t0:=t) ht hk))
 rw [show ptb none= .pointer none from rfl] at k1 g1 k2 hS2 hx2
 have i1:(d:Int) < 8:=by omega
 have i2:(0:Int)≤d:=by omega
 have j1:=hnm.1
 have j2:=hnm.2
 have d1:decide (t.nm - 1 > 0)=false:=decide_eq_false (by omega)
 obtain ⟨hU5,O5,hD5,hO5⟩:=(FP.then_own (O1:=O) (Upd.refl O w) h (fun k hk=> .inl hk) hu2 hS2 hOw (.int .i64 0)).2
 have hD5d:=hD5.below (dn _ 1)
 have hnd:=v_nodes hD5d
 have hcl:=(v_cl hD5d hc t.id r ns2 hr).mono (fun e w9 hh=> FP.seq (hU5.trans (Upd.of_below (F:=O) (dn _ 1)) (fun _ _ h=> h)) hO5 hh)
 have hF0:(fun u=> u.cell? ⟨fdb,0,none⟩=some (.pointer (some ⟨vb,0,none⟩))∧u.cell? ⟨x,2,none⟩=some (.int .i64 t.id)) ((((w.setCell ⟨b,d,none⟩ (.pointer none)).setCell ⟨x,5,none⟩ (.int .i64 (t.nm - 1)))).drewN 1):=⟨hD5d.fd.f.rd 0,(hD5d.fd.x x {t with nm:=t.nm - 1} (upN_eq _ _ _)).rd 2⟩
 have e5:((w.setCell ⟨b,d,none⟩ (.pointer none)).setCell ⟨x,5,none⟩ (.int .i64 (t.nm - 1))).cell? ⟨x,5,none⟩=some (.int .i64 (t.nm - 1)):=k2 5
 have e0:((w.setCell ⟨b,d,none⟩ (.pointer none)).setCell ⟨x,5,none⟩ (.int .i64 (t.nm - 1))).cell? ⟨x,0,none⟩=some (.bool false):=by rw [←hpp];exact k2 0
 have HP:=Lib.hid (And.intro hF0 (And.intro hnd hcl))
 clear hpp h hf hb hx ht hS1 hx1 hS2 hx2 k2 hu2 hOw hU5 hD5 hO5 hD5d hnd hcl hF0
 go_enter Tryz.func43,Tryz.ntmps43
 go_upto_region 6 with (go_at_call 80;refine hg.mono ?_;rintro e w1 ⟨rfl,rfl⟩)
 obtain ⟨hF0,hnd,hcl⟩:=HP.out
 clear e5 e0 k1 g1 HP
 generalize ((w.setCell ⟨b,d,none⟩ (.pointer none)).setCell ⟨x,5,none⟩ (.int .i64 (t.nm - 1)))=W9 at*
 have hF1:(fun u=> u.cell? ⟨fdb,0,none⟩=some (.pointer (some ⟨vb,0,none⟩))∧u.cell? ⟨x,2,none⟩=some (.int .i64 t.id)) W9.drew:=hF0
 have hn1:Calls Tryz.prog 30 #[.pointer (some ⟨vb,0,none⟩)] W9.drew fun e w' => e= .returned (.pointer (some ⟨tb,0,none⟩))∧W9.drew=w' :=hnd
 have hc1:Calls Tryz.prog 82 #[.pointer (some ⟨tb,0,none⟩),.int .i64 t.id] W9.drew fun e w9=> e= .returned (.int .i64 r)∧(Upd O w w9∧∃O9,FX w0 O9 fdb vb tb fb sb pb mb ns2 (c+1) N ((S.setsl b d none).setth x {t with nm:=t.nm - 1}) w9∧∀k,O9 k→O k∨w.heap.size≤k):=hcl
 have HQ:=Lib.hid (And.intro hF1 (And.intro hn1 hc1))
 clear hF0 hnd hcl hF1 hn1 hc1
 refine region_C 9 W9.drew (fun w9=> (Upd O w w9∧∃O9,FX w0 O9 fdb vb tb fb sb pb mb ns2 (c+1) N ((S.setsl b d none).setth x {t with nm:=t.nm - 1}) w9∧∀k,O9 k→O k∨w.heap.size≤k)) rfl (by kernel_rfl) (by kernel_rfl) ?_
 iterate 3
  apply wpJ_op rfl (by rfl)
  ·intro f w1 hf hJ Q1 hQ
   simp only [nrm] at hQ
   go_wp2_with (go_at_call 30;refine kn.mono ?_;rintro e w8 ⟨rfl,rfl⟩)
   exact hQ _ _ rfl (hJ.other rfl hf (by decide))
  simp only [nrm]
 apply wpJ_op rfl (by rfl)
 ·intro f w1 hf hJ Q1 hQ
  have hC:f 9=false:=path_no hJ.1 [4,3] (by kernel_rfl) (by decide) hf.1
  rw [hJ.atC hC]
  have hF:=HQ.out.1
  have k0:=hF.1
  simp only [nrm] at hQ
  go_wp2_with (go_at_call 30;refine kn.mono ?_;rintro e w8 ⟨rfl,rfl⟩)
  exact hQ _ _ rfl (by have h9:=hJ.other rfl hf (by decide);rwa [hJ.atC hC] at h9)
 simp only [nrm]
 apply wpJ_op rfl (by rfl)
 ·intro f w1 hf hJ Q1 hQ
  have hC:f 9=false:=path_no hJ.1 [4] (by kernel_rfl) (by decide) hf.1
  rw [hJ.atC hC]
  have hF:=HQ.out.1
  have kn:=HQ.out.2.1
  simp only [nrm] at hQ
  go_wp2_with (go_at_call 30;refine kn.mono ?_;rintro e w8 ⟨rfl,rfl⟩)
  exact hQ _ _ rfl (by have h9:=hJ.other rfl hf (by decide);rwa [hJ.atC hC] at h9)
 iterate 3
  simp only [nrm]
  apply wpJ_op rfl (by rfl)
  ·intro f w1 hf hJ Q1 hQ
   simp only [nrm] at hQ
   go_wp2_with (go_at_call 30;refine kn.mono ?_;rintro e w8 ⟨rfl,rfl⟩)
   exact hQ _ _ rfl (hJ.other rfl hf (by decide))
 simp only [nrm]
 apply wpJ_op rfl (by rfl)
 ·intro f w1 hf hJ Q1 hQ
  have hC:f 9=false:=path_no hJ.1 [8] (by kernel_rfl) (by decide) hf.1
  rw [hJ.atC hC]
  have hF:=HQ.out.1
  have k2:=hF.2
  simp only [nrm] at hQ
  go_wp2_with (go_at_call 30;refine kn.mono ?_;rintro e w8 ⟨rfl,rfl⟩)
  exact hQ _ _ rfl (by have h9:=hJ.other rfl hf (by decide);rwa [hJ.atC hC] at h9)
 simp only [nrm]
 apply wpJ_op rfl (by rfl)
 ·intro f w1 hf hJ Q1 hQ
  rw [hJ.atC hf.1]
  simp only [nrm] at hQ
  go_wp2_with (have kw:=HQ.out.2.2;go_at_call 82;refine kw.mono ?_;rintro e w8 ⟨rfl,hq⟩)
  exact hQ _ _ rfl (hJ.goC rfl hf hq)
 simp only [nrm]
 refine wpJ_nil ?_
 intro w9 hJ9
 have hq9:=hJ9.fin rfl
 clear hJ9
 have H9:=Lib.hid hq9
 clear hq9
 go_wp2_with (fail)
 go_ret
 exact ⟨rfl,H9.out⟩
end
end Go.Proofs.YtjpjafajploiaaaGreatDoor
