/-
  Descriptors' law: both at the start; what every program answers that is one.
-/
import Derived.Test.YtjpjafajploiaaaGreatDoorUnixAlone26
import Derived.Test.YtjpjafajploiaaaGreatDoorUnixAlone13
import Derived.Lib.BufferRead
import Derived.Lib.SlBytesConst
import Derived.Test.YtjpjafajploiaaaGreatDoorUnixAlone27
import Derived.Test.YtjpjafajploiaaaGreatDoorUnixAlone02
import Derived.Test.YtjpjafajploiaaaGreatDoorProg
import Derived.WalkSpells
set_option linter.unusedSimpArgs false
set_option linter.unusedVariables false
namespace Go.Proofs.YtjpjafajploiaaaGreatDoor
open Go.RowKit Own RegJ Two
open Go.Lib hiding intOf
set_option maxRecDepth 100000 in
theorem slabnew_any (fb:Nat) (w:World):Calls Tryz.prog 36 #[.pointer (some ⟨fb,0,none⟩)] w fun e w' => (∃k,e= .returned (.pointer (some ⟨k,0,none⟩)))∧Below w.heap.size w w' :=by
 have hmm:= @run_makeMap Tryz.prog
 go_enter Tryz.func36,Tryz.ntmps36
 go_wp2_with (fail)
 go_ret
 exact ⟨⟨_,rfl⟩,((Below.refl w.heap.size w).alloc (Nat.le_refl _) _).alloc (by simp) _⟩
set_option maxRecDepth 100000 in
theorem pipenew_any (kb:Nat) (w:World):Calls Tryz.prog 35 #[.pointer (some ⟨kb,0,none⟩)] w fun e w' => (∃k,e= .returned (.pointer (some ⟨k,0,none⟩)))∧Below w.heap.size w w' :=by
 go_enter Tryz.func35,Tryz.ntmps35
 go_wp2_with (fail)
 go_ret
 exact ⟨⟨_,rfl⟩,(Below.refl w.heap.size w).alloc (Nat.le_refl _) _⟩
set_option maxRecDepth 100000 in
theorem fdnew_is (vb pb:Nat) (w:World):Calls Tryz.prog 34 #[.pointer (some ⟨vb,0,none⟩),.pointer (some ⟨pb,0,none⟩)] w fun e w' => ∃fdb mb,e= .returned (.pointer (some ⟨fdb,0,none⟩))∧Below w.heap.size w w' ∧w.heap.size≤fdb∧w.heap.size≤mb∧FdB w' fdb vb pb mb 0 fs00:=by
 have hal:=((Below.refl w.heap.size w).alloc (Nat.le_refl _) (.map #[] 0)).alloc (by simp) (.cells #[.pointer (some ⟨vb,0,none⟩),.pointer (some ⟨pb,0,none⟩),.map (some w.heap.size)] 154)
 have hm:=(MapI.made w Tryz.prog 3).upd (Upd.of_below (F:=fun _=> False) ((Below.refl (w.alloc (.map #[] 0)).heap.size _).alloc (Nat.le_refl _) (.cells #[.pointer (some ⟨vb,0,none⟩),.pointer (some ⟨pb,0,none⟩),.map (some w.heap.size)] 154))) (fun h=> h)
 have hf:=Blk.new (w.alloc (.map #[] 0)) #[.pointer (some ⟨vb,0,none⟩),.pointer (some ⟨pb,0,none⟩),.map (some w.heap.size)] 154
 have hmm:= @run_makeMap Tryz.prog
 go_enter Tryz.func34,Tryz.ntmps34
 go_wp2_with (fail)
 go_ret
 refine ⟨_,w.heap.size,rfl,hal,by simp,Nat.le_refl _,(by have h:=hf;rw [show (w.alloc (.map #[] 0)).heap.size=w.heap.size+1 by simp] at h;exact h),⟨0,0,hm,Nat.le_refl _⟩,fun i b h=> (by cases h),fun b t h=> (by cases h),fun i b h=> (by cases h),fun i j b h=> (by cases h)⟩
theorem row_str {w:World} {a:Option Addr} {cp:Nat} {l:Txt} {gb:Option Nat} (h:RowV w 5 (.slice a l.length cp) (ucells (l.map fun c=> (c.toNat:Int))) gb):(convert 22 9 (.slice a l.length cp)).run Tryz.prog w= .ok (.string (B l)) w:=by
 have e:ucells (l.map fun c=> (c.toNat:Int))=Lib.byteCells l:=by unfold Lib.byteCells ucells;rw [List.map_map];rfl
 rw [e] at h
 rcases h with ⟨hv,h0,_⟩ | ⟨g,cap,rest,hv,hb,hB,hc,hm⟩
 ·simp only [Value.slice.injEq] at hv
  obtain ⟨rfl,hl,rfl⟩:=hv
  have:l= []:=List.eq_nil_of_length_eq_zero hl
  subst this
  exact run_convert_nil_bytes w _ _ _ 0 Tryz.underlying22 Tryz.underlying5 Tryz.underlying9
 ·simp only [Value.slice.injEq] at hv
  obtain ⟨rfl,hl,rfl⟩:=hv
  exact run_convert_bytes_back w _ _ _ ⟨g,0,none⟩ _ l Tryz.underlying22 Tryz.underlying5 Tryz.underlying9 (bytes_of_row (fr:=(0,0)) (cur:=(Lib.byteCells l++rest).toArray) (T:=5) hB (by rw [List.toList_toArray,List.take_left' (Lib.byteCells_length l)]))
theorem flE1:flE 1=false:=by kernel_rfl
end Go.Proofs.YtjpjafajploiaaaGreatDoor
namespace Go.Proofs.YtjpjafajploiaaaGreatDoor
open Go.RowKit Own RegJ Two
open Go.Lib hiding intOf
def FS.bump (S:FS) (x:Nat):FS:=match S.th x with
 | some t=> S.setth x {t with nm:=t.nm+1}
 | none=> S
def FS.bumps (S:FS) (f:Nat→Option Nat):Nat→FS
 | 0=> S
 | i+1=> match f i with
  | some x=> (S.bumps f i).bump x
  | none=> S.bumps f i
def FS.twin (S:FS) (q:Int) (b b2:Nat):FS:=⟨fun i=> if i=q then some b2 else S.pr i,upN S.sl b2 (S.sl b),S.th⟩
theorem bump_pr (S:FS) (x:Nat):(S.bump x).pr=S.pr∧(S.bump x).sl=S.sl:=by unfold FS.bump;split <;> exact ⟨rfl,rfl⟩
theorem bumps_pr (S:FS) (f:Nat→Option Nat):∀i,(S.bumps f i).pr=S.pr∧(S.bumps f i).sl=S.sl
 | 0=> ⟨rfl,rfl⟩
 | i+1=> by
  have h:=bumps_pr S f i
  unfold FS.bumps
  split
  ·have h2:=bump_pr (S.bumps f i) (by assumption)
   exact ⟨h2.1.trans h.1,h2.2.trans h.2⟩
  ·exact h
def Few (S:FS) (M:Int):Prop:=∀x t,S.th x=some t→ -100000≤t.nm∧t.nm≤M
theorem Few.bump {S:FS} {M:Int} (h:Few S M) (x:Nat):Few (S.bump x) (M+1):=by
 intro y u hy
 unfold FS.bump at hy
 split at hy
 ·rename_i t ht
  unfold FS.setth upN at hy
  simp only at hy
  split at hy
  ·cases hy
   have:=h x t ht
   simp only
   omega
  ·have:=h y u hy;omega
 ·have:=h y u hy;omega
theorem Few.bumps {S:FS} {M:Int} (h:Few S M) (f:Nat→Option Nat):∀i,Few (S.bumps f i) (M+i)
 | 0=> by show Few S _;simpa using h
 | i+1=> by
  have h2:=Few.bumps h f i
  unfold FS.bumps
  split
  ·have:=h2.bump (by assumption)
   rw [show M+((i+1:Nat):Int)=M+i+1 by omega]
   exact this
  ·intro y u hy
   have:=h2 y u hy
   omega
theorem bump_some {S:FS} {x y:Nat} {t:Th} (h:S.th y=some t):∃t',(S.bump x).th y=some t' :=by
 unfold FS.bump
 split
 ·unfold FS.setth upN
  simp only
  split
  ·exact ⟨_,rfl⟩
  ·exact ⟨t,h⟩
 ·exact ⟨t,h⟩
theorem bumps_some {S:FS} {f:Nat→Option Nat} {y:Nat} {t:Th} (h:S.th y=some t):∀i,∃t',(S.bumps f i).th y=some t'
 | 0=> ⟨t,h⟩
 | i+1=> by
  obtain ⟨t',h'⟩:=bumps_some h i
  unfold FS.bumps
  split
  ·exact bump_some h'
  ·exact ⟨t',h'⟩
theorem Ow.bump {fdb mb k x:Nat} {S:FS} (h:Ow fdb mb (S.bump x) k):Ow fdb mb S k:=by
 unfold FS.bump at h
 split at h
 ·rename_i t ht;exact Ow.th ht h
 ·exact h
theorem Ow.bumps {fdb mb k:Nat} {S:FS} {f:Nat→Option Nat}:∀i,Ow fdb mb (S.bumps f i) k→Ow fdb mb S k
 | 0,h=> h
 | i+1,h=> by
  unfold FS.bumps at h
  split at h
  ·exact Ow.bumps i (Ow.bump h)
  ·exact Ow.bumps i h
theorem Upd.row (W:World) (b:Nat) (cs:Array Value):Upd (fun k=> k=b) W (W.setRow b cs):=⟨rfl,rfl,rfl,by simp,fun k _ hk=> setRow_other W b k cs hk⟩
theorem Blk.row {W:World} {b:Nat} {T:TypeId} {old:Array Value} (h:Blk W b old T) (cs:Array Value):Blk (W.setRow b cs) b cs T:=setRow_heap W b old cs T _ h
theorem info_tab:(Tryz.prog.info? 164).map (·.size)=some 8:=by kernel_rfl
section
variable {w w1:World} {fdb vb pb mb N:Nat} {S:FS}
theorem FdB.twin {q:Int} {b2:Nat} (h:FdB w fdb vb pb mb N (S.start q b2)) {b:Nat} {pid:Int} (hb:S.pr pid=some b) (hne:pid≠q) (hnew:∀i c,S.pr i=some c→c≠b2):FdB (w.setRow b2 (slC (S.sl b))) fdb vb pb mb N (S.twin q b b2):=by
 have hi:(S.start q b2).pr q=some b2:=if_pos rfl
 obtain ⟨n1,n2,n3⟩:=h.tne hi
 have hu:=Upd.row w b2 (slC (S.sl b))
 obtain ⟨n,s,hm,hn⟩:=h.m
 have hbp:(S.start q b2).pr pid=some b:=(if_neg hne).trans hb
 have hbb:b≠b2:=hnew pid b hb
 have hsb:(S.start q b2).sl b=S.sl b:=upN_ne _ _ hbb
 refine ⟨Blk.upd hu h.f (fun e=> n1 e.symm),⟨n,s,hm.upd hu (fun e=> n2 e.symm),hn⟩,fun j b' hj=> ?_,fun y t hy=> Blk.upd hu (h.x y t hy) (n3 y t hy),fun j b' hj d' x' hd' hs=> ?_,h.j⟩
 ·unfold FS.twin
  simp only
  by_cases e:b' =b2
  ·subst e
   rw [upN_eq]
   exact Blk.row (h.t q _ hi) _
  ·rw [upN_ne _ _ e]
   have:=Blk.upd hu (h.t j b' hj) e
   rwa [show (S.start q b2).sl b' =S.sl b' from upN_ne _ _ e] at this
 ·unfold FS.twin at hs
  simp only at hs
  by_cases e:b' =b2
  ·subst e
   rw [upN_eq] at hs
   exact h.r pid b hbp d' x' hd' (by rw [hsb];exact hs)
  ·rw [upN_ne _ _ e] at hs
   exact h.r j b' hj d' x' hd' (by rw [show (S.start q b2).sl b' =S.sl b' from upN_ne _ _ e];exact hs)
end
section
variable {w0 w w1 w2 w' :World} {O O1:Nat→Prop} {fdb vb tb fb sb pb mb:Nat} {ns ns' :NSt} {c N N' :Nat} {S S' :FS}
set_option maxRecDepth 100000 in
set_option maxHeartbeats 4000000 in
theorem k_copy [Inhabited CapT] (h:FX w0 O fdb vb tb fb sb pb mb ns c N S w) (hN:N≤100000) (pid q:Int) (hw:(Lit.int .i64 pid).wf=true) (hw2:(Lit.int .i64 q).wf=true) (h0:0≤q) (b:Nat) (hb:S.pr pid=some b) (hto:S.pr q=none) (hfew:Few S 100000):
  Calls Tryz.prog 56 #[.pointer (some ⟨fdb,0,none⟩),.int .i64 pid,.int .i64 q] w fun e w' => ∃b2,w.heap.size≤b2∧FP w0 O fdb vb tb fb sb pb mb ns c (N+1) ((S.twin q b b2).bumps (S.sl b) 8) w (.int .i64 0) e w' :=by
 have hpc:=k_proc h.fd pid hw (some b) hb 0 (by unfold procR;rw [hb])
 have hst:=k_start h hN q hw2 h0 hto
 have hne:pid≠q:=fun e=> by rw [e,hto] at hb;cases hb
 have hlt:∀i c,S.pr i=some c→c < w.heap.size:=fun i c hi=> (h.fd.t i c hi).lt
 have HE:=Lib.hid (And.intro h (And.intro hb (And.intro hw2 (And.intro hne (And.intro hlt (And.intro hfew h.fd.r))))))
 clear h hb hto hfew hne hlt
 simp only [ptb,Option.map] at hpc
 go_enter Tryz.func56,Tryz.ntmps56
 go_upto_region 7 with (first
  | (go_at_call 67;refine hpc.mono ?_;rintro e w1 ⟨rfl,rfl⟩)
  | (go_at_call 39;refine hst.mono ?_;rintro e wd ⟨b2,hb2,rfl,hU,O2,hD,hO2⟩;have H1:=Lib.hid (And.intro hb2 (And.intro hU (And.intro hD hO2)));clear hb2 hU hD hO2 hst))
 obtain ⟨hb2,hU,hD,hO2⟩:=H1.out
 have hbb:b≠b2:=fun e=> by have:=HE.out.2.2.2.2.1 pid b HE.out.2.1;omega
 have hDd:=hD.below (dn wd 1)
 have hi2:(S.start q b2).pr q=some b2:=if_pos rfl
 have hbp:(S.start q b2).pr pid=some b:=(if_neg HE.out.2.2.2.1).trans HE.out.2.1
 have hl:=hDd.fd.look q HE.out.2.2.1
 rw [hi2] at hl
 have hTb:=hDd.fd.t pid b hbp
 rw [show (S.start q b2).sl b=S.sl b from upN_ne _ _ hbb] at hTb
 have hT2:=hDd.fd.t q b2 hi2
 rw [show (S.start q b2).sl b2=(fun _=> none) from upN_eq _ _ _] at hT2
 have hF0:(fun u=> u.cell? ⟨fdb,2,none⟩=some (.map (some mb))∧(Instr.lookup 152 (.map (some mb)) (.int .i64 q) false).run Tryz.prog u= .ok (.pointer (some ⟨b2,0,none⟩)) u∧∀k,u.cell? ⟨b,k,none⟩=(slC (S.sl b))[k]?) wd.drew:=⟨hDd.fd.f.rd 2,hl,hTb.rd⟩
 have hS:=hDd.fd.twin HE.out.2.1 HE.out.2.2.2.1 (fun i c hi=> by have:=HE.out.2.2.2.2.1 i c hi;omega)
 have huR:Upd (Ow fdb mb (S.start q b2)) wd ((wd.drewN 1).setRow b2 (slC (S.sl b))):=(Upd.of_below (F:=Ow fdb mb (S.start q b2)) (dn wd 1)).trans (Upd.row (wd.drewN 1) b2 (slC (S.sl b))) (fun i _ hi=> by subst hi;exact .inr (.inr (.inl ⟨q,hi2⟩)))
 have hTw:∀k,Ow fdb mb (S.twin q b b2) k→Ow fdb mb (S.start q b2) k∨wd.heap.size≤k:=fun k hk=> .inl hk
 have hFP:=(FP.then_own hU hD hO2 huR hS hTw (.int .i64 0)).2
 have hB2d:Blk wd.drew b2 (slC fun _=> none) 164:=hT2
 have HQ:=Lib.hid (And.intro hF0 (And.intro hB2d hFP))
 clear hb2 hU hD hO2 hbb hDd hi2 hbp hl hTb hT2 hF0 hS huR hTw hFP hB2d
 refine region_S 10 wd.drew (wd.drew.setRow b2 (slC (S.sl b))) rfl (by kernel_rfl) (by kernel_rfl) ?_
 iterate 3
  apply wpJ_op rfl (by rfl)
  ·intro f w1 hf hJ Q1 hQ
   simp only [nrm] at hQ
   go_wp2_with (fail)
   exact hQ _ _ rfl (hJ.other rfl hf (by decide))
  simp only [nrm]
 apply wpJ_op rfl (by rfl)
 ·intro f w1 hf hJ Q1 hQ
  have hS:f 10=false:=path_no hJ.1 [9,5,3] (by kernel_rfl) (by decide) hf.1
  rw [hJ.atS hS]
  have hF:=HQ.out.1
  have k0:=hF.1
  simp only [nrm] at hQ
  go_wp2_with (fail)
  exact hQ _ _ rfl (by have h9:=hJ.other rfl hf (by decide);rwa [hJ.atS hS] at h9)
 simp only [nrm]
 apply wpJ_op rfl (by rfl)
 ·intro f w1 hf hJ Q1 hQ
  simp only [nrm] at hQ
  go_wp2_with (fail)
  exact hQ _ _ rfl (hJ.other rfl hf (by decide))
 simp only [nrm]
 apply wpJ_op rfl (by rfl)
 ·intro f w1 hf hJ Q1 hQ
  have hS:f 10=false:=path_no hJ.1 [9,5] (by kernel_rfl) (by decide) hf.1
  rw [hJ.atS hS]
  have hF:=HQ.out.1
  have k1:=hF.2.1
  simp only [nrm] at hQ
  go_wp2_with (fail)
  exact hQ _ _ rfl (by have h9:=hJ.other rfl hf (by decide);rwa [hJ.atS hS] at h9)
 iterate 2
  simp only [nrm]
  apply wpJ_op rfl (by rfl)
  ·intro f w1 hf hJ Q1 hQ
   simp only [nrm] at hQ
   go_wp2_with (fail)
   exact hQ _ _ rfl (hJ.other rfl hf (by decide))
 simp only [nrm]
 apply wpJ_op rfl (by rfl)
 ·intro f w1 hf hJ Q1 hQ
  have hS:f 10=false:=path_no hJ.1 [8] (by kernel_rfl) (by decide) hf.1
  rw [hJ.atS hS]
  have hF:=HQ.out.1
  have k2:=hF.2.2
  simp only [nrm] at hQ
  go_wp2_with (fail)
  exact hQ _ _ rfl (by have h9:=hJ.other rfl hf (by decide);rwa [hJ.atS hS] at h9)
 simp only [nrm]
 apply wpJ_op rfl (by rfl)
 ·intro f w1 hf hJ Q1 hQ
  simp only [nrm] at hQ
  go_wp2_with (fail)
  exact hQ _ _ rfl (hJ.other rfl hf (by decide))
 simp only [nrm]
 apply wpJ_op (v:=undef) rfl (by rfl)
 ·intro f w1 hf hJ Q1 hQ
  rw [hJ.atS hf.1]
  have k3:=HQ.out.2.1
  simp only [nrm] at hQ
  go_wp2_with (refine wpList_store_row rfl 164 (.tmp 36) (.tmp 35) rfl b2 (slC (S.sl b)) rfl rfl 164 (slC fun _=> none) k3 info_tab rfl (by simp [Value.oneCell',ptb]) ?_)
  exact hQ _ _ rfl (hJ.goS rfl hf)
 simp only [nrm]
 refine wpJ_nil ?_
 intro w9 hJ9
 rw [hJ9.fin rfl]
 clear hJ9
 have hFP:=HQ.out.2.2
 change Upd O w (wd.drew.setRow b2 (slC (S.sl b)))∧∃O',FX _ _ _ _ _ _ _ _ _ _ _ _ _ (wd.drew.setRow b2 (slC (S.sl b)))∧_ at hFP
 generalize (wd.drew.setRow b2 (slC (S.sl b)))=W9 at hFP ⊢
 clear HQ
 obtain ⟨hU9,O9,hD9,hO9⟩:=hFP
 have hTw9:(S.twin q b b2).sl b=S.sl b:=upN_ne _ _ (fun e=> by have:=HE.out.2.2.2.2.1 pid b HE.out.2.1;have:=H1.out.1;omega)
 have hpr9:(S.twin q b b2).pr pid=some b:=(if_neg HE.out.2.2.2.1).trans HE.out.2.1
 have HL:=Lib.hid (And.intro hU9 (And.intro hD9 (And.intro hO9 (And.intro hTw9 hpr9))))
 clear hU9 hD9 hO9 hTw9 hpr9
 go_wp2_with (fail)
 go_loopw [38] (fun ix wr=> ∃i:Nat,i≤8∧ix= .int .i64 i∧Hid (FdB wr fdb vb pb mb (N+1) ((S.twin q b b2).bumps (S.sl b) i)∧Upd (Ow fdb mb (S.twin q b b2)) W9 wr)) (fun ix _=> 8 - (intOf ix).toNat)
 case atStart=> exact ⟨0,Nat.zero_le _,rfl,Lib.hid ⟨HL.out.2.1.fd,Upd.refl _ _⟩⟩
 case round=>
  obtain ⟨i,hi,rfl,H⟩:=hrel
  by_cases hil:i < 8
  ·have d1:decide ((i:Int) < 8)=true:=by simp;omega
   have i1:(i:Int) < 8:=by omega
   have i2:(0:Int)≤i:=by omega
   have hp:=bumps_pr (S.twin q b b2) (S.sl b) i
   have c0:=H.out.1.slot (i:=pid) (b:=b) (by rw [hp.1];exact HL.out.2.2.2.2) hil
   rw [hp.2,HL.out.2.2.2.1] at c0
   cases hx:S.sl b i with
   | none=>
    rw [hx] at c0
    simp only [ptb,Option.map] at c0
    have HX:=Lib.hid (show (S.twin q b b2).bumps (S.sl b) (i+1)=(S.twin q b b2).bumps (S.sl b) i by show (match S.sl b i with | some x=> _ | none=> _)=_;rw [hx])
    clear hx hp
    go_wp2_with (fail)
    go_roundw
    case rel=> exact ⟨i+1,by omega,by go_num,by rw [HX.out];exact H⟩
    case measure=> simp [intOf];omega
   | some x=>
    rw [hx] at c0
    simp only [ptb,Option.map] at c0
    obtain ⟨t0,ht0⟩:=HE.out.2.2.2.2.2.2 pid b HE.out.2.1 i x hil hx
    obtain ⟨t,ht⟩:=bumps_some (S:=S.twin q b b2) (f:=S.sl b) (y:=x) ht0 i
    have hnm:=Few.bumps (S:=S.twin q b b2) (M:=100000) HE.out.2.2.2.2.2.1 (S.sl b) i x t ht
    have hBx:=H.out.1.x x t ht
    have k5:=hBx.rd 5
    have f5:=hBx.nf 5
    have hN:=H.out.1.setth ht {t with nm:=t.nm+1} 5 (.int .i64 (t.nm+1)) rfl
    have hE:(S.twin q b b2).bumps (S.sl b) (i+1)=((S.twin q b b2).bumps (S.sl b) i).setth x {t with nm:=t.nm+1}:=by
     show (match S.sl b i with | some x=> _ | none=> _)=_
     rw [hx]
     simp only
     unfold FS.bump
     rw [ht]
    have hU:Upd (Ow fdb mb (S.twin q b b2)) W9 (wr.setCell ⟨x,5,none⟩ (.int .i64 (t.nm+1))):=H.out.2.setCell (p:=⟨x,5,none⟩) (fun _=> .inr (.inr (.inr (by show (S.th x).isSome=true;rw [ht0];rfl)))) _
    have HX:=Lib.hid (show FdB (wr.setCell ⟨x,5,none⟩ (.int .i64 (t.nm+1))) fdb vb pb mb (N+1) ((S.twin q b b2).bumps (S.sl b) (i+1))∧Upd (Ow fdb mb (S.twin q b b2)) W9 (wr.setCell ⟨x,5,none⟩ (.int .i64 (t.nm+1))) from ⟨by rw [hE];exact hN,hU⟩)
    have j1:=hnm.1
    have j2:t.nm≤100008:=by omega
    clear hx hp ht0 ht hnm hBx hN hE hU H
    go_wp2_with (fail)
    go_roundw
    case rel=> exact ⟨i+1,by omega,by go_num,HX⟩
    case measure=> simp [intOf];omega
  ·have d1:decide ((i:Int) < 8)=false:=by simp;omega
   obtain rfl:i=8:=by omega
   have hfin:=FP.then_own HL.out.1 HL.out.2.1 HL.out.2.2.1 H.out.2 H.out.1 (fun k hk=> .inl (Ow.bumps 8 hk)) (.int .i64 0)
   have HF:=Lib.hid hfin
   clear hfin H hil hi
   go_wp2_with (fail)
   go_ret
   exact ⟨b2,H1.out.1,HF.out⟩
end
end Go.Proofs.YtjpjafajploiaaaGreatDoor
namespace Go.Proofs.YtjpjafajploiaaaGreatDoor
open Go.RowKit Own RegJ Two
open Go.Lib hiding intOf
theorem o_writeE {x:Txt} (F:Nat) (hF:8≤F) (op:Int) (b:List Int) (h:b.length≤512):wrF (nsO x op []) F 1 0 b=(0,nsO x op b):=by
 by_cases h0:b= []
 ·subst h0;exact o_write0 F op [] 0
 ·have:=o_write (x:=x) F hF op [] b 0 (by omega) (by simp) h0
  rw [show writeB [] 0 b=b from writeB_end [] b] at this
  exact this
end Go.Proofs.YtjpjafajploiaaaGreatDoor
namespace Go.Proofs.YtjpjafajploiaaaGreatDoor
open Go.RowKit Own RegJ Two
open Go.Lib hiding intOf
section
variable {w0 w w1 w2 w' :World} {O O1:Nat→Prop} {fdb vb tb fb sb pb mb:Nat} {ns ns' :NSt} {c N N' :Nat} {S S' :FS}
set_option maxRecDepth 100000 in
theorem k_openfull (h:FdB w fdb vb pb mb N S) (pid:Int) (hw:(Lit.int .i64 pid).wf=true) (b:Nat) (hb:S.pr pid=some b) (hl:∀k,k < 8→S.sl b k≠none) (n:Int) (s:ByteArray):
  Calls Tryz.prog 42 #[.pointer (some ⟨fdb,0,none⟩),.int .i64 pid,.string s,.int .i64 n] w fun e w' => e= .returned (.tuple #[.int .i64 0,.int .i64 14])∧Below w.heap.size w w' :=by
 have hfr:=freeL_none (S.sl b) hl 8 (Nat.le_refl _)
 have hfree:=k_free h pid hw b hb 1 (.int .i64 0) 0 (fun e w' => e= .returned (.tuple #[.slice none 0 0,.int .i64 14])∧Below w.heap.size w w') (fun hlt=> by rw [hfr] at hlt;simp at hlt) (fun _ w' hB=> ⟨rfl,hB⟩)
 clear h hb hw hl hfr
 go_enter Tryz.func42,Tryz.ntmps42
 go_wp2_with (go_at_call 78;refine hfree.mono ?_;rintro e w1 ⟨rfl,hB1⟩;have H1:=Lib.hid hB1;clear hfree hB1)
 go_ret2
 exact ⟨rfl,H1.out⟩
def usedL (f:Nat→Option Nat):Nat→List Int
 | 0=> []
 | i+1=> usedL f i++(if (f i).isSome then [(i:Int)] else [])
theorem usedL_len (f:Nat→Option Nat):∀i,(usedL f i).length≤i
 | 0=> Nat.le_refl _
 | i+1=> by
  have:=usedL_len f i
  unfold usedL
  rw [List.length_append]
  split <;> simp <;> omega
set_option maxRecDepth 100000 in
theorem clip_is (a:Option Addr) (m c:Nat) (hmc:m≤c) (w:World):Calls Tryz.prog 68 #[.slice a m c] w fun e w' => e= .returned (.slice a m m)∧w=w' :=by
 go_enter Tryz.func68,Tryz.ntmps68
 go_wp2_with (fail)
 go_ret
 exact ⟨rfl,rfl⟩
def UsedP (w:World) (ys:List Int) (e:Ending) (w' :World):Prop:=∃a c g,e= .returned (.slice a ys.length ys.length)∧RowV w' 3 (.slice a ys.length c) (icells ys) g∧(∀k,g=some k→w.heap.size≤k)∧Below w.heap.size w w'
set_option maxRecDepth 100000 in
set_option maxHeartbeats 2000000 in
theorem k_used (h:FdB w fdb vb pb mb N S) (pid:Int) (hw:(Lit.int .i64 pid).wf=true) (b:Nat) (hb:S.pr pid=some b):
  Calls Tryz.prog 26 #[.pointer (some ⟨fdb,0,none⟩),.int .i64 pid] w (UsedP w (usedL (S.sl b) 8)):=by
 have hp:=k_proc h pid hw (some b) hb 0 (by unfold procR;rw [hb])
 have hs:=fun d hd=> h.slot hb (d:=d) hd
 have hlt:=(h.t pid b hb).lt
 have HE:=Lib.hid (And.intro hs hlt)
 have HL:=Lib.hid (usedL_len (S.sl b))
 clear h hb hs hlt
 simp only [ptb,Option.map] at hp
 go_enter Tryz.func26,Tryz.ntmps26
 go_wp2_with (go_at_call 67;refine hp.mono ?_;rintro e w1 ⟨rfl,rfl⟩)
 go_loopw [7,19] (fun v10 ix wr=> ∃i:Nat,i≤8∧ix= .int .i64 i∧∃a m c,v10= .slice a m c∧Hid (∃g,RowV wr 3 (.slice a m c) (icells (usedL (S.sl b) i)) g∧(∀k,g=some k→w.heap.size≤k)∧Below w.heap.size w wr)) (fun _ ix _=> 8 - (intOf ix).toNat)
 case atStart=> exact ⟨0,Nat.zero_le _,rfl,none,0,0,rfl,Lib.hid ⟨none,.inl ⟨rfl,rfl,rfl⟩,fun k hk=> (by cases hk),Below.refl _ _⟩⟩
 case round=>
  obtain ⟨i,hi,rfl,a,m,c,rfl,H⟩:=hrel
  obtain ⟨gr,hR,hgr,hBl⟩:=H.out
  have hm:m=(usedL (S.sl b) i).length∧m≤c:=by
   obtain ⟨a',c',hv,h1,_⟩:=hR.slice
   simp only [Value.slice.injEq,List.length_map] at hv h1
   exact ⟨hv.2.1,by omega⟩
  have hml:=HL.out i
  by_cases hil:i < 8
  ·have d1:decide ((i:Int) < 8)=true:=by simp;omega
   have i1:(i:Int) < 8:=by omega
   have i2:(0:Int)≤i:=by omega
   have c0:wr.cell? ⟨b,i,none⟩=some (ptb (S.sl b i)):=(hBl.cell (p:=⟨b,i,none⟩) HE.out.2).trans (HE.out.1 i hil)
   cases hx:S.sl b i with
   | none=>
    have HX:=Lib.hid (show usedL (S.sl b) (i+1)=usedL (S.sl b) i by show usedL (S.sl b) i++(if (S.sl b i).isSome then [(i:Int)] else [])=_;rw [hx];simp)
    rw [hx] at c0
    simp only [ptb,Option.map] at c0
    clear hx hR hgr hBl hm
    go_wp2_with (fail)
    go_quiet (fail)
    go_wp2_with (fail)
    go_roundw
    case rel=> exact ⟨i+1,by omega,by go_num,a,m,c,rfl,Lib.hid (by rw [HX.out];obtain ⟨g,h1,h2,h3⟩:=H.out;exact ⟨g,h1.below (dn _ _),h2,h3.trans (((dn _ _)).mono h3.size)⟩)⟩
    case measure=> simp [intOf];omega
   | some x=>
    have HX:=Lib.hid (show usedL (S.sl b) (i+1)=usedL (S.sl b) i++ [(i:Int)] by show usedL (S.sl b) i++(if (S.sl b i).isSome then [(i:Int)] else [])=_;rw [hx];simp)
    rw [hx] at c0
    simp only [ptb,Option.map] at c0
    have HK:=Lib.hid (fun q=> hR.below ((dn wr q).trans ((Below.refl _ _).alloc (by simp) (.cells #[.int .i64 (i:Int)] 3))))
    obtain ⟨hm,hmc⟩:=hm
    have HM:=Lib.hid (And.intro hgr (And.intro hBl hm))
    clear hx hR hgr hBl hm
    go_wp2_with (fail)
    go_quiet (fail)
    go_wp2_with (at_builtin;refine wp_appV rfl _ _ 59 3 (.int .i64 0) 8 (by kernel_rfl) rfl (by decide) Tryz.underlying59 rfl (.slice a m c) (icells (usedL (S.sl b) i)) gr rfl (HK.out _) (some ⟨wr.heap.size,0,none⟩) 1 1 [.int .i64 i] rfl rfl (fun _=> ⟨_,rfl,new_cell (wr.drewN _) (.int .i64 i) 3⟩) (fun u hu=> by (simp at hu;subst hu;rfl)) (by simp;omega) ?_;intro v' w4 row' hI hrow' hu4;obtain ⟨a2,c2,rfl,-,-⟩:=hI.slice;have H4:=Lib.hid (And.intro hI (And.intro hrow' hu4));clear hI hrow' hu4)
    go_roundw
    case rel=>
     refine ⟨i+1,by omega,by go_num,a2,_,c2,rfl,Lib.hid ?_⟩
     rw [HX.out,show icells (usedL (S.sl b) i++ [(i:Int)])=icells (usedL (S.sl b) i)++ [Value.int .i64 i] by simp [icells]]
     have hB5:=HM.out.2.1.trans ((dn wr nq).mono HM.out.2.1.size)
     refine ⟨row',by rw [show (usedL (S.sl b) i).length+1=(icells (usedL (S.sl b) i)++ [Value.int .i64 i]).length by simp];exact H4.out.1,fun k hk=> ?_,?_⟩
     ·rcases H4.out.2.1 k hk with h1 | h1
      ·exact HM.out.1 k h1
      ·have h2:=HM.out.2.1.size
       simp at h1
       omega
     ·have h6:=(hB5.alloc hB5.size (.cells #[.int .i64 (i:Int)] 3))
      exact h6.trans (H4.out.2.2.below h6.size (fun k hk=> HM.out.1 k hk))
    case measure=> simp [intOf];omega
  ·have hi8:i=8:=by omega
   have d1:decide ((i:Int) < 8)=false:=by simp;omega
   have d0:decide (i < 8)=false:=by simp;omega
   subst hi8
   have hcl:=clip_is a m c hm.2 wr
   have HF:=Lib.hid (And.intro hm.1 (And.intro hR (And.intro hgr hBl)))
   clear hR hgr hBl hm hil hi
   go_wp2_with (go_at_call 68;refine hcl.mono ?_;rintro e w9 ⟨rfl,rfl⟩)
   go_ret
   refine ⟨a,c,gr,?_,?_,HF.out.2.2.1,HF.out.2.2.2⟩
   ·rw [←HF.out.1];rfl
   ·rw [←HF.out.1];exact HF.out.2.1
end
end Go.Proofs.YtjpjafajploiaaaGreatDoor
namespace Go.Proofs.YtjpjafajploiaaaGreatDoor
open Go.RowKit Own RegJ Two
open Go.Lib hiding intOf
def thN (S:FS) (pid d:Int):Option Nat:=match S.pr pid with
 | none=> none
 | some b=> if 0≤d∧d < 8 then S.sl b d.toNat else none
def getR (S:FS) (pid d:Int):Int:=if (S.pr pid).isNone then 4 else if (thN S pid d).isNone then 8 else 0
theorem thN_some {S:FS} {pid d:Int} {x:Nat} (h:thN S pid d=some x):∃(b k:Nat),S.pr pid=some b∧d=k∧k < 8∧S.sl b k=some x:=by
 unfold thN at h
 cases hp:S.pr pid with
 | none=> rw [hp] at h;cases h
 | some b=>
  rw [hp] at h
  simp only at h
  split at h
  ·rename_i hd
   exact ⟨b,d.toNat,rfl,by omega,by omega,h⟩
  ·cases h
theorem thN_is {S:FS} {pid:Int} {b k x:Nat} (hb:S.pr pid=some b) (hk:k < 8) (hx:S.sl b k=some x):thN S pid k=some x:=by
 unfold thN
 rw [hb]
 simp only
 rw [if_pos (by omega)]
 exact hx
section
variable {w w' :World} {fdb vb pb mb N:Nat} {S:FS}
set_option maxRecDepth 100000 in
theorem k_getbad (h:FdB w fdb vb pb mb N S) (pid:Int) (hw:(Lit.int .i64 pid).wf=true) (d:Int) (r:Int) (hr:getR S pid d=r) (h0:r≠0):
  Calls Tryz.prog 80 #[.pointer (some ⟨fdb,0,none⟩),.int .i64 pid,.int .i64 d] w fun e w' => e= .returned (.tuple #[.pointer none,.int .i64 r])∧w=w' :=by
 unfold getR at hr
 cases hp:S.pr pid with
 | none=>
  obtain rfl:4=r:=by simpa [hp] using hr
  have hq:=k_proc h pid hw none hp 4 (by unfold procR;rw [hp])
  clear h hp
  simp only [ptb,Option.map] at hq
  go_enter Tryz.func80,Tryz.ntmps80
  go_wp2_with (go_at_call 67;refine hq.mono ?_;rintro e w1 ⟨rfl,rfl⟩)
  go_ret2
  exact ⟨rfl,rfl⟩
 | some b=>
  by_cases hd:0≤d∧d < 8
  ·obtain ⟨k,rfl⟩:∃k:Nat,d=k:=⟨d.toNat,by omega⟩
   have hk:k < 8:=by omega
   cases hx:S.sl b k with
   | some x=> exact absurd (by simpa [hp,thN_is hp hk hx] using hr.symm) h0
   | none=>
    have:thN S pid k=none:=by
     cases ht:thN S pid k with
     | none=> rfl
     | some x=>
      obtain ⟨b2,k2,e1,e2,e3,e4⟩:=thN_some ht
      rw [hp] at e1
      cases e1
      obtain rfl:k=k2:=by omega
      rw [hx] at e4;cases e4
    obtain rfl:8=r:=by simpa [hp,this] using hr
    exact k_getno h pid hw b hp k hk hx
  ·have:thN S pid d=none:=by
    unfold thN
    rw [hp]
    exact if_neg hd
   obtain rfl:8=r:=by simpa [hp,this] using hr
   have hq:=k_proc h pid hw (some b) hp 0 (by unfold procR;rw [hp])
   clear h hp this
   simp only [ptb,Option.map] at hq
   by_cases h1:d < 0
   ·have d1:decide (d < 0)=true:=decide_eq_true h1
    clear hd
    go_enter Tryz.func80,Tryz.ntmps80
    go_wp2_with (go_at_call 67;refine hq.mono ?_;rintro e w1 ⟨rfl,rfl⟩)
    go_ret2
    exact ⟨rfl,rfl⟩
   ·have d1:decide (d < 0)=false:=decide_eq_false h1
    have d2:decide (d≥8)=true:=decide_eq_true (by omega)
    have d3:decide (8≤d)=true:=decide_eq_true (by omega)
    clear hd
    go_enter Tryz.func80,Tryz.ntmps80
    go_wp2_with (go_at_call 67;refine hq.mono ?_;rintro e w1 ⟨rfl,rfl⟩)
    go_ret2
    exact ⟨rfl,rfl⟩
set_option maxRecDepth 100000 in
theorem k_closebad (h:FdB w fdb vb pb mb N S) (pid:Int) (hw:(Lit.int .i64 pid).wf=true) (d:Int) (r:Int) (hr:getR S pid d=r) (h0:r≠0):
  Calls Tryz.prog 43 #[.pointer (some ⟨fdb,0,none⟩),.int .i64 pid,.int .i64 d] w fun e w' => e= .returned (.int .i64 r)∧w=w' :=by
 have hg:=k_getbad h pid hw d r hr h0
 have r4:r=4∨r=8:=by
  unfold getR at hr
  split at hr
  ·exact .inl hr.symm
  ·split at hr
   ·exact .inr hr.symm
   ·exact absurd hr.symm h0
 clear h hr h0
 rcases r4 with rfl | rfl
 all_goals
  go_enter Tryz.func43,Tryz.ntmps43
  go_wp2_with (go_at_call 80;refine hg.mono ?_;rintro e w1 ⟨rfl,rfl⟩)
  go_ret
  exact ⟨rfl,rfl⟩
set_option maxRecDepth 100000 in
theorem k_dupbad (h:FdB w fdb vb pb mb N S) (pid:Int) (hw:(Lit.int .i64 pid).wf=true) (d:Int) (r:Int) (hr:getR S pid d=r) (h0:r≠0):
  Calls Tryz.prog 47 #[.pointer (some ⟨fdb,0,none⟩),.int .i64 pid,.int .i64 d] w fun e w' => e= .returned (.tuple #[.int .i64 0,.int .i64 r])∧w=w' :=by
 have hg:=k_getbad h pid hw d r hr h0
 have r4:r=4∨r=8:=by
  unfold getR at hr
  split at hr
  ·exact .inl hr.symm
  ·split at hr
   ·exact .inr hr.symm
   ·exact absurd hr.symm h0
 clear h hr h0
 rcases r4 with rfl | rfl
 all_goals
  go_enter Tryz.func47,Tryz.ntmps47
  go_wp2_with (go_at_call 80;refine hg.mono ?_;rintro e w1 ⟨rfl,rfl⟩)
  go_ret2
  exact ⟨rfl,rfl⟩
set_option maxRecDepth 100000 in
theorem k_readbad (h:FdB w fdb vb pb mb N S) (pid:Int) (hw:(Lit.int .i64 pid).wf=true) (d:Int) (n:Int) (r:Int) (hr:getR S pid d=r) (h0:r≠0):
  Calls Tryz.prog 83 #[.pointer (some ⟨fdb,0,none⟩),.int .i64 pid,.int .i64 d,.int .i64 n] w fun e w' => e= .returned (.tuple #[.slice none 0 0,.int .i64 r])∧w=w' :=by
 have hg:=k_getbad h pid hw d r hr h0
 have r4:r=4∨r=8:=by
  unfold getR at hr
  split at hr
  ·exact .inl hr.symm
  ·split at hr
   ·exact .inr hr.symm
   ·exact absurd hr.symm h0
 clear h hr h0
 rcases r4 with rfl | rfl
 all_goals
  go_enter Tryz.func83,Tryz.ntmps83
  go_wp2_with (go_at_call 80;refine hg.mono ?_;rintro e w1 ⟨rfl,rfl⟩)
  go_ret2
  exact ⟨rfl,rfl⟩
set_option maxRecDepth 100000 in
theorem k_writebad (h:FdB w fdb vb pb mb N S) (pid:Int) (hw:(Lit.int .i64 pid).wf=true) (d:Int) (v:Value) (r:Int) (hr:getR S pid d=r) (h0:r≠0):
  Calls Tryz.prog 45 #[.pointer (some ⟨fdb,0,none⟩),.int .i64 pid,.int .i64 d,v] w fun e w' => e= .returned (.tuple #[.int .i64 0,.int .i64 r])∧w=w' :=by
 have hg:=k_getbad h pid hw d r hr h0
 have r4:r=4∨r=8:=by
  unfold getR at hr
  split at hr
  ·exact .inl hr.symm
  ·split at hr
   ·exact .inr hr.symm
   ·exact absurd hr.symm h0
 clear h hr h0
 rcases r4 with rfl | rfl
 all_goals
  go_enter Tryz.func45,Tryz.ntmps45
  go_wp2_with (go_at_call 80;refine hg.mono ?_;rintro e w1 ⟨rfl,rfl⟩)
  go_ret2
  exact ⟨rfl,rfl⟩
set_option maxRecDepth 100000 in
theorem k_seekbad (h:FdB w fdb vb pb mb N S) (pid:Int) (hw:(Lit.int .i64 pid).wf=true) (d:Int) (n:Int) (r:Int) (hr:getR S pid d=r) (h0:r≠0):
  Calls Tryz.prog 46 #[.pointer (some ⟨fdb,0,none⟩),.int .i64 pid,.int .i64 d,.int .i64 n] w fun e w' => e= .returned (.int .i64 r)∧w=w' :=by
 have hg:=k_getbad h pid hw d r hr h0
 have r4:r=4∨r=8:=by
  unfold getR at hr
  split at hr
  ·exact .inl hr.symm
  ·split at hr
   ·exact .inr hr.symm
   ·exact absurd hr.symm h0
 clear h hr h0
 rcases r4 with rfl | rfl
 all_goals
  go_enter Tryz.func46,Tryz.ntmps46
  go_wp2_with (go_at_call 80;refine hg.mono ?_;rintro e w1 ⟨rfl,rfl⟩)
  go_ret
  exact ⟨rfl,rfl⟩
set_option maxRecDepth 100000 in
theorem k_readend (h:FdB w fdb vb pb mb N S) (pid:Int) (hw:(Lit.int .i64 pid).wf=true) (b:Nat) (hb:S.pr pid=some b) (d x:Nat) (hd:d < 8) (hx:S.sl b d=some x) (t:Th) (ht:S.th x=some t) (hwr:t.wr=true) (n:Int):
  Calls Tryz.prog 83 #[.pointer (some ⟨fdb,0,none⟩),.int .i64 pid,.int .i64 d,.int .i64 n] w fun e w' => e= .returned (.tuple #[.slice none 0 0,.int .i64 8])∧w=w' :=by
 have hg:=k_get h pid hw b hb d x hd hx
 have hB:=h.x x t ht
 have c1:w.cell? ⟨x,1,none⟩=some (.bool true):=by rw [←hwr];exact hB.rd 1
 clear h hB ht hb hx
 go_enter Tryz.func83,Tryz.ntmps83
 go_wp2_with (go_at_call 80;refine hg.mono ?_;rintro e w1 ⟨rfl,rfl⟩)
 go_ret2
 exact ⟨rfl,rfl⟩
set_option maxRecDepth 100000 in
theorem k_writeend (h:FdB w fdb vb pb mb N S) (pid:Int) (hw:(Lit.int .i64 pid).wf=true) (b:Nat) (hb:S.pr pid=some b) (d x:Nat) (hd:d < 8) (hx:S.sl b d=some x) (t:Th) (ht:S.th x=some t) (hpp:t.pp=true) (hwr:t.wr=false) (v:Value):
  Calls Tryz.prog 45 #[.pointer (some ⟨fdb,0,none⟩),.int .i64 pid,.int .i64 d,v] w fun e w' => e= .returned (.tuple #[.int .i64 0,.int .i64 8])∧w=w' :=by
 have hg:=k_get h pid hw b hb d x hd hx
 have hB:=h.x x t ht
 have c0:w.cell? ⟨x,0,none⟩=some (.bool true):=by rw [←hpp];exact hB.rd 0
 have c1:w.cell? ⟨x,1,none⟩=some (.bool false):=by rw [←hwr];exact hB.rd 1
 clear h hB ht hb hx
 go_enter Tryz.func45,Tryz.ntmps45
 go_wp2_with (go_at_call 80;refine hg.mono ?_;rintro e w1 ⟨rfl,rfl⟩)
 go_ret2
 exact ⟨rfl,rfl⟩
set_option maxRecDepth 100000 in
theorem k_seekpipe (h:FdB w fdb vb pb mb N S) (pid:Int) (hw:(Lit.int .i64 pid).wf=true) (b:Nat) (hb:S.pr pid=some b) (d x:Nat) (hd:d < 8) (hx:S.sl b d=some x) (t:Th) (ht:S.th x=some t) (hpp:t.pp=true) (n:Int):
  Calls Tryz.prog 46 #[.pointer (some ⟨fdb,0,none⟩),.int .i64 pid,.int .i64 d,.int .i64 n] w fun e w' => e= .returned (.int .i64 19)∧w=w' :=by
 have hg:=k_get h pid hw b hb d x hd hx
 have hB:=h.x x t ht
 have c0:w.cell? ⟨x,0,none⟩=some (.bool true):=by rw [←hpp];exact hB.rd 0
 clear h hB ht hb hx
 go_enter Tryz.func46,Tryz.ntmps46
 go_wp2_with (go_at_call 80;refine hg.mono ?_;rintro e w1 ⟨rfl,rfl⟩)
 go_ret
 exact ⟨rfl,rfl⟩
set_option maxRecDepth 100000 in
theorem k_seekneg (h:FdB w fdb vb pb mb N S) (pid:Int) (hw:(Lit.int .i64 pid).wf=true) (b:Nat) (hb:S.pr pid=some b) (d x:Nat) (hd:d < 8) (hx:S.sl b d=some x) (t:Th) (ht:S.th x=some t) (hpp:t.pp=false) (n:Int) (hn:n < 0):
  Calls Tryz.prog 46 #[.pointer (some ⟨fdb,0,none⟩),.int .i64 pid,.int .i64 d,.int .i64 n] w fun e w' => e= .returned (.int .i64 19)∧w=w' :=by
 have hg:=k_get h pid hw b hb d x hd hx
 have hB:=h.x x t ht
 have c0:w.cell? ⟨x,0,none⟩=some (.bool false):=by rw [←hpp];exact hB.rd 0
 have d1:decide (n < 0)=true:=decide_eq_true hn
 clear h hB ht hb hx
 go_enter Tryz.func46,Tryz.ntmps46
 go_wp2_with (go_at_call 80;refine hg.mono ?_;rintro e w1 ⟨rfl,rfl⟩)
 go_ret
 exact ⟨rfl,rfl⟩
set_option maxRecDepth 100000 in
theorem k_startneg (pid:Int) (h0:pid < 0):Calls Tryz.prog 39 #[.pointer (some ⟨fdb,0,none⟩),.int .i64 pid] w fun e w' => e= .returned (.int .i64 2)∧w=w' :=by
 have d1:decide (pid < 0)=true:=decide_eq_true h0
 go_enter Tryz.func39,Tryz.ntmps39
 go_wp2_with (fail)
 go_ret
 exact ⟨rfl,rfl⟩
set_option maxRecDepth 100000 in
theorem k_startbusy (h:FdB w fdb vb pb mb N S) (pid:Int) (hw:(Lit.int .i64 pid).wf=true) (h0:0≤pid) (b:Nat) (hb:S.pr pid=some b):Calls Tryz.prog 39 #[.pointer (some ⟨fdb,0,none⟩),.int .i64 pid] w fun e w' => e= .returned (.int .i64 5)∧w=w' :=by
 have hl:=h.look pid hw
 rw [hb] at hl
 simp only [ptb,Option.map] at hl
 have c2:=h.f.rd 2
 have d1:decide (pid < 0)=false:=decide_eq_false (by omega)
 clear h hb
 go_enter Tryz.func39,Tryz.ntmps39
 go_wp2_with (fail)
 go_ret
 exact ⟨rfl,rfl⟩
set_option maxRecDepth 100000 in
theorem k_copynone (h:FdB w fdb vb pb mb N S) (pid:Int) (hw:(Lit.int .i64 pid).wf=true) (hp:S.pr pid=none) (q:Int):Calls Tryz.prog 56 #[.pointer (some ⟨fdb,0,none⟩),.int .i64 pid,.int .i64 q] w fun e w' => e= .returned (.int .i64 4)∧w=w' :=by
 have hq:=k_proc h pid hw none hp 4 (by unfold procR;rw [hp])
 clear h hp
 simp only [ptb,Option.map] at hq
 go_enter Tryz.func56,Tryz.ntmps56
 go_wp2_with (go_at_call 67;refine hq.mono ?_;rintro e w1 ⟨rfl,rfl⟩)
 go_ret
 exact ⟨rfl,rfl⟩
set_option maxRecDepth 100000 in
theorem k_leavenone (h:FdB w fdb vb pb mb N S) (pid:Int) (hw:(Lit.int .i64 pid).wf=true) (hp:S.pr pid=none):Calls Tryz.prog 58 #[.pointer (some ⟨fdb,0,none⟩),.int .i64 pid] w fun e w' => e= .returned (.int .i64 4)∧w=w' :=by
 have hq:=k_proc h pid hw none hp 4 (by unfold procR;rw [hp])
 clear h hp
 simp only [ptb,Option.map] at hq
 go_enter Tryz.func58,Tryz.ntmps58
 go_wp2_with (go_at_call 67;refine hq.mono ?_;rintro e w1 ⟨rfl,rfl⟩)
 go_ret
 exact ⟨rfl,rfl⟩
set_option maxRecDepth 100000 in
theorem k_usednone (h:FdB w fdb vb pb mb N S) (pid:Int) (hw:(Lit.int .i64 pid).wf=true) (hp:S.pr pid=none):Calls Tryz.prog 26 #[.pointer (some ⟨fdb,0,none⟩),.int .i64 pid] w fun e w' => e= .returned (.slice none 0 0)∧w=w' :=by
 have hq:=k_proc h pid hw none hp 4 (by unfold procR;rw [hp])
 clear h hp
 simp only [ptb,Option.map] at hq
 go_enter Tryz.func26,Tryz.ntmps26
 go_wp2_with (go_at_call 67;refine hq.mono ?_;rintro e w1 ⟨rfl,rfl⟩)
 go_ret
 exact ⟨rfl,rfl⟩
set_option maxRecDepth 100000 in
theorem k_freenone (h:FdB w fdb vb pb mb N S) (pid:Int) (hw:(Lit.int .i64 pid).wf=true) (hp:S.pr pid=none) (n:Int):Calls Tryz.prog 78 #[.pointer (some ⟨fdb,0,none⟩),.int .i64 pid,.int .i64 n] w fun e w' => e= .returned (.tuple #[.slice none 0 0,.int .i64 4])∧w=w' :=by
 have hq:=k_proc h pid hw none hp 4 (by unfold procR;rw [hp])
 clear h hp
 simp only [ptb,Option.map] at hq
 go_enter Tryz.func78,Tryz.ntmps78
 go_wp2_with (go_at_call 67;refine hq.mono ?_;rintro e w1 ⟨rfl,rfl⟩)
 go_ret2
 exact ⟨rfl,rfl⟩
set_option maxRecDepth 100000 in
theorem k_opennone (h:FdB w fdb vb pb mb N S) (pid:Int) (hw:(Lit.int .i64 pid).wf=true) (hp:S.pr pid=none) (s:ByteArray) (n:Int):Calls Tryz.prog 42 #[.pointer (some ⟨fdb,0,none⟩),.int .i64 pid,.string s,.int .i64 n] w fun e w' => e= .returned (.tuple #[.int .i64 0,.int .i64 4])∧w=w' :=by
 have hq:=k_freenone h pid hw hp 1
 clear h hp
 go_enter Tryz.func42,Tryz.ntmps42
 go_wp2_with (go_at_call 78;refine hq.mono ?_;rintro e w1 ⟨rfl,rfl⟩)
 go_ret2
 exact ⟨rfl,rfl⟩
set_option maxRecDepth 100000 in
theorem k_pipenone (h:FdB w fdb vb pb mb N S) (pid:Int) (hw:(Lit.int .i64 pid).wf=true) (hp:S.pr pid=none):Calls Tryz.prog 52 #[.pointer (some ⟨fdb,0,none⟩),.int .i64 pid] w fun e w' => e= .returned (.tuple #[.int .i64 0,.int .i64 4])∧w=w' :=by
 have hq:=k_freenone h pid hw hp 2
 clear h hp
 go_enter Tryz.func52,Tryz.ntmps52
 go_wp2_with (go_at_call 78;refine hq.mono ?_;rintro e w1 ⟨rfl,rfl⟩)
 go_ret2
 exact ⟨rfl,rfl⟩
set_option maxRecDepth 100000 in
theorem k_pipefull (h:FdB w fdb vb pb mb N S) (pid:Int) (hw:(Lit.int .i64 pid).wf=true) (b:Nat) (hb:S.pr pid=some b) (hl:(freeL (S.sl b) 8).length < 2):
  Calls Tryz.prog 52 #[.pointer (some ⟨fdb,0,none⟩),.int .i64 pid] w fun e w' => e= .returned (.tuple #[.int .i64 0,.int .i64 14])∧Below w.heap.size w w' :=by
 have hfree:=k_free h pid hw b hb 2 (.int .i64 0) 0 (fun e w' => e= .returned (.tuple #[.slice none 0 0,.int .i64 14])∧Below w.heap.size w w') (fun hlt=> by omega) (fun _ w' hB=> ⟨rfl,hB⟩)
 clear h hb hw hl
 go_enter Tryz.func52,Tryz.ntmps52
 go_wp2_with (go_at_call 78;refine hfree.mono ?_;rintro e w1 ⟨rfl,hB1⟩;have H1:=Lib.hid hB1;clear hfree hB1)
 go_ret2
 exact ⟨rfl,H1.out⟩
set_option maxRecDepth 100000 in
theorem k_dupfull (h:FdB w fdb vb pb mb N S) (pid:Int) (hw:(Lit.int .i64 pid).wf=true) (b:Nat) (hb:S.pr pid=some b) (d x:Nat) (hd:d < 8) (hx:S.sl b d=some x) (hl:∀k,k < 8→S.sl b k≠none):
  Calls Tryz.prog 47 #[.pointer (some ⟨fdb,0,none⟩),.int .i64 pid,.int .i64 d] w fun e w' => e= .returned (.tuple #[.int .i64 0,.int .i64 14])∧Below w.heap.size w w' :=by
 have hg:=k_get h pid hw b hb d x hd hx
 have hfr:=freeL_none (S.sl b) hl 8 (Nat.le_refl _)
 have hfree:=k_free h pid hw b hb 1 (.int .i64 0) 0 (fun e w' => e= .returned (.tuple #[.slice none 0 0,.int .i64 14])∧Below w.heap.size w w') (fun hlt=> by rw [hfr] at hlt;simp at hlt) (fun _ w' hB=> ⟨rfl,hB⟩)
 clear h hb hw hl hx hfr
 go_enter Tryz.func47,Tryz.ntmps47
 go_wp2_with (first
  | (go_at_call 80;refine hg.mono ?_;rintro e w1 ⟨rfl,rfl⟩)
  | (go_at_call 78;refine hfree.mono ?_;rintro e w1 ⟨rfl,hB1⟩;have H1:=Lib.hid hB1;clear hfree hB1))
 go_ret2
 exact ⟨rfl,H1.out⟩
end
end Go.Proofs.YtjpjafajploiaaaGreatDoor
