/-
  The store: bytes written piece by piece.
-/
import Derived.Test.YtjpjafajploiaaaGreatDoorUnixAlone11
import Derived.Test.YtjpjafajploiaaaGreatDoorUnixAlone02
set_option linter.unusedSimpArgs false
set_option linter.unusedVariables false
namespace Go.Proofs.YtjpjafajploiaaaGreatDoor
open Go.RowKit Own RegJ
open Go.Lib
theorem spl_nil {α:Type} (l:List α) (o:Nat) (h:o≤l.length):spl l o []=l:=by
 unfold spl;simp
theorem spl_spl {l x y:List Int} {o:Nat} (h:o+x.length+y.length≤l.length):spl (spl l o x) (o+x.length) y=spl l o (x++y):=by
 apply List.ext_getElem?
 intro k
 have h1:(spl l o x).length=l.length:=spl_len (by omega)
 have h2:(spl (spl l o x) (o+x.length) y).length=l.length:=by rw [spl_len (by omega),h1]
 have h3:(spl l o (x++y)).length=l.length:=spl_len (by simp;omega)
 by_cases hk:k < l.length
 ·rw [List.getElem?_eq_getElem (by omega),List.getElem?_eq_getElem (by omega)]
  have e1:=spl_getD (l:=spl l o x) (o:=o+x.length) (b:=y) (by omega) k
  have e2:=spl_getD (l:=l) (o:=o) (b:=x) (by omega) k
  have e3:=spl_getD (l:=l) (o:=o) (b:=x++y) (by simp;omega) k
  have q1:(spl (spl l o x) (o+x.length) y)[k]=(spl (spl l o x) (o+x.length) y).getD k 0:=by rw [List.getD_eq_getElem?_getD,List.getElem?_eq_getElem (by omega)];rfl
  have q2:(spl l o (x++y))[k]=(spl l o (x++y)).getD k 0:=by rw [List.getD_eq_getElem?_getD,List.getElem?_eq_getElem (by omega)];rfl
  rw [q1,q2,e1,e3,e2]
  simp only [List.length_append]
  congr 1
  by_cases c1:o+x.length≤k∧k < o+x.length+y.length
  ·rw [if_pos c1,if_pos (by omega)]
   simp only [List.getD_eq_getElem?_getD]
   rw [List.getElem?_append_right (by omega),show k - o - x.length=k - (o+x.length) by omega]
  ·rw [if_neg c1]
   by_cases c2:o≤k∧k < o+x.length
   ·rw [if_pos c2,if_pos (by omega)]
    simp only [List.getD_eq_getElem?_getD]
    rw [List.getElem?_append_left (by omega)]
   ·rw [if_neg c2,if_neg (by omega)]
 ·rw [List.getElem?_eq_none (by omega),List.getElem?_eq_none (by omega)]
theorem nodup_ne {l:List Int} (h:l.Nodup) {p q:Nat} {x y:Int} (hp:l[p]? =some x) (hq:l[q]? =some y) (hne:p≠q):x≠y:=fun e=> by
 subst e
 have:=(List.getElem?_inj (List.getElem?_eq_some_iff.1 hp).1 h).1 (hp.trans hq.symm)
 exact hne this
section
variable {f:Fs} {l bs:List Int}
theorem FileI.put (h:FileI f l bs) (hok:f.Ok) {q at' j:Nat} {zs:List Int} (hj:l[q]? =some (j:Int)) (hk:at' +zs.length≤64) (hb:64*q+at' +zs.length≤bs.length):FileI (f.put j at' zs) l (spl bs (64*q+at') zs):=by
 have hql:=(List.getElem?_eq_some_iff.1 hj).1
 obtain ⟨i,e,hi⟩:=h.has j (List.mem_of_getElem? hj)
 obtain rfl:j=i:=by omega
 have hlen:(spl bs (64*q+at') zs).length=bs.length:=spl_len hb
 refine ⟨by rw [hlen];exact h.len,by rw [hlen];exact h.most,h.nod,h.has,fun p hp=> ?_⟩
 rw [put_at hok hi.1 hk _ _ (Nat.mod_lt _ (by omega)),spl_getD hb,h.byt p hp]
 have hpq:p / 64 < l.length:=by omega
 have hx:l.getD (p / 64) 0=l[p / 64]:=by rw [List.getD_eq_getElem?_getD,List.getElem?_eq_getElem hpq];rfl
 obtain ⟨i',e',hi'⟩:=h.has _ (List.getElem_mem hpq)
 by_cases c:p / 64=q
 ·have h1:(l.getD (p / 64) 0).toNat=j:=by rw [c,List.getD_eq_getElem?_getD,hj];simp
  rw [h1]
  by_cases c2:64*q+at' ≤p∧p < 64*q+at' +zs.length
  ·rw [if_pos (by omega),if_pos c2]
   rw [show p % 64 - at' =p - (64*q+at') by omega]
  ·rw [if_neg (by omega),if_neg c2]
 ·have h1:(l.getD (p / 64) 0).toNat≠j:=by
   rw [hx,e']
   have:=nodup_ne h.nod (show l[p / 64]? =some (i' :Int) by rw [List.getElem?_eq_getElem hpq,e']) hj c
   simp;omega
  rw [if_neg (fun hc=> h1 hc.1),if_neg (by omega)]
theorem FileI.put_other (h:FileI f l bs) (hok:f.Ok) {at' j:Nat} {zs:List Int} (hjn:j < f.n) (hj:(j:Int)∉l) (hk:at' +zs.length≤64):FileI (f.put j at' zs) l bs:=by
 refine ⟨h.len,h.most,h.nod,h.has,fun p hp=> ?_⟩
 rw [put_at hok hjn hk _ _ (Nat.mod_lt _ (by omega)),h.byt p hp]
 have hpq:p / 64 < l.length:=by omega
 have hx:l.getD (p / 64) 0=l[p / 64]:=by rw [List.getD_eq_getElem?_getD,List.getElem?_eq_getElem hpq];rfl
 obtain ⟨i',e',hi'⟩:=h.has _ (List.getElem_mem hpq)
 rw [if_neg]
 rintro ⟨h1,-⟩
 rw [hx,e'] at h1
 simp at h1
 exact hj (by rw [←h1,←e'];exact List.getElem_mem hpq)
end
section
variable {w w' :World} {so:SRl→Option Nat} {fs:Sfs} {F N:Nat} {f:Fs} {ls:Nat→List Int}
theorem StI.put [Inhabited CapT] (h:StI w so fs F N f ls) {i:Nat} {bs:List Int} (hi:fs i=some bs) {q at' j:Nat} {zs:List Int} (hj:(ls i)[q]? =some (j:Int)) (hk:at' +zs.length≤64) (hb:64*q+at' +zs.length≤bs.length) {fb bb kb:Nat} (t3:so .frm=some fb) (t4:so .byt=some bb) (t5:so .tkn=some kb)
  (hf:FrB w' fb bb kb (so .fre) (f.put j at' zs)) (hu:Upd (fun k=> k=bb) w w'):StI w' so (fsPut fs i (some (spl bs (64*q+at') zs))) F N (f.put j at' zs) ls:=by
 obtain ⟨sb,mb,fb',bb',kb',n,s,t1,t2,t3',t4',t5',t6,t7,t8,t9⟩:=h.top
 obtain rfl:fb=fb' :=by rw [t3] at t3';exact Option.some.inj t3'
 obtain rfl:bb=bb' :=by rw [t4] at t4';exact Option.some.inj t4'
 obtain rfl:kb=kb' :=by rw [t5] at t5';exact Option.some.inj t5'
 have hne:∀r k,so r=some k→r≠ .byt→¬k=bb:=fun r k hk hr e=> hr (h.inj r .byt k hk (by rw [e];exact t4))
 have h16:=h.i16 hi
 obtain ⟨_,_,_,_,_,k4⟩:=h.file i bs hi
 obtain ⟨j',e,hjh⟩:=k4.has j (List.mem_of_getElem? hj)
 obtain rfl:j=j' :=by omega
 have hlen:(spl bs (64*q+at') zs).length=bs.length:=spl_len hb
 refine ⟨h.inj,fun r k hk=> Nat.lt_of_lt_of_le (h.lt r k hk) hu.size,⟨sb,mb,fb,bb,kb,n,s,t1,t2,t3,t4,t5,Blk.upd hu t6 (hne _ _ t1 (by simp)),?_,t8,hf⟩,fun x cs hx=> ?_,fun x hx=> ?_,fun x y cs cs' z hx hy=> ?_,?_,fun x hx=> ⟨(h.oth x hx).1,fun y cs hy=> ?_⟩⟩
 ·have:filM (fsPut fs i (some (spl bs (64*q+at') zs))) so=filM fs so:=by
   funext y
   unfold filM fsPut
   by_cases hc:0≤y∧y < 16
   ·rw [if_pos hc,if_pos hc]
    by_cases e:y.toNat=i
    ·rw [if_pos e,e,hi]
    ·rw [if_neg e]
   ·rw [if_neg hc,if_neg hc]
  rw [this]
  exact t7.upd hu (hne _ _ t2 (by simp))
 ·by_cases e:x=i
  ·subst e
   rw [fsPut_eq] at hx
   cases hx
   obtain ⟨k,v,k1,k2,k3,_⟩:=h.file x bs hi
   exact ⟨k,v,k1,by rw [hlen];exact Blk.upd hu k2 (hne _ _ k1 (by simp)),k3.upd hu (fun g hg=> hne _ _ hg (by simp)),k4.put t9.ok hj hk hb⟩
  ·rw [fsPut_ne _ _ e] at hx
   obtain ⟨k,v,k1,k2,k3,k5⟩:=h.file x cs hx
   exact ⟨k,v,k1,Blk.upd hu k2 (hne _ _ k1 (by simp)),k3.upd hu (fun g hg=> hne _ _ hg (by simp)),k5.put_other t9.ok hjh.1 (fun hm=> e (h.apart x i cs bs _ hx hi hm (List.mem_of_getElem? hj))) hk⟩
 ·rw [fsPut_ne _ _ (by omega)];exact h.far x hx
 ·have hx' :∃c,fs x=some c:=by
   by_cases e:x=i
   ·exact ⟨bs,by rw [e];exact hi⟩
   ·rw [fsPut_ne _ _ e] at hx;exact ⟨_,hx⟩
  have hy' :∃c,fs y=some c:=by
   by_cases e:y=i
   ·exact ⟨bs,by rw [e];exact hi⟩
   ·rw [fsPut_ne _ _ e] at hy;exact ⟨_,hy⟩
  obtain ⟨c1,hx'⟩:=hx'
  obtain ⟨c2,hy'⟩:=hy'
  exact h.apart x y c1 c2 z hx' hy'
 ·have h1:=usedN_put fs i (some (spl bs (64*q+at') zs)) 16 h16
  have h2:blks (some (spl bs (64*q+at') zs))=blks (fs i):=by rw [hi];unfold blks;simp only [hlen]
  have h3:=h.sum
  have h4:(f.put j at' zs).free=f.free:=rfl
  omega
 ·by_cases e:y=i
  ·rw [e];exact (h.oth x hx).2 i bs hi
  ·rw [fsPut_ne _ _ e] at hy;exact (h.oth x hx).2 y cs hy
end
end Go.Proofs.YtjpjafajploiaaaGreatDoor
/-
 The store:the pieces of a Write.
-/
namespace Go.Proofs.YtjpjafajploiaaaGreatDoor
open Go.RowKit Own RegJ
open Go.Lib
theorem und8:Tryz.prog.underlying 22=some (.slice (Tryz.prog.elem 22)):=by kernel_rfl
theorem siz8 (w:World):(sizeOf (Tryz.prog.elem 22)).run Tryz.prog w= .ok 1 w:=by kernel_rfl
theorem sl8 (w:World) (g o n c d k:Nat) (hk:1≤k) (hc:d+k≤c):(Instr.slice 22 (.slice (some ⟨g,o,none⟩) n c) (some (.int .i64 d)) (some (.int .i64 (d+k))) none).run Tryz.prog w= .ok (.slice (some ⟨g,o+d,none⟩) k (c - d)) w:=by
 rw [run_slice_lh w 22 (some ⟨g,o,none⟩) n c und8 .i64 .i64 d (d+k) (by omega) (by omega) (by omega),siz8]
 simp only [Result.andThen_ok,sliced,Int.toNat_natCast]
 rw [if_neg (by omega),Nat.mul_one]
 simp only [Option.map,Addr.add_mid]
 congr 2
 omega
theorem sl8a (w:World) (g o n c d k:Nat) (hk:1≤k) (hc:d+k≤c):(Instr.sliceAt 22 (.slice (some ⟨g,o,none⟩) n c) (some (.int .i64 d)) (some (.int .i64 (d+k))) none).run Tryz.prog w= .ok (.slice (some ⟨g,o+d,none⟩) k (c - d)) w:=by
 rw [run_sliceAt_slice w 22 _ _ _ _ und8]
 exact sl8 w g o n c d k hk hc
structure WrO [Inhabited CapT] (w0:World) (so:SRl→Option Nat) (fs:Sfs) (F N:Nat) (ls:Nat→List Int) (i:Nat) (xs b:List Int) (off cs bc g o c sb:Nat) (d:Nat) (w:World):Prop where
 st:∃f,StI w so (fsPut fs i (some (spl xs off (b.take d)))) F N f ls
 sto:so .sto=some sb
 cel:Blk w cs #[.pointer (some ⟨sb,0,none⟩)] 141
 bcl:Blk w bc #[.slice (some ⟨g,o,none⟩) b.length c] 22
 rd:RdV w (some ⟨g,o,none⟩) (ucells b)
 upd:Upd (fun k=> so .byt=some k) w0 w
 hc:b.length≤c∧off+b.length≤xs.length
 far:∀k,so .byt=some k→k≠cs∧k≠bc∧k≠g
theorem rdv_drop {w:World} {g o:Nat} {b:List Int} (h:RdV w (some ⟨g,o,none⟩) (ucells b)) (d k:Nat):RdV w (some ⟨g,o+d,none⟩) (ucells ((b.drop d).take k)):=by
 intro j u hj
 refine ⟨_,rfl,?_⟩
 have hj1:(ucells b)[d+j]? =some u:=by
  unfold ucells at hj ⊢
  rw [List.getElem?_map] at hj ⊢
  have hjl:j < ((b.drop d).take k).length:=by
   rcases Nat.lt_or_ge j ((b.drop d).take k).length with e | e
   ·exact e
   ·rw [List.getElem?_eq_none e] at hj;cases hj
  rw [List.getElem?_take_of_lt (by simp at hjl;omega),List.getElem?_drop] at hj
  exact hj
 obtain ⟨A,e,h2⟩:=h (d+j) u hj1
 cases e
 rw [Addr.add_mid] at h2 ⊢
 rw [Nat.add_assoc]
 exact h2
section
variable {w0 w w' :World} {so:SRl→Option Nat} {fs:Sfs} {F N:Nat} {ls:Nat→List Int} {i:Nat} {xs b:List Int} {off cs bc g o c sb:Nat}
set_option maxRecDepth 100000 in
set_option maxHeartbeats 1000000 in
theorem wr_one [Inhabited CapT] {d:Nat} (h:WrO w0 so fs F N ls i xs b off cs bc g o c sb d w) (q at' k j:Nat) (hk1:1≤k) (hdk:d+k≤b.length) (he:off+d=64*q+at') (ha:at' < 64) (hak:at' +k≤64) (hj:(ls i)[q]? =some (j:Int)):
  Calls Tryz.prog 192 #[.int .i64 j,.int .i64 at',.int .i64 k,.int .i64 d,.pointer (some ⟨cs,0,none⟩),.pointer (some ⟨bc,0,none⟩)] w fun e w' => e= .returned (.tuple #[])∧WrO w0 so fs F N ls i xs b off cs bc g o c sb (d+k) w' :=by
 obtain ⟨f,hS⟩:=h.st
 obtain ⟨sb',mb,fb,bb,kb,n,s,t1,t2,t3,t4,t5,t6,t7,t8,t9⟩:=hS.top
 obtain rfl:sb=sb' :=by have:=h.sto;rw [this] at t1;exact Option.some.inj t1
 obtain ⟨kf,vf,q1,q2,q3,q4⟩:=hS.file i _ (fsPut_eq _ _ _)
 obtain ⟨j',e,hjh⟩:=q4.has j (List.mem_of_getElem? hj)
 obtain rfl:j=j' :=by omega
 have hzl:((b.drop d).take k).length=k:=by simp;omega
 have hsz:(spl xs off (b.take d)).length=xs.length:=spl_len (by simp;have:=h.hc;omega)
 have hne:=hS.inj
 have hfw:∀w1,Upd (fun _=> False) w w1→Calls Tryz.prog 193 #[.pointer (some ⟨fb,0,none⟩),.int .i64 j,.int .i64 at',.slice (some ⟨g,o+d,none⟩) k (c - d)] w1 fun e w' => e= .returned (.int .i64 0)∧WrO w0 so fs F N ls i xs b off cs bc g o c sb (d+k) w' ∧Upd (fun k=> k=bb) w1 w' :=fun w1 hu1=> by
  have hS1:=hS.upd hu1 (fun _ _ _ h=> h)
  have t9' :=t9.upd hu1 (fun h=> h) (fun h=> h) (fun h=> h) (fun _ _ h=> h)
  refine (fwrite_is t9' (fun e=> by have:=hne _ _ _ t3 (e▸t4);cases this) (fun e=> by have:=hne _ _ _ t4 (e▸t5);cases this) (fun g' hg e=> by have:=hne _ _ _ hg (e▸t4);cases this) j hjh at' k (c - d) ha ((b.drop d).take k) hzl hak ⟨g,o+d,none⟩ (rdv_drop (h.rd.upd hu1 (fun _ _ h=> h)) d k)).mono ?_
  rintro e w2 ⟨rfl,hfr,hu⟩
  have hu2:Upd (fun k=> so .byt=some k) w1 w2:=hu.mono (fun k _ e=> by rw [e];exact t4)
  have hbb:=h.far bb t4
  have hp:=hS1.put (fsPut_eq _ _ _) hj (by rw [hzl];exact hak) (by rw [hzl,hsz];have:=h.hc;omega) t3 t4 t5 hfr hu
  have e1:fsPut (fsPut fs i (some (spl xs off (b.take d)))) i (some (spl (spl xs off (b.take d)) (64*q+at') ((b.drop d).take k)))=fsPut fs i (some (spl xs off (b.take (d+k)))):=by
   have hl1:(b.take d).length=d:=by simp;omega
   have e3:spl (spl xs off (b.take d)) (64*q+at') ((b.drop d).take k)=spl xs off (b.take (d+k)):=by
    rw [←he]
    have:=spl_spl (l:=xs) (o:=off) (x:=b.take d) (y:=(b.drop d).take k) (by rw [hl1,hzl];have:=h.hc;omega)
    rw [hl1] at this
    rw [this,List.take_add]
   rw [e3]
   funext y;unfold fsPut;split <;> rfl
  rw [e1] at hp
  refine ⟨rfl,⟨⟨_,hp⟩,h.sto,Blk.upd hu (Blk.upd hu1 h.cel (fun h=> h)) (fun e=> hbb.1 e.symm),Blk.upd hu (Blk.upd hu1 h.bcl (fun h=> h)) (fun e=> hbb.2.1 e.symm),(h.rd.upd hu1 (fun _ _ h=> h)).upd hu (fun A hA e=> by cases hA;exact hbb.2.2 e.symm),(h.upd.trans (hu1.mono (fun _ _ h=> h.elim)) (fun _ _ e=> e)).trans hu2 (fun _ _ e=> e),h.hc,h.far⟩,hu⟩
 have hsl:=fun w=> sl8 w g o b.length c d k hk1 (by have:=h.hc;omega)
 have hsla:=fun w=> sl8a w g o b.length c d k hk1 (by have:=h.hc;omega)
 have hb1:(0:Int)≤d:=by omega
 have hb2:(d:Int)+k≤1000000:=by
  have:=h.hc
  have h5:=q4.most
  rw [hsz] at h5
  omega
 have hbb:=h.far bb t4
 have hbs:bb≠sb:=fun e=> by have:=hne _ _ _ t4 (e▸t1);cases this
 have HW:=Lib.hid hfw
 have HF:=Lib.hid (And.intro h.cel (And.intro h.bcl t6))
 have HN:=Lib.hid (And.intro hbb hbs)
 obtain ⟨bl,hbl⟩:∃bl,b.length=bl:=⟨_,rfl⟩
 rw [hbl] at HF hsl hsla
 clear hfw hS t1 t2 t3 t4 t5 t6 t7 t8 t9 q1 q2 q3 q4 hjh hzl hsz hne he hj h hdk ha hak e hbb hbs hbl
 go_enter Tryz.func192,Tryz.ntmps192
 go_wp2
 refine region_J (J1 12 (fun u w' => (Blk w' cs #[.pointer (some ⟨sb,0,none⟩)] 141∧Blk w' bc #[.slice (some ⟨g,o,none⟩) bl c] 22∧Blk w' sb #[.pointer (some ⟨fb,0,none⟩),.map (some mb)] 226)∧Sel u (WrO w0 so fs F N ls i xs b off cs bc g o c sb (d+k) w') (Upd (fun _=> False) w w'))) (by kernel_rfl) (by kernel_rfl) ?_ ?_
 ·exact ⟨⟨HF.out.1.drew,HF.out.2.1.drew,HF.out.2.2.drew⟩,(Upd.refl _ _).drew⟩
 ·iterate 12
   apply wpJ_op rfl (by rfl)
   ·intro f w' hf hJ Q1 hQ
    have hK:=hJ
    obtain ⟨⟨h1,h2,h3⟩,-⟩:=hJ
    have c1:=h1.rd
    have c2:=h2.rd
    have c3:=h3.rd
    clear h1 h2 h3
    simp only [nrm] at hQ
    go_wp2
    exact hQ _ _ rfl (hK.other (by decide))
   simp only [nrm]
  apply wpJ_op rfl (by rfl)
  ·intro f w' hf hJ Q1 hQ
   obtain ⟨⟨h1,h2,h3⟩,h4⟩:=hJ.here hf.1
   have hcall:=HW.out w' h4
   have HB:=Lib.hid (And.intro h1 (And.intro h2 h3))
   clear h1 h2 h3 h4 hJ
   simp only [nrm] at hQ
   go_wp2_with (go_at_call 193;(with_reducible refine hcall.mono ?_);rintro e w2 ⟨rfl,hwr,hu⟩)
   exact hQ _ _ rfl (J1.fin ⟨⟨Blk.upd hu HB.out.1 (fun e=> HN.out.1.1 e.symm),Blk.upd hu HB.out.2.1 (fun e=> HN.out.1.2.1 e.symm),Blk.upd hu HB.out.2.2 (fun e=> HN.out.2 e.symm)⟩,hwr⟩)
  simp only [nrm]
  refine wpJ_nil ?_
  intro w3 hJ3
  have HZ:=Lib.hid (hJ3.over rfl).2
  clear hJ3
  go_end0
  exact ⟨rfl,HZ.out⟩
set_option maxRecDepth 100000 in
set_option maxHeartbeats 1000000 in
theorem pieces_write [Inhabited CapT] (h:WrO w0 so fs F N ls i xs b off cs bc g o c sb 0 w) (kf:Nat) (hkf:so (.file i)=some kf):
  Calls Tryz.prog 191 #[.pointer (some ⟨kf,0,none⟩),.int .i64 off,.int .i64 b.length,.func (.func 192) #[] #[.pointer (some ⟨cs,0,none⟩),.pointer (some ⟨bc,0,none⟩)]] w fun e w' => e= .returned (.tuple #[])∧WrO w0 so fs F N ls i xs b off cs bc g o c sb b.length w' :=by
 have h512:xs.length≤512:=by
  obtain ⟨f,hS⟩:=h.st
  obtain ⟨_,_,_,_,_,k4⟩:=hS.file i _ (fsPut_eq _ _ _)
  have:=k4.most
  rw [spl_len (by simp;have:=h.hc;omega)] at this
  exact this
 obtain ⟨n,hnn⟩:∃n,b.length=n:=⟨_,rfl⟩
 have hc:=h.hc
 have hn5:n≤512:=by omega
 have ho5:off≤512:=by omega
 have H:=Lib.hid (And.intro h (And.intro hkf (And.intro h512 (And.intro hc hnn))))
 rw [hnn]
 clear h hkf h512 hc hnn
 go_enter Tryz.func191,Tryz.ntmps191
 go_wp2_with (fail)
 go_loopw [8] (fun v8 wr=> ∃d:Nat,d≤n∧v8= .int .i64 d∧WrO w0 so fs F N ls i xs b off cs bc g o c sb d wr) (fun v8 _=> n - (intOf v8).toNat)
 case atStart=> exact ⟨0,Nat.zero_le _,rfl,H.out.1⟩
 case round=>
  obtain ⟨d,hd,rfl,hR⟩:=hrel
  by_cases hlt:d < n
  ·have hx:∃(q at' k j:Nat),off+d=64*q+at' ∧at' < 64∧k=Nat.min (n - d) (64 - at')∧(ls i)[q]? =some (j:Int)∧∃v,Blk wr kf #[.int .i64 xs.length,v] 298∧RowV wr 3 v (icells (ls i)) (so (.fls i))∧(ls i).length≤8:=by
    obtain ⟨h,hkf,h512,hc,hnn⟩:=H.out
    obtain ⟨f,hS⟩:=hR.st
    obtain ⟨k0,v,k1,k2,k3,k4⟩:=hS.file i _ (fsPut_eq _ _ _)
    obtain rfl:kf=k0:=by rw [hkf] at k1;exact Option.some.inj k1
    have hl:=spl_len (l:=xs) (o:=off) (b:=b.take d) (by simp;omega)
    have k4l:=k4.len
    have hq:(off+d) / 64 < (ls i).length:=by rw [k4l,hl];omega
    obtain ⟨j,e,hj⟩:=k4.has _ (List.getElem_mem hq)
    rw [hl] at k2 k4l
    exact ⟨(off+d) / 64,(off+d) % 64,_,j,by omega,by omega,rfl,by rw [List.getElem?_eq_getElem hq,e],v,k2,k3,by omega⟩
   obtain ⟨q,at',k,j,x1,x2,x3,x4,v,k2,k3,hL8⟩:=hx
   have hmn:Nat.min (n - d) (64 - at')=min (n - d) (64 - at'):=rfl
   have e1:((off:Int)+d) % 64=(at' :Nat):=by omega
   have e2:((off:Int)+d) / 64=(q:Nat):=by omega
   have hk1:1≤k:=by omega
   have hk2:at' +k≤64∧d+k≤n:=by omega
   have hone:=wr_one hR q at' k j hk1 (by rw [H.out.2.2.2.2];exact hk2.2) x1 x2 hk2.1 x4
   have d1:decide ((d:Int) < (n:Int))=true:=by simp;omega
   have d1n:decide (d < n)=true:=by simpa using hlt
   obtain ⟨a,c',rfl,-,-⟩:=k3.len_int
   have c1:=k2.rd
   obtain ⟨A,rfl,hAc⟩:=k3.rd q (.int .i64 j) (by simp [icells,x4])
   have hql:=(List.getElem?_eq_some_iff.1 x4).1
   obtain ⟨L,hL⟩:∃L,(ls i).length=L:=⟨_,rfl⟩
   rw [hL] at c1 hql hL8
   have i1:(q:Int) < L:=by omega
   have i2:(0:Int)≤q:=by omega
   have HX:=Lib.hid (And.intro hk1 hk2)
   have hor:(((n:Int) - d=(k:Nat))∧(k:Int)≤64 - at')∨((64 - (at' :Int)=(k:Nat))∧(k:Int) < n - d):=by omega
   clear hR k2 k3 x1 x3 x4 hL hmn
   rcases hor with ⟨e3,e4⟩ | ⟨e3,e4⟩
   all_goals
    go_wp2_with (go_at_call 192;(with_reducible refine hone.mono ?_);rintro e w3 ⟨rfl,hq⟩;have H3:=Lib.hid hq;clear hq hone)
    go_roundw
    case rel=> exact ⟨d+k,HX.out.2.2,by go_num,H3.out⟩
    case measure=> have:=HX.out;simp [intOf] <;> omega
  ·have hdn:d=n:=by omega
   have HD:=Lib.hid (And.intro hR hdn)
   have d1:decide ((d:Int) < (n:Int))=false:=by simp;omega
   clear hR hdn
   go_wp2_with (fail)
   go_end0
   have:=HD.out.1
   rw [HD.out.2] at this
   exact ⟨rfl,this⟩
structure TookL (f:Fs) (l:List Int) (f' :Fs):Prop where
 n:f'.n=f.n
 nod:l.Nodup
 new:∀x∈l,∃i:Nat,x=i∧¬f.has i∧f'.has i∧∀p,p < 64→f'.at i p=0
 oth:∀j:Nat,(j:Int)∉l→(f'.has j↔f.has j)
 free:f'.free+l.length=f.free
 same:∀(j p:Nat),(j:Int)∉l→p < 64→f'.at j p=f.at j p
theorem TookL.nil (f:Fs):TookL f [] f:=⟨rfl,List.nodup_nil,(fun x hx=> by cases hx),fun _ _=> Iff.rfl,rfl,fun _ _ _ _=> rfl⟩
theorem TookL.snoc {f f1 f2:Fs} {l:List Int} {i:Nat} (h:TookL f l f1) (g:Took f1 i f2):TookL f (l++ [(i:Int)]) f2:=by
 have hni:(i:Int)∉l:=fun hm=> by
  obtain ⟨j,e,_,hj,_⟩:=h.new _ hm
  obtain rfl:i=j:=by omega
  exact g.was hj
 refine ⟨g.n.trans h.n,?_,fun x hx=> ?_,fun j hj=> ?_,?_,fun j p hj hp=> ?_⟩
 ·refine List.nodup_append.2 ⟨h.nod,by simp,fun a ha b hb e=> ?_⟩
  rw [List.mem_singleton] at hb
  rw [e,hb] at ha
  exact hni ha
 ·rcases List.mem_append.1 hx with hx | hx
  ·obtain ⟨j,rfl,j1,j2,j3⟩:=h.new x hx
   have hji:j≠i:=fun e=> hni (by rw [←e];exact hx)
   exact ⟨j,rfl,j1,(g.oth j hji).2 j2,fun p hp=> by rw [g.same j p hji hp];exact j3 p hp⟩
  ·rw [List.mem_singleton] at hx
   subst hx
   exact ⟨i,rfl,fun hh=> g.was ((h.oth i hni).2 hh),g.is,g.zero⟩
 ·have hj1:(j:Int)∉l:=fun hm=> hj (by simp [hm])
  have hj2:j≠i:=fun e=> hj (by simp [e])
  exact (g.oth j hj2).trans (h.oth j hj1)
 ·have:=g.free
  have:=h.free
  simp;omega
 ·have hj1:(j:Int)∉l:=fun hm=> hj (by simp [hm])
  have hj2:j≠i:=fun e=> hj (by simp [e])
  rw [g.same j p hj2 hp];exact h.same j p hj1 hp
end
end Go.Proofs.YtjpjafajploiaaaGreatDoor
namespace Go.Proofs.YtjpjafajploiaaaGreatDoor
open Go.RowKit Own RegJ
open Go.Lib
def extB (bs:List Int) (e:Nat):List Int:=bs++List.replicate (e - bs.length) 0
theorem extB_len {bs:List Int} {e:Nat} (h:bs.length≤e):(extB bs e).length=e:=by unfold extB;simp;omega
theorem extB_getD (bs:List Int) (e p:Nat):(extB bs e).getD p 0=bs.getD p 0:=by
 unfold extB
 simp only [List.getD_eq_getElem?_getD]
 by_cases h:p < bs.length
 ·rw [List.getElem?_append_left h]
 ·rw [List.getElem?_append_right (by omega),List.getElem?_replicate,List.getElem?_eq_none (by omega:bs.length≤p)]
  split <;> rfl
def writeB (bs:List Int) (off:Nat) (b:List Int):List Int:=spl (extB bs (max bs.length (off+b.length))) off b
section
variable {f f' :Fs} {l news bs:List Int}
theorem FileI.took (h:FileI f l bs) (g:TookL f news f'):FileI f' l bs:=by
 have hn:∀i:Nat,f.has i→(i:Int)∉news:=fun i hi hm=> by
  obtain ⟨j,e,hj,_⟩:=g.new _ hm
  obtain rfl:i=j:=by omega
  exact hj hi
 refine ⟨h.len,h.most,h.nod,fun x hx=> ?_,fun p hp=> ?_⟩
 ·obtain ⟨i,rfl,hi⟩:=h.has x hx
  exact ⟨i,rfl,(g.oth i (hn i hi)).2 hi⟩
 ·have hpq:p / 64 < l.length:=by omega
  have hx:l.getD (p / 64) 0=l[p / 64]:=by rw [List.getD_eq_getElem?_getD,List.getElem?_eq_getElem hpq];rfl
  obtain ⟨i,e,hi⟩:=h.has _ (List.getElem_mem hpq)
  have h1:=h.byt p hp
  rw [hx,e] at h1 ⊢
  simp only [Int.toNat_natCast] at h1 ⊢
  rw [g.same i _ (hn i hi) (Nat.mod_lt _ (by omega))]
  exact h1
theorem FileI.ext (h:FileI f l bs) (g:TookL f news f') {e:Nat} (he:bs.length≤e) (he5:e≤512) (hn:news.length=(e+63) / 64 - l.length):FileI f' (l++news) (extB bs e):=by
 have hk:=h.took g
 have hd:∀x∈l,x∉news:=fun x hx hm=> by
  obtain ⟨i,rfl,hi⟩:=h.has x hx
  obtain ⟨j,e,hj,_⟩:=g.new _ hm
  obtain rfl:i=j:=by omega
  exact hj hi
 have hl:=h.len
 refine ⟨by rw [List.length_append,extB_len he,hn];omega,by rw [extB_len he];exact he5,List.nodup_append.2 ⟨h.nod,g.nod,fun a ha b hb e=> hd a ha (e▸hb)⟩,fun x hx=> ?_,fun p hp=> ?_⟩
 ·rcases List.mem_append.1 hx with hx | hx
  ·exact hk.has x hx
  ·obtain ⟨i,rfl,_,hi,_⟩:=g.new x hx
   exact ⟨i,rfl,hi⟩
 ·rw [extB_getD]
  by_cases hc:p < 64*l.length
  ·have h1:=hk.byt p hc
   rw [←h1]
   congr 2
   simp only [List.getD_eq_getElem?_getD]
   rw [List.getElem?_append_left (by omega)]
  ·rw [List.length_append] at hp
   have hq:p / 64 - l.length < news.length:=by omega
   have hx:(l++news).getD (p / 64) 0=news[p / 64 - l.length]:=by
    rw [List.getD_eq_getElem?_getD,List.getElem?_append_right (by omega),List.getElem?_eq_getElem hq];rfl
   obtain ⟨i,e,_,_,hz⟩:=g.new _ (List.getElem_mem hq)
   rw [hx,e]
   simp only [Int.toNat_natCast]
   rw [hz _ (Nat.mod_lt _ (by omega)),List.getD_eq_getElem?_getD,List.getElem?_eq_none (by omega)]
   rfl
end
section
variable {w w' :World} {so:SRl→Option Nat} {fs:Sfs} {F N:Nat} {f f' :Fs} {ls:Nat→List Int}
def soFls (so:SRl→Option Nat) (i:Nat) (row:Option Nat):SRl→Option Nat:=soPut so i (so (.file i)) row
theorem soFls_old {so:SRl→Option Nat} {i:Nat} {row:Option Nat} {r:SRl} {b:Nat} (h:soFls so i row r=some b):(so r=some b∧r≠ .fls i)∨(r= .fls i∧row=some b):=by
 rcases soPut_old h with ⟨g,_,e⟩ | ⟨rfl,g⟩ | ⟨e,g⟩
 ·exact Or.inl ⟨g,e⟩
 ·exact Or.inl ⟨g,by simp⟩
 ·exact Or.inr ⟨e,g⟩
theorem grow_done [Inhabited CapT] (h:StI w so fs F N f ls) {i:Nat} {bs:List Int} (hi:fs i=some bs) {kf:Nat} (k1:so (.file i)=some kf) {fb bb kb:Nat} (t3:so .frm=some fb) (t4:so .byt=some bb) (t5:so .tkn=some kb)
  {news:List Int} (hf:FrB w' fb bb kb (so .fre) f') (g:TookL f news f') {e:Nat} (he:bs.length≤e) (he5:e≤512) (hn:news.length=(e+63) / 64 - (ls i).length) {v:Value} {row:Option Nat} (hk:Blk w' kf #[.int .i64 e,v] 298) (hv:RowV w' 3 v (icells (ls i++news)) row)
  (hrow:∀k,row=some k→so (.fls i)=some k∨w.heap.size≤k) (hu:Upd (fun k=> k=fb∨k=bb∨k=kb∨k=kf∨so (.fls i)=some k) w w'):
  StI w' (soFls so i row) (fsPut fs i (some (extB bs e))) F N f' (fun j=> if j=i then ls i++news else ls j):=by
 have h16:=h.i16 hi
 obtain ⟨sb,mb,fb',bb',kb',n,s,t1,t2,t3',t4',t5',t6,t7,t8,t9⟩:=h.top
 obtain rfl:fb=fb' :=by rw [t3] at t3';exact Option.some.inj t3'
 obtain ⟨kf',v0,k1',k2,k3,k4⟩:=h.file i bs hi
 have hap:∀r k,so r=some k→r≠ .frm→r≠ .byt→r≠ .tkn→r≠ .file i→r≠ .fls i→¬(k=fb∨k=bb∨k=kb∨k=kf∨so (.fls i)=some k):=fun r k hk e1 e2 e3 e4 e5 hh=> by
  rcases hh with hh | hh | hh | hh | hh
  ·exact e1 (h.inj _ _ _ hk (by rw [hh];exact t3))
  ·exact e2 (h.inj _ _ _ hk (by rw [hh];exact t4))
  ·exact e3 (h.inj _ _ _ hk (by rw [hh];exact t5))
  ·exact e4 (h.inj _ _ _ hk (by rw [hh];exact k1))
  ·exact e5 (h.inj _ _ _ hk hh)
 have hz:=hu.size
 refine ⟨fun r r' k h1 h2=> ?_,fun r k h1=> ?_,⟨sb,mb,fb,bb,kb,n,s,t1,t2,t3,t4,t5,Blk.upd hu t6 (hap _ _ t1 (by simp) (by simp) (by simp) (by simp) (by simp)),?_,t8,hf⟩,fun j cs hj=> ?_,fun j hj=> ?_,fun j j' cs cs' x hj hj' hx hx' => ?_,?_,fun x hx=> ?_⟩
 ·rcases soFls_old h1 with ⟨g1,e1⟩ | ⟨e1,g1⟩
  ·rcases soFls_old h2 with ⟨g2,e2⟩ | ⟨e2,g2⟩
   ·exact h.inj r r' k g1 g2
   ·rcases hrow k g2 with e | e
    ·exact absurd (h.inj _ _ _ g1 e) e1
    ·have:=h.lt r k g1;omega
  ·rcases soFls_old h2 with ⟨g2,e2⟩ | ⟨e2,g2⟩
   ·rcases hrow k g1 with e | e
    ·exact absurd (h.inj _ _ _ g2 e) e2
    ·have:=h.lt r' k g2;omega
   ·rw [e1,e2]
 ·rcases soFls_old h1 with ⟨g1,_⟩ | ⟨_,g1⟩
  ·have:=h.lt r k g1;omega
  ·exact hv.lt k g1
 ·have:=filM_same fs so i bs (extB bs e) hi row
  unfold soFls
  rw [this]
  exact t7.upd hu (hap _ _ t2 (by simp) (by simp) (by simp) (by simp) (by simp))
 ·by_cases e1:j=i
  ·subst e1
   rw [fsPut_eq] at hj
   cases hj
   refine ⟨kf,v,by simp [soFls,soPut,k1],by rw [extB_len he];exact hk,?_,?_⟩
   ·rw [if_pos rfl]
    simp only [soFls,soPut,if_pos rfl]
    exact hv
   ·rw [if_pos rfl]
    exact k4.ext g he he5 hn
  ·rw [fsPut_ne _ _ e1] at hj
   obtain ⟨k,v',j1,j2,j3,j4⟩:=h.file j cs hj
   refine ⟨k,v',by simp [soFls,soPut,e1,j1],Blk.upd hu j2 (hap _ _ j1 (by simp) (by simp) (by simp) (by simp [e1]) (by simp)),?_,?_⟩
   ·rw [if_neg e1]
    simp only [soFls,soPut,if_neg e1]
    exact j3.upd hu (fun g hg=> hap _ _ hg (by simp) (by simp) (by simp) (by simp) (by simp [e1]))
   ·rw [if_neg e1]
    exact j4.took g
 ·rw [fsPut_ne _ _ (by omega)];exact h.far j hj
 ·have hnew:∀y cs x,fs y=some cs→x∈ls y→x∉news:=fun y cs x hy hx hm=> by
   obtain ⟨_,_,_,_,_,y4⟩:=h.file y cs hy
   obtain ⟨a,rfl,ha⟩:=y4.has x hx
   obtain ⟨b,e,hb,_⟩:=g.new _ hm
   obtain rfl:a=b:=by omega
   exact hb ha
  by_cases e1:j=i
  ·by_cases e2:j' =i
   ·rw [e1,e2]
   ·subst e1
    rw [if_pos rfl] at hx
    rw [if_neg e2] at hx'
    rw [fsPut_ne _ _ e2] at hj'
    rcases List.mem_append.1 hx with hx | hx
    ·exact h.apart j j' bs cs' x hi hj' hx hx'
    ·exact absurd hx (hnew j' cs' x hj' hx')
  ·rw [if_neg e1] at hx
   rw [fsPut_ne _ _ e1] at hj
   by_cases e2:j' =i
   ·subst e2
    rw [if_pos rfl] at hx'
    rcases List.mem_append.1 hx' with hx' | hx'
    ·exact h.apart j j' cs bs x hj hi hx hx'
    ·exact absurd hx' (hnew j cs x hj hx)
   ·rw [if_neg e2] at hx'
    rw [fsPut_ne _ _ e2] at hj'
    exact h.apart j j' cs cs' x hj hj' hx hx'
 ·have h1:=usedN_put fs i (some (extB bs e)) 16 h16
  have h2:blks (fs i)=(ls i).length:=by rw [hi,k4.len];rfl
  have h3:blks (some (extB bs e))=(e+63) / 64:=by unfold blks;simp only [extB_len he]
  have h4:=h.sum
  have h5:=g.free
  have h6:=k4.len
  omega
 ·obtain ⟨o1,o2⟩:=h.oth x hx
  have hnw:(x:Int)∉news:=fun hm=> by
   obtain ⟨b,e,hb,_⟩:=g.new _ hm
   obtain rfl:x=b:=by omega
   exact hb o1
  refine ⟨(g.oth x hnw).2 o1,fun j cs hj=> ?_⟩
  by_cases e1:j=i
  ·subst e1
   rw [if_pos rfl]
   exact fun hm=> (List.mem_append.1 hm).elim (o2 j bs hi) hnw
  ·rw [if_neg e1]
   rw [fsPut_ne _ _ e1] at hj
   exact o2 j cs hj
end
end Go.Proofs.YtjpjafajploiaaaGreatDoor
