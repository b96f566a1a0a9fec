/-
  The store as it lies, with its files' bytes and the frames; a file looked up; its size; how many frames are free.
-/
import Derived.Test.YtjpjafajploiaaaGreatDoorUnixAlone10
import Derived.Test.YtjpjafajploiaaaGreatDoorUnixAlone04
set_option linter.unusedSimpArgs false
set_option linter.unusedVariables false
namespace Go.Proofs.YtjpjafajploiaaaGreatDoor
open Go.RowKit Own RegJ
open Go.Lib
def OFr {α:Type} (lo lo' :α→Option Nat) (w w' :World):Prop:=Upd (fun k=> ∃r,lo r=some k) w w' ∧∀r k,lo' r=some k→(∃r',lo r' =some k)∨w.heap.size≤k
section
variable {α:Type} {lo1 lo2 lo3:α→Option Nat} {w1 w2 w3:World}
theorem OFr.refl (lo:α→Option Nat) (w:World):OFr lo lo w w:=⟨Upd.refl _ _,fun r k h=> Or.inl ⟨r,h⟩⟩
theorem OFr.of_below (h:Below w1.heap.size w1 w2):OFr lo1 lo1 w1 w2:=⟨Upd.of_below h,fun r k h=> Or.inl ⟨r,h⟩⟩
end
inductive SRl where
 | sto | mp | frm | byt | tkn | fre
 | file (i:Nat)
 | fls (i:Nat)
abbrev Sfs:=Nat→Option (List Int)
def optP (o:Option Nat):Value:=match o with | some k=> .pointer (some ⟨k,0,none⟩) | none=> .pointer none
def filM (fs:Sfs) (so:SRl→Option Nat):Int→Option Value:=fun j=> if 0≤j∧j < 16 then (match fs j.toNat with | some _=> some (optP (so (.file j.toNat))) | none=> none) else none
def blks (x:Option (List Int)):Nat:=match x with | some bs=> (bs.length+63) / 64 | none=> 0
def usedN (fs:Sfs):Nat→Nat
 | 0=> 0
 | i+1=> usedN fs i+blks (fs i)
structure FileI (f:Fs) (l bs:List Int):Prop where
 len:l.length=(bs.length+63) / 64
 most:bs.length≤512
 nod:l.Nodup
 has:∀x∈l,∃i:Nat,x=i∧f.has i
 byt:∀p,p < 64*l.length→f.at (l.getD (p / 64) 0).toNat (p % 64)=bs.getD p 0
structure CapT where
 n:Nat
 oth:Nat→Prop
def capN [c:Inhabited CapT]:Nat:=c.default.n
def othN [c:Inhabited CapT]:Nat→Prop:=c.default.oth
def capV (n:Nat):CapT:=⟨n,fun _=> False⟩
def capI [c:Inhabited CapT]:CapT:=c.default
abbrev capOf (n:Nat):Inhabited CapT:=⟨⟨n,fun _=> False⟩⟩
structure StI [Inhabited CapT] (w:World) (so:SRl→Option Nat) (fs:Sfs) (F N:Nat) (f:Fs) (ls:Nat→List Int):Prop where
 inj:∀r r' k,so r=some k→so r' =some k→r=r'
 lt:∀r k,so r=some k→k < w.heap.size
 top:∃sb mb fb bb kb n s,so .sto=some sb∧so .mp=some mb∧so .frm=some fb∧so .byt=some bb∧so .tkn=some kb∧Blk w sb #[.pointer (some ⟨fb,0,none⟩),.map (some mb)] 226∧MapI w Tryz.prog 3 mb n s (filM fs so)∧n≤N∧FrB w fb bb kb (so .fre) f
 file:∀i bs,fs i=some bs→∃k v,so (.file i)=some k∧Blk w k #[.int .i64 bs.length,v] 298∧RowV w 3 v (icells (ls i)) (so (.fls i))∧FileI f (ls i) bs
 far:∀i,16≤i→fs i=none
 apart:∀i j bs bs' x,fs i=some bs→fs j=some bs' →x∈ls i→x∈ls j→i=j
 sum:f.free+usedN fs 16=F
 oth:∀i:Nat,othN i→f.has i∧∀j bs,fs j=some bs→(i:Int)∉ls j
def St [Inhabited CapT] (w:World) (so:SRl→Option Nat) (fs:Sfs) (F N:Nat):Prop:=∃f ls,StI w so fs F N f ls
section
variable {w w' :World} {so:SRl→Option Nat} {fs:Sfs} {F N:Nat} {f:Fs} {ls:Nat→List Int}
theorem StI.upd [Inhabited CapT] {G:Nat→Prop} (h:StI w so fs F N f ls) (hu:Upd G w w') (hG:∀r k,so r=some k→¬G k):StI w' so fs F N f ls:=by
 obtain ⟨sb,mb,fb,bb,kb,n,s,t1,t2,t3,t4,t5,t6,t7,t8,t9⟩:=h.top
 refine ⟨h.inj,fun r k hk=> Nat.lt_of_lt_of_le (h.lt r k hk) hu.size,⟨sb,mb,fb,bb,kb,n,s,t1,t2,t3,t4,t5,Blk.upd hu t6 (hG _ _ t1),t7.upd hu (hG _ _ t2),t8,t9.upd hu (hG _ _ t3) (hG _ _ t4) (hG _ _ t5) (fun g hg=> hG _ _ hg)⟩,fun i bs hi=> ?_,h.far,h.apart,h.sum,h.oth⟩
 obtain ⟨k,v,k1,k2,k3,k4⟩:=h.file i bs hi
 exact ⟨k,v,k1,Blk.upd hu k2 (hG _ _ k1),k3.upd hu (fun g hg=> hG _ _ hg),k4⟩
theorem St.upd [Inhabited CapT] {G:Nat→Prop} (h:St w so fs F N) (hu:Upd G w w') (hG:∀r k,so r=some k→¬G k):St w' so fs F N:=by
 obtain ⟨f,ls,h⟩:=h
 exact ⟨f,ls,h.upd hu hG⟩
theorem St.below [Inhabited CapT] (h:St w so fs F N) (hB:Below w.heap.size w w'):St w' so fs F N:=h.upd (Upd.of_below (F:=fun _=> False) hB) (fun _ _ _ h=> h)
theorem St.le [Inhabited CapT] {N' :Nat} (h:St w so fs F N) (hN:N≤N'):St w so fs F N' :=by
 obtain ⟨f,ls,h⟩:=h
 obtain ⟨sb,mb,fb,bb,kb,n,s,t1,t2,t3,t4,t5,t6,t7,t8,t9⟩:=h.top
 exact ⟨f,ls,h.inj,h.lt,⟨sb,mb,fb,bb,kb,n,s,t1,t2,t3,t4,t5,t6,t7,by omega,t9⟩,h.file,h.far,h.apart,h.sum,h.oth⟩
theorem StI.i16 [Inhabited CapT] (h:StI w so fs F N f ls) {i:Nat} {bs:List Int} (hi:fs i=some bs):i < 16:=by
 rcases Nat.lt_or_ge i 16 with e | e
 ·exact e
 ·rw [h.far i e] at hi;cases hi
theorem filM_some (fs:Sfs) (so:SRl→Option Nat) {i:Nat} (h16:i < 16) {bs:List Int} (hi:fs i=some bs) {k:Nat} (hk:so (.file i)=some k):filM fs so i=some (.pointer (some ⟨k,0,none⟩)):=by
 unfold filM
 rw [if_pos (by omega)]
 simp only [Int.toNat_natCast]
 rw [hi,hk];rfl
theorem filM_none (fs:Sfs) (so:SRl→Option Nat) {i:Int} (hi:fs i.toNat=none∨i < 0∨16≤i):filM fs so i=none:=by
 unfold filM
 rcases hi with hi | hi | hi
 ·split
  ·rw [hi]
  ·rfl
 ·rw [if_neg (by omega)]
 ·rw [if_neg (by omega)]
theorem zero_fil (w:World):(zeroValue 294).run Tryz.prog w= .ok (.pointer none) w:=by kernel_rfl
def fsAt (fs:Sfs) (id:Int):Option (List Int):=if 0≤id then fs id.toNat else none
theorem fsAt_some {fs:Sfs} {id:Int} {bs:List Int} (h:fsAt fs id=some bs):∃i:Nat,id=i∧fs i=some bs:=by
 unfold fsAt at h
 split at h
 ·exact ⟨id.toNat,by omega,h⟩
 ·cases h
set_option maxRecDepth 100000 in
theorem sg_no [Inhabited CapT] (h : St w so fs F N) (sb : Nat) (hs : so .sto = some sb) (id : Int) (hw : (Lit.int .i64 id).wf = true) (hi : fsAt fs id = none) : Calls Tryz.prog 186 #[.pointer (some ⟨sb, 0, none⟩), .int .i64 id] w fun e w' => e = .returned (.tuple #[.pointer none, .int .i64 4]) ∧ w = w' := by
  obtain ⟨f, ls, h⟩ := h
  obtain ⟨sb', mb, fb, bb, kb, n, s, t1, t2, t3, t4, t5, t6, t7, t8, t9⟩ := h.top
  obtain rfl : sb = sb' := by rw [hs] at t1; exact Option.some.inj t1
  have c1 := t6.rd
  have hl := t7.look Tryz.underlying3 Tryz.underlying224 (zero_fil w) id hw
  rw [filM_none fs so (by unfold fsAt at hi; by_cases h0 : 0 ≤ id; · rw [if_pos h0] at hi; exact Or.inl hi
                          · exact Or.inr (Or.inl (by omega)))] at hl
  clear t1 t2 t3 t4 t5 t6 t7 t8 t9 h hi hs hw
  go_enter Tryz.func186, Tryz.ntmps186
  go_wp2
  go_returns
  exact ⟨rfl, rfl⟩
theorem wf_16 (i:Nat) (h:i < 16):(Lit.int .i64 (i:Int)).wf=true:=by
 simp [Lit.wf,IntKind.min,IntKind.max,IntKind.signed,IntKind.bits];omega
set_option maxRecDepth 100000 in
theorem sg_yes [Inhabited CapT] (h:StI w so fs F N f ls) (sb:Nat) (hs:so .sto=some sb) (i:Nat) (bs:List Int) (hi:fs i=some bs) (k:Nat) (hk:so (.file i)=some k):Calls Tryz.prog 186 #[.pointer (some ⟨sb,0,none⟩),.int .i64 i] w fun e w' => e= .returned (.tuple #[.pointer (some ⟨k,0,none⟩),.int .i64 0])∧w=w' :=by
 have h16:=h.i16 hi
 obtain ⟨sb',mb,fb,bb,kb,n,s,t1,t2,t3,t4,t5,t6,t7,t8,t9⟩:=h.top
 obtain rfl:sb=sb' :=by rw [hs] at t1;exact Option.some.inj t1
 have c1:=t6.rd
 have hl:=t7.look Tryz.underlying3 Tryz.underlying224 (zero_fil w) i (wf_16 i h16)
 rw [filM_some fs so h16 hi hk] at hl
 clear t1 t2 t3 t4 t5 t6 t7 t8 t9 h hi hs hk h16
 go_enter Tryz.func186,Tryz.ntmps186
 go_wp2
 go_returns
 exact ⟨rfl,rfl⟩
def sizeV (fs:Sfs) (id:Int):Int×Int:=match fsAt fs id with | some bs=> (bs.length,0) | none=> (0,4)
set_option maxRecDepth 100000 in
theorem s_size [Inhabited CapT] (h:St w so fs F N) (sb:Nat) (hs:so .sto=some sb) (id:Int) (hw:(Lit.int .i64 id).wf=true) (r1 r2:Int) (hr:sizeV fs id=(r1,r2)):Calls Tryz.prog 142 #[.pointer (some ⟨sb,0,none⟩),.int .i64 id] w fun e w' => e= .returned (.tuple #[.int .i64 r1,.int .i64 r2])∧w=w' :=by
 unfold sizeV at hr
 cases hi:fsAt fs id with
 | none=>
  rw [hi] at hr;cases hr
  have hg:=sg_no h sb hs id hw hi
  clear h hi hs hw
  go_enter Tryz.func142,Tryz.ntmps142
  go_wp2_with (go_at_call 186;refine hg.mono ?_;rintro e w' ⟨rfl,rfl⟩)
  go_returns
  exact ⟨rfl,rfl⟩
 | some bs=>
  rw [hi] at hr;cases hr
  obtain ⟨i,rfl,hi⟩:=fsAt_some hi
  obtain ⟨f,ls,h⟩:=h
  obtain ⟨k,v,k1,k2,k3,k4⟩:=h.file i bs hi
  have hg:=sg_yes h sb hs i bs hi k k1
  have c1:=k2.rd
  clear h hi hs hw k1 k2 k3 k4
  go_enter Tryz.func142,Tryz.ntmps142
  go_wp2_with (go_at_call 186;refine hg.mono ?_;rintro e w' ⟨rfl,rfl⟩)
  go_returns
  exact ⟨rfl,rfl⟩
end
end Go.Proofs.YtjpjafajploiaaaGreatDoor
/-
 The store:a file made;all its frames given back;a file taken away.
-/
namespace Go.Proofs.YtjpjafajploiaaaGreatDoor
open Go.RowKit Own RegJ
open Go.Lib
def fsPut (fs:Sfs) (i:Nat) (x:Option (List Int)):Sfs:=fun j=> if j=i then x else fs j
theorem fsPut_eq (fs:Sfs) (i:Nat) (x:Option (List Int)):fsPut fs i x i=x:=by unfold fsPut;rw [if_pos rfl]
theorem fsPut_ne (fs:Sfs) {i j:Nat} (x:Option (List Int)) (h:j≠i):fsPut fs i x j=fs j:=by unfold fsPut;rw [if_neg h]
theorem usedN_put (fs:Sfs) (i:Nat) (x:Option (List Int)):∀n,i < n→usedN (fsPut fs i x) n+blks (fs i)=usedN fs n+blks x
 | 0,h=> by omega
 | n+1,h=> by
  unfold usedN
  by_cases e:i=n
  ·subst e
   rw [fsPut_eq]
   have:∀m,m≤i→usedN (fsPut fs i x) m=usedN fs m:=by
    intro m
    induction m with
    | zero=> intro _;rfl
    | succ m ih=> intro hm;unfold usedN;rw [ih (by omega),fsPut_ne fs x (by omega)]
   rw [this i (Nat.le_refl _)]
   omega
  ·have:=usedN_put fs i x n (by omega)
   rw [fsPut_ne fs x (fun h=> e h.symm)]
   omega
def soPut (so:SRl→Option Nat) (i:Nat) (k:Option Nat) (l:Option Nat):SRl→Option Nat:=fun r=> match r with
 | .file j=> if j=i then k else so (.file j)
 | .fls j=> if j=i then l else so (.fls j)
 | .sto=> so .sto
 | .mp=> so .mp
 | .frm=> so .frm
 | .byt=> so .byt
 | .tkn=> so .tkn
 | .fre=> so .fre
theorem soPut_old {so:SRl→Option Nat} {i:Nat} {k l:Option Nat} {r:SRl} {b:Nat} (h:soPut so i k l r=some b):(so r=some b∧r≠ .file i∧r≠ .fls i)∨(r= .file i∧k=some b)∨(r= .fls i∧l=some b):=by
 cases r <;> simp only [soPut] at h
 case file j=>
  by_cases e:j=i
  ·subst e;rw [if_pos rfl] at h;exact Or.inr (Or.inl ⟨rfl,h⟩)
  ·rw [if_neg e] at h;exact Or.inl ⟨h,by simp [e],by simp⟩
 case fls j=>
  by_cases e:j=i
  ·subst e;rw [if_pos rfl] at h;exact Or.inr (Or.inr ⟨rfl,h⟩)
  ·rw [if_neg e] at h;exact Or.inl ⟨h,by simp,by simp [e]⟩
 all_goals exact Or.inl ⟨h,by simp,by simp⟩
theorem filM_mk (fs:Sfs) (so:SRl→Option Nat) (i:Nat) (hi:i < 16) (k:Nat) (bs:List Int) (l:Option Nat):mput (filM fs so) i (.pointer (some ⟨k,0,none⟩))=filM (fsPut fs i (some bs)) (soPut so i (some k) l):=by
 funext j
 unfold mput filM fsPut
 by_cases hj:j=i
 ·subst hj
  rw [if_pos rfl,if_pos (by omega)]
  simp [soPut,optP]
 ·rw [if_neg hj]
  by_cases h16:0≤j∧j < 16
  ·rw [if_pos h16,if_pos h16]
   have:j.toNat≠i:=by omega
   rw [if_neg this]
   simp [soPut,this]
  ·rw [if_neg h16,if_neg h16]
theorem filM_del (fs:Sfs) (so:SRl→Option Nat) (i:Nat) (k l:Option Nat):mdel (filM fs so) i=filM (fsPut fs i none) (soPut so i k l):=by
 funext j
 unfold mdel filM fsPut
 by_cases hj:j=i
 ·subst hj
  rw [if_pos rfl]
  simp
 ·rw [if_neg hj]
  by_cases h16:0≤j∧j < 16
  ·rw [if_pos h16,if_pos h16]
   have:j.toNat≠i:=by omega
   rw [if_neg this]
   simp [soPut,this]
  ·rw [if_neg h16,if_neg h16]
theorem filM_same (fs:Sfs) (so:SRl→Option Nat) (i:Nat) (bs bs' :List Int) (hi:fs i=some bs) (l:Option Nat):filM (fsPut fs i (some bs')) (soPut so i (so (.file i)) l)=filM fs so:=by
 funext j
 unfold filM fsPut
 by_cases h16:0≤j∧j < 16
 ·rw [if_pos h16,if_pos h16]
  by_cases e:j.toNat=i
  ·rw [if_pos e,e,hi];simp [soPut]
  ·rw [if_neg e];simp [soPut,e]
 ·rw [if_neg h16,if_neg h16]
section
variable {w w' :World} {so:SRl→Option Nat} {fs:Sfs} {F N:Nat} {f:Fs} {ls:Nat→List Int}
def StP [Inhabited CapT] (w:World) (so:SRl→Option Nat) (fs' :Sfs) (F N:Nat) (v:Value) (e:Ending) (w' :World):Prop:=e= .returned v∧∃so',St w' so' fs' F N∧OFr so so' w w' ∧so' .sto=so .sto∧so' .frm=so .frm
theorem zfile (i:Nat):FileI f [] []:=⟨rfl,by simp,List.nodup_nil,(fun x hx=> by cases hx),(fun p hp=> by simp at hp)⟩
set_option maxRecDepth 100000 in
theorem s_make [Inhabited CapT] (h:St w so fs F N) (sb:Nat) (hs:so .sto=some sb) (i:Nat) (hi:i < 16) (hn:fs i=none) (hN:N≤100000):Calls Tryz.prog 224 #[.pointer (some ⟨sb,0,none⟩),.int .i64 i] w (StP w so (fsPut fs i (some [])) F (N+1) (.int .i64 0)):=by
 have hg:=sg_no h sb hs i (wf_16 i hi) (by unfold fsAt;rw [if_pos (by omega)];simpa using hn)
 obtain ⟨f,ls,h⟩:=h
 obtain ⟨sb',mb,fb,bb,kb,n,s,t1,t2,t3,t4,t5,t6,t7,t8,t9⟩:=h.top
 obtain rfl:sb=sb' :=by rw [hs] at t1;exact Option.some.inj t1
 have c1:=t6.rd
 have d1:decide ((i:Int) < 0)=false:=by simp
 have hmt:=t7.lt
 have hnn:n < maxLen:=by unfold maxLen;omega
 have H:=Lib.hid (And.intro h (And.intro hi hn))
 have HT:=Lib.hid (And.intro t1 (And.intro t2 (And.intro t3 (And.intro t4 (And.intro t5 (And.intro t6 (And.intro t7 (And.intro t8 t9))))))))
 clear h hi hn t1 t2 t3 t4 t5 t6 t7 t8 t9 hs hN
 go_enter Tryz.func224,Tryz.ntmps224
 go_wp2_with (first
  | (go_at_call 186;refine hg.mono ?_;rintro e w' ⟨rfl,rfl⟩)
  | (at_mapUpdate;refine wp_mapput _ rfl _ _ _ 224 rfl 3 294 Tryz.underlying3 Tryz.underlying224 mb n s (filM fs so) rfl (HT.out.2.2.2.2.2.2.1.upd ((Upd.refl (fun _=> False) w).alloc _) (fun h=> h)) hnn i (wf_16 i H.out.2.1) _ rfl rfl ?_;intro w1 hM1 hu1;have H1:=Lib.hid (And.intro hM1 hu1);clear hM1 hu1))
 go_ret
 obtain ⟨h,hi,hn⟩:=H.out
 obtain ⟨t1,t2,t3,t4,t5,t6,t7,t8,t9⟩:=HT.out
 obtain ⟨hM,hu1⟩:=H1.out
 obtain ⟨s',hM2⟩:∃s',MapI w1 Tryz.prog 3 mb (n+1) s' (filM (fsPut fs i (some [])) (soPut so i (some w.heap.size) none)):=⟨_,by rw [←filM_mk fs so i hi w.heap.size [] none];exact hM⟩
 have hu:Upd (fun k=> k=mb) w w1:=((Upd.refl (fun k=> k=mb) w).alloc _).trans hu1 (fun _ _ h=> h)
 have hbf:=Blk.upd hu1 (Blk.new w #[.int .i64 0,.slice none 0 0] 298) (by omega)
 have hfl:=hbf.lt
 have hne:∀r k,so r=some k→r≠ .mp→¬k=mb:=fun r k hk hr e=> hr (h.inj r .mp k hk (by rw [e];exact t2))
 have hsz:=hu.size
 refine ⟨rfl,soPut so i (some w.heap.size) none,⟨f,fun j=> if j=i then [] else ls j,?_,?_,?_,?_,?_,?_,?_,fun x hx=> ⟨(h.oth x hx).1,fun j bs hj=> ?_⟩⟩,⟨hu.mono (fun k _ (e:k=mb)=> ⟨.mp,by rw [e];exact t2⟩),?_⟩,rfl,rfl⟩
 ·intro r r' k h1 h2
  rcases soPut_old h1 with ⟨g1,_,_⟩ | ⟨e1,g1⟩ | ⟨e1,g1⟩
  ·have:=h.lt r k g1
   rcases soPut_old h2 with ⟨g2,_,_⟩ | ⟨e2,g2⟩ | ⟨e2,g2⟩
   ·exact h.inj r r' k g1 g2
   ·cases g2;omega
   ·cases g2
  ·cases g1
   rcases soPut_old h2 with ⟨g2,_,_⟩ | ⟨e2,g2⟩ | ⟨e2,g2⟩
   ·have:=h.lt r' _ g2;omega
   ·rw [e1,e2]
   ·cases g2
  ·cases g1
 ·intro r k h1
  rcases soPut_old h1 with ⟨g1,_,_⟩ | ⟨e1,g1⟩ | ⟨e1,g1⟩
  ·have:=h.lt r k g1;omega
  ·cases g1;exact hfl
  ·cases g1
 ·refine ⟨sb,mb,fb,bb,kb,n+1,s',t1,t2,t3,t4,t5,Blk.upd hu t6 (hne _ _ t1 (by simp)),hM2,by omega,t9.upd hu (hne _ _ t3 (by simp)) (hne _ _ t4 (by simp)) (hne _ _ t5 (by simp)) (fun g hg=> hne _ _ hg (by simp))⟩
 ·intro j bs hj
  by_cases e:j=i
  ·subst e
   rw [fsPut_eq] at hj
   cases hj
   exact ⟨w.heap.size,.slice none 0 0,by simp [soPut],hbf,by rw [if_pos rfl];exact Or.inl ⟨rfl,rfl,by simp [soPut]⟩,by rw [if_pos rfl];exact zfile j⟩
  ·rw [fsPut_ne _ _ e] at hj
   obtain ⟨k,v,k1,k2,k3,k4⟩:=h.file j bs hj
   refine ⟨k,v,by simp [soPut,e,k1],Blk.upd hu k2 (hne _ _ k1 (by simp)),?_,by rw [if_neg e];exact k4⟩
   rw [if_neg e]
   simp only [soPut,if_neg e]
   exact k3.upd hu (fun g hg=> hne _ _ hg (by simp))
 ·intro j hj
  rw [fsPut_ne _ _ (by omega)];exact h.far j hj
 ·intro j j' bs bs' x hj hj' hx hx'
  by_cases e:j=i
  ·subst e;rw [if_pos rfl] at hx;cases hx
  ·by_cases e' :j' =i
   ·subst e';rw [if_pos rfl] at hx';cases hx'
   ·rw [if_neg e] at hx
    rw [if_neg e'] at hx'
    rw [fsPut_ne _ _ e] at hj
    rw [fsPut_ne _ _ e'] at hj'
    exact h.apart j j' bs bs' x hj hj' hx hx'
 ·have:=usedN_put fs i (some []) 16 hi
  have h0:blks (some [])=0:=rfl
  rw [hn] at this
  have h1:blks none=0:=rfl
  have:=h.sum
  omega
 ·by_cases e:j=i
  ·rw [if_pos e];simp
  ·rw [if_neg e];rw [fsPut_ne _ _ e] at hj;exact (h.oth x hx).2 j bs hj
 ·intro r k hk
  rcases soPut_old hk with ⟨g1,_,_⟩ | ⟨e1,g1⟩ | ⟨e1,g1⟩
  ·exact Or.inl ⟨r,g1⟩
  ·cases g1;exact Or.inr (Nat.le_refl _)
  ·cases g1
structure GaveL (f:Fs) (l:List Int) (f' :Fs):Prop where
 n:f'.n=f.n
 oth:∀j:Nat,(j:Int)∉l→(f'.has j↔f.has j)
 free:f'.free=f.free+l.length
 same:∀j p,f'.at j p=f.at j p
theorem GaveL.nil (f:Fs):GaveL f [] f:=⟨rfl,fun _ _=> Iff.rfl,rfl,fun _ _=> rfl⟩
theorem GaveL.snoc {f f1 f2:Fs} {l:List Int} {i:Nat} (h:GaveL f l f1) (g:Gave f1 i f2):GaveL f (l++ [(i:Int)]) f2:=by
 refine ⟨g.n.trans h.n,fun j hj=> ?_,?_,fun j p=> (g.same j p).trans (h.same j p)⟩
 ·have hj1:(j:Int)∉l:=fun hm=> hj (by simp [hm])
  have hj2:j≠i:=fun e=> hj (by simp [e])
  exact (g.oth j hj2).trans (h.oth j hj1)
 ·rw [g.free,h.free];simp;omega
theorem FileI.gave {f f' :Fs} {l l' bs:List Int} (h:FileI f l bs) (g:GaveL f l' f') (hap:∀x∈l,x∉l'):FileI f' l bs:=by
 refine ⟨h.len,h.most,h.nod,fun x hx=> ?_,fun p hp=> ?_⟩
 ·obtain ⟨i,rfl,hi⟩:=h.has x hx
  exact ⟨i,rfl,(g.oth i (hap _ hx)).2 hi⟩
 ·rw [g.same];exact h.byt p hp
def soFre (so:SRl→Option Nat) (row:Option Nat):SRl→Option Nat:=fun r=> match r with
 | .fre=> row
 | .file j=> so (.file j)
 | .fls j=> so (.fls j)
 | .sto=> so .sto
 | .mp=> so .mp
 | .frm=> so .frm
 | .byt=> so .byt
 | .tkn=> so .tkn
theorem soFre_old {so:SRl→Option Nat} {row:Option Nat} {r:SRl} {b:Nat} (h:soFre so row r=some b):(so r=some b∧r≠ .fre)∨(r= .fre∧row=some b):=by
 cases r <;> simp only [soFre] at h
 case fre=> exact Or.inr ⟨rfl,h⟩
 all_goals exact Or.inl ⟨h,by simp⟩
theorem soFre_inj {so:SRl→Option Nat} {row:Option Nat} {B:Nat} (hi:∀r r' k,so r=some k→so r' =some k→r=r') (hl:∀r k,so r=some k→k < B) (hr:∀g,row=some g→so .fre=some g∨B≤g):∀r r' k,soFre so row r=some k→soFre so row r' =some k→r=r' :=by
 intro r r' k h1 h2
 rcases soFre_old h1 with ⟨g1,e1⟩ | ⟨e1,g1⟩
 ·rcases soFre_old h2 with ⟨g2,e2⟩ | ⟨e2,g2⟩
  ·exact hi r r' k g1 g2
  ·rcases hr k g2 with e | e
   ·exact absurd (hi r .fre k g1 e) e1
   ·have:=hl r k g1;omega
 ·rcases soFre_old h2 with ⟨g2,e2⟩ | ⟨e2,g2⟩
  ·rcases hr k g1 with e | e
   ·exact absurd (hi r' .fre k g2 e) e2
   ·have:=hl r' k g2;omega
  ·rw [e1,e2]
theorem filM_fre (fs:Sfs) (so:SRl→Option Nat) (row:Option Nat):filM fs (soFre so row)=filM fs so:=rfl
def CutR (w:World) (fb bb kb:Nat) (fre:Option Nat) (f:Fs) (l:List Int) (m:Nat) (wr:World):Prop:=∃f' row',FrB wr fb bb kb row' f' ∧GaveL f (l.take m) f' ∧Upd (fun k=> k=fb∨k=kb∨fre=some k) w wr∧∀g,row' =some g→fre=some g∨w.heap.size≤g
theorem take_snoc' {l:List Int} {m:Nat} {x:Int} (h:l[m]? =some x):l.take (m+1)=l.take m++ [x]:=by
 rw [List.take_add_one,h];rfl
theorem soCut_old {so:SRl→Option Nat} {i:Nat} {r:SRl} {b:Nat} (h:soPut so i (so (.file i)) none r=some b):so r=some b:=by
 rcases soPut_old h with ⟨g,_,_⟩ | ⟨rfl,g⟩ | ⟨_,g⟩
 ·exact g
 ·exact g
 ·cases g
theorem cut_done [Inhabited CapT] {wr wz:World} (h:StI w so fs F N f ls) {i:Nat} (h16:i < 16) {bs:List Int} (hi:fs i=some bs) {kf:Nat} (k1:so (.file i)=some kf) (hkz:Blk wz kf #[.int .i64 0,.slice none 0 0] 298) (k4:FileI f (ls i) bs) {sb mb fb bb kb n s:Nat}
  (ht:so .sto=some sb∧so .mp=some mb∧so .frm=some fb∧so .byt=some bb∧so .tkn=some kb∧Blk w sb #[.pointer (some ⟨fb,0,none⟩),.map (some mb)] 226∧MapI w Tryz.prog 3 mb n s (filM fs so)∧n≤N∧FrB w fb bb kb (so .fre) f)
  {f' :Fs} {row' :Option Nat} (r1:FrB wr fb bb kb row' f') (r2:GaveL f (ls i) f') (r3:Upd (fun k=> k=fb∨k=kb∨so .fre=some k) w wr) (r4:∀g,row' =some g→so .fre=some g∨w.heap.size≤g) (uz:Upd (fun k=> k=kf) wr wz):
  ∃so',St wz so' (fsPut fs i (some [])) F N∧OFr so so' w wz∧so' .sto=so .sto∧so' .frm=so .frm:=by
 obtain ⟨t1,t2,t3,t4,t5,t6,t7,t8,t9⟩:=ht
 have uw:Upd (fun k=> (k=fb∨k=kb∨so .fre=some k)∨k=kf) w wz:=(r3.mono (fun _ _ e=> Or.inl e)).trans uz (fun _ _ e=> Or.inr e)
 have hap:∀r k,so r=some k→r≠ .frm→r≠ .tkn→r≠ .fre→r≠ .file i→¬((k=fb∨k=kb∨so .fre=some k)∨k=kf):=fun r k hk e1 e2 e3 e4 hh=> by
  rcases hh with (hh | hh | hh) | hh
  ·exact e1 (h.inj _ _ _ hk (by rw [hh];exact t3))
  ·exact e2 (h.inj _ _ _ hk (by rw [hh];exact t5))
  ·exact e3 (h.inj _ _ _ hk hh)
  ·exact e4 (h.inj _ _ _ hk (by rw [hh];exact k1))
 have kfl:=h.lt _ _ k1
 have hkf:∀r k,so r=some k→r≠ .file i→¬k=kf:=fun r k hk e hh=> e (h.inj _ _ _ hk (by rw [hh];exact k1))
 have hz:=uw.size
 refine ⟨soFre (soPut so i (so (.file i)) none) row',⟨f',fun j=> if j=i then [] else ls j,?_,?_,?_,?_,?_,?_,?_,fun x hx=> ⟨(r2.oth x ((h.oth x hx).2 i bs hi)).2 (h.oth x hx).1,fun j bs hj=> ?_⟩⟩,⟨uw.mono (fun k _ e=> ?_),?_⟩,rfl,rfl⟩
 ·exact soFre_inj (B:=w.heap.size) (fun r r' k h1 h2=> h.inj r r' k (soCut_old h1) (soCut_old h2)) (fun r k h1=> h.lt r k (soCut_old h1)) r4
 ·intro r k hk
  rcases soFre_old hk with ⟨g,_⟩ | ⟨_,g⟩
  ·have:=h.lt r k (soCut_old g);omega
  ·have:=r1.lts.2.2.2 k g
   have:=uz.size;omega
 ·refine ⟨sb,mb,fb,bb,kb,n,s,t1,t2,t3,t4,t5,Blk.upd uw t6 (hap _ _ t1 (by simp) (by simp) (by simp) (by simp)),?_,t8,?_⟩
  ·rw [filM_fre,filM_same fs so i bs [] hi none]
   exact t7.upd uw (hap _ _ t2 (by simp) (by simp) (by simp) (by simp))
  ·refine r1.upd uz (hkf _ _ t3 (by simp)) (hkf _ _ t4 (by simp)) (hkf _ _ t5 (by simp)) (fun g hg=> ?_)
   rcases r4 g hg with e | e
   ·exact hkf _ _ e (by simp)
   ·omega
 ·intro j bs' hj
  by_cases e:j=i
  ·subst e
   rw [fsPut_eq] at hj
   cases hj
   exact ⟨kf,.slice none 0 0,by simp [soFre,soPut,k1],hkz,by rw [if_pos rfl];exact Or.inl ⟨rfl,rfl,by simp [soFre,soPut]⟩,by rw [if_pos rfl];exact zfile j⟩
  ·rw [fsPut_ne _ _ e] at hj
   obtain ⟨k,v,j1,j2,j3,j4⟩:=h.file j bs' hj
   refine ⟨k,v,by simp [soFre,soPut,e,j1],Blk.upd uw j2 (hap _ _ j1 (by simp) (by simp) (by simp) (by simp [e])),?_,?_⟩
   ·rw [if_neg e]
    simp only [soFre,soPut,if_neg e]
    exact j3.upd uw (fun g hg=> hap _ _ hg (by simp) (by simp) (by simp) (by simp))
   ·rw [if_neg e]
    exact j4.gave r2 (fun x hx hx' => e (h.apart j i bs' bs x hj hi hx hx'))
 ·intro j hj
  rw [fsPut_ne _ _ (by omega)];exact h.far j hj
 ·intro j j' bs1 bs2 x hj hj' hx hx'
  by_cases e:j=i
  ·subst e;rw [if_pos rfl] at hx;cases hx
  ·by_cases e' :j' =i
   ·subst e';rw [if_pos rfl] at hx';cases hx'
   ·rw [if_neg e] at hx
    rw [if_neg e'] at hx'
    rw [fsPut_ne _ _ e] at hj
    rw [fsPut_ne _ _ e'] at hj'
    exact h.apart j j' bs1 bs2 x hj hj' hx hx'
 ·have h1:=usedN_put fs i (some []) 16 h16
  have h0:blks (some [])=0:=rfl
  have h2:blks (fs i)=(ls i).length:=by rw [hi,k4.len];rfl
  have h3:=h.sum
  have h4:=r2.free
  omega
 ·by_cases e:j=i
  ·rw [if_pos e];simp
  ·rw [if_neg e];rw [fsPut_ne _ _ e] at hj;exact (h.oth x hx).2 j bs hj
 ·rcases e with (e | e | e) | e
  ·exact ⟨.frm,by rw [e];exact t3⟩
  ·exact ⟨.tkn,by rw [e];exact t5⟩
  ·exact ⟨.fre,e⟩
  ·exact ⟨.file i,by rw [e];exact k1⟩
 ·intro r k hk
  rcases soFre_old hk with ⟨g,_⟩ | ⟨_,g⟩
  ·exact Or.inl ⟨r,soCut_old g⟩
  ·rcases r4 k g with e | e
   ·exact Or.inl ⟨.fre,e⟩
   ·exact Or.inr e
set_option maxRecDepth 100000 in
set_option maxHeartbeats 1000000 in
theorem s_cut [Inhabited CapT] (h:St w so fs F N) (sb:Nat) (hs:so .sto=some sb) (i:Nat) (bs:List Int) (hi:fs i=some bs):Calls Tryz.prog 133 #[.pointer (some ⟨sb,0,none⟩),.int .i64 i] w (StP w so (fsPut fs i (some [])) F N (.int .i64 0)):=by
 obtain ⟨f,ls,h⟩:=h
 have h16:=h.i16 hi
 obtain ⟨kf,v,k1,k2,k3,k4⟩:=h.file i bs hi
 have hg:=sg_yes h sb hs i bs hi kf k1
 obtain ⟨sb',mb,fb,bb,kb,n,s,t1,t2,t3,t4,t5,t6,t7,t8,t9⟩:=h.top
 obtain rfl:sb=sb' :=by rw [hs] at t1;exact Option.some.inj t1
 obtain ⟨a,c,rfl,hc1,hc2⟩:=k3.len_int
 obtain ⟨L,hL⟩:∃L,(ls i).length=L:=⟨_,rfl⟩
 have hL8:L≤8:=by have:=k4.len;have:=k4.most;omega
 have hne:∀r r' k,so r=some k→so r' =some k→r=r' :=h.inj
 have n1:fb≠bb:=fun e=> by have:=hne _ _ _ t3 (e▸t4);cases this
 have n2:fb≠kb:=fun e=> by have:=hne _ _ _ t3 (e▸t5);cases this
 have n3:bb≠kb:=fun e=> by have:=hne _ _ _ t4 (e▸t5);cases this
 have hapt:∀r k,so r=some k→r≠ .frm→r≠ .tkn→r≠ .fre→¬(k=fb∨k=kb∨so .fre=some k):=fun r k hk e1 e2 e3 hh=> by
  rcases hh with hh | hh | hh
  ·exact e1 (hne _ _ _ hk (by rw [hh];exact t3))
  ·exact e2 (hne _ _ _ hk (by rw [hh];exact t5))
  ·exact e3 (hne _ _ _ hk hh)
 have c1:=t6.rd
 have c2:=k2.rd
 rw [hL] at c2 k3 hc1
 have H:=Lib.hid (And.intro h (And.intro h16 (And.intro hi (And.intro k1 (And.intro k2 (And.intro k3 (And.intro k4 hL)))))))
 have HT:=Lib.hid (And.intro t1 (And.intro t2 (And.intro t3 (And.intro t4 (And.intro t5 (And.intro t6 (And.intro t7 (And.intro t8 t9))))))))
 have HA:=Lib.hid hapt
 have HN:=Lib.hid (And.intro n1 (And.intro n2 n3))
 clear h h16 hi k1 k2 k3 k4 t1 t2 t3 t4 t5 t6 t7 t8 t9 hs hne hapt n1 n2 n3 hL hc1
 go_enter Tryz.func133,Tryz.ntmps133
 go_wp2_with (go_at_call 186;refine hg.mono ?_;rintro e w' ⟨rfl,rfl⟩)
 go_loopw [29] (fun v29 wr=> ∃m:Nat,m≤L∧v29= .int .i64 m∧CutR w fb bb kb (so .fre) f (ls i) m wr) (fun v29 _=> L - (intOf v29).toNat)
 case atStart=> exact ⟨0,Nat.zero_le _,rfl,f,so .fre,HT.out.2.2.2.2.2.2.2.2,GaveL.nil f,Upd.refl _ _,fun g hg=> Or.inl hg⟩
 case round=>
  obtain ⟨m,hm,rfl,hR⟩:=hrel
  have HR:=Lib.hid hR
  clear hR
  by_cases hlt:m < L
  ·have hx:∃j:Nat,(ls i)[m]? =some (j:Int)∧f.has j:=by
    obtain ⟨h,h16,hi,k1,k2,k3,k4,hL⟩:=H.out
    have hml:m < (ls i).length:=by omega
    obtain ⟨j,e,hj⟩:=k4.has _ (List.getElem_mem hml)
    exact ⟨j,by rw [List.getElem?_eq_getElem hml,e],hj⟩
   obtain ⟨j,hxj,hj⟩:=hx
   obtain ⟨f',row',r1,r2,r3,r4⟩:=HR.out
   have hj' :f'.has j:=by
    obtain ⟨h,h16,hi,k1,k2,k3,k4,hL⟩:=H.out
    refine (r2.oth j (fun hmem=> ?_)).2 hj
    have hnd:=k4.nod
    obtain ⟨q,hq,hqe⟩:=List.getElem_of_mem hmem
    rw [List.length_take] at hq
    rw [List.getElem_take] at hqe
    have h1:(ls i)[q]? =some (j:Int):=by rw [List.getElem?_eq_getElem (by omega),hqe]
    have:=(List.getElem?_inj (by omega) hnd).1 (h1.trans hxj.symm)
    omega
   have hrne:∀g,row' =some g→g≠fb∧g≠bb∧g≠kb:=fun g hg=> by
    obtain ⟨t1,t2,t3,t4,t5,t6,t7,t8,t9⟩:=HT.out
    have h:=H.out.1
    rcases r4 g hg with e | e
    ·refine ⟨fun e2=> ?_,fun e2=> ?_,fun e2=> ?_⟩
     ·have:=h.inj _ _ _ e (e2▸t3);cases this
     ·have:=h.inj _ _ _ e (e2▸t4);cases this
     ·have:=h.inj _ _ _ e (e2▸t5);cases this
    ·have l1:=h.lt _ _ t3
     have l2:=h.lt _ _ t4
     have l3:=h.lt _ _ t5
     omega
   have hgv:=give_is r1 HN.out.1 HN.out.2.1 HN.out.2.2 hrne j hj'
   have k3r:=(H.out.2.2.2.2.2.1.upd r3 (fun g hg=> HA.out _ _ hg (by simp) (by simp) (by simp))).rd
   obtain ⟨A,rfl,hAc⟩:=k3r m (.int .i64 j) (by simp [icells,hxj])
   have i1:(m:Int) < L:=by omega
   have i2:(0:Int)≤m:=by omega
   have d1:decide ((m:Int) < (L:Int))=true:=by simp;omega
   have H5:=Lib.hid (And.intro hxj (And.intro r1 (And.intro r2 (And.intro r3 r4))))
   clear k3r r1 r2 r3 r4 hxj hj hj' hrne
   go_wp2_with (go_at_call 76;(with_reducible refine hgv.mono ?_);rintro e w3 ⟨rfl,f3,row3,hq⟩;have H6:=Lib.hid hq;clear hq hgv)
   go_roundw
   case rel=>
    obtain ⟨g1,g2,g3,g4⟩:=H6.out
    obtain ⟨hxj,r1,r2,r3,r4⟩:=H5.out
    refine ⟨m+1,by omega,by go_num,f3,row3,g1,?_,r3.trans g3 (fun k hk e=> ?_),fun g hg=> ?_⟩
    ·rw [take_snoc' hxj];exact r2.snoc g2
    ·rcases e with e | e | e
     ·exact Or.inl e
     ·exact Or.inr (Or.inl e)
     ·rcases r4 k e with e | e
      ·exact Or.inr (Or.inr e)
      ·omega
    ·rcases g4 g hg with e | e
     ·exact r4 g e
     ·have:=r3.size;exact Or.inr (by omega)
   case measure=> simp [intOf] <;> omega
  ·have d1:decide ((m:Int) < (L:Int))=false:=by simp;omega
   obtain ⟨f',row',r1,r2,r3,r4⟩:=HR.out
   have hk2:=Blk.upd r3 H.out.2.2.2.2.1 (HA.out _ _ H.out.2.2.2.1 (by simp) (by simp) (by simp))
   have c3:=hk2.rd
   have f3:=hk2.nf
   have HZ:=Lib.hid (And.intro r1 (And.intro r2 (And.intro r3 (And.intro r4 hk2))))
   have hm' :m=L:=by omega
   have HM:=Lib.hid hm'
   clear r1 r2 r3 r4 hk2 c2 hm'
   go_wp2_with (fail)
   go_ret
   obtain ⟨h,h16,hi,k1,k2,k3,k4,hL⟩:=H.out
   obtain ⟨t1,t2,t3,t4,t5,t6,t7,t8,t9⟩:=HT.out
   obtain ⟨r1,r2,r3,r4,hk2⟩:=HZ.out
   have hkz:=((hk2.set 0 (.int .i64 0)).set 1 (.slice none 0 0)).of (show _= #[Value.int .i64 0,.slice none 0 0] from rfl)
   have uz:Upd (fun k=> k=kf) wr ((wr.setCell ⟨kf,0,none⟩ (.int .i64 0)).setCell ⟨kf,1,none⟩ (.slice none 0 0)):=((Upd.refl (fun k=> k=kf) wr).setCell (p:=⟨kf,0,none⟩) (fun _=> rfl) _).setCell (p:=⟨kf,1,none⟩) (fun _=> rfl) _
   rw [HM.out,←hL,List.take_length] at r2
   exact ⟨rfl,cut_done h h16 hi k1 hkz k4 ⟨t1,t2,t3,t4,t5,t6,t7,t8,t9⟩ r1 r2 r3 r4 uz⟩
theorem St.sto [Inhabited CapT] (h:St w so fs F N):∃sb,so .sto=some sb∧sb < w.heap.size:=by
 obtain ⟨f,ls,h⟩:=h
 obtain ⟨sb,mb,fb,bb,kb,n,s,t1,_⟩:=h.top
 exact ⟨sb,t1,h.lt _ _ t1⟩
theorem St.frm [Inhabited CapT] (h:St w so fs F N):∃sb fb,so .sto=some sb∧so .frm=some fb∧w.cell? ⟨sb,0,none⟩=some (.pointer (some ⟨fb,0,none⟩)):=by
 obtain ⟨f,ls,h⟩:=h
 obtain ⟨sb,mb,fb,bb,kb,n,s,t1,t2,t3,t4,t5,t6,t7⟩:=h.top
 exact ⟨sb,fb,t1,t3,t6.cell rfl⟩
theorem St.map [Inhabited CapT] (h:St w so fs F N) (sb:Nat) (hs:so .sto=some sb):∃mb n s,so .mp=some mb∧MapI w Tryz.prog 3 mb n s (filM fs so)∧n≤N∧w.cell? ⟨sb,1,none⟩=some (.map (some mb)):=by
 obtain ⟨f,ls,h⟩:=h
 obtain ⟨sb',mb,fb,bb,kb,n,s,t1,t2,t3,t4,t5,t6,t7,t8,t9⟩:=h.top
 obtain rfl:sb=sb' :=by rw [hs] at t1;exact Option.some.inj t1
 exact ⟨mb,n,s,t2,t7,t8,t6.cell rfl⟩
theorem drop_done [Inhabited CapT] {w w1 w2:World} {so so1:SRl→Option Nat} {i:Nat} (h16:i < 16) (h1:St w1 so1 (fsPut fs i (some [])) F N) (hF:OFr so so1 w w1) (hs1:so1 .sto=so .sto) (hs2:so1 .frm=so .frm) {mb:Nat} (hmb:so1 .mp=some mb) (hu:Upd (fun j=> j=mb) w1 w2)
  {n s' :Nat} (hn:n≤N) (hM' :MapI w2 Tryz.prog 3 mb n s' (mdel (filM (fsPut fs i (some [])) so1) i)):∃so',St w2 so' (fsPut fs i none) F N∧OFr so so' w w2∧so' .sto=so .sto∧so' .frm=so .frm:=by
 obtain ⟨f,ls,h⟩:=h1
 obtain ⟨sb,mb',fb,bb,kb,n',s,t1,t2,t3,t4,t5,t6,t7,t8,t9⟩:=h.top
 obtain rfl:mb=mb' :=by rw [hmb] at t2;exact Option.some.inj t2
 have hne:∀r k,so1 r=some k→r≠ .mp→¬k=mb:=fun r k hk hr e=> hr (h.inj r .mp k hk (by rw [e];exact hmb))
 have hz:=hu.size
 have e2:fsPut (fsPut fs i (some [])) i none=fsPut fs i none:=by
  funext j;unfold fsPut;split <;> rfl
 have hold:∀r b,soPut so1 i none none r=some b→so1 r=some b:=fun r b hb=> by
  rcases soPut_old hb with ⟨g,_⟩ | ⟨_,g⟩ | ⟨_,g⟩
  ·exact g
  ·cases g
  ·cases g
 refine ⟨soPut so1 i none none,⟨f,ls,fun r r' k k1 k2=> h.inj r r' k (hold _ _ k1) (hold _ _ k2),fun r k k1=> ?_,⟨sb,mb,fb,bb,kb,n,s',t1,t2,t3,t4,t5,Blk.upd hu t6 (hne _ _ t1 (by simp)),?_,hn,t9.upd hu (hne _ _ t3 (by simp)) (hne _ _ t4 (by simp)) (hne _ _ t5 (by simp)) (fun g hg=> hne _ _ hg (by simp))⟩,?_,?_,?_,?_,fun x hx=> ⟨(h.oth x hx).1,fun j bs hj=> ?_⟩⟩,⟨hF.1.trans (hu.mono (fun k _ (e:k=mb)=> (⟨.mp,by rw [e];exact hmb⟩:∃r,so1 r=some k))) (fun k hk ⟨r,hr⟩=> ?_),fun r k hk=> ?_⟩,hs1,hs2⟩
 ·have:=h.lt r k (hold _ _ k1);omega
 ·rw [filM_del _ so1 i none none,e2] at hM'
  exact hM'
 ·intro j bs hj
  have e:j≠i:=fun e=> by rw [e,fsPut_eq] at hj;cases hj
  rw [fsPut_ne _ _ e] at hj
  obtain ⟨k,v,j1,j2,j3,j4⟩:=h.file j bs (by rw [fsPut_ne _ _ e];exact hj)
  refine ⟨k,v,by simp [soPut,e,j1],Blk.upd hu j2 (hne _ _ j1 (by simp)),?_,j4⟩
  simp only [soPut,if_neg e]
  exact j3.upd hu (fun g hg=> hne _ _ hg (by simp))
 ·intro j hj
  rw [fsPut_ne _ _ (by omega)]
  have:=h.far j hj
  rwa [fsPut_ne _ _ (by omega)] at this
 ·intro j j' bs bs' x hj hj'
  have e:j≠i:=fun e=> by rw [e,fsPut_eq] at hj;cases hj
  have e' :j' ≠i:=fun e=> by rw [e,fsPut_eq] at hj';cases hj'
  rw [fsPut_ne _ _ e] at hj
  rw [fsPut_ne _ _ e'] at hj'
  exact h.apart j j' bs bs' x (by rw [fsPut_ne _ _ e];exact hj) (by rw [fsPut_ne _ _ e'];exact hj')
 ·have h1:=usedN_put fs i (some []) 16 h16
  have h2:=usedN_put fs i none 16 h16
  have h3:blks (some [])=0:=rfl
  have h4:blks none=0:=rfl
  have:=h.sum
  omega
 ·have e:j≠i:=fun e=> by rw [e,fsPut_eq] at hj;cases hj
  rw [fsPut_ne _ _ e] at hj
  exact (h.oth x hx).2 j bs (by rw [fsPut_ne _ _ e];exact hj)
 ·rcases hF.2 r k hr with e | e
  ·exact e
  ·omega
 ·rcases hF.2 r k (hold _ _ hk) with e | e
  ·exact Or.inl e
  ·exact Or.inr e
set_option maxRecDepth 100000 in
theorem s_drop [Inhabited CapT] (h:St w so fs F N) (sb:Nat) (hs:so .sto=some sb) (i:Nat) (bs:List Int) (hi:fs i=some bs):Calls Tryz.prog 188 #[.pointer (some ⟨sb,0,none⟩),.int .i64 i] w (StP w so (fsPut fs i none) F N (.int .i64 0)):=by
 have hc:=s_cut h sb hs i bs hi
 have h16:i < 16:=by obtain ⟨f,ls,h⟩:=h;exact h.i16 hi
 have H:=Lib.hid (And.intro hs h16)
 clear h hi hs h16
 go_enter Tryz.func188,Tryz.ntmps188
 go_wp2_with (first
  | (go_at_call 133;(with_reducible refine hc.mono ?_);rintro e w1 ⟨rfl,so1,hS,hF,hs1,hs2⟩;clear hc;obtain ⟨mb,n,s,hmb,hM,hnN,hcc⟩:=St.map hS sb (hs1.trans H.out.1);have c1:=hcc;have H1:=Lib.hid (And.intro hS (And.intro hF (And.intro hs1 (And.intro hs2 (And.intro hmb (And.intro hM hnN))))));clear hS hF hs1 hs2 hM hmb hcc hnN)
  | (at_delete;refine wp_mapdel _ rfl _ _ 224 3 rfl 294 Tryz.underlying3 Tryz.underlying224 mb n s _ rfl H1.out.2.2.2.2.2.1 i (wf_16 i H.out.2) rfl ?_;intro w2 hM2 hu2;have H2:=Lib.hid (And.intro hM2 hu2);clear hM2 hu2))
 go_ret
 obtain ⟨hS,hF,hs1,hs2,hmb,hM,hnN⟩:=H1.out
 obtain ⟨hM2,hu2⟩:=H2.out
 exact ⟨rfl,drop_done H.out.2 hS hF hs1 hs2 hmb hu2 hnN hM2⟩
end
end Go.Proofs.YtjpjafajploiaaaGreatDoor
/-
 The store:Read.
-/
namespace Go.Proofs.YtjpjafajploiaaaGreatDoor
open Go.RowKit Own RegJ
open Go.Lib
theorem RowV.len_u8 {w:World} {E:TypeId} {v:Value} {xs:List Int} {b:Option Nat} (h:RowV w E v (ucells xs) b):∃a c,v= .slice a xs.length c∧xs.length≤c∧c≤maxLen:=by
 obtain ⟨a,c,h1,h2,h3⟩:=h.slice
 simp only [ucells,List.length_map] at h1 h2
 exact ⟨a,c,h1,h2,h3⟩
theorem RowV.news {w:World} {E:TypeId} {a:Option Addr} {n c:Nat} {xs:List Value} {b:Option Nat} (h:RowV w E (.slice a n c) xs b):0 < xs.length→∃A,a=some A∧∀(j:Nat) (u:Value),xs[j]? =some u→w.cell? (A.add j)=some u:=fun h0=> by
 have hr:=h.rd
 obtain ⟨u,hu⟩:∃u,xs[0]? =some u:=⟨_,List.getElem?_eq_getElem h0⟩
 obtain ⟨A,rfl,_⟩:=hr 0 u hu
 refine ⟨A,rfl,fun j u hj=> ?_⟩
 obtain ⟨A',e,h2⟩:=hr j u hj
 cases e;exact h2
structure RdO [Inhabited CapT] (w0:World) (so:SRl→Option Nat) (fs:Sfs) (F N:Nat) (f:Fs) (ls:Nat→List Int) (cs ob sb:Nat) (ys:List Int) (w:World):Prop where
 st:StI w so fs F N f ls
 sto:so .sto=some sb
 cel:Blk w cs #[.pointer (some ⟨sb,0,none⟩)] 141
 out:∃v b,Blk w ob #[v] 22∧RowV w 5 v (ucells ys) b∧∀g,b=some g→w0.heap.size≤g∧g≠ob∧g≠cs
 bel:Below w0.heap.size w0 w
 hob:w0.heap.size≤ob∧ob≠cs∧w0.heap.size≤cs
 own:∀r k,so r=some k→k < w0.heap.size
section
variable {w0 w w' :World} {so:SRl→Option Nat} {fs:Sfs} {F N:Nat} {f:Fs} {ls:Nat→List Int} {cs ob sb:Nat} {ys:List Int}
set_option maxRecDepth 100000 in
theorem rd_one [Inhabited CapT] (h:RdO w0 so fs F N f ls cs ob sb ys w) (hy:ys.length≤1000) (j:Nat) (hj:f.has j) (at' k dn:Nat) (ha:at' < 64) (hk:at' +k≤64):
  Calls Tryz.prog 225 #[.int .i64 j,.int .i64 at',.int .i64 k,.int .i64 dn,.pointer (some ⟨cs,0,none⟩),.pointer (some ⟨ob,0,none⟩)] w fun e w' => e= .returned (.tuple #[])∧RdO w0 so fs F N f ls cs ob sb (ys++f.get j at' k) w' :=by
 obtain ⟨sb',mb,fb,bb,kb,n,s,t1,t2,t3,t4,t5,t6,t7,t8,t9⟩:=h.st.top
 obtain rfl:sb=sb' :=by have:=h.sto;rw [this] at t1;exact Option.some.inj t1
 obtain ⟨v,b,o1,o2,o3⟩:=h.out
 obtain ⟨a,c,rfl,-,-⟩:=o2.len_u8
 have hrd:=fread_is t9 j hj at' k ha hk
 have hgl:=get_len t9.ok hj.1 hk
 have c1:=h.cel.rd
 have c2:=t6.rd
 have H:=Lib.hid h
 have HO:=Lib.hid (And.intro o1 (And.intro o2 (And.intro o3 (And.intro hgl hy))))
 obtain ⟨zs,hzs⟩:∃zs,f.get j at' k=zs:=⟨_,rfl⟩
 rw [hzs] at hrd HO ⊢
 clear h t1 t2 t3 t4 t5 t6 t7 t8 t9 o1 o2 o3 hgl hzs hj hy
 go_enter Tryz.func225,Tryz.ntmps225
 go_wp2_with (first
  | (go_at_call 226;(with_reducible refine hrd.mono ?_);rintro e w1 ⟨v1,b1,rfl,hR,hb1,hB⟩;have ho1:=Blk.below hB HO.out.1 HO.out.1.lt;have c3:=ho1.rd;have f3:=ho1.nf;have hs1:=hR.len_u8;obtain ⟨a1,k1,rfl,-,-⟩:=hs1;have hnw:=hR.news;have H1:=Lib.hid (And.intro hR (And.intro hb1 (And.intro hB (And.intro ho1 hnw))));clear hrd hR hb1 hB ho1 hnw)
  | (at_builtin;refine wp_appV rfl (.tmp 23) (.tmp 24) 22 5 (.int .u8 0) 1 (by kernel_rfl) rfl (by decide) under8 rfl (.slice a ys.length c) (ucells ys) b rfl (HO.out.2.1.below H1.out.2.2.1) a1 zs.length k1 (ucells zs) (by simp) rfl (fun h0=> H1.out.2.2.2.2 (by simpa using h0)) (ucells_one zs) (by (have:=HO.out.2.2.2;simp;omega)) ?_;intro v' w2 b' hI hb' hu;obtain ⟨a2,c2,rfl,-,-⟩:=hI.slice;have ho2:=Blk.upd hu H1.out.2.2.2.1 (fun e=> (HO.out.2.2.1 _ e).2.1 rfl);have c4:=ho2.rd;have f4:=ho2.nf;have H2:=Lib.hid (And.intro hI (And.intro hb' (And.intro hu ho2)));clear hI hb' hu ho2))
 go_end0
 obtain ⟨hR,hb1,hB,ho1,-⟩:=H1.out
 obtain ⟨hI,hb',hu,ho2⟩:=H2.out
 obtain ⟨o1,o2,o3,hgl,hy⟩:=HO.out
 have h:=H.out
 rw [show (ucells ys++ucells zs).length=ys.length+zs.length by simp] at hI
 have e5:(ucells ys++ucells zs)=ucells (ys++zs):=by simp [ucells]
 have u1:Upd (fun k=> b=some k∨k=ob) w w2:=(Upd.of_below hB).trans (hu.mono (fun k _ e=> Or.inl e)) (fun _ _ e=> e)
 have u2:=u1.setCell (p:=⟨ob,0,none⟩) (fun _=> Or.inr rfl) (.slice a2 (ys.length+zs.length) c2)
 have hz1:=hB.size
 have hfar:∀k,(b=some k∨k=ob)→w0.heap.size≤k:=fun k e=> by
  rcases e with e | e
  ·exact (o3 k e).1
  ·rw [e];exact h.hob.1
 have hb3:∀g,b' =some g→w0.heap.size≤g∧g≠ob∧g≠cs:=fun g hg=> by
  rcases hb' g hg with e | e
  ·exact o3 g e
  ·have l1:=o1.lt
   have l2:=h.cel.lt
   have l3:=h.bel.size
   refine ⟨by omega,fun e2=> by omega,fun e2=> by omega⟩
 refine ⟨rfl,h.st.upd u2 (fun r k hk e=> by have:=h.own r k hk;have:=hfar k e;omega),h.sto,Blk.upd u2 h.cel (fun e=> ?_),⟨.slice a2 (ys.length+zs.length) c2,b',(ho2.set 0 _).of rfl,?_,hb3⟩,h.bel.trans (u2.below h.bel.size hfar),h.hob,h.own⟩
 ·rcases e with e | e
  ·exact (o3 _ e).2.2 rfl
  ·exact h.hob.2.1 e.symm
 ·have h5:=hI.upd ((Upd.refl (fun k=> k=ob) w2).setCell (p:=⟨ob,0,none⟩) (fun _=> rfl) (.slice a2 (ys.length+zs.length) c2)) (fun g hg e=> (hb3 g hg).2.1 e)
  rw [←e5]
  exact h5
theorem FileI.get {l bs:List Int} (h:FileI f l bs) (hok:f.Ok) {q at' k j:Nat} (hj:l[q]? =some (j:Int)) (hk:at' +k≤64) (hb:64*q+at' +k≤bs.length):f.get j at' k=(bs.drop (64*q+at')).take k:=by
 have hql:=(List.getElem?_eq_some_iff.1 hj).1
 obtain ⟨i,e,hi⟩:=h.has j (List.mem_of_getElem? hj)
 obtain rfl:j=i:=by omega
 have hl:=get_len hok hi.1 hk
 apply List.ext_getElem?
 intro p
 by_cases hp:p < k
 ·have h1:=get_at hok hi.1 hk p hp
  have h2:=h.byt (64*q+at' +p) (by omega)
  rw [show (64*q+at' +p) / 64=q by omega,show (64*q+at' +p) % 64=at' +p by omega] at h2
  have h3:(l.getD q 0).toNat=j:=by rw [List.getD_eq_getElem?_getD,hj];simp
  rw [h3] at h2
  rw [h2] at h1
  rw [List.getElem?_take_of_lt hp,List.getElem?_drop]
  rw [List.getD_eq_getElem?_getD,List.getD_eq_getElem?_getD] at h1
  rw [List.getElem?_eq_getElem (by omega),List.getElem?_eq_getElem (by omega)] at h1 ⊢
  simpa using h1
 ·rw [List.getElem?_eq_none (by omega),List.getElem?_eq_none (by simp;omega)]
theorem take_add {l:List Int} {off d k:Nat}:(l.drop off).take d++(l.drop (off+d)).take k=(l.drop off).take (d+k):=by
 rw [List.take_add,List.drop_drop]
set_option maxRecDepth 100000 in
set_option maxHeartbeats 1000000 in
theorem pieces_read [Inhabited CapT] (h:RdO w0 so fs F N f ls cs ob sb [] w) (i:Nat) (bs:List Int) (hi:fs i=some bs) (kf:Nat) (hkf:so (.file i)=some kf) (off n:Nat) (hn:off+n≤bs.length):
  Calls Tryz.prog 191 #[.pointer (some ⟨kf,0,none⟩),.int .i64 off,.int .i64 n,.func (.func 225) #[] #[.pointer (some ⟨cs,0,none⟩),.pointer (some ⟨ob,0,none⟩)]] w fun e w' => e= .returned (.tuple #[])∧RdO w0 so fs F N f ls cs ob sb ((bs.drop off).take n) w' :=by
 have h512:bs.length≤512:=by obtain ⟨_,_,_,_,_,k4⟩:=h.st.file i bs hi;exact k4.most
 have H:=Lib.hid (And.intro h (And.intro hi (And.intro hkf (And.intro hn h512))))
 have hn5:n≤512:=by omega
 have ho5:off≤512:=by omega
 clear h hi hkf hn h512
 go_enter Tryz.func191,Tryz.ntmps191
 go_wp2_with (fail)
 go_loopw [8] (fun v8 wr=> ∃d:Nat,d≤n∧v8= .int .i64 d∧RdO w0 so fs F N f ls cs ob sb ((bs.drop off).take d) wr) (fun v8 _=> n - (intOf v8).toNat)
 case atStart=> exact ⟨0,Nat.zero_le _,rfl,by simpa using H.out.1⟩
 case round=>
  obtain ⟨d,hd,rfl,hR⟩:=hrel
  by_cases hlt:d < n
  ·have hx:∃(q at' k j:Nat),off+d=64*q+at' ∧at' < 64∧k=Nat.min (n - d) (64 - at')∧(ls i)[q]? =some (j:Int)∧f.has j∧f.get j at' k=(bs.drop (off+d)).take k:=by
    obtain ⟨h,hi,hkf,hn,h512⟩:=H.out
    obtain ⟨k0,v,k1,k2,k3,k4⟩:=h.st.file i bs hi
    have hq:(off+d) / 64 < (ls i).length:=by rw [k4.len];omega
    obtain ⟨j,e,hj⟩:=k4.has _ (List.getElem_mem hq)
    obtain ⟨_,_,_,_,_,_,_,_,_,_,_,_,_,_,_,t9⟩:=h.st.top
    have hmn:Nat.min (n - d) (64 - (off+d) % 64)≤n - d:=Nat.min_le_left _ _
    have hmn2:Nat.min (n - d) (64 - (off+d) % 64)≤64 - (off+d) % 64:=Nat.min_le_right _ _
    have e2:off+d=64*((off+d) / 64)+(off+d) % 64:=by omega
    refine ⟨(off+d) / 64,(off+d) % 64,_,j,e2,by omega,rfl,by rw [List.getElem?_eq_getElem hq,e],hj,?_⟩
    rw [k4.get t9.ok (by rw [List.getElem?_eq_getElem hq,e]) (by omega) (by omega),←e2]
   obtain ⟨q,at',k,j,x1,x2,x3,x4,x5,x6⟩:=hx
   have e1:((off:Int)+d) % 64=(at' :Nat):=by omega
   have e2:((off:Int)+d) / 64=(q:Nat):=by omega
   have hk1:1≤k:=by
    have:Nat.min (n - d) (64 - at')=min (n - d) (64 - at'):=rfl
    omega
   have hk2:at' +k≤64∧d+k≤n:=by
    have:Nat.min (n - d) (64 - at')=min (n - d) (64 - at'):=rfl
    omega
   have hone:=rd_one hR (by simp;omega) j x5 at' k d x2 hk2.1
   rw [x6,take_add] at hone
   have d1:decide ((d:Int) < (n:Int))=true:=by simp;omega
   have d1n:decide (d < n)=true:=by simpa using hlt
   obtain ⟨k0,v,k1,k2,k3,k4⟩:=hR.st.file i bs H.out.2.1
   obtain rfl:kf=k0:=by have:=H.out.2.2.1;rw [this] at k1;exact Option.some.inj k1
   obtain ⟨a,c,rfl,-,-⟩:=k3.len_int
   have c1:=k2.rd
   obtain ⟨A,rfl,hAc⟩:=k3.rd q (.int .i64 j) (by simp [icells,x4])
   have hql:=(List.getElem?_eq_some_iff.1 x4).1
   obtain ⟨L,hL⟩:∃L,(ls i).length=L:=⟨_,rfl⟩
   rw [hL] at c1 hql
   have hL8:L≤8:=by have:=k4.len;have:=k4.most;omega
   have i1:(q:Int) < L:=by omega
   have i2:(0:Int)≤q:=by omega
   have HX:=Lib.hid (And.intro hk1 hk2)
   clear hR k1 k2 k3 k4 x1 x4 x5 x6 hL
   have hor:(((n:Int) - d=(k:Nat))∧(k:Int)≤64 - at')∨((64 - (at' :Int)=(k:Nat))∧(k:Int) < n - d):=by
    have:Nat.min (n - d) (64 - at')=min (n - d) (64 - at'):=rfl
    omega
   clear x3
   rcases hor with ⟨e3,e4⟩ | ⟨e3,e4⟩
   all_goals
    go_wp2_with (go_at_call 225;(with_reducible refine hone.mono ?_);rintro e w3 ⟨rfl,hq⟩;have H3:=Lib.hid hq;clear hq hone)
    go_roundw
    case rel=> exact ⟨d+k,HX.out.2.2,by go_num,H3.out⟩
    case measure=> have:=HX.out;simp [intOf] <;> omega
  ·have hdn:d=n:=by omega
   have HD:=Lib.hid (And.intro hR hdn)
   have d1:decide ((d:Int) < (n:Int))=false:=by simp;omega
   clear hR hdn
   go_wp2_with (fail)
   go_end0
   have:=HD.out.1
   rw [HD.out.2] at this
   exact ⟨rfl,this⟩
def readV (fs:Sfs) (id off n:Int):List Int×Int:=match fsAt fs id with
 | none=> ([],4)
 | some bs=> if off < 0∨n < 0 then ([],19) else ((bs.drop off.toNat).take n.toNat,0)
def SReadP (w:World) (ys:List Int) (er:Int) (e:Ending) (w' :World):Prop:=∃v b,e= .returned (.tuple #[v,.int .i64 er])∧RowV w' 5 v (ucells ys) b∧(∀g,b=some g→w.heap.size≤g)∧Below w.heap.size w w'
theorem SReadP.nil {er:Int} (hB:Below w.heap.size w w'):SReadP w [] er (.returned (.tuple #[.slice none 0 0,.int .i64 er])) w' :=⟨_,none,rfl,Or.inl ⟨rfl,rfl,rfl⟩,(fun g hg=> by cases hg),hB⟩
set_option maxRecDepth 100000 in
set_option maxHeartbeats 1000000 in
theorem s_read [Inhabited CapT] (h:St w so fs F N) (sb:Nat) (hs:so .sto=some sb) (id:Int) (hw:(Lit.int .i64 id).wf=true) (off n:Int) (hoff:off≤9223372036854775807) (hn:n≤9223372036854775807) (ys:List Int) (er:Int) (hr:readV fs id off n=(ys,er)):
  Calls Tryz.prog 189 #[.pointer (some ⟨sb,0,none⟩),.int .i64 id,.int .i64 off,.int .i64 n] w (SReadP w ys er):=by
 have hB0:Below w.heap.size w (w.alloc (.cells #[.pointer (some ⟨sb,0,none⟩)] 141)):=(Below.refl _ _).alloc (Nat.le_refl _) _
 have hb0:=Blk.new w #[.pointer (some ⟨sb,0,none⟩)] 141
 have c0:=hb0.rd
 unfold readV at hr
 cases hi:fsAt fs id with
 | none=>
  rw [hi] at hr;cases hr
  have hg:=sg_no (h.below hB0) sb hs id hw hi
  have HB:=Lib.hid hB0
  clear h hi hs hw hB0 hb0
  go_enter Tryz.func189,Tryz.ntmps189
  go_wp2_with (go_at_call 186;refine hg.mono ?_;rintro e w' ⟨rfl,rfl⟩)
  go_returns
  exact SReadP.nil HB.out
 | some bs=>
  rw [hi] at hr
  obtain ⟨i,rfl,hi⟩:=fsAt_some hi
  obtain ⟨f,ls,h⟩:=h
  have h1:=h.upd (Upd.of_below (F:=fun _=> False) hB0) (fun _ _ _ h=> h)
  obtain ⟨k,v,k1,k2,k3,k4⟩:=h1.file i bs hi
  have hg:=sg_yes h1 sb hs i bs hi k k1
  have c1:=k2.rd
  have h512:=k4.most
  by_cases hneg:off < 0∨n < 0
  ·simp only [if_pos hneg] at hr
   cases hr
   have HB:=Lib.hid hB0
   clear h h1 hi hs hw hB0 hb0 k1 k2 k3 k4
   rcases hneg with h0 | h0
   ·have d1:decide (off < 0)=true:=by simpa using h0
    clear h0
    go_enter Tryz.func189,Tryz.ntmps189
    go_wp2_with (go_at_call 186;refine hg.mono ?_;rintro e w' ⟨rfl,rfl⟩)
    go_returns
    exact SReadP.nil HB.out
   ·have d1:decide (n < 0)=true:=by simpa using h0
    clear h0
    go_enter Tryz.func189,Tryz.ntmps189
    by_cases h1:off < 0
    ·have d2:decide (off < 0)=true:=by simpa using h1
     clear h1
     go_wp2_with (go_at_call 186;refine hg.mono ?_;rintro e w' ⟨rfl,rfl⟩)
     go_returns
     exact SReadP.nil HB.out
    ·have d2:decide (off < 0)=false:=by simpa using h1
     clear h1
     go_wp2_with (go_at_call 186;refine hg.mono ?_;rintro e w' ⟨rfl,rfl⟩)
     go_returns
     exact SReadP.nil HB.out
  ·simp only [if_neg hneg] at hr
   obtain ⟨o,rfl⟩:=Int.eq_ofNat_of_zero_le (show 0≤off by omega)
   obtain ⟨m,rfl⟩:=Int.eq_ofNat_of_zero_le (show 0≤n by omega)
   simp only [Int.toNat_natCast] at hr
   have d1:decide ((o:Int) < 0)=false:=by simp
   have d2:decide ((m:Int) < 0)=false:=by simp
   clear hneg
   obtain ⟨L,hL⟩:∃L,bs.length=L:=⟨_,rfl⟩
   rw [hL] at c1 h512
   by_cases hge:L≤o
   ·have d3:decide ((o:Int)≥(L:Int))=true:=by simp;omega
    have d3n:decide (o≥L)=true:=by simpa using hge
    have hnil:(bs.drop o).take m= []:=by rw [List.drop_of_length_le (by omega)];simp
    rw [hnil] at hr
    cases hr
    have HB:=Lib.hid hB0
    clear h h1 hi hs hw hB0 hb0 k1 k2 k3 k4 hL hge hnil
    go_enter Tryz.func189,Tryz.ntmps189
    go_wp2_with (go_at_call 186;refine hg.mono ?_;rintro e w' ⟨rfl,rfl⟩)
    go_returns
    exact SReadP.nil HB.out
   ·cases hr
    have d3:decide ((o:Int)≥(L:Int))=false:=by simp;omega
    have d3n:decide (o≥L)=false:=by simpa using hge
    obtain ⟨k',hk'⟩:∃k' :Nat,k' =Nat.min m (L - o):=⟨_,rfl⟩
    have hmin:Nat.min m (L - o)=min m (L - o):=rfl
    have hq:(bs.drop o).take m=(bs.drop o).take k' :=by
     rw [hk',hmin]
     by_cases hc:m≤L - o
     ·rw [Nat.min_eq_left hc]
     ·rw [Nat.min_eq_right (by omega),List.take_of_length_le (by simp;omega),List.take_of_length_le (by simp;omega)]
    have hown:∀r k,so r=some k→k < w.heap.size:=h.lt
    have hrd:RdO w so fs F N f ls w.heap.size (w.heap.size+1) sb [] ((w.alloc (.cells #[.pointer (some ⟨sb,0,none⟩)] 141)).alloc (.cells #[.slice none 0 0] 22)):=by
     have hB1:Below (w.alloc (.cells #[.pointer (some ⟨sb,0,none⟩)] 141)).heap.size (w.alloc (.cells #[.pointer (some ⟨sb,0,none⟩)] 141)) ((w.alloc (.cells #[.pointer (some ⟨sb,0,none⟩)] 141)).alloc (.cells #[.slice none 0 0] 22)):=(Below.refl _ _).alloc (Nat.le_refl _) _
     refine ⟨h1.upd (Upd.of_below (F:=fun _=> False) hB1) (fun _ _ _ h=> h),hs,hb0.alloc _,⟨.slice none 0 0,none,Blk.new' (by simp),Or.inl ⟨rfl,rfl,rfl⟩,fun g hg=> by cases hg⟩,hB0.trans (hB1.mono (by simp)),⟨by omega,by omega,Nat.le_refl _⟩,hown⟩
    have hpc:=pieces_read hrd i bs hi k k1 o k' (by rw [hL,hk',hmin];omega)
    have hor:((m:Int)=(k' :Nat)∧(m:Int)≤L - o)∨(((L:Int) - o=(k' :Nat))∧(L:Int) - o < m):=by omega
    have k5:=k2.alloc (.cells #[.slice none 0 0] 22)
    rw [hL] at k5
    have c5:=k5.rd
    clear k5
    rw [hq]
    generalize (bs.drop o).take k' =ys at*
    clear h h1 hi hs hw hB0 hb0 k1 k2 k3 k4 hL hk' hrd hown hq hmin
    have hok:o < L:=by omega
    rcases hor with ⟨e3,e4⟩ | ⟨e3,e4⟩
    ·obtain rfl:m=k' :=by omega
     clear e3
     go_enter Tryz.func189,Tryz.ntmps189
     go_wp2_with (first
      | (go_at_call 186;refine hg.mono ?_;rintro e w' ⟨rfl,rfl⟩)
      | (go_at_call 191;(with_reducible refine hpc.mono ?_);rintro e w3 ⟨rfl,hq⟩;obtain ⟨v3,b3,q1,q2,q3⟩:=hq.out;have c3:=q1.rd;have H3:=Lib.hid (And.intro q2 (And.intro q3 hq.bel));clear hq hpc q1 q2 q3))
     go_returns
     exact ⟨v3,b3,rfl,H3.out.1,(fun g hg=> (H3.out.2.1 g hg).1),H3.out.2.2⟩
    ·go_enter Tryz.func189,Tryz.ntmps189
     go_wp2_with (first
      | (go_at_call 186;refine hg.mono ?_;rintro e w' ⟨rfl,rfl⟩)
      | (go_at_call 191;(with_reducible refine hpc.mono ?_);rintro e w3 ⟨rfl,hq⟩;obtain ⟨v3,b3,q1,q2,q3⟩:=hq.out;have c3:=q1.rd;have H3:=Lib.hid (And.intro q2 (And.intro q3 hq.bel));clear hq hpc q1 q2 q3))
     go_returns
     exact ⟨v3,b3,rfl,H3.out.1,(fun g hg=> (H3.out.2.1 g hg).1),H3.out.2.2⟩
end
end Go.Proofs.YtjpjafajploiaaaGreatDoor
