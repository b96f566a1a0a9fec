/-
  slices.Sorted(maps.Keys(m)) at a map by integers: a row of the call's own that holds the keys in order.
-/
import Derived.Test.YtjpjafajploiaaaGreatDoorUnixAlone01
import Derived.Test.YtjpjafajploiaaaGreatDoorUnixAlone04
import Derived.Test.YtjpjafajploiaaaGreatDoorUnixAlone05
import Derived.Test.YtjpjafajploiaaaGreatDoorUnixAlone33
import Derived.Test.YtjpjafajploiaaaGreatDoorUnixAlone32
set_option linter.unusedSimpArgs false
set_option linter.unusedVariables false
namespace Go.Proofs.YtjpjafajploiaaaGreatDoor
open Go.RowKit Go.Shelf Go.Proofs
theorem sorts_in (m:Nat):AnyZI.SortsIn Tryz.prog Tryz.sortedA_ren Fence.wide m:=
  ⟨fun blk off cap ss W hH hblk hsz=> callsIn_wide.2 (AnyM.slices_Sort_int Tryz.sortA blk off cap ss W hH hblk hsz),
   fun p cap W=> callsIn_wide.2 (AnyM.slices_Sort_int_none Tryz.sortA p cap W)⟩
abbrev keyW (w:World) (b:Nat):World:=w.alloc (.cells #[.map (some b)] 160)
abbrev keyV (w:World):Value:= .func (.func 233) #[] #[.pointer (some ⟨w.heap.size,0,none⟩)]
theorem keys_is (b:Nat) (w:World):Calls Tryz.prog 201 #[.map (some b)] w fun e w' => e= .returned (keyV w)∧w' =keyW w b:=
 callsIn_wide.1 (AnyZI.keys_in Tryz.keysA Fence.wide 5 trivial rfl (some b) w)
theorem rowV_of {w:World} {base n:Nat} {T:TypeId} {v:Value} {xs:List Value} (h:w.ownsRow base T 1 v n xs):∃row,RowV w T v xs row∧∀g,row=some g→base≤g:=by
 obtain ⟨h0,h1⟩:=h
 rw [Nat.mul_one] at h0
 rcases h1 with ⟨rfl,rfl⟩ | ⟨g,cap,cur,rfl,hb,hg,hn,hm,hs,ht⟩
 ·exact ⟨none,.inl ⟨rfl,List.length_eq_zero_iff.1 h0,rfl⟩,fun g hg=> by cases hg⟩
 ·rw [Nat.mul_one] at hs ht
  have e:xs++cur.toList.drop n=cur.toList:=by rw [←ht,List.take_append_drop]
  refine ⟨some g,.inr ⟨g,cap,cur.toList.drop n,by rw [h0],rfl,?_,by rw [e];simpa using hs.symm,hm⟩,fun g' hg' => by cases hg';exact hb⟩
  rw [e]
  exact hg
def SortedP (w:World) (m:Int→Option Value) (e:Ending) (w' :World):Prop:=∃v row ss,e= .returned v∧(∀x∈ss,(m x).isSome=true)∧ss.length≤100000∧RowV w' 3 v (Own.icells ss) row∧(∀g,row=some g→w.heap.size≤g)∧Below w.heap.size w w'
theorem sorted_is {w:World} {b n s:Nat} {m:Int→Option Value} (h:MapI w Tryz.prog 3 b n s m) (hs:s≤100000):
  Calls Tryz.prog 154 #[keyV w] (keyW w b) (SortedP w m):=by
 obtain ⟨D0,hown,hD,hm⟩:=h
 have hbl:=hown.lt
 have hseq:SeqGives Fence.wide 2 Tryz.prog 233 #[.pointer (some ⟨w.heap.size,0,none⟩)] encZ (fun ss=> ss.Perm (intKeys D0)) (Maps.size D0) (keyW w b):=
  AnyZI.keys_gives (ρ:=Tryz.keysA_ren) {Tryz.keysA with} Fence.wide _ trivial rfl (by omega) w.heap.size b n D0 _ (by simp) (by simp) (by
   obtain ⟨es,clock,hb,Ft,hs,hD⟩:=hown
   exact ⟨es,clock,(Below.heap_alloc _ _ b hbl).trans hb,Ft,hs,hD⟩)
 have cS:=AnyZI.sorted_in Tryz.sortedA Fence.wide 5 trivial trivial trivial trivial rfl (by omega) (sorts_in _) (enters_of Tryz.func204 (by kernel_rfl) rfl) 233 #[.pointer (some ⟨w.heap.size,0,none⟩)] trivial (enters_of Tryz.func233 (by kernel_rfl) rfl) _ _ (by unfold maxLen;omega) (by omega) _ hseq
 change CallsIn _ _ Tryz.prog 154 _ _ _ at cS
 refine (callsIn_wide.1 cS).mono ?_
 rintro e w' ⟨v,ss,rfl,hp,hrow,hnil,hB⟩
 obtain ⟨row,hr,hb⟩:=rowV_of hrow
 have hal:=(Below.refl w.heap.size w).alloc (Nat.le_refl _) (.cells #[.map (some b)] 160)
 refine ⟨v,row,ss.mergeSort (fun x y=> decide (x≤y)),rfl,fun x hx=> ?_,?_,hr,fun g hg=> Nat.le_trans (by simp) (hb g hg),hal.trans (hB.mono hal.size)⟩
 ·have hx1:x∈ss:=(List.mergeSort_perm ss _).mem_iff.1 hx
  have hx2:x∈intKeys D0:=hp.mem_iff.1 hx1
  have hwf:=intKeys_wf hown Tryz.underlying3 x hx2
  rw [←(hm x hwf).1]
  obtain ⟨es,rfl,hko⟩:=hown.keysOf
  obtain ⟨p,hp',rfl⟩:=List.mem_map.1 hx2
  obtain ⟨v,hv⟩:=hko p hp'
  obtain ⟨y,_,hy,hl⟩:=Maps.keyOf_i64 Tryz.underlying3 hv
  rw [Maps.has_eq,List.any_eq_true]
  exact ⟨p,hp',by rw [hy];simp [Lit.sameKey,Go.intOf]⟩
 ·rw [(List.mergeSort_perm ss _).length_eq,hp.length_eq]
  obtain ⟨es,rfl,hko⟩:=hown.keysOf
  rw [show (intKeys (DataW.map es)).length=es.length from List.length_map _]
  have:Maps.size (.map es:DataW Value)=es.length:=rfl
  omega
end Go.Proofs.YtjpjafajploiaaaGreatDoor
/-
 The slab:a piece of 64 bytes taken:a frame of its own.
-/
namespace Go.Proofs.YtjpjafajploiaaaGreatDoor
open Go.RowKit Own RegJ Two
open Go.Lib hiding intOf
theorem wp_mapins {P:Program} (w:World) {ops:Array Oper} {rest:List Oper} {o:Oper} {a:Act} {Q:Exit→Act→World→Prop} (hg:o.guard=none) (mo x v:Operand) (t:TypeId) (hop:o.op=Op.insert t mo x v) (k e:TypeId) (hk:P.underlying k=some (.int .i64)) (ht:P.underlying t=some (.map k e)) (b n s:Nat) (m:Int→Option Value)
  (hm:a.eval mo= .map (some b)) (hown:MapI w P k b n s m) (hn:n < maxLen) (i:Int) (hi:(Lit.int .i64 i).wf=true) (val:Value) (hx:a.eval x= .int .i64 i) (hv:a.eval v=val)
  (hK:∀w',MapI w' P k b (n+1) (if (m i).isSome then s else s+1) (mput m i val)→Upd (fun j=> j=b) w w' →wpList P ops Q rest (a.put o.dst undef) w'):wpList P ops Q (o::rest) a w:=by
 obtain ⟨D,h1,h2,h3⟩:=hown
 refine wpList_plain hg fun K' hK' => ?_
 obtain ⟨w',hrun,r1,r2⟩:=h1.update (Maps.int_keyed hk) ht hn (Maps.keyOf_int_mk hk hi) (show AnyR val=some (.held val,[]) from rfl)
 unfold Oper.wp
 simp [execOp,hop,hm,hx,hv,hrun,Result.andThen]
 exact hK' _ _ (hK w' (MapI.put h1 hk h2 h3 i hi val r1) (Upd.grown r2 (fun j hj=> by cases hj;rfl)))
section
variable {w0 w w' :World} {O1:Nat→Prop} {fdb vb tb fb sb pb mb:Nat} {ns:NSt} {c N M:Nat} {S:FS} {po:PRl→Option Nat} {fo:Nat→Nat} {ps:PS}
theorem x_takes {C:Inhabited CapT} (h:FX w0 O1 fdb vb tb fb sb pb mb ns c N S w):
  Calls Tryz.prog 75 #[.pointer (some ⟨fb,0,none⟩)] w fun e w' =>
   (usedN (filesOf ns) 16 < capN∧∃i:Nat,e= .returned (.tuple #[.int .i64 i,.int .i64 0])∧i < 64∧¬othN i∧FQ (capAs (capN - 1) (fun j=> othN j∨j=i)) w0 O1 fdb vb tb fb sb pb mb ns c N S w w')∨
   (capN≤usedN (filesOf ns) 16∧e= .returned (.tuple #[.int .i64 0,.int .i64 3])∧Below w.heap.size w w'):=by
 by_cases hf:usedN (filesOf ns) 16 < capN
 ·exact (x_take h hf).mono (fun e w' hh=> .inl ⟨hf,hh⟩)
 ·exact (x_takeno h (by omega)).mono (fun e w' hh=> .inr ⟨by omega,hh⟩)
def SlTP (C:Inhabited CapT) (w0:World) (O1:Nat→Prop) (fdb vb tb fb sb pb mb:Nat) (ns:NSt) (c N M:Nat) (S:FS) (po:PRl→Option Nat) (fo:Nat→Nat) (ps:PS) (mp:Nat) (w:World) (e:Ending) (w' :World):Prop:=
 (usedN (filesOf ns) 16 < @capN C∧∃(f t u n' s' nu:Nat) (O2 G:Nat→Prop) (w3:World),e= .returned (.tuple #[.agg #[.int .i64 f,.int .i64 0,.int .i64 64],.int .i64 0])∧f < 64∧¬ @othN C f∧ @FX (capAs (@capN C - 1) (fun j=> @othN C j∨j=f)) w0 O2 fdb vb tb fb sb pb mb ns c N S w' ∧
  (∀k,O2 k→O1 k∨w.heap.size≤k)∧Upd (fun j=> O1 j∨j=mp) w w' ∧PpI w3 po fo ps fb M∧Upd G w3 w' ∧(∀r j,po r=some j→r≠ .mp→¬G j)∧(w.heap.size≤t∧w.heap.size≤u∧t≠u∧¬O2 t∧¬O2 u)∧
  MapI w' Tryz.prog 3 mp n' s' (mput (shM ps fo po) f (.pointer (some ⟨t,0,none⟩)))∧n' ≤M+1∧s' ≤M+1∧Blk w' t #[.int .i64 64,.map (some u)] 303∧MapI w' Tryz.prog 3 u nu 1 tkM∧nu≤M+1)∨
 (@capN C≤usedN (filesOf ns) 16∧e= .returned (.tuple #[.agg #[.int .i64 0,.int .i64 0,.int .i64 0],.int .i64 3])∧Below w.heap.size w w')
theorem results_cell2 {P:Program} {fn:Func} {p s:Tmp} {ty:TypeId} (h:fn.results= #[.cell p ty,.tmp s]) (tmps:Array Value) (w:World) (g:Nat) (t:TypeId) (cs:Array Value) (d:TypeDesc)
  (hp:tmps.getD p undef= .pointer (some ⟨g,0,none⟩)) (hg:Blk w g cs t)
  (hu:P.underlying ty=some d) (hd:(match d with | .struct _ | .array _ _=> true | _=> false)=true) (hi:(P.info? ty).map (·.size)=some cs.size):
  (results fn tmps).run P w= .ok (.tuple #[.agg cs,tmps.getD s undef]) w:=by
 have hp' :tmps[p]?.getD undef= .pointer (some ⟨g,0,none⟩):=by simpa using hp
 simp [results,h,hp',asAddr,run_loadVar_row w g t ty cs _ d hg hu hd hi]
theorem infoRef:(Tryz.prog.info? 231).map (·.size)=some 3:=by kernel_rfl
set_option maxRecDepth 100000 in
set_option maxHeartbeats 4000000 in
theorem sl_take {C:Inhabited CapT} (h1:FX w0 O1 fdb vb tb fb sb pb mb ns c N S w) (h2:PpI w po fo ps fb M) (hM:M≤10000) (sl mp:Nat) (hsl:po .sl=some sl) (hmp:po .mp=some mp) (h5:∀r k,po r=some k→w0.heap.size≤k∧¬O1 k∧k≠vb) (hmc:0 < w0.heap.size):
  Calls Tryz.prog 151 #[.pointer (some ⟨sl,0,none⟩),.int .i64 64] w (SlTP C w0 O1 fdb vb tb fb sb pb mb ns c N M S po fo ps mp w):=by
 obtain ⟨pb',sl',mp',n,s,t1,t2,t3,t4,t5,t6,t7,t8⟩:=h2.top
 obtain rfl:sl=sl' :=by rw [hsl] at t2;exact Option.some.inj t2
 obtain rfl:mp=mp' :=by rw [hmp] at t3;exact Option.some.inj t3
 have hal:=(Below.refl w.heap.size w).alloc (Nat.le_refl _) (.cells #[.int .i64 0,.int .i64 0,.int .i64 0] 231)
 have cs:=fun W (hB:Below w.heap.size w W)=> (Blk.below hB t5 t5.lt).rd
 unfold takeV giveV at cs
 have hk:=keys_is mp
 have hss:=fun W (hB:Below w.heap.size w W)=> sorted_is (t6.upd (Upd.of_below (F:=fun _=> False) hB) (fun h=> h)) (show s≤100000 by omega)
 have htk:=fun W (hB:Below w.heap.size w W)=> x_takes (h1.below hB)
 have HP:=Lib.hid (And.intro h1 (And.intro h2 (And.intro h5 (And.intro t2 (And.intro t3 (And.intro t6 (And.intro t7 (And.intro t8 hM))))))))
 have HA:=Lib.hid hal
 have c1:=cs _ hal
 have hrb:=Blk.new w #[.int .i64 0,.int .i64 0,.int .i64 0] 231
 have HR:=Lib.hid (And.intro hrb hmc)
 have HW:∀(C2:Inhabited CapT) (w2 w3:World),Below w.heap.size w w2→Below (w.alloc (.cells #[.int .i64 0,.int .i64 0,.int .i64 0] 231)).heap.size (w.alloc (.cells #[.int .i64 0,.int .i64 0,.int .i64 0] 231)) w2→FQ C2 w0 O1 fdb vb tb fb sb pb mb ns c N S w2 w3→Blk w3 sl #[takeV fb,giveV fb,.map (some mp)] 162∧Blk w3 w.heap.size #[.int .i64 0,.int .i64 0,.int .i64 0] 231∧PpI w3 po fo ps fb M∧MapI w3 Tryz.prog 3 mp n s (shM ps fo po):=by
  intro C2 w2 w3 hB hB2 hQ
  have hnr:¬O1 w.heap.size:=fun hk=> by have:=(h1.rng' _ hk).2;omega
  exact ⟨Blk.upd hQ.1 (Blk.below hB t5 t5.lt) (h5 _ _ t2).2.1,Blk.upd hQ.1 (Blk.below hB2 hrb hrb.lt) hnr,(h2.below hB).upd hQ.1 (fun r k hk=> (h5 r k hk).2.1),(t6.upd (Upd.of_below (F:=fun _=> False) hB) (fun h=> h)).upd hQ.1 (h5 _ _ t3).2.1⟩
 have HW:=Lib.hid HW
 clear hrb hmc
 have HC:=Lib.hid cs
 clear h1 h2 h5 t1 t2 t3 t4 t5 t6 t7 t8 hsl hmp hM cs
 go_enter Tryz.func151,Tryz.ntmps151
 go_wp2_with (first
  | (go_at_call 200;refine (class64 _).mono ?_;rintro e w1 ⟨rfl,rfl⟩)
  | (go_at_call 201;refine (hk _).mono ?_;rintro e w1 ⟨rfl,rfl⟩;have hs2:=hss _ HA.out)
  | (go_at_call 154;refine hs2.mono ?_;rintro e w2 ⟨v,row,ks,rfl,hks,hkl,hR,hrow,hB2⟩;obtain ⟨a,cp,rfl,-,-⟩:=hR.len_int;have HBR:=Lib.hid hB2;have hB2' :=HA.out.trans (hB2.mono HA.out.size);obtain ⟨L,hL⟩:∃L,ks.length=L:=⟨_,rfl⟩;rw [hL];have hL5:L≤100000:=hL▸hkl;have H2:=Lib.hid (And.intro hks (And.intro hkl (And.intro hR (And.intro hB2' hL))));clear hks hR hrow hB2 hs2 hB2' hkl hL))
 go_loopw [29] (fun v29 wr=> ∃i:Nat,i≤L∧v29= .int .i64 i∧wr=w2) (fun v29 _=> L - (intOf v29).toNat)
 case atStart=> exact ⟨0,Nat.zero_le _,rfl,rfl⟩
 case round=>
  obtain ⟨i,hi,rfl,rfl⟩:=hrel
  by_cases hlt:i < L
  ·obtain ⟨hks,hkl,hR,hB2,hL⟩:=H2.out
   obtain ⟨x,hx⟩:∃x,ks[i]? =some x:=⟨_,List.getElem?_eq_getElem (by omega)⟩
   obtain ⟨A,rfl,hAc⟩:=hR.rd i (.int .i64 x) (by simp [icells,hx])
   have hxm:=hks x (List.mem_of_getElem? hx)
   unfold shM at hxm
   rw [Option.isSome_map] at hxm
   obtain ⟨j,hj⟩:=Option.isSome_iff_exists.1 hxm
   obtain ⟨hj4,p,hp,rfl⟩:=atFr_some hj
   obtain ⟨h1,h2,h5,t2,t3,t6,t7,t8,hM⟩:=HP.out
   obtain ⟨k,v,t,u,nu,k1,k2,k3,k4,k5,k6,k7,k8,k9⟩:=h2.pipe j p hp
   have hlk:=h2.sh_look t3 hp k5 _ hB2
   have hfr:=sheet_full (Blk.below hB2 k6 k6.lt) (k8.upd (Upd.of_below (F:=fun _=> False) hB2) (fun h=> h))
   have c2:=HC.out _ hB2
   have d1:decide ((i:Int) < (L:Int))=true:=by simp;omega
   have d1n:decide (i < L)=true:=by simpa using hlt
   have i1:(i:Int) < L:=by omega
   have i2:(0:Int)≤i:=by omega
   clear hks hkl hR hB2 hL hx hxm hj hp h1 h2 h5 t2 t3 t6 t7 t8 hM k1 k2 k3 k4 k5 k6 k7 k8 k9 c1
   go_wp2_with (go_at_call 202;refine hfr.mono ?_;rintro e w3 ⟨rfl,rfl⟩)
   go_roundw
   case rel=> exact ⟨i+1,by omega,by go_num,by trivial⟩
   case measure=> simp [intOf];omega
  ·have d1:decide ((i:Int) < (L:Int))=false:=by simp;omega
   have d1n:decide (i < L)=false:=by simpa using hlt
   have hB2:=H2.out.2.2.2.1
   have c2:=HC.out _ hB2
   have htk2:=htk _ hB2
   have HD:=Lib.hid hB2
   clear hB2 htk c1
   have hmM:=HP.out.2.2.2.2.2.2.2.2
   have hnM:=HP.out.2.2.2.2.2.2.1
   have hn9:n < maxLen:=by unfold maxLen;omega
   have HMR:=Lib.hid (show ¬w.heap.size=mp from fun e=> by have:=HP.out.2.2.2.2.2.1.lt;omega)
   by_cases hfr:usedN (filesOf ns) 16 < capN
   ·have htk3:=x_take (HP.out.1.below HD.out) hfr
    have HFR:=Lib.hid hfr
    have hmm:= @run_makeMap Tryz.prog
    clear htk2 hfr
    go_wp2_with (first
     | (go_at_call 75;refine htk3.mono ?_;rintro e w3 ⟨f,rfl,hf,hof,hQ⟩;have hw3:=HW.out _ _ _ HD.out HBR.out hQ;have c3:=hw3.1.rd;unfold takeV giveV at c3;have H3:=Lib.hid (And.intro hf (And.intro hof (And.intro hQ hw3)));have hwf:(Lit.int .i64 (f:Int)).wf=true:=(by simp [Lit.wf,IntKind.min,IntKind.max,IntKind.signed,IntKind.bits];omega);clear hf hof hQ hw3 c2 htk3)
     | (refine wp_mapins _ rfl _ _ _ 301 rfl 3 3 Tryz.underlying3 Tryz.underlying301 w3.heap.size 0 0 (fun _=> none) rfl (MapI.made w3 Tryz.prog 3) (by decide) 0 (by decide) (.int .i64 1) rfl rfl ?_;intro w4 hM4 hu4;have H4:=Lib.hid (And.intro hM4 hu4);clear hM4 hu4 c3)
     | (refine wpList_store_row rfl 231 (.tmp 4) (.tmp 87) rfl w.heap.size #[.int .i64 f,.int .i64 0,.int .i64 64] rfl rfl 231 #[.int .i64 0,.int .i64 0,.int .i64 0] H5.out.2.2 infoRef rfl (by simp [Value.oneCell']) ?_)
     | (at_mapUpdate;refine wp_mapput _ rfl _ _ _ 160 rfl 3 300 Tryz.underlying3 Tryz.underlying160 mp n s (shM ps fo po) rfl (((H3.out.2.2.2.2.2.2.upd ((Upd.refl (fun j=> j=w3.heap.size) w3).alloc _) (fun e=> by have:=H3.out.2.2.2.2.2.2.lt;omega)).upd H4.out.2 (fun e=> by have:=H3.out.2.2.2.2.2.2.lt;omega)).upd ((Upd.refl (fun _=> False) w4).alloc _) (fun h=> h)) hn9 f hwf _ rfl rfl ?_;intro w5 hM5 hu5;have hrb5:=Blk.upd hu5 (Blk.alloc (Blk.upd H4.out.2 (Blk.alloc H3.out.2.2.2.2.1 _) (fun e=> by have:=H3.out.2.2.2.2.1.lt;omega)) _) (fun e=> HMR.out e);have H5:=Lib.hid (And.intro hM5 (And.intro hu5 hrb5));clear hM5 hu5 hrb5))
    obtain ⟨hf,hof,hQ,q1,q2,hP3,q3⟩:=H3.out
    obtain ⟨hu3,O2,hX,hO2⟩:=hQ
    obtain ⟨hM4,hu4⟩:=H4.out
    obtain ⟨hM5,hu5,hrb5⟩:=H5.out
    obtain ⟨h1,h2,h5,t2,t3,t6,t7,t8,hM⟩:=HP.out
    have z0:=HD.out.size
    have z1:=hu3.size
    have z2:(w3.alloc (.map #[] 0)).heap.size=w3.heap.size+1:=by simp
    have z3:=hu4.size
    have z4:(w4.alloc (.cells #[.int .i64 64,.map (some w3.heap.size)] 303)).heap.size=w4.heap.size+1:=by simp
    have z5:=hu5.size
    have z6:=HBR.out.size
    have z7:(w.alloc (.cells #[.int .i64 0,.int .i64 0,.int .i64 0] 231)).heap.size=w.heap.size+1:=by simp
    have zm:=t6.lt
    have zb:=h1.bel'.size
    have zv:=h1.vlt'
    have hrw:=(Upd.row w5 w.heap.size #[.int .i64 f,.int .i64 0,.int .i64 64]).mono (G:=fun j=> j=mp∨j=w.heap.size) (fun j _ e=> .inr e)
    have hrow:=Upd.row w5 w.heap.size #[.int .i64 f,.int .i64 0,.int .i64 64]
    have hUG:Upd (fun j=> j=mp∨j=w.heap.size) w3 (w5.setRow w.heap.size #[.int .i64 f,.int .i64 0,.int .i64 64]):=
     (((((Upd.refl (fun j=> j=mp∨j=w.heap.size) w3).alloc (.map #[] 0)).trans hu4 (fun k hk e=> by omega)).alloc (.cells #[.int .i64 64,.map (some w3.heap.size)] 303)).trans hu5 (fun k hk e=> .inl e)).trans hrw (fun k hk e=> e)
    have hn2:∀k,O2 k→k < w3.heap.size:=fun k hk=> (hX.rng' k hk).2
    have hX' :=hX.beside HR.out.2 hUG (fun k hk=> by
     rcases hk with rfl | rfl
     ·refine ⟨(h5 _ _ t3).1,fun ho=> ?_,(h5 _ _ t3).2.2⟩
      rcases hO2 _ ho with e | e
      ·exact (h5 _ _ t3).2.1 e
      ·omega
     ·refine ⟨zb,fun ho=> ?_,by omega⟩
      rcases hO2 _ ho with e | e
      ·have:=(h1.rng' _ e).2;omega
      ·omega)
    have hMu:MapI w4 Tryz.prog 3 w3.heap.size 1 1 tkM:=hM4
    refine bodyPost_ret (results_cell2 rfl _ _ w.heap.size _ #[.int .i64 f,.int .i64 0,.int .i64 64] _ rfl (Blk.row hrb5 _) Tryz.underlying231 rfl infoRef) rfl ?_
    refine .inl ⟨HFR.out,f,w4.heap.size,w3.heap.size,n+1,_,1,O2,fun j=> j=mp∨j=w.heap.size,w3,rfl,hf,hof,hX',fun k hk=> (hO2 k hk).imp id (fun e=> by omega),?_,hP3,hUG,fun r j hj hr e=> ?_,⟨by omega,by omega,by omega,fun hk=> ?_,fun hk=> ?_⟩,hM5.upd hrow (fun e=> by omega),by omega,?_,Blk.upd hrow (Blk.upd hu5 (Blk.new w4 _ _) (fun e=> by omega)) (fun e=> by omega),((hMu.upd ((Upd.refl (fun _=> False) w4).alloc _) (fun h=> h)).upd hu5 (fun e=> by omega)).upd hrow (fun e=> by omega),by omega⟩
    ·exact ((Upd.of_below (F:=fun j=> O1 j∨j=mp) HD.out).trans hu3 (fun k hk e=> .inl e)).trans hUG (fun k hk e=> by
      rcases e with e | e
      ·exact .inr e
      ·omega)
    ·rcases e with e | e
     ·exact hr (h2.inj _ _ _ hj (by rw [e];exact t3))
     ·have:=h2.lt r j hj;omega
    ·have:=hn2 _ hk;omega
    ·have:=hn2 _ hk;omega
    ·split <;> omega
   ·have htk3:=x_takeno (HP.out.1.below HD.out) (by omega)
    have HFR:=Lib.hid (show capN≤usedN (filesOf ns) 16 by omega)
    clear htk2 hfr
    go_wp2_with (first
     | (go_at_call 75;refine htk3.mono ?_;rintro e w3 ⟨rfl,hB3⟩;have hrb3:=Blk.below hB3 (Blk.below HBR.out HR.out.1 HR.out.1.lt) (Nat.lt_of_lt_of_le HR.out.1.lt HBR.out.size);have H3:=Lib.hid (And.intro hB3 hrb3);clear hB3 hrb3 c2 htk3)
     | (refine wpList_store_row rfl 231 (.tmp 4) (.tmp 73) rfl w.heap.size #[.int .i64 0,.int .i64 0,.int .i64 0] rfl rfl 231 #[.int .i64 0,.int .i64 0,.int .i64 0] H3.out.2 infoRef rfl (by simp [Value.oneCell']) ?_))
    refine bodyPost_ret (results_cell2 rfl _ _ w.heap.size _ #[.int .i64 0,.int .i64 0,.int .i64 0] _ rfl (Blk.row H3.out.2 _) Tryz.underlying231 rfl infoRef) rfl ?_
    have hB13:=HD.out.trans (H3.out.1.mono HD.out.size)
    exact .inr ⟨HFR.out,rfl,hB13.trans ((Upd.row w3 _ _).below hB13.size (fun k e=> by subst e;exact Nat.le_refl _))⟩
end
end Go.Proofs.YtjpjafajploiaaaGreatDoor
