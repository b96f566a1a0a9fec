/-
  Processes: who is whose child: as they lie; New, Alive, Start.
-/
import Derived.Test.YtjpjafajploiaaaGreatDoorUnixAlone10
import Derived.Test.YtjpjafajploiaaaGreatDoorUnixAlone04
import Derived.Test.YtjpjafajploiaaaGreatDoorUnixAlone06
import Derived.Lib.BufferRead
set_option linter.unusedSimpArgs false
set_option linter.unusedVariables false
namespace Go.Proofs.YtjpjafajploiaaaGreatDoor
open Go.RowKit Own RegJ Two
open Go.Lib
structure Pr where
 pa:Int
 co:Int
 de:Bool
abbrev PrM:=Int→Option Pr
abbrev prV (x:Pr):Value:= .agg #[.int .i64 x.pa,.int .i64 x.co,.bool x.de]
def prPut (m:PrM) (i:Int) (x:Option Pr):PrM:=fun j=> if j=i then x else m j
def aliveF (m:PrM) (pid:Int):Bool:=match m pid with
 | some x=> !x.de
 | none=> false
structure PrB (w:World) (qb qm N:Nat) (m:PrM):Prop where
 q:Blk w qb #[.map (some qm)] 129
 m:∃n s,MapI w Tryz.prog 3 qm n s (fun i=> (m i).map prV)∧n≤N
theorem zero_pr (w:World):(zeroValue 125).run Tryz.prog w= .ok (.agg #[.int .i64 0,.int .i64 0,.bool false]) w:=by kernel_rfl
section
variable {w w' :World} {qb qm N N' :Nat} {m m' :PrM}
theorem PrB.upd {F:Nat→Prop} (h:PrB w qb qm N m) (hu:Upd F w w') (h1:¬F qb) (h2:¬F qm):PrB w' qb qm N m:=by
 obtain ⟨n,s,hm,hn⟩:=h.m
 exact ⟨Blk.upd hu h.q h1,n,s,hm.upd hu h2,hn⟩
theorem PrB.below (h:PrB w qb qm N m) (hB:Below w.heap.size w w'):PrB w' qb qm N m:=h.upd (Upd.of_below (F:=fun _=> False) hB) (fun h=> h) (fun h=> h)
theorem PrB.lt (h:PrB w qb qm N m):qb < w.heap.size∧qm < w.heap.size:=by
 obtain ⟨n,s,hm,hn⟩:=h.m
 exact ⟨h.q.lt,hm.lt⟩
theorem PrB.look (h:PrB w qb qm N m) (pid:Int) (hw:(Lit.int .i64 pid).wf=true):(Instr.lookup 127 (.map (some qm)) (.int .i64 pid) true).run Tryz.prog w= .ok (.tuple #[((m pid).map prV).getD (.agg #[.int .i64 0,.int .i64 0,.bool false]),.bool (m pid).isSome]) w:=by
 obtain ⟨n,s,hm,hn⟩:=h.m
 have:=hm.look_ok Tryz.underlying3 Tryz.underlying127 (zero_pr w) pid hw
 rw [this]
 cases m pid <;> rfl
set_option maxRecDepth 100000 in
theorem procnew_is (w:World):Calls Tryz.prog 37 #[] w fun e w' => ∃qb qm,e= .returned (.pointer (some ⟨qb,0,none⟩))∧Below w.heap.size w w' ∧w.heap.size≤qb∧w.heap.size≤qm∧PrB w' qb qm 0 (fun _=> none):=by
 have hal:=((Below.refl w.heap.size w).alloc (Nat.le_refl _) (.map #[] 0)).alloc (by simp) (.cells #[.map (some w.heap.size)] 129)
 have hm:=(MapI.made w Tryz.prog 3).upd (Upd.of_below (F:=fun _=> False) ((Below.refl (w.alloc (.map #[] 0)).heap.size _).alloc (Nat.le_refl _) (.cells #[.map (some w.heap.size)] 129))) (fun h=> h)
 have hf:=Blk.new (w.alloc (.map #[] 0)) #[.map (some w.heap.size)] 129
 have hmm:= @run_makeMap Tryz.prog
 go_enter Tryz.func37,Tryz.ntmps37
 go_wp2_with (fail)
 go_ret
 exact ⟨_,w.heap.size,rfl,hal,by simp,Nat.le_refl _,(by have h:=hf;rw [show (w.alloc (.map #[] 0)).heap.size=w.heap.size+1 by simp] at h;exact h),0,0,hm,Nat.le_refl _⟩
set_option maxRecDepth 100000 in
theorem alive_is (h:PrB w qb qm N m) (pid:Int) (hw:(Lit.int .i64 pid).wf=true) (r:Bool) (hr:aliveF m pid=r):
  Calls Tryz.prog 22 #[.pointer (some ⟨qb,0,none⟩),.int .i64 pid] w fun e w' => e= .returned (.bool r)∧Below w.heap.size w w' :=by
 have hl:=h.look pid hw
 have c0:=h.q.rd 0
 unfold aliveF at hr
 cases hm:m pid with
 | none=>
  rw [hm] at hl hr
  obtain rfl:false=r:=hr
  simp only [Option.map_none,Option.getD_none,Option.isSome_none] at hl
  clear h hw hm
  go_enter Tryz.func22,Tryz.ntmps22
  go_wp2_with (fail)
  go_ret
  exact ⟨rfl,(Below.refl _ _).alloc (Nat.le_refl _) _⟩
 | some x=>
  obtain ⟨pa,co,de⟩:=x
  rw [hm] at hl hr
  simp only [Option.map_some,Option.getD_some,Option.isSome_some,prV] at hl
  obtain rfl:(!de)=r:=hr
  clear h hw hm
  go_enter Tryz.func22,Tryz.ntmps22
  go_wp2_with (fail)
  go_ret
  exact ⟨rfl,(Below.refl _ _).alloc (Nat.le_refl _) _⟩
theorem PrB.put (h:PrB w qb qm N m) (pid:Int) (x:Pr) {w1 w2:World} (hB:Below w.heap.size w w1) (n s:Nat) (hn:n≤N) (hm:MapI w2 Tryz.prog 3 qm (n+1) s (mput (fun i=> (m i).map prV) pid (prV x))) (hu:Upd (fun k=> k=qm) w1 w2):PrB w2 qb qm (N+1) (prPut m pid (some x))∧Upd (fun k=> k=qm) w w2:=by
 have hne:qb≠qm:=by
  obtain ⟨n,s,h1,_⟩:=h.m
  obtain ⟨D,⟨es,clock,hb,_⟩,_⟩:=h1
  rintro rfl
  have:=h.q
  unfold Blk at this
  rw [hb] at this
  cases this
 refine ⟨⟨Blk.upd hu (Blk.below hB h.q h.q.lt) hne,n+1,s,?_,by omega⟩,(Upd.of_below hB).trans hu (fun _ _ h=> h)⟩
 have e:(fun i=> (prPut m pid (some x) i).map prV)=mput (fun i=> (m i).map prV) pid (prV x):=by
  funext j
  unfold prPut mput
  by_cases hj:j=pid
  ·rw [if_pos hj,if_pos hj];rfl
  ·rw [if_neg hj,if_neg hj]
 rw [e];exact hm
set_option maxRecDepth 100000 in
theorem pstart_one (h:PrB w qb qm N m) (hN:N≤10000) (pid:Int) (hw:(Lit.int .i64 pid).wf=true) (h0:0≤pid) (hp:m pid=none):
  Calls Tryz.prog 38 #[.pointer (some ⟨qb,0,none⟩),.int .i64 pid,.int .i64 (-1)] w fun e w' => e= .returned (.int .i64 0)∧PrB w' qb qm (N+1) (prPut m pid (some ⟨-1,0,false⟩))∧Upd (fun k=> k=qm) w w' :=by
 have hl:=h.look pid hw
 have c0:=h.q.rd 0
 rw [hp] at hl
 simp only [Option.map_none,Option.getD_none,Option.isSome_none] at hl
 have d1:decide (pid < 0)=false:=decide_eq_false (by omega)
 obtain ⟨n,s,hm,hn⟩:=h.m
 have hal:Below w.heap.size w (w.alloc (.cells #[.int .i64 0,.int .i64 0,.bool false] 125)):=(Below.refl _ _).alloc (Nat.le_refl _) _
 have hm1:MapI (w.alloc (.cells #[.int .i64 0,.int .i64 0,.bool false] 125)) Tryz.prog 3 qm n s (fun i=> (m i).map prV):=hm.upd (Upd.of_below (F:=fun _=> False) hal) (fun h=> h)
 have c1:=(Blk.below hal h.q h.q.lt).rd 0
 have key:=fun w2 s2=> h.put pid ⟨-1,0,false⟩ (w2:=w2) hal n s2 hn
 have HK:=Lib.hid (And.intro key (And.intro hm1 (And.intro hn hw)))
 clear h hm hn key hm1 hal hp
 go_enter Tryz.func38,Tryz.ntmps38
 go_wp2_with (refine wp_mapput _ rfl (.tmp 37) (.tmp 38) (.tmp 40) 127 rfl 3 125 Tryz.underlying3 Tryz.underlying127 qm n s _ rfl HK.out.2.1 (by have:=HK.out.2.2.1;unfold maxLen;omega) pid HK.out.2.2.2 _ rfl rfl ?_;intro w2 hm2 hu2;have H2:=Lib.hid (HK.out.1 w2 _ hm2 hu2);clear hm2 hu2)
 go_ret
 exact ⟨rfl,H2.out⟩
end
end Go.Proofs.YtjpjafajploiaaaGreatDoor
