/-
  Descriptors: what is refused, and leaves all as it was.
-/
import Derived.Test.YtjpjafajploiaaaGreatDoorUnixAlone28
set_option linter.unusedSimpArgs false
set_option linter.unusedVariables false
namespace Go.Proofs.YtjpjafajploiaaaGreatDoor
open Go.RowKit Own RegJ Two
open Go.Lib hiding intOf
def thN(S:FS)(pid d:Int):Option Nat:=match S.pr pid with
 | none=> none
 | some b=> if 0≤d∧d < 8 then S.sl b d.toNat else none
def getR(S:FS)(pid d:Int):Int:=if(S.pr pid).isNone then 4 else if(thN S pid d).isNone then 8 else 0
theorem thN_some {S:FS} {pid d:Int} {x:Nat}(h:thN S pid d=some x):∃(b k:Nat),S.pr pid=some b∧d=k∧k < 8∧S.sl b k=some x:=by
 unfold thN at h
 cases hp:S.pr pid with
 | none=> rw [hp]at h;cases h
 | some b=>
  rw [hp]at h
  simp only at h
  split at h
  ·rename_i hd
   exact⟨b,d.toNat,rfl,by omega,by omega,h⟩
  ·cases h
theorem thN_is {S:FS} {pid:Int} {b k x:Nat}(hb:S.pr pid=some b)(hk:k < 8)(hx:S.sl b k=some x):thN S pid k=some x:=by
 unfold thN
 rw [hb]
 simp only
 rw [if_pos(by omega)]
 exact hx
section
variable {w w' :World} {fdb vb pb mb N:Nat} {S:FS}
set_option maxRecDepth 100000 in
theorem k_getbad(h:FdB w fdb vb pb mb N S)(pid:Int)(hw:(Lit.int .i64 pid).wf=true)(d:Int)(r:Int)(hr:getR S pid d=r)(h0:r≠0):
  Calls Tryz.prog 80 #[.pointer(some⟨fdb,0,none⟩),.int .i64 pid,.int .i64 d]w fun e w' => e= .returned(.tuple #[.pointer none,.int .i64 r])∧w=w' :=by
 unfold getR at hr
 cases hp:S.pr pid with
 | none=>
  obtain rfl:4=r:=by simpa [hp]using hr
  have hq:=k_proc h pid hw none hp 4(by unfold procR;rw [hp])
  clear h hp
  simp only [ptb,Option.map]at hq
  go_enter Tryz.func80,Tryz.ntmps80
  go_wp2_with(go_at_call 67;refine hq.mono ?_;rintro e w1⟨rfl,rfl⟩)
  go_ret2
  exact⟨rfl,rfl⟩
 | some b=>
  by_cases hd:0≤d∧d < 8
  ·obtain⟨k,rfl⟩:∃k:Nat,d=k:=⟨d.toNat,by omega⟩
   have hk:k < 8:=by omega
   cases hx:S.sl b k with
   | some x=> exact absurd(by simpa [hp,thN_is hp hk hx]using hr.symm)h0
   | none=>
    have:thN S pid k=none:=by
     cases ht:thN S pid k with
     | none=> rfl
     | some x=>
      obtain⟨b2,k2,e1,e2,e3,e4⟩:=thN_some ht
      rw [hp]at e1
      cases e1
      obtain rfl:k=k2:=by omega
      rw [hx]at e4;cases e4
    obtain rfl:8=r:=by simpa [hp,this]using hr
    exact k_getno h pid hw b hp k hk hx
  ·have:thN S pid d=none:=by
    unfold thN
    rw [hp]
    exact if_neg hd
   obtain rfl:8=r:=by simpa [hp,this]using hr
   have hq:=k_proc h pid hw(some b)hp 0(by unfold procR;rw [hp])
   clear h hp this
   simp only [ptb,Option.map]at hq
   by_cases h1:d < 0
   ·have d1:decide(d < 0)=true:=decide_eq_true h1
    clear hd
    go_enter Tryz.func80,Tryz.ntmps80
    go_wp2_with(go_at_call 67;refine hq.mono ?_;rintro e w1⟨rfl,rfl⟩)
    go_ret2
    exact⟨rfl,rfl⟩
   ·have d1:decide(d < 0)=false:=decide_eq_false h1
    have d2:decide(d≥8)=true:=decide_eq_true(by omega)
    have d3:decide(8≤d)=true:=decide_eq_true(by omega)
    clear hd
    go_enter Tryz.func80,Tryz.ntmps80
    go_wp2_with(go_at_call 67;refine hq.mono ?_;rintro e w1⟨rfl,rfl⟩)
    go_ret2
    exact⟨rfl,rfl⟩
set_option maxRecDepth 100000 in
theorem k_closebad(h:FdB w fdb vb pb mb N S)(pid:Int)(hw:(Lit.int .i64 pid).wf=true)(d:Int)(r:Int)(hr:getR S pid d=r)(h0:r≠0):
  Calls Tryz.prog 43 #[.pointer(some⟨fdb,0,none⟩),.int .i64 pid,.int .i64 d]w fun e w' => e= .returned(.int .i64 r)∧w=w' :=by
 have hg:=k_getbad h pid hw d r hr h0
 have r4:r=4∨r=8:=by
  unfold getR at hr
  split at hr
  ·exact .inl hr.symm
  ·split at hr
   ·exact .inr hr.symm
   ·exact absurd hr.symm h0
 clear h hr h0
 rcases r4 with rfl | rfl
 all_goals
  go_enter Tryz.func43,Tryz.ntmps43
  go_wp2_with(go_at_call 80;refine hg.mono ?_;rintro e w1⟨rfl,rfl⟩)
  go_ret
  exact⟨rfl,rfl⟩
set_option maxRecDepth 100000 in
theorem k_dupbad(h:FdB w fdb vb pb mb N S)(pid:Int)(hw:(Lit.int .i64 pid).wf=true)(d:Int)(r:Int)(hr:getR S pid d=r)(h0:r≠0):
  Calls Tryz.prog 47 #[.pointer(some⟨fdb,0,none⟩),.int .i64 pid,.int .i64 d]w fun e w' => e= .returned(.tuple #[.int .i64 0,.int .i64 r])∧w=w' :=by
 have hg:=k_getbad h pid hw d r hr h0
 have r4:r=4∨r=8:=by
  unfold getR at hr
  split at hr
  ·exact .inl hr.symm
  ·split at hr
   ·exact .inr hr.symm
   ·exact absurd hr.symm h0
 clear h hr h0
 rcases r4 with rfl | rfl
 all_goals
  go_enter Tryz.func47,Tryz.ntmps47
  go_wp2_with(go_at_call 80;refine hg.mono ?_;rintro e w1⟨rfl,rfl⟩)
  go_ret2
  exact⟨rfl,rfl⟩
set_option maxRecDepth 100000 in
theorem k_readbad(h:FdB w fdb vb pb mb N S)(pid:Int)(hw:(Lit.int .i64 pid).wf=true)(d:Int)(n:Int)(r:Int)(hr:getR S pid d=r)(h0:r≠0):
  Calls Tryz.prog 83 #[.pointer(some⟨fdb,0,none⟩),.int .i64 pid,.int .i64 d,.int .i64 n]w fun e w' => e= .returned(.tuple #[.slice none 0 0,.int .i64 r])∧w=w' :=by
 have hg:=k_getbad h pid hw d r hr h0
 have r4:r=4∨r=8:=by
  unfold getR at hr
  split at hr
  ·exact .inl hr.symm
  ·split at hr
   ·exact .inr hr.symm
   ·exact absurd hr.symm h0
 clear h hr h0
 rcases r4 with rfl | rfl
 all_goals
  go_enter Tryz.func83,Tryz.ntmps83
  go_wp2_with(go_at_call 80;refine hg.mono ?_;rintro e w1⟨rfl,rfl⟩)
  go_ret2
  exact⟨rfl,rfl⟩
set_option maxRecDepth 100000 in
theorem k_writebad(h:FdB w fdb vb pb mb N S)(pid:Int)(hw:(Lit.int .i64 pid).wf=true)(d:Int)(v:Value)(r:Int)(hr:getR S pid d=r)(h0:r≠0):
  Calls Tryz.prog 45 #[.pointer(some⟨fdb,0,none⟩),.int .i64 pid,.int .i64 d,v]w fun e w' => e= .returned(.tuple #[.int .i64 0,.int .i64 r])∧w=w' :=by
 have hg:=k_getbad h pid hw d r hr h0
 have r4:r=4∨r=8:=by
  unfold getR at hr
  split at hr
  ·exact .inl hr.symm
  ·split at hr
   ·exact .inr hr.symm
   ·exact absurd hr.symm h0
 clear h hr h0
 rcases r4 with rfl | rfl
 all_goals
  go_enter Tryz.func45,Tryz.ntmps45
  go_wp2_with(go_at_call 80;refine hg.mono ?_;rintro e w1⟨rfl,rfl⟩)
  go_ret2
  exact⟨rfl,rfl⟩
set_option maxRecDepth 100000 in
theorem k_seekbad(h:FdB w fdb vb pb mb N S)(pid:Int)(hw:(Lit.int .i64 pid).wf=true)(d:Int)(n:Int)(r:Int)(hr:getR S pid d=r)(h0:r≠0):
  Calls Tryz.prog 46 #[.pointer(some⟨fdb,0,none⟩),.int .i64 pid,.int .i64 d,.int .i64 n]w fun e w' => e= .returned(.int .i64 r)∧w=w' :=by
 have hg:=k_getbad h pid hw d r hr h0
 have r4:r=4∨r=8:=by
  unfold getR at hr
  split at hr
  ·exact .inl hr.symm
  ·split at hr
   ·exact .inr hr.symm
   ·exact absurd hr.symm h0
 clear h hr h0
 rcases r4 with rfl | rfl
 all_goals
  go_enter Tryz.func46,Tryz.ntmps46
  go_wp2_with(go_at_call 80;refine hg.mono ?_;rintro e w1⟨rfl,rfl⟩)
  go_ret
  exact⟨rfl,rfl⟩
set_option maxRecDepth 100000 in
theorem k_readend(h:FdB w fdb vb pb mb N S)(pid:Int)(hw:(Lit.int .i64 pid).wf=true)(b:Nat)(hb:S.pr pid=some b)(d x:Nat)(hd:d < 8)(hx:S.sl b d=some x)(t:Th)(ht:S.th x=some t)(hwr:t.wr=true)(n:Int):
  Calls Tryz.prog 83 #[.pointer(some⟨fdb,0,none⟩),.int .i64 pid,.int .i64 d,.int .i64 n]w fun e w' => e= .returned(.tuple #[.slice none 0 0,.int .i64 8])∧w=w' :=by
 have hg:=k_get h pid hw b hb d x hd hx
 have hB:=h.x x t ht
 have c1:w.cell? ⟨x,1,none⟩=some(.bool true):=by rw [←hwr];exact hB.rd 1
 clear h hB ht hb hx
 go_enter Tryz.func83,Tryz.ntmps83
 go_wp2_with(go_at_call 80;refine hg.mono ?_;rintro e w1⟨rfl,rfl⟩)
 go_ret2
 exact⟨rfl,rfl⟩
set_option maxRecDepth 100000 in
theorem k_writeend(h:FdB w fdb vb pb mb N S)(pid:Int)(hw:(Lit.int .i64 pid).wf=true)(b:Nat)(hb:S.pr pid=some b)(d x:Nat)(hd:d < 8)(hx:S.sl b d=some x)(t:Th)(ht:S.th x=some t)(hpp:t.pp=true)(hwr:t.wr=false)(v:Value):
  Calls Tryz.prog 45 #[.pointer(some⟨fdb,0,none⟩),.int .i64 pid,.int .i64 d,v]w fun e w' => e= .returned(.tuple #[.int .i64 0,.int .i64 8])∧w=w' :=by
 have hg:=k_get h pid hw b hb d x hd hx
 have hB:=h.x x t ht
 have c0:w.cell? ⟨x,0,none⟩=some(.bool true):=by rw [←hpp];exact hB.rd 0
 have c1:w.cell? ⟨x,1,none⟩=some(.bool false):=by rw [←hwr];exact hB.rd 1
 clear h hB ht hb hx
 go_enter Tryz.func45,Tryz.ntmps45
 go_wp2_with(go_at_call 80;refine hg.mono ?_;rintro e w1⟨rfl,rfl⟩)
 go_ret2
 exact⟨rfl,rfl⟩
set_option maxRecDepth 100000 in
theorem k_seekpipe(h:FdB w fdb vb pb mb N S)(pid:Int)(hw:(Lit.int .i64 pid).wf=true)(b:Nat)(hb:S.pr pid=some b)(d x:Nat)(hd:d < 8)(hx:S.sl b d=some x)(t:Th)(ht:S.th x=some t)(hpp:t.pp=true)(n:Int):
  Calls Tryz.prog 46 #[.pointer(some⟨fdb,0,none⟩),.int .i64 pid,.int .i64 d,.int .i64 n]w fun e w' => e= .returned(.int .i64 19)∧w=w' :=by
 have hg:=k_get h pid hw b hb d x hd hx
 have hB:=h.x x t ht
 have c0:w.cell? ⟨x,0,none⟩=some(.bool true):=by rw [←hpp];exact hB.rd 0
 clear h hB ht hb hx
 go_enter Tryz.func46,Tryz.ntmps46
 go_wp2_with(go_at_call 80;refine hg.mono ?_;rintro e w1⟨rfl,rfl⟩)
 go_ret
 exact⟨rfl,rfl⟩
set_option maxRecDepth 100000 in
theorem k_seekneg(h:FdB w fdb vb pb mb N S)(pid:Int)(hw:(Lit.int .i64 pid).wf=true)(b:Nat)(hb:S.pr pid=some b)(d x:Nat)(hd:d < 8)(hx:S.sl b d=some x)(t:Th)(ht:S.th x=some t)(hpp:t.pp=false)(n:Int)(hn:n < 0):
  Calls Tryz.prog 46 #[.pointer(some⟨fdb,0,none⟩),.int .i64 pid,.int .i64 d,.int .i64 n]w fun e w' => e= .returned(.int .i64 19)∧w=w' :=by
 have hg:=k_get h pid hw b hb d x hd hx
 have hB:=h.x x t ht
 have c0:w.cell? ⟨x,0,none⟩=some(.bool false):=by rw [←hpp];exact hB.rd 0
 have d1:decide(n < 0)=true:=decide_eq_true hn
 clear h hB ht hb hx
 go_enter Tryz.func46,Tryz.ntmps46
 go_wp2_with(go_at_call 80;refine hg.mono ?_;rintro e w1⟨rfl,rfl⟩)
 go_ret
 exact⟨rfl,rfl⟩
set_option maxRecDepth 100000 in
theorem k_startneg(pid:Int)(h0:pid < 0):Calls Tryz.prog 39 #[.pointer(some⟨fdb,0,none⟩),.int .i64 pid]w fun e w' => e= .returned(.int .i64 2)∧w=w' :=by
 have d1:decide(pid < 0)=true:=decide_eq_true h0
 go_enter Tryz.func39,Tryz.ntmps39
 go_wp2_with(fail)
 go_ret
 exact⟨rfl,rfl⟩
set_option maxRecDepth 100000 in
theorem k_startbusy(h:FdB w fdb vb pb mb N S)(pid:Int)(hw:(Lit.int .i64 pid).wf=true)(h0:0≤pid)(b:Nat)(hb:S.pr pid=some b):Calls Tryz.prog 39 #[.pointer(some⟨fdb,0,none⟩),.int .i64 pid]w fun e w' => e= .returned(.int .i64 5)∧w=w' :=by
 have hl:=h.look pid hw
 rw [hb]at hl
 simp only [ptb,Option.map]at hl
 have c2:=h.f.rd 2
 have d1:decide(pid < 0)=false:=decide_eq_false(by omega)
 clear h hb
 go_enter Tryz.func39,Tryz.ntmps39
 go_wp2_with(fail)
 go_ret
 exact⟨rfl,rfl⟩
set_option maxRecDepth 100000 in
theorem k_copynone(h:FdB w fdb vb pb mb N S)(pid:Int)(hw:(Lit.int .i64 pid).wf=true)(hp:S.pr pid=none)(q:Int):Calls Tryz.prog 56 #[.pointer(some⟨fdb,0,none⟩),.int .i64 pid,.int .i64 q]w fun e w' => e= .returned(.int .i64 4)∧w=w' :=by
 have hq:=k_proc h pid hw none hp 4(by unfold procR;rw [hp])
 clear h hp
 simp only [ptb,Option.map]at hq
 go_enter Tryz.func56,Tryz.ntmps56
 go_wp2_with(go_at_call 67;refine hq.mono ?_;rintro e w1⟨rfl,rfl⟩)
 go_ret
 exact⟨rfl,rfl⟩
set_option maxRecDepth 100000 in
theorem k_leavenone(h:FdB w fdb vb pb mb N S)(pid:Int)(hw:(Lit.int .i64 pid).wf=true)(hp:S.pr pid=none):Calls Tryz.prog 58 #[.pointer(some⟨fdb,0,none⟩),.int .i64 pid]w fun e w' => e= .returned(.int .i64 4)∧w=w' :=by
 have hq:=k_proc h pid hw none hp 4(by unfold procR;rw [hp])
 clear h hp
 simp only [ptb,Option.map]at hq
 go_enter Tryz.func58,Tryz.ntmps58
 go_wp2_with(go_at_call 67;refine hq.mono ?_;rintro e w1⟨rfl,rfl⟩)
 go_ret
 exact⟨rfl,rfl⟩
set_option maxRecDepth 100000 in
theorem k_usednone(h:FdB w fdb vb pb mb N S)(pid:Int)(hw:(Lit.int .i64 pid).wf=true)(hp:S.pr pid=none):Calls Tryz.prog 26 #[.pointer(some⟨fdb,0,none⟩),.int .i64 pid]w fun e w' => e= .returned(.slice none 0 0)∧w=w' :=by
 have hq:=k_proc h pid hw none hp 4(by unfold procR;rw [hp])
 clear h hp
 simp only [ptb,Option.map]at hq
 go_enter Tryz.func26,Tryz.ntmps26
 go_wp2_with(go_at_call 67;refine hq.mono ?_;rintro e w1⟨rfl,rfl⟩)
 go_ret
 exact⟨rfl,rfl⟩
set_option maxRecDepth 100000 in
theorem k_freenone(h:FdB w fdb vb pb mb N S)(pid:Int)(hw:(Lit.int .i64 pid).wf=true)(hp:S.pr pid=none)(n:Int):Calls Tryz.prog 78 #[.pointer(some⟨fdb,0,none⟩),.int .i64 pid,.int .i64 n]w fun e w' => e= .returned(.tuple #[.slice none 0 0,.int .i64 4])∧w=w' :=by
 have hq:=k_proc h pid hw none hp 4(by unfold procR;rw [hp])
 clear h hp
 simp only [ptb,Option.map]at hq
 go_enter Tryz.func78,Tryz.ntmps78
 go_wp2_with(go_at_call 67;refine hq.mono ?_;rintro e w1⟨rfl,rfl⟩)
 go_ret2
 exact⟨rfl,rfl⟩
set_option maxRecDepth 100000 in
theorem k_opennone(h:FdB w fdb vb pb mb N S)(pid:Int)(hw:(Lit.int .i64 pid).wf=true)(hp:S.pr pid=none)(s:ByteArray)(n:Int):Calls Tryz.prog 42 #[.pointer(some⟨fdb,0,none⟩),.int .i64 pid,.string s,.int .i64 n]w fun e w' => e= .returned(.tuple #[.int .i64 0,.int .i64 4])∧w=w' :=by
 have hq:=k_freenone h pid hw hp 1
 clear h hp
 go_enter Tryz.func42,Tryz.ntmps42
 go_wp2_with(go_at_call 78;refine hq.mono ?_;rintro e w1⟨rfl,rfl⟩)
 go_ret2
 exact⟨rfl,rfl⟩
set_option maxRecDepth 100000 in
theorem k_pipenone(h:FdB w fdb vb pb mb N S)(pid:Int)(hw:(Lit.int .i64 pid).wf=true)(hp:S.pr pid=none):Calls Tryz.prog 52 #[.pointer(some⟨fdb,0,none⟩),.int .i64 pid]w fun e w' => e= .returned(.tuple #[.int .i64 0,.int .i64 4])∧w=w' :=by
 have hq:=k_freenone h pid hw hp 2
 clear h hp
 go_enter Tryz.func52,Tryz.ntmps52
 go_wp2_with(go_at_call 78;refine hq.mono ?_;rintro e w1⟨rfl,rfl⟩)
 go_ret2
 exact⟨rfl,rfl⟩
set_option maxRecDepth 100000 in
theorem k_pipefull(h:FdB w fdb vb pb mb N S)(pid:Int)(hw:(Lit.int .i64 pid).wf=true)(b:Nat)(hb:S.pr pid=some b)(hl:(freeL(S.sl b)8).length < 2):
  Calls Tryz.prog 52 #[.pointer(some⟨fdb,0,none⟩),.int .i64 pid]w fun e w' => e= .returned(.tuple #[.int .i64 0,.int .i64 14])∧Below w.heap.size w w' :=by
 have hfree:=k_free h pid hw b hb 2(.int .i64 0)0(fun e w' => e= .returned(.tuple #[.slice none 0 0,.int .i64 14])∧Below w.heap.size w w')(fun hlt=> by omega)(fun _ w' hB=> ⟨rfl,hB⟩)
 clear h hb hw hl
 go_enter Tryz.func52,Tryz.ntmps52
 go_wp2_with(go_at_call 78;refine hfree.mono ?_;rintro e w1⟨rfl,hB1⟩;have H1:=Lib.hid hB1;clear hfree hB1)
 go_ret2
 exact⟨rfl,H1.out⟩
set_option maxRecDepth 100000 in
theorem k_dupfull(h:FdB w fdb vb pb mb N S)(pid:Int)(hw:(Lit.int .i64 pid).wf=true)(b:Nat)(hb:S.pr pid=some b)(d x:Nat)(hd:d < 8)(hx:S.sl b d=some x)(hl:∀k,k < 8→S.sl b k≠none):
  Calls Tryz.prog 47 #[.pointer(some⟨fdb,0,none⟩),.int .i64 pid,.int .i64 d]w fun e w' => e= .returned(.tuple #[.int .i64 0,.int .i64 14])∧Below w.heap.size w w' :=by
 have hg:=k_get h pid hw b hb d x hd hx
 have hfr:=freeL_none(S.sl b)hl 8(Nat.le_refl _)
 have hfree:=k_free h pid hw b hb 1(.int .i64 0)0(fun e w' => e= .returned(.tuple #[.slice none 0 0,.int .i64 14])∧Below w.heap.size w w')(fun hlt=> by rw [hfr]at hlt;simp at hlt)(fun _ w' hB=> ⟨rfl,hB⟩)
 clear h hb hw hl hx hfr
 go_enter Tryz.func47,Tryz.ntmps47
 go_wp2_with(first
  | (go_at_call 80;refine hg.mono ?_;rintro e w1⟨rfl,rfl⟩)
  | (go_at_call 78;refine hfree.mono ?_;rintro e w1⟨rfl,hB1⟩;have H1:=Lib.hid hB1;clear hfree hB1))
 go_ret2
 exact⟨rfl,H1.out⟩
end
end Go.Proofs.YtjpjafajploiaaaGreatDoor
namespace Go.Proofs.YtjpjafajploiaaaGreatDoor
open Go.RowKit Own RegJ Two
open Go.Lib hiding intOf
section
variable {w0 w w1 w2 w' :World} {O O1:Nat→Prop} {fdb vb tb fb sb pb mb:Nat} {ns ns' :NSt} {c N N' :Nat} {S S' :FS}
set_option maxRecDepth 100000 in
set_option maxHeartbeats 2000000 in
theorem k_openerr [Inhabited CapT](h:FX w0 O fdb vb tb fb sb pb mb ns c N S w)(hc:c≤9000)(pid:Int)(hw:(Lit.int .i64 pid).wf=true)(b:Nat)(hb:S.pr pid=some b)(d:Nat)(hd:d < 8)(hn:S.sl b d=none)(hl:∀k,k < d→S.sl b k≠none)
  (l:Txt)(hll:l.length≤100000)(n a r:Int)(hr:openF ns l n=(a,r,ns'))(h0:r≠0)(s:ByteArray)(hs:s=B l):
  Calls Tryz.prog 42 #[.pointer(some⟨fdb,0,none⟩),.int .i64 pid,.string s,.int .i64 n]w(FP w0 O fdb vb tb fb sb pb mb ns' (c+3)N S w(.tuple #[.int .i64 0,.int .i64 r])):=by
 obtain⟨fr,hfr⟩:=freeL_least(S.sl b)d hn hl 8 hd
 have hfree:=k_free h.fd pid hw b hb 1(.int .i64 0)0(fun e w' => FreeP w((d:Int)::fr)e w')(fun _ e w' hp=> by rw [hfr]at hp;exact hp)(fun hlt=> by rw [hfr]at hlt;simp at hlt)
 obtain⟨m,hm⟩:∃m,fr.length+1=m:=⟨_,rfl⟩
 have c0:∀w1,Below w.heap.size w w1→w1.cell? ⟨fdb,0,none⟩=some(.pointer(some⟨vb,0,none⟩)):=fun w1 hB=> (h.fd.below hB).f.rd 0
 have hop:=fun w1(hB:Below w.heap.size w w1)=> v_open(h.below hB)hc l hll n a r ns' hr s hs
 have d1:(r==0)=false:=by simpa using h0
 have d2:(r !=0)=true:=by simpa using h0
 clear h hb hw hn hl hr hs hfr h0
 go_enter Tryz.func42,Tryz.ntmps42
 go_wp2_with(first
  | (go_at_call 78;refine hfree.mono ?_;rintro e w1⟨a,cp,gr,rfl,hR,hgO,hB1⟩;have c1:=c0 w1 hB1;rw [show((d:Int)::fr).length=m from by rw [←hm];rfl]at hR ⊢;have ho:=hop w1 hB1;have H1:=Lib.hid hB1;clear hfree hop c0 hR hB1 hgO)
  | (go_at_call 79;refine ho.mono ?_;rintro e w2⟨rfl,hU2,O2,hD2,hO2⟩;have H2:=Lib.hid(And.intro hU2(And.intro hD2 hO2));clear hU2 hD2 hO2 ho c1))
 go_ret2
 obtain⟨hU2,hD2,hO2⟩:=H2.out
 exact⟨rfl,(Upd.of_below(F:=O)H1.out).trans hU2(fun _ _ h=> h),_,hD2,fun k hk=> (hO2 k hk).imp(fun h=> h)(fun h=> Nat.le_trans H1.out.size h)⟩
end
end Go.Proofs.YtjpjafajploiaaaGreatDoor
