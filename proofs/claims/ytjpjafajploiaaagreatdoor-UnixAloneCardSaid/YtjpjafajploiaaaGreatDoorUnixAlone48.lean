/-
  What every system answers that is one; of no system each call says so.
-/
import Derived.Test.YtjpjafajploiaaaGreatDoorUnixAlone42
import Derived.Test.YtjpjafajploiaaaGreatDoorProg
import Derived.Test.YtjpjafajploiaaaGreatDoorUnixAlone02
import Derived.ProofKit
import Derived.OpenShut
import Derived.ChangeSlices
import Derived.Lib.SmallJoins
import Derived.Deep.Slices
import Derived.Deep.Fields
set_option linter.unusedSimpArgs false
set_option linter.unusedVariables false
namespace Go.Proofs.YtjpjafajploiaaaGreatDoor
open Go.RowKit Own RegJ Two
open Go.Lib hiding intOf
theorem eqr_n (w:World):(binOp .neq 32 (.agg #[.int .i64 0,.int .i64 0,.string ⟨#[]⟩]) (.agg #[.int .i64 0,.int .i64 0,.string ⟨#[]⟩])).run Tryz.prog w= .ok (.bool false) w:=by kernel_rfl
theorem eqr_s (w:World):(binOp .eql 32 (.agg #[.int .i64 0,.int .i64 1001,.string ⟨#[]⟩]) (.agg #[.int .i64 0,.int .i64 1001,.string ⟨#[]⟩])).run Tryz.prog w= .ok (.bool true) w:=by kernel_rfl
theorem fld_4 (w:World):(Instr.field 32 (.agg #[.int .i64 4,.int .i64 0,.string ⟨#[]⟩]) 0).run Tryz.prog w= .ok (.int .i64 4) w:=by kernel_rfl
def nsD:NSt:=(atPar ns0 [47,100] (mkdirF ns0)).2
theorem mkD:atPar ns0 [47,100] (mkdirF ns0)=(0,nsD):=Prod.ext (by kernel_rfl) rfl
theorem stD:statF nsD [47]=(#[.int .i64 0,.int .i64 0,.bool true,.int .i64 1],0):=Prod.ext (by kernel_rfl) (by kernel_rfl)
set_option maxRecDepth 100000 in
set_option maxHeartbeats 4000000 in
theorem u_awake [Inhabited CapT] (w:World) (hm:MC w) (hc:capI=capV 16):Calls Tryz.prog 9 #[] w fun e w' => e= .returned (.bool true)∧Below w.heap.size w w' :=by
 have hn:=unew_is 16 (by omega) (by omega) w hm hc
 have q1:=eqr_n
 have q2:=eqr_s
 have q3:=fld_4
 clear hm hc
 go_enter Tryz.func9,Tryz.ntmps9
 go_wp2_with (first
  | (go_at_call 10;refine hn.mono ?_;rintro e w1 ⟨syb,fdb,vb,tb,fb,sb,pb,mb,qb,qm,O,rfl,hX⟩;have a1:=ustart_is hX (by omega) (by omega) 1 (by decide) (by omega) rfl rfl;clear hn hX)
  | (go_at_call 11;go_loud (refine a1.mono ?_;rintro e w2 ⟨b,-,rfl,-,O2,hX2,-⟩;have a2:=udo_mk hX2 (by omega) 1 (by decide) rfl [47,100] (by decide) 0 0 0 mkD rfl ⟨#[47,100]⟩ rfl 0 0 ⟨#[]⟩ (by kernel_rfl);clear a1 hX2))
  | (go_at_call 12;(with_reducible refine a2.mono ?_);rintro e w3 ⟨rfl,-,O3,hX3,-⟩;have a3:=udo_stat hX3 1 (by decide) rfl [47] (by decide) stD ⟨#[47]⟩ rfl 0 0 ⟨#[]⟩ (by kernel_rfl);have H3:=Lib.hid hX3;clear a2 hX3)
  | (go_at_call 12;(with_reducible refine a3.mono ?_);rintro e w4 ⟨rfl,hB4⟩;have a4:=udo_dead (H3.out.below hB4) 2 (by decide) rfl #[.int .i64 17,.int .i64 0,.int .i64 0,.string ⟨#[]⟩,.string ⟨#[]⟩];have H4:=Lib.hid hB4;clear a3 hB4)
  | (go_at_call 12;(with_reducible refine a4.mono ?_);rintro e w5 ⟨rfl,hB5⟩;have H5:=Lib.hid ((H3.out.below H4.out).below hB5).fx.bel;clear a4 hB5))
 go_ret
 exact ⟨rfl,H5.out⟩
end Go.Proofs.YtjpjafajploiaaaGreatDoor
