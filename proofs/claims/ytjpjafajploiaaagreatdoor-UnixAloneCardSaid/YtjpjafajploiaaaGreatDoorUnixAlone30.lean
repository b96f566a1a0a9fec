/-
  Of no system each call says so; results; what a call's plain answer is.
-/
import Derived.Test.YtjpjafajploiaaaGreatDoorUnixAlone10
import Derived.Lib.BufferRead
import Derived.Laws.StructEq
set_option linter.unusedSimpArgs false
set_option linter.unusedVariables false
namespace Go.Proofs.YtjpjafajploiaaaGreatDoor
open Go.RowKit Own RegJ
open Go.Lib
abbrev resV (c v:Int) (s:ByteArray):Value:= .agg #[.int .i64 c,.int .i64 v,.string s]
section
variable {w:World}
set_option maxRecDepth 100000 in
theorem plain_is (v e0 r1 r2:Int) (hr:(if e0=0 then (0,v) else (e0,0))=(r1,r2)) (w:World):Calls Tryz.prog 41 #[.int .i64 v,.int .i64 e0] w fun e w' => e= .returned (resV r1 r2 ⟨#[]⟩)∧Below w.heap.size w w' :=by
 by_cases h0:e0=0
 ·subst h0
  rw [if_pos rfl] at hr
  cases hr
  go_enter Tryz.func41,Tryz.ntmps41
  go_wp2_with (fail)
  exact bodyPost_ret (v:=resV 0 v ⟨#[]⟩) (by simp [results,Tryz.results41,go_sem]) rfl ⟨rfl,(Below.refl _ _).alloc (Nat.le_refl _) _⟩
 ·rw [if_neg h0] at hr
  cases hr
  have d1:(e0==0)=false:=by simpa using h0
  have d2:(e0 !=0)=true:=by simpa using h0
  clear h0
  go_enter Tryz.func41,Tryz.ntmps41
  go_wp2_with (fail)
  exact bodyPost_ret (v:=resV e0 0 ⟨#[]⟩) (by simp [results,Tryz.results41,go_sem]) rfl ⟨rfl,(Below.refl _ _).alloc (Nat.le_refl _) _⟩
end
end Go.Proofs.YtjpjafajploiaaaGreatDoor
