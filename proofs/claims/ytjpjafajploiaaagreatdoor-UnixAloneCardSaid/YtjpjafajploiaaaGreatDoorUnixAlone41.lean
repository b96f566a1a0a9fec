/-
  May a call be: the program's MayCall and the document's, at every call.
-/
import Derived.Test.YtjpjafajploiaaaGreatDoorUnixAlone40
import Derived.Laws.StructEq
set_option linter.unusedSimpArgs false
set_option linter.unusedVariables false
namespace Go.Proofs.YtjpjafajploiaaaGreatDoor
open Go.RowKit RegJ
theorem eql_func (f:Nat) (w:World):(binOp BinOp.eql 166 (.func (.func f) #[] #[]) .nilFunc).run Tryz.prog w= .ok (.bool false) w:=by kernel_rfl
theorem eql_nilFunc (w:World):(binOp BinOp.eql 166 .nilFunc .nilFunc).run Tryz.prog w= .ok (.bool true) w:=by kernel_rfl
theorem call_1 (w:World):Calls Tryz.prog 77 #[.int .i64 1] w fun e w' => e= .returned (.func (.func 122) #[] #[])∧w=w' :=by
 go_enter Tryz.func77,Tryz.ntmps77
 go_wp2
 go_ret
 exact ⟨rfl,rfl⟩
theorem call_2 (w:World):Calls Tryz.prog 77 #[.int .i64 2] w fun e w' => e= .returned (.func (.func 123) #[] #[])∧w=w' :=by
 go_enter Tryz.func77,Tryz.ntmps77
 go_wp2
 go_ret
 exact ⟨rfl,rfl⟩
theorem call_3 (w:World):Calls Tryz.prog 77 #[.int .i64 3] w fun e w' => e= .returned (.func (.func 124) #[] #[])∧w=w' :=by
 go_enter Tryz.func77,Tryz.ntmps77
 go_wp2
 go_ret
 exact ⟨rfl,rfl⟩
theorem call_4 (w:World):Calls Tryz.prog 77 #[.int .i64 4] w fun e w' => e= .returned (.func (.func 125) #[] #[])∧w=w' :=by
 go_enter Tryz.func77,Tryz.ntmps77
 go_wp2
 go_ret
 exact ⟨rfl,rfl⟩
theorem call_5 (w:World):Calls Tryz.prog 77 #[.int .i64 5] w fun e w' => e= .returned (.func (.func 124) #[] #[])∧w=w' :=by
 go_enter Tryz.func77,Tryz.ntmps77
 go_wp2
 go_ret
 exact ⟨rfl,rfl⟩
theorem call_6 (w:World):Calls Tryz.prog 77 #[.int .i64 6] w fun e w' => e= .returned (.func (.func 123) #[] #[])∧w=w' :=by
 go_enter Tryz.func77,Tryz.ntmps77
 go_wp2
 go_ret
 exact ⟨rfl,rfl⟩
theorem call_7 (w:World):Calls Tryz.prog 77 #[.int .i64 7] w fun e w' => e= .returned (.func (.func 126) #[] #[])∧w=w' :=by
 go_enter Tryz.func77,Tryz.ntmps77
 go_wp2
 go_ret
 exact ⟨rfl,rfl⟩
theorem call_8 (w:World):Calls Tryz.prog 77 #[.int .i64 8] w fun e w' => e= .returned (.func (.func 127) #[] #[])∧w=w' :=by
 go_enter Tryz.func77,Tryz.ntmps77
 go_wp2
 go_ret
 exact ⟨rfl,rfl⟩
theorem call_9 (w:World):Calls Tryz.prog 77 #[.int .i64 9] w fun e w' => e= .returned (.func (.func 127) #[] #[])∧w=w' :=by
 go_enter Tryz.func77,Tryz.ntmps77
 go_wp2
 go_ret
 exact ⟨rfl,rfl⟩
theorem call_10 (w:World):Calls Tryz.prog 77 #[.int .i64 10] w fun e w' => e= .returned (.func (.func 127) #[] #[])∧w=w' :=by
 go_enter Tryz.func77,Tryz.ntmps77
 go_wp2
 go_ret
 exact ⟨rfl,rfl⟩
theorem call_11 (w:World):Calls Tryz.prog 77 #[.int .i64 11] w fun e w' => e= .returned (.func (.func 128) #[] #[])∧w=w' :=by
 go_enter Tryz.func77,Tryz.ntmps77
 go_wp2
 go_ret
 exact ⟨rfl,rfl⟩
theorem call_12 (w:World):Calls Tryz.prog 77 #[.int .i64 12] w fun e w' => e= .returned (.func (.func 127) #[] #[])∧w=w' :=by
 go_enter Tryz.func77,Tryz.ntmps77
 go_wp2
 go_ret
 exact ⟨rfl,rfl⟩
theorem call_13 (w:World):Calls Tryz.prog 77 #[.int .i64 13] w fun e w' => e= .returned (.func (.func 127) #[] #[])∧w=w' :=by
 go_enter Tryz.func77,Tryz.ntmps77
 go_wp2
 go_ret
 exact ⟨rfl,rfl⟩
theorem call_14 (w:World):Calls Tryz.prog 77 #[.int .i64 14] w fun e w' => e= .returned (.func (.func 129) #[] #[])∧w=w' :=by
 go_enter Tryz.func77,Tryz.ntmps77
 go_wp2
 go_ret
 exact ⟨rfl,rfl⟩
theorem call_15 (w:World):Calls Tryz.prog 77 #[.int .i64 15] w fun e w' => e= .returned (.func (.func 130) #[] #[])∧w=w' :=by
 go_enter Tryz.func77,Tryz.ntmps77
 go_wp2
 go_ret
 exact ⟨rfl,rfl⟩
theorem call_16 (w:World):Calls Tryz.prog 77 #[.int .i64 16] w fun e w' => e= .returned (.func (.func 128) #[] #[])∧w=w' :=by
 go_enter Tryz.func77,Tryz.ntmps77
 go_wp2
 go_ret
 exact ⟨rfl,rfl⟩
theorem call_17 (w:World):Calls Tryz.prog 77 #[.int .i64 17] w fun e w' => e= .returned (.func (.func 128) #[] #[])∧w=w' :=by
 go_enter Tryz.func77,Tryz.ntmps77
 go_wp2
 go_ret
 exact ⟨rfl,rfl⟩
theorem call_x (sys:Int) (h:sys < 1∨17 < sys) (w:World):Calls Tryz.prog 77 #[.int .i64 sys] w fun e w' => e= .returned .nilFunc∧w=w' :=by
 go_enter Tryz.func77,Tryz.ntmps77
 go_wp2
 go_ret
 exact ⟨rfl,rfl⟩
theorem may_x (sys a b:Int) (s t:ByteArray) (h:sys < 1∨17 < sys) (w:World):Calls Tryz.prog 40 #[.agg #[.int .i64 sys,.int .i64 a,.int .i64 b,.string s,.string t]] w fun e w' => e= .returned (.bool (mayB sys a b s t))∧Below w.heap.size w w' :=by
 have k1:=eql_nilFunc
 have hm:=mayB_x h a b s t
 rw [hm]
 clear hm
 go_enter Tryz.func40,Tryz.ntmps40
 go_wp2_with (go_at_call 77;refine (call_x _ h _).mono ?_;rintro e w' ⟨rfl,rfl⟩)
 go_ret
 exact ⟨rfl,(Below.refl _ _).alloc (Nat.le_refl _) _⟩
set_option maxRecDepth 100000 in
theorem may_1 (a b:Int) (s t:ByteArray) (w:World):Calls Tryz.prog 40 #[.agg #[.int .i64 1,.int .i64 a,.int .i64 b,.string s,.string t]] w fun e w' => e= .returned (.bool (mayB 1 a b s t))∧Below w.heap.size w w' :=by
 have k1:=eql_func
 rw [mayB_1]
 go_enter Tryz.func40,Tryz.ntmps40
 go_wp2_with (first | (go_at_call 77;refine (call_1 _).mono ?_;rintro e w' ⟨rfl,rfl⟩) | (go_at_call 122;refine (open_any _ _ _ _ _ _).mono ?_;rintro e w1 ⟨rfl,hb⟩;have h1:=Blk.below hb (Blk.new w _ _) (by simp);have c1:=h1.rd;have f1:=h1.nf;have hz:=h1.lt))
 all_goals
  go_ret
  refine ⟨ret_bool ?_,?_⟩
  ·clear k1 h1 c1 f1 hz hb
   grind [emp]
  ·exact (((Below.refl _ _).alloc (Nat.le_refl _) _).trans (hb.mono (by simp))).alloc (Nat.le_of_lt hz) _
set_option maxRecDepth 100000 in
theorem may_2 (a b:Int) (s t:ByteArray) (w:World):Calls Tryz.prog 40 #[.agg #[.int .i64 2,.int .i64 a,.int .i64 b,.string s,.string t]] w fun e w' => e= .returned (.bool (mayB 2 a b s t))∧Below w.heap.size w w' :=by
 have k1:=eql_func
 rw [mayB_2]
 go_enter Tryz.func40,Tryz.ntmps40
 go_wp2_with (first | (go_at_call 77;refine (call_2 _).mono ?_;rintro e w' ⟨rfl,rfl⟩) | (go_at_call 123;refine (number_any _ _ _ _ _ _).mono ?_;rintro e w1 ⟨rfl,hb⟩;have h1:=Blk.below hb (Blk.new w _ _) (by simp);have c1:=h1.rd;have f1:=h1.nf;have hz:=h1.lt))
 all_goals
  go_ret
  refine ⟨ret_bool ?_,?_⟩
  ·clear k1 h1 c1 f1 hz hb
   grind [emp]
  ·exact (((Below.refl _ _).alloc (Nat.le_refl _) _).trans (hb.mono (by simp))).alloc (Nat.le_of_lt hz) _
set_option maxRecDepth 100000 in
theorem may_3 (a b:Int) (s t:ByteArray) (w:World):Calls Tryz.prog 40 #[.agg #[.int .i64 3,.int .i64 a,.int .i64 b,.string s,.string t]] w fun e w' => e= .returned (.bool (mayB 3 a b s t))∧Below w.heap.size w w' :=by
 have k1:=eql_func
 rw [mayB_3]
 go_enter Tryz.func40,Tryz.ntmps40
 go_wp2_with (first | (go_at_call 77;refine (call_3 _).mono ?_;rintro e w' ⟨rfl,rfl⟩) | (go_at_call 124;refine (bytes_any _ _ _ _ _ _).mono ?_;rintro e w1 ⟨rfl,hb⟩;have h1:=Blk.below hb (Blk.new w _ _) (by simp);have c1:=h1.rd;have f1:=h1.nf;have hz:=h1.lt))
 all_goals
  go_ret
  refine ⟨ret_bool ?_,?_⟩
  ·clear k1 h1 c1 f1 hz hb
   grind [emp]
  ·exact (((Below.refl _ _).alloc (Nat.le_refl _) _).trans (hb.mono (by simp))).alloc (Nat.le_of_lt hz) _
set_option maxRecDepth 100000 in
theorem may_4 (a b:Int) (s t:ByteArray) (w:World):Calls Tryz.prog 40 #[.agg #[.int .i64 4,.int .i64 a,.int .i64 b,.string s,.string t]] w fun e w' => e= .returned (.bool (mayB 4 a b s t))∧Below w.heap.size w w' :=by
 have k1:=eql_func
 rw [mayB_4]
 go_enter Tryz.func40,Tryz.ntmps40
 go_wp2_with (first | (go_at_call 77;refine (call_4 _).mono ?_;rintro e w' ⟨rfl,rfl⟩) | (go_at_call 125;refine (write_any _ _ _ _ _ _).mono ?_;rintro e w1 ⟨rfl,hb⟩;have h1:=Blk.below hb (Blk.new w _ _) (by simp);have c1:=h1.rd;have f1:=h1.nf;have hz:=h1.lt))
 all_goals
  go_ret
  refine ⟨ret_bool ?_,?_⟩
  ·clear k1 h1 c1 f1 hz hb
   grind [emp]
  ·exact (((Below.refl _ _).alloc (Nat.le_refl _) _).trans (hb.mono (by simp))).alloc (Nat.le_of_lt hz) _
set_option maxRecDepth 100000 in
theorem may_5 (a b:Int) (s t:ByteArray) (w:World):Calls Tryz.prog 40 #[.agg #[.int .i64 5,.int .i64 a,.int .i64 b,.string s,.string t]] w fun e w' => e= .returned (.bool (mayB 5 a b s t))∧Below w.heap.size w w' :=by
 have k1:=eql_func
 rw [mayB_5]
 go_enter Tryz.func40,Tryz.ntmps40
 go_wp2_with (first | (go_at_call 77;refine (call_5 _).mono ?_;rintro e w' ⟨rfl,rfl⟩) | (go_at_call 124;refine (bytes_any _ _ _ _ _ _).mono ?_;rintro e w1 ⟨rfl,hb⟩;have h1:=Blk.below hb (Blk.new w _ _) (by simp);have c1:=h1.rd;have f1:=h1.nf;have hz:=h1.lt))
 all_goals
  go_ret
  refine ⟨ret_bool ?_,?_⟩
  ·clear k1 h1 c1 f1 hz hb
   grind [emp]
  ·exact (((Below.refl _ _).alloc (Nat.le_refl _) _).trans (hb.mono (by simp))).alloc (Nat.le_of_lt hz) _
set_option maxRecDepth 100000 in
theorem may_6 (a b:Int) (s t:ByteArray) (w:World):Calls Tryz.prog 40 #[.agg #[.int .i64 6,.int .i64 a,.int .i64 b,.string s,.string t]] w fun e w' => e= .returned (.bool (mayB 6 a b s t))∧Below w.heap.size w w' :=by
 have k1:=eql_func
 rw [mayB_6]
 go_enter Tryz.func40,Tryz.ntmps40
 go_wp2_with (first | (go_at_call 77;refine (call_6 _).mono ?_;rintro e w' ⟨rfl,rfl⟩) | (go_at_call 123;refine (number_any _ _ _ _ _ _).mono ?_;rintro e w1 ⟨rfl,hb⟩;have h1:=Blk.below hb (Blk.new w _ _) (by simp);have c1:=h1.rd;have f1:=h1.nf;have hz:=h1.lt))
 all_goals
  go_ret
  refine ⟨ret_bool ?_,?_⟩
  ·clear k1 h1 c1 f1 hz hb
   grind [emp]
  ·exact (((Below.refl _ _).alloc (Nat.le_refl _) _).trans (hb.mono (by simp))).alloc (Nat.le_of_lt hz) _
set_option maxRecDepth 100000 in
theorem may_7 (a b:Int) (s t:ByteArray) (w:World):Calls Tryz.prog 40 #[.agg #[.int .i64 7,.int .i64 a,.int .i64 b,.string s,.string t]] w fun e w' => e= .returned (.bool (mayB 7 a b s t))∧Below w.heap.size w w' :=by
 have k1:=eql_func
 rw [mayB_7]
 go_enter Tryz.func40,Tryz.ntmps40
 go_wp2_with (first | (go_at_call 77;refine (call_7 _).mono ?_;rintro e w' ⟨rfl,rfl⟩) | (go_at_call 126;refine (two_any _ _ _ _ _ _).mono ?_;rintro e w1 ⟨rfl,hb⟩;have h1:=Blk.below hb (Blk.new w _ _) (by simp);have c1:=h1.rd;have f1:=h1.nf;have hz:=h1.lt))
 all_goals
  go_ret
  refine ⟨ret_bool ?_,?_⟩
  ·clear k1 h1 c1 f1 hz hb
   grind [emp]
  ·exact (((Below.refl _ _).alloc (Nat.le_refl _) _).trans (hb.mono (by simp))).alloc (Nat.le_of_lt hz) _
set_option maxRecDepth 100000 in
theorem may_8 (a b:Int) (s t:ByteArray) (w:World):Calls Tryz.prog 40 #[.agg #[.int .i64 8,.int .i64 a,.int .i64 b,.string s,.string t]] w fun e w' => e= .returned (.bool (mayB 8 a b s t))∧Below w.heap.size w w' :=by
 have k1:=eql_func
 rw [mayB_8]
 go_enter Tryz.func40,Tryz.ntmps40
 go_wp2_with (first | (go_at_call 77;refine (call_8 _).mono ?_;rintro e w' ⟨rfl,rfl⟩) | (go_at_call 127;refine (one_any _ _ _ _ _ _).mono ?_;rintro e w1 ⟨rfl,hb⟩;have h1:=Blk.below hb (Blk.new w _ _) (by simp);have c1:=h1.rd;have f1:=h1.nf;have hz:=h1.lt))
 all_goals
  go_ret
  refine ⟨ret_bool ?_,?_⟩
  ·clear k1 h1 c1 f1 hz hb
   grind [emp]
  ·exact (((Below.refl _ _).alloc (Nat.le_refl _) _).trans (hb.mono (by simp))).alloc (Nat.le_of_lt hz) _
set_option maxRecDepth 100000 in
theorem may_9 (a b:Int) (s t:ByteArray) (w:World):Calls Tryz.prog 40 #[.agg #[.int .i64 9,.int .i64 a,.int .i64 b,.string s,.string t]] w fun e w' => e= .returned (.bool (mayB 9 a b s t))∧Below w.heap.size w w' :=by
 have k1:=eql_func
 rw [mayB_9]
 go_enter Tryz.func40,Tryz.ntmps40
 go_wp2_with (first | (go_at_call 77;refine (call_9 _).mono ?_;rintro e w' ⟨rfl,rfl⟩) | (go_at_call 127;refine (one_any _ _ _ _ _ _).mono ?_;rintro e w1 ⟨rfl,hb⟩;have h1:=Blk.below hb (Blk.new w _ _) (by simp);have c1:=h1.rd;have f1:=h1.nf;have hz:=h1.lt))
 all_goals
  go_ret
  refine ⟨ret_bool ?_,?_⟩
  ·clear k1 h1 c1 f1 hz hb
   grind [emp]
  ·exact (((Below.refl _ _).alloc (Nat.le_refl _) _).trans (hb.mono (by simp))).alloc (Nat.le_of_lt hz) _
set_option maxRecDepth 100000 in
theorem may_10 (a b:Int) (s t:ByteArray) (w:World):Calls Tryz.prog 40 #[.agg #[.int .i64 10,.int .i64 a,.int .i64 b,.string s,.string t]] w fun e w' => e= .returned (.bool (mayB 10 a b s t))∧Below w.heap.size w w' :=by
 have k1:=eql_func
 rw [mayB_10]
 go_enter Tryz.func40,Tryz.ntmps40
 go_wp2_with (first | (go_at_call 77;refine (call_10 _).mono ?_;rintro e w' ⟨rfl,rfl⟩) | (go_at_call 127;refine (one_any _ _ _ _ _ _).mono ?_;rintro e w1 ⟨rfl,hb⟩;have h1:=Blk.below hb (Blk.new w _ _) (by simp);have c1:=h1.rd;have f1:=h1.nf;have hz:=h1.lt))
 all_goals
  go_ret
  refine ⟨ret_bool ?_,?_⟩
  ·clear k1 h1 c1 f1 hz hb
   grind [emp]
  ·exact (((Below.refl _ _).alloc (Nat.le_refl _) _).trans (hb.mono (by simp))).alloc (Nat.le_of_lt hz) _
set_option maxRecDepth 100000 in
theorem may_11 (a b:Int) (s t:ByteArray) (w:World):Calls Tryz.prog 40 #[.agg #[.int .i64 11,.int .i64 a,.int .i64 b,.string s,.string t]] w fun e w' => e= .returned (.bool (mayB 11 a b s t))∧Below w.heap.size w w' :=by
 have k1:=eql_func
 rw [mayB_11]
 go_enter Tryz.func40,Tryz.ntmps40
 go_wp2_with (first | (go_at_call 77;refine (call_11 _).mono ?_;rintro e w' ⟨rfl,rfl⟩) | (go_at_call 128;refine (bare_any _ _ _ _ _ _).mono ?_;rintro e w1 ⟨rfl,hb⟩;have h1:=Blk.below hb (Blk.new w _ _) (by simp);have c1:=h1.rd;have f1:=h1.nf;have hz:=h1.lt))
 all_goals
  go_ret
  refine ⟨ret_bool ?_,?_⟩
  ·clear k1 h1 c1 f1 hz hb
   grind [emp]
  ·exact (((Below.refl _ _).alloc (Nat.le_refl _) _).trans (hb.mono (by simp))).alloc (Nat.le_of_lt hz) _
set_option maxRecDepth 100000 in
theorem may_12 (a b:Int) (s t:ByteArray) (w:World):Calls Tryz.prog 40 #[.agg #[.int .i64 12,.int .i64 a,.int .i64 b,.string s,.string t]] w fun e w' => e= .returned (.bool (mayB 12 a b s t))∧Below w.heap.size w w' :=by
 have k1:=eql_func
 rw [mayB_12]
 go_enter Tryz.func40,Tryz.ntmps40
 go_wp2_with (first | (go_at_call 77;refine (call_12 _).mono ?_;rintro e w' ⟨rfl,rfl⟩) | (go_at_call 127;refine (one_any _ _ _ _ _ _).mono ?_;rintro e w1 ⟨rfl,hb⟩;have h1:=Blk.below hb (Blk.new w _ _) (by simp);have c1:=h1.rd;have f1:=h1.nf;have hz:=h1.lt))
 all_goals
  go_ret
  refine ⟨ret_bool ?_,?_⟩
  ·clear k1 h1 c1 f1 hz hb
   grind [emp]
  ·exact (((Below.refl _ _).alloc (Nat.le_refl _) _).trans (hb.mono (by simp))).alloc (Nat.le_of_lt hz) _
set_option maxRecDepth 100000 in
theorem may_13 (a b:Int) (s t:ByteArray) (w:World):Calls Tryz.prog 40 #[.agg #[.int .i64 13,.int .i64 a,.int .i64 b,.string s,.string t]] w fun e w' => e= .returned (.bool (mayB 13 a b s t))∧Below w.heap.size w w' :=by
 have k1:=eql_func
 rw [mayB_13]
 go_enter Tryz.func40,Tryz.ntmps40
 go_wp2_with (first | (go_at_call 77;refine (call_13 _).mono ?_;rintro e w' ⟨rfl,rfl⟩) | (go_at_call 127;refine (one_any _ _ _ _ _ _).mono ?_;rintro e w1 ⟨rfl,hb⟩;have h1:=Blk.below hb (Blk.new w _ _) (by simp);have c1:=h1.rd;have f1:=h1.nf;have hz:=h1.lt))
 all_goals
  go_ret
  refine ⟨ret_bool ?_,?_⟩
  ·clear k1 h1 c1 f1 hz hb
   grind [emp]
  ·exact (((Below.refl _ _).alloc (Nat.le_refl _) _).trans (hb.mono (by simp))).alloc (Nat.le_of_lt hz) _
set_option maxRecDepth 100000 in
theorem may_14 (a b:Int) (s t:ByteArray) (w:World):Calls Tryz.prog 40 #[.agg #[.int .i64 14,.int .i64 a,.int .i64 b,.string s,.string t]] w fun e w' => e= .returned (.bool (mayB 14 a b s t))∧Below w.heap.size w w' :=by
 have k1:=eql_func
 rw [mayB_14]
 go_enter Tryz.func40,Tryz.ntmps40
 go_wp2_with (first | (go_at_call 77;refine (call_14 _).mono ?_;rintro e w' ⟨rfl,rfl⟩) | (go_at_call 129;refine (fork_any _ _ _ _ _ _).mono ?_;rintro e w1 ⟨rfl,hb⟩;have h1:=Blk.below hb (Blk.new w _ _) (by simp);have c1:=h1.rd;have f1:=h1.nf;have hz:=h1.lt))
 all_goals
  go_ret
  refine ⟨ret_bool ?_,?_⟩
  ·clear k1 h1 c1 f1 hz hb
   grind [emp]
  ·exact (((Below.refl _ _).alloc (Nat.le_refl _) _).trans (hb.mono (by simp))).alloc (Nat.le_of_lt hz) _
set_option maxRecDepth 100000 in
theorem may_15 (a b:Int) (s t:ByteArray) (w:World):Calls Tryz.prog 40 #[.agg #[.int .i64 15,.int .i64 a,.int .i64 b,.string s,.string t]] w fun e w' => e= .returned (.bool (mayB 15 a b s t))∧Below w.heap.size w w' :=by
 have k1:=eql_func
 rw [mayB_15]
 go_enter Tryz.func40,Tryz.ntmps40
 go_wp2_with (first | (go_at_call 77;refine (call_15 _).mono ?_;rintro e w' ⟨rfl,rfl⟩) | (go_at_call 130;refine (exit_any _ _ _ _ _ _).mono ?_;rintro e w1 ⟨rfl,hb⟩;have h1:=Blk.below hb (Blk.new w _ _) (by simp);have c1:=h1.rd;have f1:=h1.nf;have hz:=h1.lt))
 all_goals
  go_ret
  refine ⟨ret_bool ?_,?_⟩
  ·clear k1 h1 c1 f1 hz hb
   grind [emp]
  ·exact (((Below.refl _ _).alloc (Nat.le_refl _) _).trans (hb.mono (by simp))).alloc (Nat.le_of_lt hz) _
set_option maxRecDepth 100000 in
theorem may_16 (a b:Int) (s t:ByteArray) (w:World):Calls Tryz.prog 40 #[.agg #[.int .i64 16,.int .i64 a,.int .i64 b,.string s,.string t]] w fun e w' => e= .returned (.bool (mayB 16 a b s t))∧Below w.heap.size w w' :=by
 have k1:=eql_func
 rw [mayB_16]
 go_enter Tryz.func40,Tryz.ntmps40
 go_wp2_with (first | (go_at_call 77;refine (call_16 _).mono ?_;rintro e w' ⟨rfl,rfl⟩) | (go_at_call 128;refine (bare_any _ _ _ _ _ _).mono ?_;rintro e w1 ⟨rfl,hb⟩;have h1:=Blk.below hb (Blk.new w _ _) (by simp);have c1:=h1.rd;have f1:=h1.nf;have hz:=h1.lt))
 all_goals
  go_ret
  refine ⟨ret_bool ?_,?_⟩
  ·clear k1 h1 c1 f1 hz hb
   grind [emp]
  ·exact (((Below.refl _ _).alloc (Nat.le_refl _) _).trans (hb.mono (by simp))).alloc (Nat.le_of_lt hz) _
set_option maxRecDepth 100000 in
theorem may_17 (a b:Int) (s t:ByteArray) (w:World):Calls Tryz.prog 40 #[.agg #[.int .i64 17,.int .i64 a,.int .i64 b,.string s,.string t]] w fun e w' => e= .returned (.bool (mayB 17 a b s t))∧Below w.heap.size w w' :=by
 have k1:=eql_func
 rw [mayB_17]
 go_enter Tryz.func40,Tryz.ntmps40
 go_wp2_with (first | (go_at_call 77;refine (call_17 _).mono ?_;rintro e w' ⟨rfl,rfl⟩) | (go_at_call 128;refine (bare_any _ _ _ _ _ _).mono ?_;rintro e w1 ⟨rfl,hb⟩;have h1:=Blk.below hb (Blk.new w _ _) (by simp);have c1:=h1.rd;have f1:=h1.nf;have hz:=h1.lt))
 all_goals
  go_ret
  refine ⟨ret_bool ?_,?_⟩
  ·clear k1 h1 c1 f1 hz hb
   grind [emp]
  ·exact (((Below.refl _ _).alloc (Nat.le_refl _) _).trans (hb.mono (by simp))).alloc (Nat.le_of_lt hz) _
theorem may_any (sys a b:Int) (s t:ByteArray) (w:World):Calls Tryz.prog 40 #[.agg #[.int .i64 sys,.int .i64 a,.int .i64 b,.string s,.string t]] w fun e w' => e= .returned (.bool (mayB sys a b s t))∧Below w.heap.size w w' :=by
 by_cases hx:sys < 1∨17 < sys
 ·exact may_x sys a b s t hx w
 ·have hc:sys=1∨sys=2∨sys=3∨sys=4∨sys=5∨sys=6∨sys=7∨sys=8∨sys=9∨sys=10∨sys=11∨sys=12∨sys=13∨sys=14∨sys=15∨sys=16∨sys=17:=by omega
  rcases hc with rfl | rfl | rfl | rfl | rfl | rfl | rfl | rfl | rfl | rfl | rfl | rfl | rfl | rfl | rfl | rfl | rfl
  ·exact may_1 a b s t w
  ·exact may_2 a b s t w
  ·exact may_3 a b s t w
  ·exact may_4 a b s t w
  ·exact may_5 a b s t w
  ·exact may_6 a b s t w
  ·exact may_7 a b s t w
  ·exact may_8 a b s t w
  ·exact may_9 a b s t w
  ·exact may_10 a b s t w
  ·exact may_11 a b s t w
  ·exact may_12 a b s t w
  ·exact may_13 a b s t w
  ·exact may_14 a b s t w
  ·exact may_15 a b s t w
  ·exact may_16 a b s t w
  ·exact may_17 a b s t w
end Go.Proofs.YtjpjafajploiaaaGreatDoor
