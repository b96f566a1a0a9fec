/-
  A name: the program's Name and the document's Name answer alike.
-/
import Derived.Test.YtjpjafajploiaaaGreatDoorUnixAlone03
import Derived.Test.YtjpjafajploiaaaGreatDoorUnixAlone07
import Derived.Still
import Derived.Tactics
import Derived.WalkKit
import Derived.Lib.IndexLaws
import Derived.Lib.Hide
set_option linter.unusedSimpArgs false
set_option linter.unusedVariables false
namespace Go.Proofs.YtjpjafajploiaaaGreatDoor
open Go.RowKit Own RegJ
open Go.Lib hiding intOf
abbrev Txt:=List UInt8
abbrev B (l:Txt):ByteArray:=⟨l.toArray⟩
theorem B_data (s:ByteArray):B s.data.toList=s:=by cases s;simp
theorem data_B (l:Txt):(B l).data.toList=l:=by simp
theorem B_size (l:Txt):(B l).size=l.length:=by simp [ByteArray.size]
theorem beq_dec (a b:Txt):(a==b)=decide (a=b):=by by_cases h:a=b <;> simp [h]
def nameE (l:Txt):Int:=
 if l= [] then 9 else if 8 < l.length then 20 else if l= [46]∨l= [46,46]∨47∈l∨0∈l then 19 else 0
theorem idx_mem (l:Txt) (c:UInt8):decide (indexByte l c≥0)=decide (c∈l):=by
 congr 1
 rw [eq_iff_iff]
 have hge:=indexByte_ge l c
 constructor
 ·intro h
  obtain ⟨o,ho⟩:∃o:Nat,indexByte l c=o:=⟨(indexByte l c).toNat,by omega⟩
  have:=(indexByte_some ho).1
  exact List.mem_of_getElem? this
 ·intro h
  rcases Int.lt_or_le (indexByte l c) 0 with hn | hn
  ·have h1:indexByte l c= -1:=by omega
   obtain ⟨k,hk,he⟩:=List.getElem_of_mem h
   exact absurd (by rw [List.getElem?_eq_getElem hk,he]) (indexByte_none h1 k)
  ·exact hn
theorem B_list (l:Txt):(B l).toList=l:=by rw [toList_data]
set_option maxRecDepth 100000 in
theorem name_is (l:Txt) (w:World):
  Calls Tryz.prog 147 #[.string (B l)] w fun e w' => e= .returned (.int .i64 (nameE l))∧w=w' :=by
 have e0:(B l).toList.isEmpty=decide (l= []):=by rw [B_list];cases l <;> rfl
 have e1:((B l).toList== [46])=decide (l= [46]):=by rw [B_list,beq_dec]
 have e2:((B l).toList== [46,46])=decide (l= [46,46]):=by rw [B_list,beq_dec]
 have e3:decide (((B l).size:Int) > 8)=decide (8 < l.length):=by rw [B_size];congr 1;rw [eq_iff_iff];omega
 have k1:=idx_mem l 47
 have k2:=idx_mem l 0
 have hi:∀c w,Calls Tryz.prog 196 #[.string (B l),.int .u8 c] w fun e w' => e= .returned (.int .i64 (indexByte l c.toNat.toUInt8))∧w' =w:=fun c w=> by
  have:=Tryz.strings_IndexByte (B l) c w
  rw [data_B] at this;exact this
 unfold nameE
 by_cases h0:l= []
 ·rw [if_pos h0]
  rw [decide_eq_true h0] at e0
  clear hi e1 e2 e3 k1 k2 h0
  generalize B l=s at*
  go_enter Tryz.func147,Tryz.ntmps147
  go_wp2_with (fail)
  go_ret
  exact ⟨rfl,rfl⟩
 ·rw [if_neg h0]
  rw [decide_eq_false h0] at e0
  by_cases h1:8 < l.length
  ·rw [if_pos h1]
   rw [decide_eq_true h1] at e3
   clear hi e1 e2 k1 k2 h0 h1
   generalize B l=s at*
   go_enter Tryz.func147,Tryz.ntmps147
   go_wp2_with (fail)
   go_ret
   exact ⟨rfl,rfl⟩
  ·rw [if_neg h1]
   rw [decide_eq_false h1] at e3
   clear h1
   by_cases q1:l= [46]
   ·rw [decide_eq_true q1] at e1
    rw [if_pos (Or.inl q1)]
    have e1' :=beq_iff_eq.1 e1
    clear q1 hi h0 k1 k2
    generalize B l=s at*
    go_enter Tryz.func147,Tryz.ntmps147
    go_wp2_with (fail)
    go_ret
    exact ⟨rfl,rfl⟩
   ·rw [decide_eq_false q1] at e1
    by_cases q2:l= [46,46]
    ·rw [decide_eq_true q2] at e2
     rw [if_pos (Or.inr (Or.inl q2))]
     clear q1 q2 hi h0 k1 k2
     generalize B l=s at*
     go_enter Tryz.func147,Tryz.ntmps147
     go_wp2_with (fail)
     go_ret
     exact ⟨rfl,rfl⟩
    ·rw [decide_eq_false q2] at e2
     have i1:∀w,Calls Tryz.prog 196 #[.string (B l),.int .u8 47] w fun e w' => e= .returned (.int .i64 (indexByte l 47))∧w' =w:=fun w=> hi 47 w
     have i2:∀w,Calls Tryz.prog 196 #[.string (B l),.int .u8 0] w fun e w' => e= .returned (.int .i64 (indexByte l 0))∧w' =w:=fun w=> hi 0 w
     generalize indexByte l 47=a at k1 i1
     generalize indexByte l 0=b at k2 i2
     clear hi
     by_cases q3:47∈l
     ·rw [decide_eq_true q3] at k1
      rw [if_pos (Or.inr (Or.inr (Or.inl q3)))]
      clear q1 q2 q3 h0 k2
      generalize B l=s at*
      go_enter Tryz.func147,Tryz.ntmps147
      go_wp2_with (first
       | (go_at_call 196;refine (i1 _).mono ?_;rintro e w' ⟨rfl,rfl⟩)
       | (go_at_call 196;refine (i2 _).mono ?_;rintro e w' ⟨rfl,rfl⟩))
      go_ret
      exact ⟨rfl,rfl⟩
     ·rw [decide_eq_false q3] at k1
      by_cases q4:0∈l
      ·rw [decide_eq_true q4] at k2
       rw [if_pos (Or.inr (Or.inr (Or.inr q4)))]
       clear q1 q2 q3 q4 h0
       generalize B l=s at*
       go_enter Tryz.func147,Tryz.ntmps147
       go_wp2_with (first
        | (go_at_call 196;refine (i1 _).mono ?_;rintro e w' ⟨rfl,rfl⟩)
        | (go_at_call 196;refine (i2 _).mono ?_;rintro e w' ⟨rfl,rfl⟩))
       go_ret
       exact ⟨rfl,rfl⟩
      ·rw [decide_eq_false q4] at k2
       rw [if_neg (by intro h;rcases h with h | h | h | h;exact q1 h;exact q2 h;exact q3 h;exact q4 h)]
       clear q1 q2 q3 q4 h0
       generalize B l=s at*
       go_enter Tryz.func147,Tryz.ntmps147
       go_wp2_with (first
        | (go_at_call 196;refine (i1 _).mono ?_;rintro e w' ⟨rfl,rfl⟩)
        | (go_at_call 196;refine (i2 _).mono ?_;rintro e w' ⟨rfl,rfl⟩))
       go_ret
       exact ⟨rfl,rfl⟩
theorem byte_at {s:ByteArray} {l:Txt} (hd:s.data.toList=l) {i:Nat} {c:UInt8} (h:l[i]? =some c) (hs:i < s.size):s[i]=c:=by
 subst hd
 have:s.data[i]? =some c:=by rw [←Array.getElem?_toList];exact h
 obtain ⟨h1,h2⟩:=Array.getElem?_eq_some_iff.1 this
 exact h2
theorem u8_eq (c:UInt8) (k:Nat) (hk:k < 256):((c.toNat:Int)==(k:Int))=decide (c=UInt8.ofNat k):=by
 have:(c.toNat:Int)=(k:Int)↔c=UInt8.ofNat k:=by
  constructor
  ·intro h
   apply UInt8.toNat_inj.1
   have h1:c.toNat=k:=by omega
   rw [h1,UInt8.toNat_ofNat'];omega
  ·intro h;subst h;rw [UInt8.toNat_ofNat'];omega
 by_cases h:c=UInt8.ofNat k
 ·rw [decide_eq_true h,beq_iff_eq];exact this.2 h
 ·rw [decide_eq_false h,beq_eq_false_iff_ne];exact fun e=> h (this.1 e)
end Go.Proofs.YtjpjafajploiaaaGreatDoor
namespace Go.Proofs.YtjpjafajploiaaaGreatDoor
open Go.RowKit
def withinB (x l m:Int):Bool:=decide (l≤x) && decide (x≤m)
def pathB (s:ByteArray):Bool:=decide (s.size≤100)
def emp (s:ByteArray):Bool:=s.toList.isEmpty
def mayB (sys a b:Int) (s t:ByteArray):Bool:=
 if sys=1 then pathB s && withinB a 0 7 && decide (0=b) && emp t
 else if sys=2 then withinB a 0 7 && decide (0=b) && emp s && emp t
 else if sys=3 then withinB a 0 7 && withinB b 0 512 && emp s && emp t
 else if sys=4 then withinB a 0 7 && decide ((s.size:Int)≤512) && decide (0=b) && emp t
 else if sys=5 then withinB a 0 7 && withinB b 0 512 && emp s && emp t
 else if sys=6 then withinB a 0 7 && decide (0=b) && emp s && emp t
 else if sys=7 then pathB s && pathB t && decide (0=a) && decide (0=b)
 else if sys=8 then pathB s && decide (0=a) && decide (0=b) && emp t
 else if sys=9 then pathB s && decide (0=a) && decide (0=b) && emp t
 else if sys=10 then pathB s && decide (0=a) && decide (0=b) && emp t
 else if sys=11 then decide (0=a) && decide (0=b) && emp s && emp t
 else if sys=12 then pathB s && decide (0=a) && decide (0=b) && emp t
 else if sys=13 then pathB s && decide (0=a) && decide (0=b) && emp t
 else if sys=14 then withinB a 0 39 && decide (0=b) && emp s && emp t
 else if sys=15 then withinB a 0 255 && decide (0=b) && emp s && emp t
 else if sys=16 then decide (0=a) && decide (0=b) && emp s && emp t
 else if sys=17 then decide (0=a) && decide (0=b) && emp s && emp t
 else false
theorem mayB_1 (a b:Int) (s t:ByteArray):mayB 1 a b s t=(pathB s && withinB a 0 7 && decide (0=b) && emp t):=rfl
theorem mayB_2 (a b:Int) (s t:ByteArray):mayB 2 a b s t=(withinB a 0 7 && decide (0=b) && emp s && emp t):=rfl
theorem mayB_3 (a b:Int) (s t:ByteArray):mayB 3 a b s t=(withinB a 0 7 && withinB b 0 512 && emp s && emp t):=rfl
theorem mayB_4 (a b:Int) (s t:ByteArray):mayB 4 a b s t=(withinB a 0 7 && decide ((s.size:Int)≤512) && decide (0=b) && emp t):=rfl
theorem mayB_5 (a b:Int) (s t:ByteArray):mayB 5 a b s t=(withinB a 0 7 && withinB b 0 512 && emp s && emp t):=rfl
theorem mayB_6 (a b:Int) (s t:ByteArray):mayB 6 a b s t=(withinB a 0 7 && decide (0=b) && emp s && emp t):=rfl
theorem mayB_7 (a b:Int) (s t:ByteArray):mayB 7 a b s t=(pathB s && pathB t && decide (0=a) && decide (0=b)):=rfl
theorem mayB_8 (a b:Int) (s t:ByteArray):mayB 8 a b s t=(pathB s && decide (0=a) && decide (0=b) && emp t):=rfl
theorem mayB_9 (a b:Int) (s t:ByteArray):mayB 9 a b s t=(pathB s && decide (0=a) && decide (0=b) && emp t):=rfl
theorem mayB_10 (a b:Int) (s t:ByteArray):mayB 10 a b s t=(pathB s && decide (0=a) && decide (0=b) && emp t):=rfl
theorem mayB_11 (a b:Int) (s t:ByteArray):mayB 11 a b s t=(decide (0=a) && decide (0=b) && emp s && emp t):=rfl
theorem mayB_12 (a b:Int) (s t:ByteArray):mayB 12 a b s t=(pathB s && decide (0=a) && decide (0=b) && emp t):=rfl
theorem mayB_13 (a b:Int) (s t:ByteArray):mayB 13 a b s t=(pathB s && decide (0=a) && decide (0=b) && emp t):=rfl
theorem mayB_14 (a b:Int) (s t:ByteArray):mayB 14 a b s t=(withinB a 0 39 && decide (0=b) && emp s && emp t):=rfl
theorem mayB_15 (a b:Int) (s t:ByteArray):mayB 15 a b s t=(withinB a 0 255 && decide (0=b) && emp s && emp t):=rfl
theorem mayB_16 (a b:Int) (s t:ByteArray):mayB 16 a b s t=(decide (0=a) && decide (0=b) && emp s && emp t):=rfl
theorem mayB_17 (a b:Int) (s t:ByteArray):mayB 17 a b s t=(decide (0=a) && decide (0=b) && emp s && emp t):=rfl
theorem mayB_x {sys:Int} (h:sys < 1∨17 < sys) (a b:Int) (s t:ByteArray):mayB sys a b s t=false:=by
 unfold mayB
 repeat (rw [if_neg (by omega)])
end Go.Proofs.YtjpjafajploiaaaGreatDoor
