
import Derived.Test.YtjpjafajploiaaaGreatDoorProg
import Derived.WalkKit
import Derived.WalkSpells
import Derived.WalkLawsBesides
import Derived.Deep.RegionWith
import Derived.Deep.QuietTactic
import Derived.BigQuiet
import Derived.Deep.RegionHeld3
import Derived.Test.YtjpjafajploiaaaGreatDoorUnixAlone02
import Derived.Test.YtjpjafajploiaaaGreatDoorUnixAlone08
set_option linter.unusedSimpArgs false
set_option linter.unusedVariables false
namespace Go.Proofs.YtjpjafajploiaaaGreatDoor
open Go.RowKit
theorem ret_bool {a b:Bool} (h:a=b):Ending.returned (.bool a)= .returned (.bool b):=by rw [h]
theorem within_any (x l m:Int) (w:World):
  Calls Tryz.prog 184 #[.int .i64 x,.int .i64 l,.int .i64 m] w fun e w' => e= .returned (.bool (withinB x l m))∧w=w' :=by
 go_enter Tryz.func184,Tryz.ntmps184
 go_wp2
 all_goals go_ret
 ·exact ⟨ret_bool (by simp [withinB];omega),rfl⟩
 ·exact ⟨ret_bool (by simp [withinB];omega),rfl⟩
theorem path_any (s:ByteArray) (w:World):
  Calls Tryz.prog 183 #[.string s] w fun e w' => e= .returned (.bool (pathB s))∧w=w' :=by
 go_enter Tryz.func183,Tryz.ntmps183
 go_wp2
 go_ret
 exact ⟨ret_bool (by simp [pathB];omega),rfl⟩
theorem bare_any (sys a b:Int) (s t:ByteArray) (w:World):
  Calls Tryz.prog 128 #[.agg #[.int .i64 sys,.int .i64 a,.int .i64 b,.string s,.string t]] w fun e w' => e= .returned (.tuple #[.agg #[.int .i64 0,.int .i64 0,.int .i64 0,.string ⟨#[]⟩,.string ⟨#[]⟩],.bool true])∧Below w.heap.size w w' :=by
 go_enter Tryz.func128,Tryz.ntmps128
 go_wp2
 exact bodyPost_ret (v:= .tuple #[.agg #[.int .i64 0,.int .i64 0,.int .i64 0,.string ⟨#[]⟩,.string ⟨#[]⟩],.bool true]) (by simp [results,Tryz.results128,go_sem]) rfl ⟨rfl,((Below.refl _ _).alloc (Nat.le_refl _) _).alloc (by simp) _⟩
open RegJ
theorem within_is {x l m:Int} {v:Bool} (h:withinB x l m=v) (w:World):
  Calls Tryz.prog 184 #[.int .i64 x,.int .i64 l,.int .i64 m] w fun e w' => e= .returned (.bool v)∧w=w' :=h▸within_any x l m w
theorem path_is {s:ByteArray} {v:Bool} (h:pathB s=v) (w:World):
  Calls Tryz.prog 183 #[.string s] w fun e w' => e= .returned (.bool v)∧w=w' :=h▸path_any s w
set_option maxRecDepth 100000 in
theorem one_any (sys a b:Int) (s t:ByteArray) (w:World):
    Calls Tryz.prog 127 #[.agg #[.int .i64 sys,.int .i64 a,.int .i64 b,.string s,.string t]] w fun e w' => e= .returned (.tuple #[.agg #[.int .i64 0,.int .i64 0,.int .i64 0,.string s,.string ⟨#[]⟩],.bool (pathB s)])∧Below w.heap.size w w' :=by
  go_enter Tryz.func127,Tryz.ntmps127
  go_wp2
  refine region_J (fun f w' => Below w.heap.size w w' ∧Blk w' w.heap.size #[.int .i64 sys,.int .i64 a,.int .i64 b,.string s,.string t] 35∧Blk w' (w.heap.size+1) (Sel (f 6) #[.int .i64 0,.int .i64 0,.int .i64 0,.string s,.string ⟨#[]⟩] #[.int .i64 0,.int .i64 0,.int .i64 0,.string ⟨#[]⟩,.string ⟨#[]⟩]) 35) (by kernel_rfl) (by kernel_rfl) ?_ ?_
  · exact ⟨(((Below.refl _ _).alloc (Nat.le_refl _) _).alloc (by simp) _).drew,((Blk.new _ _ _).alloc _).drew,(Blk.new' (by simp)).drew⟩
  · iterate 6
      first
        | refine wpJ_skip (by rfl) (fun f w' _ hJ=> hJ) ?_
        | (apply wpJ_op rfl (by rfl)
           · intro f w' hf hJ Q1 hQ
             obtain ⟨hb,h1,h2⟩:=hJ;have c1:=h1.rd
             simp only [nrm] at hQ
             go_wp2_with (first | (go_at_call 184;refine (within_is (by first | assumption | rfl) _).mono ?_;rintro e w' ⟨rfl,rfl⟩) | (go_at_call 183;refine (path_is (by first | assumption | rfl) _).mono ?_;rintro e w' ⟨rfl,rfl⟩))
             exact hQ _ _ rfl ⟨hb,h1,h2⟩
           )
      simp only [nrm]
    apply wpJ_op (v:=undef) rfl (by rfl)
    · intro f w' hf hJ Q1 hQ
      obtain ⟨hb,h1,h2⟩:=hJ
      have hff:f 6=false:=hf.1
      rw [hff,Sel_false] at h2
      have c1:=h2.rd
      have f1:=h2.nf
      simp only [nrm] at hQ
      go_wp2
      refine hQ _ _ rfl ⟨?_,?_,?_⟩
      · exact ((((hb.setCell (by simp) _).setCell (by simp) _).setCell (by simp) _).setCell (by simp) _).setCell (by simp) _
      · exact ((((h1.set_ne (by simp) _).set_ne (by simp) _).set_ne (by simp) _).set_ne (by simp) _).set_ne (by simp) _
      · exact Blk.of (((((h2.set 0 _).set 1 _).set 2 _).set 3 _).set 4 _) rfl
    simp only [nrm]
    apply wpJ_op rfl (by rfl)
    · intro f w' hf hJ Q1 hQ
      obtain ⟨hb,h1,h2⟩:=hJ
      simp only [nrm] at hQ
      go_wp2
      exact hQ _ _ rfl ⟨hb,h1,h2⟩
    simp only [nrm]
    refine wpJ_nil ?_
    intro w' hJ
    obtain ⟨hb,h1,h2⟩:=hJ
    have h2:Blk w' (w.heap.size+1) #[.int .i64 0,.int .i64 0,.int .i64 0,.string s,.string ⟨#[]⟩] 35:=h2
    have c1:=h2.rd
    go_wp2
    exact bodyPost_ret (v:= .tuple #[.agg #[.int .i64 0,.int .i64 0,.int .i64 0,.string s,.string ⟨#[]⟩],.bool (pathB s)]) (by simp [results,Tryz.results127,go_sem,c1]) rfl ⟨rfl,hb⟩
set_option maxRecDepth 100000 in
theorem two_any (sys a b:Int) (s t:ByteArray) (w:World):
    Calls Tryz.prog 126 #[.agg #[.int .i64 sys,.int .i64 a,.int .i64 b,.string s,.string t]] w fun e w' => e= .returned (.tuple #[.agg #[.int .i64 0,.int .i64 0,.int .i64 0,.string s,.string t],.bool (pathB s && pathB t)])∧Below w.heap.size w w' :=by
  rcases Bool.eq_false_or_eq_true (pathB s) with hs | hs
  · go_enter Tryz.func126,Tryz.ntmps126
    go_wp2
    refine region_J (fun f w' => Below w.heap.size w w' ∧Blk w' w.heap.size #[.int .i64 sys,.int .i64 a,.int .i64 b,.string s,.string t] 35∧Blk w' (w.heap.size+1) (Sel (f 13) #[.int .i64 0,.int .i64 0,.int .i64 0,.string s,.string t] #[.int .i64 0,.int .i64 0,.int .i64 0,.string ⟨#[]⟩,.string ⟨#[]⟩]) 35) (by kernel_rfl) (by kernel_rfl) ?_ ?_
    · exact ⟨(((Below.refl _ _).alloc (Nat.le_refl _) _).alloc (by simp) _).drew,((Blk.new _ _ _).alloc _).drew,(Blk.new' (by simp)).drew⟩
    · iterate 13
        first
          | refine wpJ_skip (by rfl) (fun f w' _ hJ=> hJ) ?_
          | (apply wpJ_op rfl (by rfl)
             · intro f w' hf hJ Q1 hQ
               obtain ⟨hb,h1,h2⟩:=hJ;have c1:=h1.rd
               simp only [nrm] at hQ
               go_wp2_with (first | (go_at_call 184;refine (within_is (by first | assumption | rfl) _).mono ?_;rintro e w' ⟨rfl,rfl⟩) | (go_at_call 183;refine (path_is (by first | assumption | rfl) _).mono ?_;rintro e w' ⟨rfl,rfl⟩))
               exact hQ _ _ rfl ⟨hb,h1,h2⟩
             )
        simp only [nrm]
      apply wpJ_op (v:=undef) rfl (by rfl)
      · intro f w' hf hJ Q1 hQ
        obtain ⟨hb,h1,h2⟩:=hJ
        have hff:f 13=false:=hf.1
        rw [hff,Sel_false] at h2
        have c1:=h2.rd
        have f1:=h2.nf
        simp only [nrm] at hQ
        go_wp2
        refine hQ _ _ rfl ⟨?_,?_,?_⟩
        · exact ((((hb.setCell (by simp) _).setCell (by simp) _).setCell (by simp) _).setCell (by simp) _).setCell (by simp) _
        · exact ((((h1.set_ne (by simp) _).set_ne (by simp) _).set_ne (by simp) _).set_ne (by simp) _).set_ne (by simp) _
        · exact Blk.of (((((h2.set 0 _).set 1 _).set 2 _).set 3 _).set 4 _) rfl
      simp only [nrm]
      apply wpJ_op rfl (by rfl)
      · intro f w' hf hJ Q1 hQ
        obtain ⟨hb,h1,h2⟩:=hJ
        simp only [nrm] at hQ
        go_wp2
        exact hQ _ _ rfl ⟨hb,h1,h2⟩
      simp only [nrm]
      refine wpJ_nil ?_
      intro w' hJ
      obtain ⟨hb,h1,h2⟩:=hJ
      have h2:Blk w' (w.heap.size+1) #[.int .i64 0,.int .i64 0,.int .i64 0,.string s,.string t] 35:=h2
      have c1:=h2.rd
      go_wp2
      exact bodyPost_ret (v:= .tuple #[.agg #[.int .i64 0,.int .i64 0,.int .i64 0,.string s,.string t],.bool (pathB t)]) (by simp [results,Tryz.results126,go_sem,c1]) rfl ⟨by rw [hs,Bool.true_and],hb⟩
  · go_enter Tryz.func126,Tryz.ntmps126
    go_wp2
    refine region_J (fun f w' => Below w.heap.size w w' ∧Blk w' w.heap.size #[.int .i64 sys,.int .i64 a,.int .i64 b,.string s,.string t] 35∧Blk w' (w.heap.size+1) (Sel (f 13) #[.int .i64 0,.int .i64 0,.int .i64 0,.string s,.string t] #[.int .i64 0,.int .i64 0,.int .i64 0,.string ⟨#[]⟩,.string ⟨#[]⟩]) 35) (by kernel_rfl) (by kernel_rfl) ?_ ?_
    · exact ⟨(((Below.refl _ _).alloc (Nat.le_refl _) _).alloc (by simp) _).drew,((Blk.new _ _ _).alloc _).drew,(Blk.new' (by simp)).drew⟩
    · iterate 13
        first
          | refine wpJ_skip (by rfl) (fun f w' _ hJ=> hJ) ?_
          | (apply wpJ_op rfl (by rfl)
             · intro f w' hf hJ Q1 hQ
               obtain ⟨hb,h1,h2⟩:=hJ;have c1:=h1.rd
               simp only [nrm] at hQ
               go_wp2_with (first | (go_at_call 184;refine (within_is (by first | assumption | rfl) _).mono ?_;rintro e w' ⟨rfl,rfl⟩) | (go_at_call 183;refine (path_is (by first | assumption | rfl) _).mono ?_;rintro e w' ⟨rfl,rfl⟩))
               exact hQ _ _ rfl ⟨hb,h1,h2⟩
             )
        simp only [nrm]
      apply wpJ_op (v:=undef) rfl (by rfl)
      · intro f w' hf hJ Q1 hQ
        obtain ⟨hb,h1,h2⟩:=hJ
        have hff:f 13=false:=hf.1
        rw [hff,Sel_false] at h2
        have c1:=h2.rd
        have f1:=h2.nf
        simp only [nrm] at hQ
        go_wp2
        refine hQ _ _ rfl ⟨?_,?_,?_⟩
        · exact ((((hb.setCell (by simp) _).setCell (by simp) _).setCell (by simp) _).setCell (by simp) _).setCell (by simp) _
        · exact ((((h1.set_ne (by simp) _).set_ne (by simp) _).set_ne (by simp) _).set_ne (by simp) _).set_ne (by simp) _
        · exact Blk.of (((((h2.set 0 _).set 1 _).set 2 _).set 3 _).set 4 _) rfl
      simp only [nrm]
      apply wpJ_op rfl (by rfl)
      · intro f w' hf hJ Q1 hQ
        obtain ⟨hb,h1,h2⟩:=hJ
        simp only [nrm] at hQ
        go_wp2
        exact hQ _ _ rfl ⟨hb,h1,h2⟩
      simp only [nrm]
      refine wpJ_nil ?_
      intro w' hJ
      obtain ⟨hb,h1,h2⟩:=hJ
      have h2:Blk w' (w.heap.size+1) #[.int .i64 0,.int .i64 0,.int .i64 0,.string s,.string t] 35:=h2
      have c1:=h2.rd
      go_wp2
      exact bodyPost_ret (v:= .tuple #[.agg #[.int .i64 0,.int .i64 0,.int .i64 0,.string s,.string t],.bool false]) (by simp [results,Tryz.results126,go_sem,c1]) rfl ⟨by rw [hs,Bool.false_and],hb⟩
set_option maxRecDepth 100000 in
theorem open_any (sys a b:Int) (s t:ByteArray) (w:World):
    Calls Tryz.prog 122 #[.agg #[.int .i64 sys,.int .i64 a,.int .i64 b,.string s,.string t]] w fun e w' => e= .returned (.tuple #[.agg #[.int .i64 0,.int .i64 a,.int .i64 0,.string s,.string ⟨#[]⟩],.bool (pathB s && withinB a 0 7)])∧Below w.heap.size w w' :=by
  rcases Bool.eq_false_or_eq_true (pathB s) with hs | hs
  · go_enter Tryz.func122,Tryz.ntmps122
    go_wp2
    refine region_J (fun f w' => Below w.heap.size w w' ∧Blk w' w.heap.size #[.int .i64 sys,.int .i64 a,.int .i64 b,.string s,.string t] 35∧Blk w' (w.heap.size+1) (Sel (f 13) #[.int .i64 0,.int .i64 a,.int .i64 0,.string s,.string ⟨#[]⟩] #[.int .i64 0,.int .i64 0,.int .i64 0,.string ⟨#[]⟩,.string ⟨#[]⟩]) 35) (by kernel_rfl) (by kernel_rfl) ?_ ?_
    · exact ⟨(((Below.refl _ _).alloc (Nat.le_refl _) _).alloc (by simp) _).drew,((Blk.new _ _ _).alloc _).drew,(Blk.new' (by simp)).drew⟩
    · iterate 13
        first
          | refine wpJ_skip (by rfl) (fun f w' _ hJ=> hJ) ?_
          | (apply wpJ_op rfl (by rfl)
             · intro f w' hf hJ Q1 hQ
               obtain ⟨hb,h1,h2⟩:=hJ;have c1:=h1.rd
               simp only [nrm] at hQ
               go_wp2_with (first | (go_at_call 184;refine (within_is (by first | assumption | rfl) _).mono ?_;rintro e w' ⟨rfl,rfl⟩) | (go_at_call 183;refine (path_is (by first | assumption | rfl) _).mono ?_;rintro e w' ⟨rfl,rfl⟩))
               exact hQ _ _ rfl ⟨hb,h1,h2⟩
             )
        simp only [nrm]
      apply wpJ_op (v:=undef) rfl (by rfl)
      · intro f w' hf hJ Q1 hQ
        obtain ⟨hb,h1,h2⟩:=hJ
        have hff:f 13=false:=hf.1
        rw [hff,Sel_false] at h2
        have c1:=h2.rd
        have f1:=h2.nf
        simp only [nrm] at hQ
        go_wp2
        refine hQ _ _ rfl ⟨?_,?_,?_⟩
        · exact ((((hb.setCell (by simp) _).setCell (by simp) _).setCell (by simp) _).setCell (by simp) _).setCell (by simp) _
        · exact ((((h1.set_ne (by simp) _).set_ne (by simp) _).set_ne (by simp) _).set_ne (by simp) _).set_ne (by simp) _
        · exact Blk.of (((((h2.set 0 _).set 1 _).set 2 _).set 3 _).set 4 _) rfl
      simp only [nrm]
      apply wpJ_op rfl (by rfl)
      · intro f w' hf hJ Q1 hQ
        obtain ⟨hb,h1,h2⟩:=hJ
        simp only [nrm] at hQ
        go_wp2
        exact hQ _ _ rfl ⟨hb,h1,h2⟩
      simp only [nrm]
      refine wpJ_nil ?_
      intro w' hJ
      obtain ⟨hb,h1,h2⟩:=hJ
      have h2:Blk w' (w.heap.size+1) #[.int .i64 0,.int .i64 a,.int .i64 0,.string s,.string ⟨#[]⟩] 35:=h2
      have c1:=h2.rd
      go_wp2
      exact bodyPost_ret (v:= .tuple #[.agg #[.int .i64 0,.int .i64 a,.int .i64 0,.string s,.string ⟨#[]⟩],.bool (withinB a 0 7)]) (by simp [results,Tryz.results122,go_sem,c1]) rfl ⟨by rw [hs,Bool.true_and],hb⟩
  · go_enter Tryz.func122,Tryz.ntmps122
    go_wp2
    refine region_J (fun f w' => Below w.heap.size w w' ∧Blk w' w.heap.size #[.int .i64 sys,.int .i64 a,.int .i64 b,.string s,.string t] 35∧Blk w' (w.heap.size+1) (Sel (f 13) #[.int .i64 0,.int .i64 a,.int .i64 0,.string s,.string ⟨#[]⟩] #[.int .i64 0,.int .i64 0,.int .i64 0,.string ⟨#[]⟩,.string ⟨#[]⟩]) 35) (by kernel_rfl) (by kernel_rfl) ?_ ?_
    · exact ⟨(((Below.refl _ _).alloc (Nat.le_refl _) _).alloc (by simp) _).drew,((Blk.new _ _ _).alloc _).drew,(Blk.new' (by simp)).drew⟩
    · iterate 13
        first
          | refine wpJ_skip (by rfl) (fun f w' _ hJ=> hJ) ?_
          | (apply wpJ_op rfl (by rfl)
             · intro f w' hf hJ Q1 hQ
               obtain ⟨hb,h1,h2⟩:=hJ;have c1:=h1.rd
               simp only [nrm] at hQ
               go_wp2_with (first | (go_at_call 184;refine (within_is (by first | assumption | rfl) _).mono ?_;rintro e w' ⟨rfl,rfl⟩) | (go_at_call 183;refine (path_is (by first | assumption | rfl) _).mono ?_;rintro e w' ⟨rfl,rfl⟩))
               exact hQ _ _ rfl ⟨hb,h1,h2⟩
             )
        simp only [nrm]
      apply wpJ_op (v:=undef) rfl (by rfl)
      · intro f w' hf hJ Q1 hQ
        obtain ⟨hb,h1,h2⟩:=hJ
        have hff:f 13=false:=hf.1
        rw [hff,Sel_false] at h2
        have c1:=h2.rd
        have f1:=h2.nf
        simp only [nrm] at hQ
        go_wp2
        refine hQ _ _ rfl ⟨?_,?_,?_⟩
        · exact ((((hb.setCell (by simp) _).setCell (by simp) _).setCell (by simp) _).setCell (by simp) _).setCell (by simp) _
        · exact ((((h1.set_ne (by simp) _).set_ne (by simp) _).set_ne (by simp) _).set_ne (by simp) _).set_ne (by simp) _
        · exact Blk.of (((((h2.set 0 _).set 1 _).set 2 _).set 3 _).set 4 _) rfl
      simp only [nrm]
      apply wpJ_op rfl (by rfl)
      · intro f w' hf hJ Q1 hQ
        obtain ⟨hb,h1,h2⟩:=hJ
        simp only [nrm] at hQ
        go_wp2
        exact hQ _ _ rfl ⟨hb,h1,h2⟩
      simp only [nrm]
      refine wpJ_nil ?_
      intro w' hJ
      obtain ⟨hb,h1,h2⟩:=hJ
      have h2:Blk w' (w.heap.size+1) #[.int .i64 0,.int .i64 a,.int .i64 0,.string s,.string ⟨#[]⟩] 35:=h2
      have c1:=h2.rd
      go_wp2
      exact bodyPost_ret (v:= .tuple #[.agg #[.int .i64 0,.int .i64 a,.int .i64 0,.string s,.string ⟨#[]⟩],.bool false]) (by simp [results,Tryz.results122,go_sem,c1]) rfl ⟨by rw [hs,Bool.false_and],hb⟩
set_option maxRecDepth 100000 in
theorem number_any (sys a b:Int) (s t:ByteArray) (w:World):
    Calls Tryz.prog 123 #[.agg #[.int .i64 sys,.int .i64 a,.int .i64 b,.string s,.string t]] w fun e w' => e= .returned (.tuple #[.agg #[.int .i64 0,.int .i64 a,.int .i64 0,.string ⟨#[]⟩,.string ⟨#[]⟩],.bool (withinB a 0 7)])∧Below w.heap.size w w' :=by
  go_enter Tryz.func123,Tryz.ntmps123
  go_wp2
  refine region_J (fun f w' => Below w.heap.size w w' ∧Blk w' w.heap.size #[.int .i64 sys,.int .i64 a,.int .i64 b,.string s,.string t] 35∧Blk w' (w.heap.size+1) (Sel (f 6) #[.int .i64 0,.int .i64 a,.int .i64 0,.string ⟨#[]⟩,.string ⟨#[]⟩] #[.int .i64 0,.int .i64 0,.int .i64 0,.string ⟨#[]⟩,.string ⟨#[]⟩]) 35) (by kernel_rfl) (by kernel_rfl) ?_ ?_
  · exact ⟨(((Below.refl _ _).alloc (Nat.le_refl _) _).alloc (by simp) _).drew,((Blk.new _ _ _).alloc _).drew,(Blk.new' (by simp)).drew⟩
  · iterate 6
      first
        | refine wpJ_skip (by rfl) (fun f w' _ hJ=> hJ) ?_
        | (apply wpJ_op rfl (by rfl)
           · intro f w' hf hJ Q1 hQ
             obtain ⟨hb,h1,h2⟩:=hJ;have c1:=h1.rd
             simp only [nrm] at hQ
             go_wp2_with (first | (go_at_call 184;refine (within_is (by first | assumption | rfl) _).mono ?_;rintro e w' ⟨rfl,rfl⟩) | (go_at_call 183;refine (path_is (by first | assumption | rfl) _).mono ?_;rintro e w' ⟨rfl,rfl⟩))
             exact hQ _ _ rfl ⟨hb,h1,h2⟩
           )
      simp only [nrm]
    apply wpJ_op (v:=undef) rfl (by rfl)
    · intro f w' hf hJ Q1 hQ
      obtain ⟨hb,h1,h2⟩:=hJ
      have hff:f 6=false:=hf.1
      rw [hff,Sel_false] at h2
      have c1:=h2.rd
      have f1:=h2.nf
      simp only [nrm] at hQ
      go_wp2
      refine hQ _ _ rfl ⟨?_,?_,?_⟩
      · exact ((((hb.setCell (by simp) _).setCell (by simp) _).setCell (by simp) _).setCell (by simp) _).setCell (by simp) _
      · exact ((((h1.set_ne (by simp) _).set_ne (by simp) _).set_ne (by simp) _).set_ne (by simp) _).set_ne (by simp) _
      · exact Blk.of (((((h2.set 0 _).set 1 _).set 2 _).set 3 _).set 4 _) rfl
    simp only [nrm]
    apply wpJ_op rfl (by rfl)
    · intro f w' hf hJ Q1 hQ
      obtain ⟨hb,h1,h2⟩:=hJ
      simp only [nrm] at hQ
      go_wp2
      exact hQ _ _ rfl ⟨hb,h1,h2⟩
    simp only [nrm]
    refine wpJ_nil ?_
    intro w' hJ
    obtain ⟨hb,h1,h2⟩:=hJ
    have h2:Blk w' (w.heap.size+1) #[.int .i64 0,.int .i64 a,.int .i64 0,.string ⟨#[]⟩,.string ⟨#[]⟩] 35:=h2
    have c1:=h2.rd
    go_wp2
    exact bodyPost_ret (v:= .tuple #[.agg #[.int .i64 0,.int .i64 a,.int .i64 0,.string ⟨#[]⟩,.string ⟨#[]⟩],.bool (withinB a 0 7)]) (by simp [results,Tryz.results123,go_sem,c1]) rfl ⟨rfl,hb⟩
set_option maxRecDepth 100000 in
theorem bytes_any (sys a b:Int) (s t:ByteArray) (w:World):
    Calls Tryz.prog 124 #[.agg #[.int .i64 sys,.int .i64 a,.int .i64 b,.string s,.string t]] w fun e w' => e= .returned (.tuple #[.agg #[.int .i64 0,.int .i64 a,.int .i64 b,.string ⟨#[]⟩,.string ⟨#[]⟩],.bool (withinB a 0 7 && withinB b 0 512)])∧Below w.heap.size w w' :=by
  rcases Bool.eq_false_or_eq_true (withinB a 0 7) with hs | hs
  · go_enter Tryz.func124,Tryz.ntmps124
    go_wp2
    refine region_J (fun f w' => Below w.heap.size w w' ∧Blk w' w.heap.size #[.int .i64 sys,.int .i64 a,.int .i64 b,.string s,.string t] 35∧Blk w' (w.heap.size+1) (Sel (f 13) #[.int .i64 0,.int .i64 a,.int .i64 b,.string ⟨#[]⟩,.string ⟨#[]⟩] #[.int .i64 0,.int .i64 0,.int .i64 0,.string ⟨#[]⟩,.string ⟨#[]⟩]) 35) (by kernel_rfl) (by kernel_rfl) ?_ ?_
    · exact ⟨(((Below.refl _ _).alloc (Nat.le_refl _) _).alloc (by simp) _).drew,((Blk.new _ _ _).alloc _).drew,(Blk.new' (by simp)).drew⟩
    · iterate 13
        first
          | refine wpJ_skip (by rfl) (fun f w' _ hJ=> hJ) ?_
          | (apply wpJ_op rfl (by rfl)
             · intro f w' hf hJ Q1 hQ
               obtain ⟨hb,h1,h2⟩:=hJ;have c1:=h1.rd
               simp only [nrm] at hQ
               go_wp2_with (first | (go_at_call 184;refine (within_is (by first | assumption | rfl) _).mono ?_;rintro e w' ⟨rfl,rfl⟩) | (go_at_call 183;refine (path_is (by first | assumption | rfl) _).mono ?_;rintro e w' ⟨rfl,rfl⟩))
               exact hQ _ _ rfl ⟨hb,h1,h2⟩
             )
        simp only [nrm]
      apply wpJ_op (v:=undef) rfl (by rfl)
      · intro f w' hf hJ Q1 hQ
        obtain ⟨hb,h1,h2⟩:=hJ
        have hff:f 13=false:=hf.1
        rw [hff,Sel_false] at h2
        have c1:=h2.rd
        have f1:=h2.nf
        simp only [nrm] at hQ
        go_wp2
        refine hQ _ _ rfl ⟨?_,?_,?_⟩
        · exact ((((hb.setCell (by simp) _).setCell (by simp) _).setCell (by simp) _).setCell (by simp) _).setCell (by simp) _
        · exact ((((h1.set_ne (by simp) _).set_ne (by simp) _).set_ne (by simp) _).set_ne (by simp) _).set_ne (by simp) _
        · exact Blk.of (((((h2.set 0 _).set 1 _).set 2 _).set 3 _).set 4 _) rfl
      simp only [nrm]
      apply wpJ_op rfl (by rfl)
      · intro f w' hf hJ Q1 hQ
        obtain ⟨hb,h1,h2⟩:=hJ
        simp only [nrm] at hQ
        go_wp2
        exact hQ _ _ rfl ⟨hb,h1,h2⟩
      simp only [nrm]
      refine wpJ_nil ?_
      intro w' hJ
      obtain ⟨hb,h1,h2⟩:=hJ
      have h2:Blk w' (w.heap.size+1) #[.int .i64 0,.int .i64 a,.int .i64 b,.string ⟨#[]⟩,.string ⟨#[]⟩] 35:=h2
      have c1:=h2.rd
      go_wp2
      exact bodyPost_ret (v:= .tuple #[.agg #[.int .i64 0,.int .i64 a,.int .i64 b,.string ⟨#[]⟩,.string ⟨#[]⟩],.bool (withinB b 0 512)]) (by simp [results,Tryz.results124,go_sem,c1]) rfl ⟨by rw [hs,Bool.true_and],hb⟩
  · go_enter Tryz.func124,Tryz.ntmps124
    go_wp2
    refine region_J (fun f w' => Below w.heap.size w w' ∧Blk w' w.heap.size #[.int .i64 sys,.int .i64 a,.int .i64 b,.string s,.string t] 35∧Blk w' (w.heap.size+1) (Sel (f 13) #[.int .i64 0,.int .i64 a,.int .i64 b,.string ⟨#[]⟩,.string ⟨#[]⟩] #[.int .i64 0,.int .i64 0,.int .i64 0,.string ⟨#[]⟩,.string ⟨#[]⟩]) 35) (by kernel_rfl) (by kernel_rfl) ?_ ?_
    · exact ⟨(((Below.refl _ _).alloc (Nat.le_refl _) _).alloc (by simp) _).drew,((Blk.new _ _ _).alloc _).drew,(Blk.new' (by simp)).drew⟩
    · iterate 13
        first
          | refine wpJ_skip (by rfl) (fun f w' _ hJ=> hJ) ?_
          | (apply wpJ_op rfl (by rfl)
             · intro f w' hf hJ Q1 hQ
               obtain ⟨hb,h1,h2⟩:=hJ;have c1:=h1.rd
               simp only [nrm] at hQ
               go_wp2_with (first | (go_at_call 184;refine (within_is (by first | assumption | rfl) _).mono ?_;rintro e w' ⟨rfl,rfl⟩) | (go_at_call 183;refine (path_is (by first | assumption | rfl) _).mono ?_;rintro e w' ⟨rfl,rfl⟩))
               exact hQ _ _ rfl ⟨hb,h1,h2⟩
             )
        simp only [nrm]
      apply wpJ_op (v:=undef) rfl (by rfl)
      · intro f w' hf hJ Q1 hQ
        obtain ⟨hb,h1,h2⟩:=hJ
        have hff:f 13=false:=hf.1
        rw [hff,Sel_false] at h2
        have c1:=h2.rd
        have f1:=h2.nf
        simp only [nrm] at hQ
        go_wp2
        refine hQ _ _ rfl ⟨?_,?_,?_⟩
        · exact ((((hb.setCell (by simp) _).setCell (by simp) _).setCell (by simp) _).setCell (by simp) _).setCell (by simp) _
        · exact ((((h1.set_ne (by simp) _).set_ne (by simp) _).set_ne (by simp) _).set_ne (by simp) _).set_ne (by simp) _
        · exact Blk.of (((((h2.set 0 _).set 1 _).set 2 _).set 3 _).set 4 _) rfl
      simp only [nrm]
      apply wpJ_op rfl (by rfl)
      · intro f w' hf hJ Q1 hQ
        obtain ⟨hb,h1,h2⟩:=hJ
        simp only [nrm] at hQ
        go_wp2
        exact hQ _ _ rfl ⟨hb,h1,h2⟩
      simp only [nrm]
      refine wpJ_nil ?_
      intro w' hJ
      obtain ⟨hb,h1,h2⟩:=hJ
      have h2:Blk w' (w.heap.size+1) #[.int .i64 0,.int .i64 a,.int .i64 b,.string ⟨#[]⟩,.string ⟨#[]⟩] 35:=h2
      have c1:=h2.rd
      go_wp2
      exact bodyPost_ret (v:= .tuple #[.agg #[.int .i64 0,.int .i64 a,.int .i64 b,.string ⟨#[]⟩,.string ⟨#[]⟩],.bool false]) (by simp [results,Tryz.results124,go_sem,c1]) rfl ⟨by rw [hs,Bool.false_and],hb⟩
set_option maxRecDepth 100000 in
theorem write_any (sys a b:Int) (s t:ByteArray) (w:World):
    Calls Tryz.prog 125 #[.agg #[.int .i64 sys,.int .i64 a,.int .i64 b,.string s,.string t]] w fun e w' => e= .returned (.tuple #[.agg #[.int .i64 0,.int .i64 a,.int .i64 0,.string s,.string ⟨#[]⟩],.bool (withinB a 0 7 && decide ((s.size:Int)≤512))])∧Below w.heap.size w w' :=by
  rcases Bool.eq_false_or_eq_true (withinB a 0 7) with hs | hs
  · go_enter Tryz.func125,Tryz.ntmps125
    go_wp2
    refine region_J (fun f w' => Below w.heap.size w w' ∧Blk w' w.heap.size #[.int .i64 sys,.int .i64 a,.int .i64 b,.string s,.string t] 35∧Blk w' (w.heap.size+1) (Sel (f 14) #[.int .i64 0,.int .i64 a,.int .i64 0,.string s,.string ⟨#[]⟩] #[.int .i64 0,.int .i64 0,.int .i64 0,.string ⟨#[]⟩,.string ⟨#[]⟩]) 35) (by kernel_rfl) (by kernel_rfl) ?_ ?_
    · exact ⟨(((Below.refl _ _).alloc (Nat.le_refl _) _).alloc (by simp) _).drew,((Blk.new _ _ _).alloc _).drew,(Blk.new' (by simp)).drew⟩
    · iterate 14
        first
          | refine wpJ_skip (by rfl) (fun f w' _ hJ=> hJ) ?_
          | (apply wpJ_op rfl (by rfl)
             · intro f w' hf hJ Q1 hQ
               obtain ⟨hb,h1,h2⟩:=hJ;have c1:=h1.rd
               simp only [nrm] at hQ
               go_wp2_with (first | (go_at_call 184;refine (within_is (by first | assumption | rfl) _).mono ?_;rintro e w' ⟨rfl,rfl⟩) | (go_at_call 183;refine (path_is (by first | assumption | rfl) _).mono ?_;rintro e w' ⟨rfl,rfl⟩))
               exact hQ _ _ rfl ⟨hb,h1,h2⟩
             )
        simp only [nrm]
      apply wpJ_op (v:=undef) rfl (by rfl)
      · intro f w' hf hJ Q1 hQ
        obtain ⟨hb,h1,h2⟩:=hJ
        have hff:f 14=false:=hf.1
        rw [hff,Sel_false] at h2
        have c1:=h2.rd
        have f1:=h2.nf
        simp only [nrm] at hQ
        go_wp2
        refine hQ _ _ rfl ⟨?_,?_,?_⟩
        · exact ((((hb.setCell (by simp) _).setCell (by simp) _).setCell (by simp) _).setCell (by simp) _).setCell (by simp) _
        · exact ((((h1.set_ne (by simp) _).set_ne (by simp) _).set_ne (by simp) _).set_ne (by simp) _).set_ne (by simp) _
        · exact Blk.of (((((h2.set 0 _).set 1 _).set 2 _).set 3 _).set 4 _) rfl
      simp only [nrm]
      apply wpJ_op rfl (by rfl)
      · intro f w' hf hJ Q1 hQ
        obtain ⟨hb,h1,h2⟩:=hJ
        simp only [nrm] at hQ
        go_wp2
        exact hQ _ _ rfl ⟨hb,h1,h2⟩
      simp only [nrm]
      refine wpJ_nil ?_
      intro w' hJ
      obtain ⟨hb,h1,h2⟩:=hJ
      have h2:Blk w' (w.heap.size+1) #[.int .i64 0,.int .i64 a,.int .i64 0,.string s,.string ⟨#[]⟩] 35:=h2
      have c1:=h2.rd
      go_wp2
      exact bodyPost_ret (v:= .tuple #[.agg #[.int .i64 0,.int .i64 a,.int .i64 0,.string s,.string ⟨#[]⟩],.bool (decide ((s.size:Int)≤512))]) (by simp [results,Tryz.results125,go_sem,c1]) rfl ⟨by rw [hs,Bool.true_and],hb⟩
  · go_enter Tryz.func125,Tryz.ntmps125
    go_wp2
    refine region_J (fun f w' => Below w.heap.size w w' ∧Blk w' w.heap.size #[.int .i64 sys,.int .i64 a,.int .i64 b,.string s,.string t] 35∧Blk w' (w.heap.size+1) (Sel (f 14) #[.int .i64 0,.int .i64 a,.int .i64 0,.string s,.string ⟨#[]⟩] #[.int .i64 0,.int .i64 0,.int .i64 0,.string ⟨#[]⟩,.string ⟨#[]⟩]) 35) (by kernel_rfl) (by kernel_rfl) ?_ ?_
    · exact ⟨(((Below.refl _ _).alloc (Nat.le_refl _) _).alloc (by simp) _).drew,((Blk.new _ _ _).alloc _).drew,(Blk.new' (by simp)).drew⟩
    · iterate 14
        first
          | refine wpJ_skip (by rfl) (fun f w' _ hJ=> hJ) ?_
          | (apply wpJ_op rfl (by rfl)
             · intro f w' hf hJ Q1 hQ
               obtain ⟨hb,h1,h2⟩:=hJ;have c1:=h1.rd
               simp only [nrm] at hQ
               go_wp2_with (first | (go_at_call 184;refine (within_is (by first | assumption | rfl) _).mono ?_;rintro e w' ⟨rfl,rfl⟩) | (go_at_call 183;refine (path_is (by first | assumption | rfl) _).mono ?_;rintro e w' ⟨rfl,rfl⟩))
               exact hQ _ _ rfl ⟨hb,h1,h2⟩
             )
        simp only [nrm]
      apply wpJ_op (v:=undef) rfl (by rfl)
      · intro f w' hf hJ Q1 hQ
        obtain ⟨hb,h1,h2⟩:=hJ
        have hff:f 14=false:=hf.1
        rw [hff,Sel_false] at h2
        have c1:=h2.rd
        have f1:=h2.nf
        simp only [nrm] at hQ
        go_wp2
        refine hQ _ _ rfl ⟨?_,?_,?_⟩
        · exact ((((hb.setCell (by simp) _).setCell (by simp) _).setCell (by simp) _).setCell (by simp) _).setCell (by simp) _
        · exact ((((h1.set_ne (by simp) _).set_ne (by simp) _).set_ne (by simp) _).set_ne (by simp) _).set_ne (by simp) _
        · exact Blk.of (((((h2.set 0 _).set 1 _).set 2 _).set 3 _).set 4 _) rfl
      simp only [nrm]
      apply wpJ_op rfl (by rfl)
      · intro f w' hf hJ Q1 hQ
        obtain ⟨hb,h1,h2⟩:=hJ
        simp only [nrm] at hQ
        go_wp2
        exact hQ _ _ rfl ⟨hb,h1,h2⟩
      simp only [nrm]
      refine wpJ_nil ?_
      intro w' hJ
      obtain ⟨hb,h1,h2⟩:=hJ
      have h2:Blk w' (w.heap.size+1) #[.int .i64 0,.int .i64 a,.int .i64 0,.string s,.string ⟨#[]⟩] 35:=h2
      have c1:=h2.rd
      go_wp2
      exact bodyPost_ret (v:= .tuple #[.agg #[.int .i64 0,.int .i64 a,.int .i64 0,.string s,.string ⟨#[]⟩],.bool false]) (by simp [results,Tryz.results125,go_sem,c1]) rfl ⟨by rw [hs,Bool.false_and],hb⟩
set_option maxRecDepth 100000 in
theorem fork_any (sys a b:Int) (s t:ByteArray) (w:World):
    Calls Tryz.prog 129 #[.agg #[.int .i64 sys,.int .i64 a,.int .i64 b,.string s,.string t]] w fun e w' => e= .returned (.tuple #[.agg #[.int .i64 0,.int .i64 a,.int .i64 0,.string ⟨#[]⟩,.string ⟨#[]⟩],.bool (withinB a 0 39)])∧Below w.heap.size w w' :=by
  go_enter Tryz.func129,Tryz.ntmps129
  go_wp2
  refine region_J (fun f w' => Below w.heap.size w w' ∧Blk w' w.heap.size #[.int .i64 sys,.int .i64 a,.int .i64 b,.string s,.string t] 35∧Blk w' (w.heap.size+1) (Sel (f 6) #[.int .i64 0,.int .i64 a,.int .i64 0,.string ⟨#[]⟩,.string ⟨#[]⟩] #[.int .i64 0,.int .i64 0,.int .i64 0,.string ⟨#[]⟩,.string ⟨#[]⟩]) 35) (by kernel_rfl) (by kernel_rfl) ?_ ?_
  · exact ⟨(((Below.refl _ _).alloc (Nat.le_refl _) _).alloc (by simp) _).drew,((Blk.new _ _ _).alloc _).drew,(Blk.new' (by simp)).drew⟩
  · iterate 6
      first
        | refine wpJ_skip (by rfl) (fun f w' _ hJ=> hJ) ?_
        | (apply wpJ_op rfl (by rfl)
           · intro f w' hf hJ Q1 hQ
             obtain ⟨hb,h1,h2⟩:=hJ;have c1:=h1.rd
             simp only [nrm] at hQ
             go_wp2_with (first | (go_at_call 184;refine (within_is (by first | assumption | rfl) _).mono ?_;rintro e w' ⟨rfl,rfl⟩) | (go_at_call 183;refine (path_is (by first | assumption | rfl) _).mono ?_;rintro e w' ⟨rfl,rfl⟩))
             exact hQ _ _ rfl ⟨hb,h1,h2⟩
           )
      simp only [nrm]
    apply wpJ_op (v:=undef) rfl (by rfl)
    · intro f w' hf hJ Q1 hQ
      obtain ⟨hb,h1,h2⟩:=hJ
      have hff:f 6=false:=hf.1
      rw [hff,Sel_false] at h2
      have c1:=h2.rd
      have f1:=h2.nf
      simp only [nrm] at hQ
      go_wp2
      refine hQ _ _ rfl ⟨?_,?_,?_⟩
      · exact ((((hb.setCell (by simp) _).setCell (by simp) _).setCell (by simp) _).setCell (by simp) _).setCell (by simp) _
      · exact ((((h1.set_ne (by simp) _).set_ne (by simp) _).set_ne (by simp) _).set_ne (by simp) _).set_ne (by simp) _
      · exact Blk.of (((((h2.set 0 _).set 1 _).set 2 _).set 3 _).set 4 _) rfl
    simp only [nrm]
    apply wpJ_op rfl (by rfl)
    · intro f w' hf hJ Q1 hQ
      obtain ⟨hb,h1,h2⟩:=hJ
      simp only [nrm] at hQ
      go_wp2
      exact hQ _ _ rfl ⟨hb,h1,h2⟩
    simp only [nrm]
    refine wpJ_nil ?_
    intro w' hJ
    obtain ⟨hb,h1,h2⟩:=hJ
    have h2:Blk w' (w.heap.size+1) #[.int .i64 0,.int .i64 a,.int .i64 0,.string ⟨#[]⟩,.string ⟨#[]⟩] 35:=h2
    have c1:=h2.rd
    go_wp2
    exact bodyPost_ret (v:= .tuple #[.agg #[.int .i64 0,.int .i64 a,.int .i64 0,.string ⟨#[]⟩,.string ⟨#[]⟩],.bool (withinB a 0 39)]) (by simp [results,Tryz.results129,go_sem,c1]) rfl ⟨rfl,hb⟩
set_option maxRecDepth 100000 in
theorem exit_any (sys a b:Int) (s t:ByteArray) (w:World):
    Calls Tryz.prog 130 #[.agg #[.int .i64 sys,.int .i64 a,.int .i64 b,.string s,.string t]] w fun e w' => e= .returned (.tuple #[.agg #[.int .i64 0,.int .i64 a,.int .i64 0,.string ⟨#[]⟩,.string ⟨#[]⟩],.bool (withinB a 0 255)])∧Below w.heap.size w w' :=by
  go_enter Tryz.func130,Tryz.ntmps130
  go_wp2
  refine region_J (fun f w' => Below w.heap.size w w' ∧Blk w' w.heap.size #[.int .i64 sys,.int .i64 a,.int .i64 b,.string s,.string t] 35∧Blk w' (w.heap.size+1) (Sel (f 6) #[.int .i64 0,.int .i64 a,.int .i64 0,.string ⟨#[]⟩,.string ⟨#[]⟩] #[.int .i64 0,.int .i64 0,.int .i64 0,.string ⟨#[]⟩,.string ⟨#[]⟩]) 35) (by kernel_rfl) (by kernel_rfl) ?_ ?_
  · exact ⟨(((Below.refl _ _).alloc (Nat.le_refl _) _).alloc (by simp) _).drew,((Blk.new _ _ _).alloc _).drew,(Blk.new' (by simp)).drew⟩
  · iterate 6
      first
        | refine wpJ_skip (by rfl) (fun f w' _ hJ=> hJ) ?_
        | (apply wpJ_op rfl (by rfl)
           · intro f w' hf hJ Q1 hQ
             obtain ⟨hb,h1,h2⟩:=hJ;have c1:=h1.rd
             simp only [nrm] at hQ
             go_wp2_with (first | (go_at_call 184;refine (within_is (by first | assumption | rfl) _).mono ?_;rintro e w' ⟨rfl,rfl⟩) | (go_at_call 183;refine (path_is (by first | assumption | rfl) _).mono ?_;rintro e w' ⟨rfl,rfl⟩))
             exact hQ _ _ rfl ⟨hb,h1,h2⟩
           )
      simp only [nrm]
    apply wpJ_op (v:=undef) rfl (by rfl)
    · intro f w' hf hJ Q1 hQ
      obtain ⟨hb,h1,h2⟩:=hJ
      have hff:f 6=false:=hf.1
      rw [hff,Sel_false] at h2
      have c1:=h2.rd
      have f1:=h2.nf
      simp only [nrm] at hQ
      go_wp2
      refine hQ _ _ rfl ⟨?_,?_,?_⟩
      · exact ((((hb.setCell (by simp) _).setCell (by simp) _).setCell (by simp) _).setCell (by simp) _).setCell (by simp) _
      · exact ((((h1.set_ne (by simp) _).set_ne (by simp) _).set_ne (by simp) _).set_ne (by simp) _).set_ne (by simp) _
      · exact Blk.of (((((h2.set 0 _).set 1 _).set 2 _).set 3 _).set 4 _) rfl
    simp only [nrm]
    apply wpJ_op rfl (by rfl)
    · intro f w' hf hJ Q1 hQ
      obtain ⟨hb,h1,h2⟩:=hJ
      simp only [nrm] at hQ
      go_wp2
      exact hQ _ _ rfl ⟨hb,h1,h2⟩
    simp only [nrm]
    refine wpJ_nil ?_
    intro w' hJ
    obtain ⟨hb,h1,h2⟩:=hJ
    have h2:Blk w' (w.heap.size+1) #[.int .i64 0,.int .i64 a,.int .i64 0,.string ⟨#[]⟩,.string ⟨#[]⟩] 35:=h2
    have c1:=h2.rd
    go_wp2
    exact bodyPost_ret (v:= .tuple #[.agg #[.int .i64 0,.int .i64 a,.int .i64 0,.string ⟨#[]⟩,.string ⟨#[]⟩],.bool (withinB a 0 255)]) (by simp [results,Tryz.results130,go_sem,c1]) rfl ⟨rfl,hb⟩
end Go.Proofs.YtjpjafajploiaaaGreatDoor
