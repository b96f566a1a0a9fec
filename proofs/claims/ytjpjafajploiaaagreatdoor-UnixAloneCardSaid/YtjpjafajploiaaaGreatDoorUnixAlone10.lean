/-
  The frames, as they lie; which is known, how many are free.
-/
import Derived.Test.YtjpjafajploiaaaGreatDoorUnixAlone05
import Derived.Test.YtjpjafajploiaaaGreatDoorProg
import Derived.WalkKit
import Derived.WalkSpells
import Derived.Still
import Derived.Tactics
import Derived.Lib.Hide
import Derived.Deep.QuietTactic
import Derived.BigQuiet
import Derived.RegionTactic
import Derived.ChangeAlike
import Derived.BigRegion
import Derived.LoopTactic
import Derived.Handy
import Derived.Deep.MidRow
import Derived.Deep.CutRange
import Derived.Laws.CopyOwn
set_option linter.unusedSimpArgs false
set_option linter.unusedVariables false
namespace Go.Proofs.YtjpjafajploiaaaGreatDoor
open Go.RowKit Own RegJ
open Go.Lib
structure Fs where
 n:Nat
 tk:List Int
 fr:List Int
 fresh:Nat
 by' :List Int
def Fs.free (f:Fs):Nat:=f.fr.length+f.n - f.fresh
def Fs.has (f:Fs) (i:Nat):Prop:=i < f.n∧f.tk.getD i 0=1
structure Fs.Ok (f:Fs):Prop where
 n64:f.n≤64
 tkl:f.tk.length=f.n
 byl:f.by'.length=64*f.n
 fre:f.fresh≤f.n
 frl:∀x∈f.fr,∃i:Nat,x=i∧i < f.fresh∧f.tk.getD i 0=0
 nod:f.fr.Nodup
 hig:∀i,f.fresh≤i→f.tk.getD i 0=0
structure FrB (w:World) (fb bb kb:Nat) (row:Option Nat) (f:Fs):Prop where
 top:∃v,Blk w fb #[.slice (some ⟨bb,0,none⟩) f.n f.n,.slice (some ⟨kb,0,none⟩) f.n f.n,v,.int .i64 f.fresh] 149∧RowV w 3 v (icells f.fr) row
 byt:Blk w bb (ucells f.by').toArray 227
 tkn:Blk w kb (icells f.tk).toArray 3
 ok:f.Ok
theorem Below.drewN (w:World) (n:Nat):Below w.heap.size w (w.drewN n):=((Upd.refl (fun _=> False) w).drewN n).below (Nat.le_refl _) (fun _ h=> h.elim)
theorem nodup_len {l:List Int} {m:Nat} (h:l.Nodup) (hb:∀x∈l,0≤x∧x < m):l.length≤m:=by
 induction m generalizing l with
 | zero=>
  cases l with
  | nil=> simp
  | cons x r=> have:=hb x (by simp);omega
 | succ m ih=>
  have h1:(l.erase (m:Int)).length≤m:=ih (h.erase _) (fun x hx=> by
   have hm:=List.mem_of_mem_erase hx
   have h2:=hb x hm
   have h3:x≠m:=fun e=> by
    rw [e] at hx
    exact (List.Nodup.not_mem_erase h) hx
   omega)
  have h4:=List.length_erase_le (a:=(m:Int)) (l:=l)
  by_cases hmem:(m:Int)∈l
  ·have:=List.length_erase_of_mem hmem;omega
  ·rw [List.erase_of_not_mem hmem] at h1;omega
theorem Fs.Ok.frn {f:Fs} (h:f.Ok):f.fr.length≤f.fresh:=nodup_len h.nod fun x hx=> by
 obtain ⟨i,rfl,hi,_⟩:=h.frl x hx
 omega
section
variable {w w' :World} {fb bb kb:Nat} {row:Option Nat} {f:Fs}
theorem FrB.upd {F:Nat→Prop} (h:FrB w fb bb kb row f) (hu:Upd F w w') (h1:¬F fb) (h2:¬F bb) (h3:¬F kb) (h4:∀g,row=some g→¬F g):FrB w' fb bb kb row f:=by
 obtain ⟨v,k1,k2⟩:=h.top
 exact ⟨⟨v,Blk.upd hu k1 h1,k2.upd hu h4⟩,Blk.upd hu h.byt h2,Blk.upd hu h.tkn h3,h.ok⟩
theorem FrB.below (h:FrB w fb bb kb row f) (hB:Below w.heap.size w w'):FrB w' fb bb kb row f:=h.upd (Upd.of_below (F:=fun _=> False) hB) (fun h=> h) (fun h=> h) (fun h=> h) (fun _ _ h=> h)
set_option maxRecDepth 100000 in
theorem known_yes (h:FrB w fb bb kb row f) (i:Nat) (hi:f.has i):Calls Tryz.prog 121 #[.pointer (some ⟨fb,0,none⟩),.int .i64 i] w fun e w' => e= .returned (.int .i64 0)∧w=w' :=by
 obtain ⟨v,k1,k2⟩:=h.top
 have c1:=k1.rd
 have n1:i < f.n:=hi.1
 have n64:=h.ok.n64
 have c2:w.cell? ⟨kb,i,none⟩=some (.int .i64 1):=by
  rw [h.tkn.rd,List.getElem?_toArray,List.getElem?_map]
  have:=hi.2
  rw [List.getD_eq_getElem?_getD] at this
  rw [List.getElem?_eq_getElem (by rw [h.ok.tkl];exact n1)] at this ⊢
  simp at this ⊢
  exact this
 have d0:decide ((i:Int) < 0)=false:=by simp
 have d1:decide ((i:Int)≥f.n)=false:=by simp;omega
 have d2:decide (i≥f.n)=false:=by simp;omega
 have i1:(i:Int) < f.n:=by omega
 have i2:(0:Int)≤i:=by omega
 clear h k1 k2 hi
 go_enter Tryz.func121,Tryz.ntmps121
 go_wp2
 go_ret
 exact ⟨rfl,rfl⟩
set_option maxRecDepth 100000 in
theorem piece_yes (h:FrB w fb bb kb row f) (i:Nat) (hi:f.has i) (off n:Nat) (hn:off+n≤64):Calls Tryz.prog 228 #[.pointer (some ⟨fb,0,none⟩),.int .i64 i,.int .i64 off,.int .i64 n] w fun e w' => e= .returned (.int .i64 0)∧w=w' :=by
 have hk:=known_yes h i hi
 have d0:decide ((off:Int) < 0)=false:=by simp
 have d1:decide ((n:Int) < 0)=false:=by simp
 have d2:decide ((off:Int) > 64)=false:=by simp;omega
 have d3:decide ((n:Int) > 64 - off)=false:=by simp;omega
 clear h hi
 go_enter Tryz.func228,Tryz.ntmps228
 go_wp2_with (go_at_call 121;refine hk.mono ?_;rintro e w' ⟨rfl,rfl⟩)
 go_ret
 exact ⟨rfl,rfl⟩
theorem RowV.len_int {E:TypeId} {v:Value} {xs:List Int} {b:Option Nat} (h:RowV w E v (icells xs) b):∃a c,v= .slice a xs.length c∧xs.length≤c∧c≤maxLen:=by
 obtain ⟨a,c,h1,h2,h3⟩:=h.slice
 simp only [icells,List.length_map] at h1 h2
 exact ⟨a,c,h1,h2,h3⟩
set_option maxRecDepth 100000 in
theorem free_is (h:FrB w fb bb kb row f):Calls Tryz.prog 59 #[.pointer (some ⟨fb,0,none⟩)] w fun e w' => e= .returned (.int .i64 f.free)∧Below w.heap.size w w' :=by
 obtain ⟨v,k1,k2⟩:=h.top
 obtain ⟨a,c,rfl,hc1,hc2⟩:=k2.len_int
 have c1:=k1.rd
 have n64:=h.ok.n64
 have n2:=h.ok.frn
 have n3:=h.ok.fre
 have HF:=Lib.hid (show ((f.fr.length:Int)+f.n - f.fresh)=f.free by unfold Fs.free;omega)
 clear h k1 k2
 go_enter Tryz.func59,Tryz.ntmps59
 go_wp2
 go_quiet (fail)
 go_wp2
 go_ret
 exact ⟨congrArg (fun x=> Ending.returned (.int .i64 x)) HF.out,Below.drewN _ _⟩
end
end Go.Proofs.YtjpjafajploiaaaGreatDoor
/-
 Frames:what taking,giving and writing make of them (plain).
-/
namespace Go.Proofs.YtjpjafajploiaaaGreatDoor
def spl {α:Type} (l:List α) (o:Nat) (b:List α):List α:=l.take o++b++l.drop (o+b.length)
theorem spl_len {α:Type} {l:List α} {o:Nat} {b:List α} (h:o+b.length≤l.length):(spl l o b).length=l.length:=by
 unfold spl;simp;omega
theorem spl_getD {l:List Int} {o:Nat} {b:List Int} (h:o+b.length≤l.length) (k:Nat):(spl l o b).getD k 0=if o≤k∧k < o+b.length then b.getD (k - o) 0 else l.getD k 0:=by
 unfold spl
 simp only [List.getD_eq_getElem?_getD]
 by_cases h1:k < o
 ·rw [if_neg (by omega),List.append_assoc,List.getElem?_append_left (by simp;omega),List.getElem?_take_of_lt h1]
 ·by_cases h2:k < o+b.length
  ·rw [if_pos ⟨by omega,h2⟩,List.getElem?_append_left (by simp;omega),List.getElem?_append_right (by simp;omega)]
   simp [Nat.min_eq_left (show o≤l.length by omega)]
  ·rw [if_neg (by omega),List.getElem?_append_right (by simp;omega)]
   simp only [List.length_append,List.length_take,List.getElem?_drop]
   rw [show o+b.length+(k - (min o l.length+b.length))=k by omega]
def Fs.at (f:Fs) (j p:Nat):Int:=f.by'.getD (64*j+p) 0
structure Took (f:Fs) (i:Nat) (f' :Fs):Prop where
 n:f'.n=f.n
 lt:i < f.n
 was:¬f.has i
 is:f'.has i
 oth:∀j,j≠i→(f'.has j↔f.has j)
 free:f'.free+1=f.free
 zero:∀p,p < 64→f'.at i p=0
 same:∀j p,j≠i→p < 64→f'.at j p=f.at j p
def Fs.got (f:Fs) (i:Nat):Fs:= {f with tk:=f.tk.set i 1,by' :=spl f.by' (64*i) (List.replicate 64 0)}
theorem set_getD {l:List Int} {i:Nat} (h:i < l.length) (v:Int) (j:Nat):(l.set i v).getD j 0=if j=i then v else l.getD j 0:=by
 simp only [List.getD_eq_getElem?_getD]
 by_cases hj:j=i
 ·subst hj;rw [if_pos rfl,List.getElem?_set_self h];rfl
 ·rw [if_neg hj,List.getElem?_set_ne (fun e=> hj e.symm)]
section
variable {f f' :Fs}
theorem got_at (h:f.Ok) {i:Nat} (hi:i < f.n) (j p:Nat) (hp:p < 64):(f.got i).at j p=if j=i then 0 else f.at j p:=by
 unfold Fs.at Fs.got
 simp only
 rw [spl_getD (by rw [h.byl];simp;omega)]
 by_cases hj:j=i
 ·subst hj
  rw [if_pos rfl,if_pos (by simp;omega)]
  simp only [List.getD_eq_getElem?_getD,List.getElem?_replicate]
  split <;> rfl
 ·rw [if_neg hj,if_neg (by simp;omega)]
theorem took_back (h:f.Ok) {l:List Int} {x:Int} (hx:f.fr=l++ [x]):∃i:Nat,x=i∧Fs.Ok {f.got i with fr:=l}∧Took f i {f.got i with fr:=l}:=by
 obtain ⟨i,rfl,hi,ht⟩:=h.frl x (by rw [hx];simp)
 have hin:i < f.n:=Nat.lt_of_lt_of_le hi h.fre
 have hsz:i < f.tk.length:=by rw [h.tkl];exact hin
 have hnd:=h.nod
 rw [hx] at hnd
 obtain ⟨n1,_,n3⟩:=List.nodup_append.1 hnd
 refine ⟨i,rfl,⟨h.n64,by simp [Fs.got,h.tkl],?_,h.fre,fun y hy=> ?_,n1,fun j hj=> ?_⟩,⟨rfl,hin,?_,?_,fun j hj=> ?_,?_,fun p hp=> ?_,fun j p hj hp=> ?_⟩⟩
 ·show (spl f.by' _ _).length=_
  rw [spl_len (by rw [h.byl];simp;omega),h.byl];rfl
 ·obtain ⟨j,rfl,hj,hj0⟩:=h.frl y (by rw [hx];simp [hy])
  refine ⟨j,rfl,hj,?_⟩
  show (f.tk.set i 1).getD j 0=0
  rw [set_getD hsz,if_neg (fun e=> n3 _ hy _ (List.mem_singleton.2 rfl) (by rw [e]))]
  exact hj0
 ·show (f.tk.set i 1).getD j 0=0
  rw [set_getD hsz,if_neg (by have:f.fresh≤j:=hj;omega)]
  exact h.hig j hj
 ·intro hh;have:=hh.2;omega
 ·exact ⟨hin,by show (f.tk.set i 1).getD i 0=1;rw [set_getD hsz,if_pos rfl]⟩
 ·unfold Fs.has
  show j < f.n∧(f.tk.set i 1).getD j 0=1↔_
  rw [set_getD hsz,if_neg hj]
 ·unfold Fs.free
  have h3:f.fr.length=l.length+1:=by rw [hx];simp
  have:=h.fre
  simp only [Fs.got]
  omega
 ·show (f.got i).at i p=0
  rw [got_at h hin _ _ hp,if_pos rfl]
 ·show (f.got i).at j p=_
  rw [got_at h hin _ _ hp,if_neg hj]
theorem took_fresh (h:f.Ok) (hx:f.fr= []) (hf:f.fresh < f.n):Fs.Ok {f.got f.fresh with fresh:=f.fresh+1}∧Took f f.fresh {f.got f.fresh with fresh:=f.fresh+1}:=by
 have hsz:f.fresh < f.tk.length:=by rw [h.tkl];exact hf
 refine ⟨⟨h.n64,by simp [Fs.got,h.tkl],?_,hf,fun y hy=> ?_,h.nod,fun j hj=> ?_⟩,⟨rfl,hf,?_,?_,fun j hj=> ?_,?_,fun p hp=> ?_,fun j p hj hp=> ?_⟩⟩
 ·show (spl f.by' _ _).length=_
  rw [spl_len (by rw [h.byl];simp;omega),h.byl];rfl
 ·have hy:y∈f.fr:=hy
  rw [hx] at hy;cases hy
 ·show (f.tk.set f.fresh 1).getD j 0=0
  have hj:f.fresh+1≤j:=hj
  rw [set_getD hsz,if_neg (by omega)]
  exact h.hig j (by omega)
 ·intro hh;have:=hh.2;rw [h.hig _ (Nat.le_refl _)] at this;omega
 ·exact ⟨hf,by show (f.tk.set f.fresh 1).getD f.fresh 0=1;rw [set_getD hsz,if_pos rfl]⟩
 ·unfold Fs.has
  show j < f.n∧(f.tk.set f.fresh 1).getD j 0=1↔_
  rw [set_getD hsz,if_neg hj]
 ·unfold Fs.free
  simp only [Fs.got]
  omega
 ·show (f.got f.fresh).at f.fresh p=0
  rw [got_at h hf _ _ hp,if_pos rfl]
 ·show (f.got f.fresh).at j p=_
  rw [got_at h hf _ _ hp,if_neg hj]
structure Gave (f:Fs) (i:Nat) (f' :Fs):Prop where
 n:f'.n=f.n
 not:¬f'.has i
 oth:∀j,j≠i→(f'.has j↔f.has j)
 free:f'.free=f.free+1
 same:∀j p,f'.at j p=f.at j p
theorem gave_is (h:f.Ok) {i:Nat} (hi:f.has i):Fs.Ok {f with tk:=f.tk.set i 0,fr:=f.fr++ [(i:Int)]}∧Gave f i {f with tk:=f.tk.set i 0,fr:=f.fr++ [(i:Int)]}:=by
 have hsz:i < f.tk.length:=by rw [h.tkl];exact hi.1
 have hif:i < f.fresh:=by
  rcases Nat.lt_or_ge i f.fresh with e | e
  ·exact e
  ·have:=h.hig i e;have:=hi.2;omega
 have hni:(i:Int)∉f.fr:=fun hm=> by
  obtain ⟨j,e,_,h0⟩:=h.frl _ hm
  have:i=j:=by omega
  subst this
  have:=hi.2;omega
 refine ⟨⟨h.n64,by simp [h.tkl],h.byl,h.fre,fun y hy=> ?_,?_,fun j hj=> ?_⟩,⟨rfl,?_,fun j hj=> ?_,?_,fun j p=> rfl⟩⟩
 ·rcases List.mem_append.1 hy with hy | hy
  ·obtain ⟨j,rfl,hj,h0⟩:=h.frl y hy
   refine ⟨j,rfl,hj,?_⟩
   show (f.tk.set i 0).getD j 0=0
   rw [set_getD hsz];split
   ·rfl
   ·exact h0
  ·rw [List.mem_singleton] at hy;subst hy
   refine ⟨i,rfl,hif,?_⟩
   show (f.tk.set i 0).getD i 0=0
   rw [set_getD hsz,if_pos rfl]
 ·refine List.nodup_append.2 ⟨h.nod,by simp,fun a ha b hb e=> ?_⟩
  rw [List.mem_singleton] at hb
  rw [e,hb] at ha
  exact hni ha
 ·show (f.tk.set i 0).getD j 0=0
  rw [set_getD hsz];split
  ·rfl
  ·exact h.hig j hj
 ·intro hh
  have h2:(f.tk.set i 0).getD i 0=1:=hh.2
  rw [set_getD hsz,if_pos rfl] at h2;omega
 ·unfold Fs.has
  show j < f.n∧(f.tk.set i 0).getD j 0=1↔_
  rw [set_getD hsz,if_neg hj]
 ·unfold Fs.free
  have:=h.fre
  simp only [List.length_append,List.length_singleton]
  omega
def Fs.put (f:Fs) (i off:Nat) (b:List Int):Fs:= {f with by' :=spl f.by' (64*i+off) b}
theorem put_ok (h:f.Ok) {i:Nat} (hi:i < f.n) {off:Nat} {b:List Int} (hb:off+b.length≤64):(f.put i off b).Ok:=
 ⟨h.n64,h.tkl,by show (spl f.by' _ _).length=_;rw [spl_len (by rw [h.byl];omega),h.byl];rfl,h.fre,h.frl,h.nod,h.hig⟩
theorem put_at (h:f.Ok) {i:Nat} (hi:i < f.n) {off:Nat} {b:List Int} (hb:off+b.length≤64) (j p:Nat) (hp:p < 64):(f.put i off b).at j p=if j=i∧off≤p∧p < off+b.length then b.getD (p - off) 0 else f.at j p:=by
 unfold Fs.at Fs.put
 simp only
 rw [spl_getD (by rw [h.byl];omega)]
 by_cases hc:j=i∧off≤p∧p < off+b.length
 ·obtain ⟨rfl,h1,h2⟩:=hc
  rw [if_pos (by omega),if_pos ⟨rfl,h1,h2⟩]
  rw [show 64*j+p - (64*j+off)=p - off by omega]
 ·rw [if_neg hc]
  rw [if_neg (fun hc' => hc ⟨by omega,by omega,by omega⟩)]
end
end Go.Proofs.YtjpjafajploiaaaGreatDoor
/-
 Frames:Take,Give,Read,Write.
-/
namespace Go.Proofs.YtjpjafajploiaaaGreatDoor
open Go.RowKit Own RegJ
open Go.Lib
abbrev zeros:Array Value:=(ucells (List.replicate 64 0)).toArray
def TakeP (w:World) (fb bb kb:Nat) (row:Option Nat) (f:Fs) (e:Ending) (w' :World):Prop:=∃(i:Nat) (f' :Fs),e= .returned (.tuple #[.int .i64 i,.int .i64 0])∧FrB w' fb bb kb row f' ∧Took f i f' ∧Upd (fun k=> k=fb∨k=bb∨k=kb) w w'
section
variable {w w' :World} {fb bb kb:Nat} {row:Option Nat} {f:Fs}
theorem there_of {T:TypeId} {b:Nat} {l:List Value} (h:Blk w b l.toArray T) {o n:Nat} (hn:o+n≤l.length):w.there b o n:=fun j hj=> by
 refine ⟨?_,h.nf _⟩
 rw [h.rd,List.getElem?_toArray,List.getElem?_eq_getElem (by omega)]
 rfl
theorem zeros_in {l:List Int} (h:Blk w bb (ucells l).toArray 227) (i:Nat) (hi:64*i+64≤l.length):Blk (w.setCells bb (i*64) zeros.toList) bb (ucells (spl l (64*i) (List.replicate 64 0))).toArray 227:=by
 have:=Blk.sets zeros.toList (ucells l) (i*64) h (by simp;omega)
 refine this.of ?_
 rw [Nat.mul_comm i 64]
 unfold spl ucells
 simp [List.map_take,List.map_drop]
set_option maxRecDepth 100000 in
theorem take_fresh (h:FrB w fb bb kb row f) (hn1:fb≠bb) (hn2:fb≠kb) (hn3:bb≠kb) (hr:∀g,row=some g→g≠fb∧g≠bb∧g≠kb) (hx:f.fr= []) (hf:f.fresh < f.n):
  Calls Tryz.prog 75 #[.pointer (some ⟨fb,0,none⟩)] w (TakeP w fb bb kb row f):=by
 obtain ⟨v,k1,k2⟩:=h.top
 obtain ⟨a,c,rfl,hc1,hc2⟩:=k2.len_int
 rw [hx] at k1 hc1
 have c1:=k1.rd
 have f1:=k1.nf
 have f2:=h.byt.nf
 have f3:=h.tkn.nf
 have n64:=h.ok.n64
 have d1:decide ((f.fresh:Int) < f.n)=true:=by simp;exact hf
 have d1n:decide (f.fresh < f.n)=true:=by simp;exact hf
 have i1:(f.fresh:Int) < f.n:=by omega
 have i2:(0:Int)≤f.fresh:=by omega
 have c3:w.cell? ⟨kb,f.fresh,none⟩=some (.int .i64 0):=by
  rw [h.tkn.rd,List.getElem?_toArray,List.getElem?_map]
  have:=h.ok.hig f.fresh (Nat.le_refl _)
  rw [List.getD_eq_getElem?_getD] at this
  rw [List.getElem?_eq_getElem (by rw [h.ok.tkl];exact hf)] at this ⊢
  simp at this ⊢
  exact this
 have H:=Lib.hid h
 have HT:=Lib.hid (And.intro k1 k2)
 have HX:=Lib.hid (And.intro hx hf)
 clear h k1 k2 hx hf hc1 hc2
 go_enter Tryz.func75,Tryz.ntmps75
 go_wp2
 go_quiet (fail)
 go_upto_region 12 with (fail)
 have t3:Blk (((w.drewN nq).setCell ⟨fb,3,none⟩ (.int .i64 (↑f.fresh+1))).setCell ⟨kb,f.fresh,none⟩ (.int .i64 1)) fb #[.slice (some ⟨bb,0,none⟩) f.n f.n,.slice (some ⟨kb,0,none⟩) f.n f.n,.slice a 0 c,.int .i64 (↑f.fresh+1)] 149:=(((HT.out.1.drewN nq).set 3 _).set_ne hn2 _).of rfl
 have b3:Blk (((w.drewN nq).setCell ⟨fb,3,none⟩ (.int .i64 (↑f.fresh+1))).setCell ⟨kb,f.fresh,none⟩ (.int .i64 1)) bb (ucells f.by').toArray 227:=((H.out.byt.drewN nq).set_ne hn1.symm _).set_ne hn3 _
 have k3:Blk (((w.drewN nq).setCell ⟨fb,3,none⟩ (.int .i64 (↑f.fresh+1))).setCell ⟨kb,f.fresh,none⟩ (.int .i64 1)) kb (icells (f.tk.set f.fresh 1)).toArray 3:=(((H.out.tkn.drewN nq).set_ne hn2.symm _).set f.fresh _).of (by simp [icells,List.map_set])
 have u3:Upd (fun k=> k=fb∨k=bb∨k=kb) w (((w.drewN nq).setCell ⟨fb,3,none⟩ (.int .i64 (↑f.fresh+1))).setCell ⟨kb,f.fresh,none⟩ (.int .i64 1)):=((((Upd.refl _ w).drewN nq).setCell (p:=⟨fb,3,none⟩) (fun _=> Or.inl rfl) _).setCell (p:=⟨kb,f.fresh,none⟩) (fun _=> Or.inr (Or.inr rfl)) _)
 generalize ((w.drewN nq).setCell ⟨fb,3,none⟩ (.int .i64 (↑f.fresh+1))).setCell ⟨kb,f.fresh,none⟩ (.int .i64 1)=w3 at t3 b3 k3 u3 ⊢
 clear c1 f1 f2 f3 c3
 have c1:=t3.rd
 have hby:=H.out.ok.byl
 have ht:w3.there bb (f.fresh*64) zeros.size:=there_of b3 (by simp [hby];have:=HX.out.2;omega)
 have b4:=zeros_in b3 f.fresh (by rw [hby];have:=HX.out.2;omega)
 have u4:=Upd.sets zeros.toList w3 bb (f.fresh*64) u3 (fun _=> Or.inr (Or.inl rfl))
 have t4:=Blk.upd (Upd.sets (F:=fun k=> k=bb) zeros.toList w3 bb (f.fresh*64) (Upd.refl _ _) (fun _=> rfl)) t3 hn1
 have k4:=Blk.upd (Upd.sets (F:=fun k=> k=bb) zeros.toList w3 bb (f.fresh*64) (Upd.refl _ _) (fun _=> rfl)) k3 hn3.symm
 obtain ⟨w4,hw4⟩:∃w4,w4=w3.setCells bb (f.fresh*64) zeros.toList:=⟨_,rfl⟩
 rw [←hw4] at b4 t4 k4 u4
 have HW4:=Lib.hid hw4
 clear hw4
 have HX3:=Lib.hid (And.intro t4 (And.intro b4 (And.intro k4 u4)))
 clear t3 b3 k3 u3 t4 b4 k4 u4 hby
 go_wp2_with (refine wpList_store_mid rfl 227 (.tmp 75) (.tmp 74) rfl bb (f.fresh*64) zeros rfl rfl ht (by kernel_rfl) (by kernel_rfl) ?_;rw [←HW4.out])
 go_returns
 obtain ⟨t4,b4,k4,u4⟩:=HX3.out
 obtain ⟨g1,g2⟩:=took_fresh H.out.ok HX.out.1 HX.out.2
 have hrow:RowV _ _ (.slice a 0 c) (icells f.fr) row:=(show RowV w 3 (.slice a 0 c) (icells f.fr) row from by have:=HT.out.2;rw [HX.out.1] at this ⊢;exact this).upd u4 (fun g hg e=> by have:=hr g hg;rcases e with e | e | e <;> simp_all)
 exact ⟨f.fresh,{f.got f.fresh with fresh:=f.fresh+1},rfl,⟨⟨_,t4,hrow⟩,b4,k4,g1⟩,g2,u4⟩
theorem RowV.some_of {w:World} {E:TypeId} {v:Value} {xs:List Value} {b:Option Nat} (h:RowV w E v xs b) (hx:xs≠ []):∃g cap rest,v= .slice (some ⟨g,0,none⟩) xs.length cap∧b=some g∧Blk w g (xs++rest).toArray E∧cap=(xs++rest).length∧cap≤maxLen:=by
 rcases h with ⟨_,h,_⟩ | h
 ·exact absurd h hx
 ·exact h
set_option maxRecDepth 100000 in
theorem take_back (h:FrB w fb bb kb row f) (hn1:fb≠bb) (hn2:fb≠kb) (hn3:bb≠kb) (hr:∀g,row=some g→g≠fb∧g≠bb∧g≠kb) (l:List Int) (x:Int) (hx:f.fr=l++ [x]):
  Calls Tryz.prog 75 #[.pointer (some ⟨fb,0,none⟩)] w (TakeP w fb bb kb row f):=by
 obtain ⟨i,rfl,hok',htk'⟩:=took_back h.ok hx
 obtain ⟨v,k1,k2⟩:=h.top
 rw [hx] at k2
 obtain ⟨g,c,rst,hv,hrow,hB,hc,hcm⟩:=k2.some_of (by simp)
 have hll:(icells (l++ [(i:Int)])).length=l.length+1:=by simp
 rw [hll] at hv
 subst hv
 have hin:=htk'.lt
 have c1:=k1.rd
 have f1:=k1.nf
 have f2:=h.byt.nf
 have f3:=h.tkn.nf
 have n64:=h.ok.n64
 have hcl:l.length+1≤c:=by rw [hc,List.length_append,hll];omega
 have c2:w.cell? ⟨g,l.length,none⟩=some (.int .i64 i):=by
  rw [hB.rd,List.getElem?_toArray,List.getElem?_append_left (by simp)]
  simp [icells]
 have c3:∃u,w.cell? ⟨kb,i,none⟩=some u:=by
  refine ⟨(icells f.tk)[i]'(by simp [h.ok.tkl];exact hin),?_⟩
  rw [h.tkn.rd,List.getElem?_toArray,List.getElem?_eq_getElem]
 obtain ⟨u,c3⟩:=c3
 have hgne:=hr g hrow
 have i0:(0:Int)≤l.length:=by omega
 have i1:(i:Int) < f.n:=by omega
 have i2:(0:Int)≤i:=by omega
 have hl6:l.length≤64:=by
  have h1:=h.ok.frn
  have h2:=h.ok.fre
  rw [hx] at h1
  simp at h1
  omega
 have hg1:fb≠g:=fun e=> hgne.1 e.symm
 have hg3:kb≠g:=fun e=> hgne.2.2 e.symm
 have H:=Lib.hid h
 have HT:=Lib.hid (And.intro k1 (And.intro hB hc))
 have HX:=Lib.hid (And.intro hx (And.intro hok' htk'))
 have HR:=Lib.hid hrow
 clear h k1 k2 hx hB hc hok' htk' hll hrow hgne hin
 go_enter Tryz.func75,Tryz.ntmps75
 go_wp2
 go_quiet (fail)
 go_wp2
 go_region
 go_upto_region 12 with (fail)
 have e1:nq+1=nq+1:=rfl
 generalize nq+1=n1 at*
 clear e1
 have t3:Blk (((w.drewN n1).setCell ⟨fb,2,none⟩ (.slice (some ⟨g,0,none⟩) l.length c)).setCell ⟨kb,i,none⟩ (.int .i64 1)) fb #[.slice (some ⟨bb,0,none⟩) f.n f.n,.slice (some ⟨kb,0,none⟩) f.n f.n,.slice (some ⟨g,0,none⟩) l.length c,.int .i64 f.fresh] 149:=(((HT.out.1.drewN n1).set 2 _).set_ne hn2 _).of rfl
 have b3:Blk (((w.drewN n1).setCell ⟨fb,2,none⟩ (.slice (some ⟨g,0,none⟩) l.length c)).setCell ⟨kb,i,none⟩ (.int .i64 1)) bb (ucells f.by').toArray 227:=((H.out.byt.drewN n1).set_ne hn1.symm _).set_ne hn3 _
 have k3:Blk (((w.drewN n1).setCell ⟨fb,2,none⟩ (.slice (some ⟨g,0,none⟩) l.length c)).setCell ⟨kb,i,none⟩ (.int .i64 1)) kb (icells (f.tk.set i 1)).toArray 3:=(((H.out.tkn.drewN n1).set_ne hn2.symm _).set i _).of (by simp [icells,List.map_set])
 have u3:Upd (fun k=> k=fb∨k=bb∨k=kb) w (((w.drewN n1).setCell ⟨fb,2,none⟩ (.slice (some ⟨g,0,none⟩) l.length c)).setCell ⟨kb,i,none⟩ (.int .i64 1)):=((((Upd.refl _ w).drewN n1).setCell (p:=⟨fb,2,none⟩) (fun _=> Or.inl rfl) _).setCell (p:=⟨kb,i,none⟩) (fun _=> Or.inr (Or.inr rfl)) _)
 generalize ((w.drewN n1).setCell ⟨fb,2,none⟩ (.slice (some ⟨g,0,none⟩) l.length c)).setCell ⟨kb,i,none⟩ (.int .i64 1)=w3 at t3 b3 k3 u3 ⊢
 clear c1 f1 f2 f3 c3 c2
 have c1:=t3.rd
 have hby:=H.out.ok.byl
 have ht:w3.there bb (i*64) zeros.size:=there_of b3 (by simp [hby];have:=HX.out.2.2.lt;omega)
 have b4:=zeros_in b3 i (by rw [hby];have:=HX.out.2.2.lt;omega)
 have u4:=Upd.sets zeros.toList w3 bb (i*64) u3 (fun _=> Or.inr (Or.inl rfl))
 have t4:=Blk.upd (Upd.sets (F:=fun k=> k=bb) zeros.toList w3 bb (i*64) (Upd.refl _ _) (fun _=> rfl)) t3 hn1
 have k4:=Blk.upd (Upd.sets (F:=fun k=> k=bb) zeros.toList w3 bb (i*64) (Upd.refl _ _) (fun _=> rfl)) k3 hn3.symm
 obtain ⟨w4,hw4⟩:∃w4,w4=w3.setCells bb (i*64) zeros.toList:=⟨_,rfl⟩
 rw [←hw4] at b4 t4 k4 u4
 have HW4:=Lib.hid hw4
 clear hw4
 have HX3:=Lib.hid (And.intro t4 (And.intro b4 (And.intro k4 u4)))
 clear t3 b3 k3 u3 t4 b4 k4 u4 hby
 go_wp2_with (refine wpList_store_mid rfl 227 (.tmp 75) (.tmp 74) rfl bb (i*64) zeros rfl rfl ht (by kernel_rfl) (by kernel_rfl) ?_;rw [←HW4.out])
 go_returns
 obtain ⟨t4,b4,k4,u4⟩:=HX3.out
 obtain ⟨hx,g1,g2⟩:=HX.out
 obtain ⟨-,hB,hc⟩:=HT.out
 refine ⟨i,{f.got i with fr:=l},rfl,⟨⟨_,t4,?_⟩,b4,k4,g1⟩,g2,u4⟩
 refine Or.inr ⟨g,c,.int .i64 i::rst,by simp,HR.out,?_,by rw [hc];simp [icells],hcm⟩
 exact (Blk.upd u4 hB (fun e=> by have h:=hr g HR.out;rcases e with e | e | e;exact h.1 e;exact h.2.1 e;exact h.2.2 e)).of (by simp [icells])
def GiveP (w:World) (fb bb kb:Nat) (row:Option Nat) (f:Fs) (i:Nat) (e:Ending) (w' :World):Prop:=e= .returned (.int .i64 0)∧∃(f' :Fs) (row' :Option Nat),FrB w' fb bb kb row' f' ∧Gave f i f' ∧Upd (fun k=> k=fb∨k=kb∨row=some k) w w' ∧∀g,row' =some g→row=some g∨w.heap.size≤g
theorem FrB.lts (h:FrB w fb bb kb row f):fb < w.heap.size∧bb < w.heap.size∧kb < w.heap.size∧∀g,row=some g→g < w.heap.size:=by
 obtain ⟨v,k1,k2⟩:=h.top
 exact ⟨k1.lt,h.byt.lt,h.tkn.lt,fun g hg=> k2.lt g hg⟩
set_option maxRecDepth 100000 in
theorem give_is (h:FrB w fb bb kb row f) (hn1:fb≠bb) (hn2:fb≠kb) (hn3:bb≠kb) (hr:∀g,row=some g→g≠fb∧g≠bb∧g≠kb) (i:Nat) (hi:f.has i):
  Calls Tryz.prog 76 #[.pointer (some ⟨fb,0,none⟩),.int .i64 i] w (GiveP w fb bb kb row f i):=by
 have hk:=known_yes h i hi
 obtain ⟨v,k1,k2⟩:=h.top
 have hlts:=h.lts
 obtain ⟨a,c,rfl,-,-⟩:=k2.len_int
 have c1:=k1.rd
 have f1:=k1.nf
 have f3:=h.tkn.nf
 have n64:=h.ok.n64
 have c3:w.cell? ⟨kb,i,none⟩=some (.int .i64 1):=by
  rw [h.tkn.rd,List.getElem?_toArray,List.getElem?_map]
  have:=hi.2
  rw [List.getD_eq_getElem?_getD] at this
  rw [List.getElem?_eq_getElem (by rw [h.ok.tkl];exact hi.1)] at this ⊢
  simp at this ⊢
  exact this
 have i1:(i:Int) < f.n:=by have:=hi.1;omega
 have i2:(0:Int)≤i:=by omega
 have H:=Lib.hid h
 have HT:=Lib.hid (And.intro k1 k2)
 have HX:=Lib.hid (And.intro hi hlts)
 have hl6:f.fr.length≤64:=by
  have h1:=h.ok.frn
  have h2:=h.ok.fre
  omega
 have HL:=Lib.hid hl6
 have t3:Blk (w.setCell ⟨kb,i,none⟩ (.int .i64 0)) fb #[.slice (some ⟨bb,0,none⟩) f.n f.n,.slice (some ⟨kb,0,none⟩) f.n f.n,.slice a f.fr.length c,.int .i64 f.fresh] 149:=k1.set_ne hn2 _
 have r3:RowV (w.setCell ⟨kb,i,none⟩ (.int .i64 0)) 3 (.slice a f.fr.length c) (icells f.fr) row:=k2.upd ((Upd.refl (fun k=> k=kb) w).setCell (p:=⟨kb,i,none⟩) (fun _=> rfl) _) (fun g hg=> (hr g hg).2.2)
 have hc5:((w.setCell ⟨kb,i,none⟩ (.int .i64 0)).alloc (.cells #[.int .i64 i] 3)).cell? ⟨w.heap.size,0,none⟩=some (.int .i64 i):=(Blk.new' (by simp)).cell rfl
 have HK:=Lib.hid (And.intro t3 (And.intro r3 hc5))
 clear h k1 k2 hi hlts t3 r3 hl6 hc5
 go_enter Tryz.func76,Tryz.ntmps76
 go_wp2_with (first
  | (go_at_call 121;refine hk.mono ?_;rintro e w' ⟨rfl,rfl⟩)
  | (at_builtin;refine wp_appV rfl (.tmp 22) (.tmp 24) 59 3 (.int .i64 0) 8 (by kernel_rfl) rfl (by decide) Tryz.underlying59 rfl (.slice a f.fr.length c) (icells f.fr) row rfl (HK.out.2.1.upd ((Upd.refl (fun _=> False) _).alloc _) (fun _ _ h=> h)) (some ⟨w.heap.size,0,none⟩) 1 1 [.int .i64 i] rfl rfl (fun _=> ⟨_,rfl,fun j u hj=> by (match j,hj with | 0,hj=> (simp at hj;subst hj;rw [add_off];exact HK.out.2.2))⟩) (fun u hu=> by (simp at hu;subst hu;rfl)) (by (have:=HL.out;simp;omega)) ?_;intro v' w4 row' hI hrow' hu4;obtain ⟨a2,c2,rfl,-,-⟩:=hI.slice;have t4:=Blk.upd hu4 (HK.out.1.alloc _) (fun e=> (hr _ e).1 rfl);have c4:=t4.rd;have f4:=t4.nf;have H4:=Lib.hid (And.intro hI (And.intro hrow' (And.intro hu4 t4)));clear hI hrow' hu4 t4))
 go_ret
 obtain ⟨hI,hrow',hu4,t4⟩:=H4.out
 obtain ⟨hi,l1,l2,l3,l4⟩:=HX.out
 obtain ⟨g1,g2⟩:=gave_is H.out.ok hi
 have u0:Upd (fun k=> k=fb∨k=kb∨row=some k) w ((w.setCell ⟨kb,i,none⟩ (.int .i64 0)).alloc (.cells #[.int .i64 i] 3)):=((Upd.refl _ w).setCell (p:=⟨kb,i,none⟩) (fun _=> Or.inr (Or.inl rfl)) _).alloc _
 have u4:=u0.trans hu4 (fun k _ e=> Or.inr (Or.inr e))
 have k4:=Blk.upd hu4 (((H.out.tkn.set i (.int .i64 0)).of (show _=(icells (f.tk.set i 0)).toArray by simp [icells,List.map_set])).alloc (.cells #[.int .i64 i] 3)) (fun e=> (hr _ e).2.2 rfl)
 have b4:=Blk.upd hu4 ((H.out.byt.set_ne (show bb≠kb from hn3) (a:=⟨kb,i,none⟩) (.int .i64 0)).alloc (.cells #[.int .i64 i] 3)) (fun e=> (hr _ e).2.1 rfl)
 have hz4:=hu4.size
 simp at hz4
 have hne:∀g,row' =some g→g≠fb∧g≠bb∧g≠kb:=fun g hg=> by
  rcases hrow' g hg with e | e
  ·exact hr g e
  ·simp at e;omega
 refine ⟨rfl,{f with tk:=f.tk.set i 0,fr:=f.fr++ [(i:Int)]},row',⟨⟨.slice a2 (f.fr.length+1) c2,(t4.set 2 _).of (by simp),?_⟩,b4.set_ne hn1.symm _,k4.set_ne hn2.symm _,g1⟩,g2,u4.setCell (p:=⟨fb,2,none⟩) (fun _=> Or.inl rfl) _,fun g hg=> ?_⟩
 ·have h5:=hI.upd ((Upd.refl (fun k=> k=fb) w4).setCell (p:=⟨fb,2,none⟩) (fun _=> rfl) (.slice a2 (f.fr.length+1) c2)) (fun g hg e=> (hne g hg).1 e)
  simpa [icells] using h5
 ·rcases hrow' g hg with e | e
  ·exact Or.inl e
  ·right;simp at e;omega
end
end Go.Proofs.YtjpjafajploiaaaGreatDoor
/-
 Frames:a row of bytes copied;Read,Write.
-/
namespace Go.Proofs.YtjpjafajploiaaaGreatDoor
open Go.RowKit Own RegJ
open Go.Lib
theorem under8:Tryz.prog.underlying 22=some (.slice 5):=Tryz.underlying22
theorem qB (w:World) (a:Option Addr) (n c n' c' :Nat):(binOp .eql 22 (.slice a n c) (.slice none n' c')).run Tryz.prog w= .ok (.bool a.isNone) w:=Lib.run_eql_slice_nil w _ _ a n c n' c' under8
theorem ucells_one (xs:List Int):∀u∈ucells xs,u.oneCell' =true:=by
 intro u hu
 simp only [ucells,List.mem_map] at hu
 obtain ⟨y,_,rfl⟩:=hu
 rfl
def CloneB (ys:List Int) (w:World) (e:Ending) (w' :World):Prop:=∃v b,e= .returned v∧RowV w' 5 v (ucells ys) b∧(∀g,b=some g→w.heap.size≤g)∧Below w.heap.size w w'
set_option maxRecDepth 100000 in
theorem cloneB_is {w:World} (A:Addr) (c:Nat) (ys:List Int) (n:Nat) (hn:ys.length=n) (h:RdV w (some A) (ucells ys)) (hlen:ys.length≤100000):
  Calls Tryz.prog 246 #[.slice (some A) n c] w (CloneB ys w):=by
 subst hn
 have q:=qB
 have hr0:RowV (w.alloc (.cells #[] 5)) 5 (.slice (some ⟨w.heap.size,0,none⟩) 0 0) [] (some w.heap.size):=Or.inr ⟨_,0,[],rfl,rfl,Blk.new _ _ _,rfl,Nat.zero_le _⟩
 have hsrc:0 < ys.length→∃A',some A=some A' ∧∀(j:Nat) (u:Value),(ucells ys)[j]? =some u→(w.alloc (.cells #[] 5)).cell? (A'.add j)=some u:=fun _=> ⟨A,rfl,fun j u hj=> by
  have h1:=h.below ((Below.refl w.heap.size w).alloc (Nat.le_refl _) (.cells #[] 5))
  obtain ⟨A',e,h2⟩:=h1 j u hj
  cases e;exact h2⟩
 have hl:(ucells ys).length=ys.length:=by simp
 have H:=Lib.hid (And.intro hr0 (And.intro hsrc (And.intro hl hlen)))
 clear hr0 hsrc h hl hlen
 go_enter Tryz.func246,Tryz.ntmps246
 go_wp2_with (at_builtin;refine wp_appV rfl _ _ 22 5 (.int .u8 0) 1 (by kernel_rfl) rfl (by decide) under8 rfl _ [] _ rfl H.out.1 (some A) ys.length c (ucells ys) H.out.2.2.1 rfl H.out.2.1 (ucells_one ys) (by (have:=H.out.2.2.2;simp;omega)) ?_;intro v' w1 b' hI hb' hu;have H1:=Lib.hid (And.intro hI (And.intro hb' hu));clear hI hb' hu)
 go_ret
 obtain ⟨hI,hb',hu⟩:=H1.out
 rw [List.nil_append] at hI
 refine ⟨_,b',rfl,hI,fun g hg=> ?_,?_⟩
 ·rcases hb' g hg with e | e
  ·cases e;exact Nat.le_refl _
  ·simp at e;omega
 ·exact ((Below.refl w.heap.size w).alloc (Nat.le_refl _) _).trans (hu.below (by simp) (fun k hk=> by cases hk;exact Nat.le_refl _))
def Fs.get (f:Fs) (i off n:Nat):List Int:=(f.by'.drop (64*i+off)).take n
theorem get_len {f:Fs} (h:f.Ok) {i off n:Nat} (hi:i < f.n) (hn:off+n≤64):(f.get i off n).length=n:=by
 unfold Fs.get
 simp [h.byl];omega
theorem get_at {f:Fs} (h:f.Ok) {i off n:Nat} (hi:i < f.n) (hn:off+n≤64) (p:Nat) (hp:p < n):(f.get i off n).getD p 0=f.at i (off+p):=by
 unfold Fs.get Fs.at
 simp only [List.getD_eq_getElem?_getD]
 rw [List.getElem?_take_of_lt hp,List.getElem?_drop,show 64*i+off+p=64*i+(off+p) by omega]
section
variable {w w' :World} {fb bb kb:Nat} {row:Option Nat} {f:Fs}
theorem upd_setRow {F:Nat→Prop} {w w' :World} (h:Upd F w w') {g:Nat} (hg:g < w.heap.size→F g) (cs:Array Value):Upd F w (w'.setRow g cs):=
 ⟨h.os,h.tape,h.output,by simpa [World.setRow] using h.size,fun k hk hf=> by
  have:k≠g:=fun e=> hf (e▸hg (e▸hk))
  rw [setRow_other w' g k cs this];exact h.block k hk hf⟩
theorem alen:Tryz.prog.arrayLen 227=64:=by kernel_rfl
theorem under64:Tryz.prog.underlying 227=some (.array (Tryz.prog.arrayLen 227) (Tryz.prog.elem 227)):=by kernel_rfl
theorem size8 (w:World):(sizeOf (Tryz.prog.elem 227)).run Tryz.prog w= .ok 1 w:=by kernel_rfl
theorem sl_lh (w:World) (b o off n:Nat) (ho:off < 64) (hn:off+n≤64):(Instr.sliceAt 227 (.pointer (some ⟨b,o,none⟩)) (some (.int .i64 off)) (some (.int .i64 (off+n))) none).run Tryz.prog w= .ok (.slice (some ⟨b,o+off,none⟩) n (64 - off)) w:=by
 rw [run_sliceAt_array_lh w 227 ⟨b,o,none⟩ under64 .i64 .i64 off (off+n) (by omega) (by omega) (by rw [alen];omega),size8]
 simp only [Result.andThen_ok,slicedAt,alen,Int.toNat_natCast]
 rw [if_neg (by omega),Nat.mul_one,Addr.add_mid]
 congr 2
 omega
theorem sl_l (w:World) (b o off:Nat) (ho:off < 64):(Instr.sliceAt 227 (.pointer (some ⟨b,o,none⟩)) (some (.int .i64 off)) none none).run Tryz.prog w= .ok (.slice (some ⟨b,o+off,none⟩) (64 - off) (64 - off)) w:=by
 rw [run_sliceAt_array_l w 227 ⟨b,o,none⟩ under64 .i64 off (by omega) (by rw [alen];omega),size8]
 simp only [Result.andThen_ok,slicedAt,alen,Int.toNat_natCast]
 rw [if_neg (by omega),Nat.mul_one,Addr.add_mid]
def ReadP (ys:List Int) (w:World) (e:Ending) (w' :World):Prop:=∃v b,e= .returned (.tuple #[v,.int .i64 0])∧RowV w' 5 v (ucells ys) b∧(∀g,b=some g→w.heap.size≤g)∧Below w.heap.size w w'
theorem FrB.rdv (h:FrB w fb bb kb row f) (i off n:Nat) (hi:i < f.n) (hn:off+n≤64):RdV w (some ⟨bb,i*64+off,none⟩) (ucells (f.get i off n)):=by
 intro j u hj
 refine ⟨_,rfl,?_⟩
 have hj' :=(List.getElem?_eq_some_iff.1 hj).1
 simp only [ucells,List.length_map] at hj'
 rw [get_len h.ok hi hn] at hj'
 rw [Addr.add_mid,h.byt.rd,List.getElem?_toArray]
 unfold Fs.get ucells at hj
 unfold ucells
 rw [List.getElem?_map] at hj ⊢
 rw [List.getElem?_take_of_lt hj',List.getElem?_drop] at hj
 rw [show i*64+off+j=64*i+off+j by omega]
 exact hj
set_option maxRecDepth 100000 in
theorem fread_is (h:FrB w fb bb kb row f) (i:Nat) (hi:f.has i) (off n:Nat) (ho:off < 64) (hn:off+n≤64):Calls Tryz.prog 226 #[.pointer (some ⟨fb,0,none⟩),.int .i64 i,.int .i64 off,.int .i64 n] w (ReadP (f.get i off n) w):=by
 have hp:=piece_yes h i hi off n hn
 obtain ⟨v,k1,k2⟩:=h.top
 have c1:=k1.rd
 have n64:=h.ok.n64
 have i1:(i:Int) < f.n:=by have:=hi.1;omega
 have i2:(0:Int)≤i:=by omega
 have i3:(off:Int)+n≤64:=by omega
 have hsl:=fun w=> sl_lh w bb (i*64) off n ho hn
 have hcl:=cloneB_is ⟨bb,i*64+off,none⟩ (64 - off) (f.get i off n) n (get_len h.ok hi.1 hn) (h.rdv i off n hi.1 hn) (by rw [get_len h.ok hi.1 hn];omega)
 generalize f.get i off n=ys at*
 clear h k1 k2 hi
 go_enter Tryz.func226,Tryz.ntmps226
 go_wp2_with (first
  | (go_at_call 228;refine hp.mono ?_;rintro e w' ⟨rfl,rfl⟩)
  | (go_at_call 246;(with_reducible refine hcl.mono ?_);rintro e w1 ⟨v1,b1,rfl,hq⟩;have H1:=Lib.hid hq;clear hq hcl))
 go_returns
 exact ⟨_,b1,rfl,H1.out⟩
def WriteP (w:World) (fb bb kb:Nat) (row:Option Nat) (f:Fs) (i off:Nat) (b:List Int) (e:Ending) (w' :World):Prop:=e= .returned (.int .i64 0)∧FrB w' fb bb kb row (f.put i off b)∧Upd (fun k=> k=bb) w w'
set_option maxRecDepth 100000 in
theorem fwrite_is (h:FrB w fb bb kb row f) (hn1:fb≠bb) (hn3:bb≠kb) (hr:∀g,row=some g→g≠bb) (i:Nat) (hi:f.has i) (off n c:Nat) (ho:off < 64) (b:List Int) (hb:b.length=n) (hn:off+n≤64) (A:Addr) (hA:RdV w (some A) (ucells b)):
  Calls Tryz.prog 193 #[.pointer (some ⟨fb,0,none⟩),.int .i64 i,.int .i64 off,.slice (some A) n c] w (WriteP w fb bb kb row f i off b):=by
 have hp:=piece_yes h i hi off n hn
 obtain ⟨v,k1,k2⟩:=h.top
 have c1:=k1.rd
 have n64:=h.ok.n64
 have i1:(i:Int) < f.n:=by have:=hi.1;omega
 have i2:(0:Int)≤i:=by omega
 have i3:(off:Int)≤64:=by omega
 have hsl:=fun w=> sl_l w bb (i*64) off ho
 have hcs:(ucells b).length=n:=by simp [hb]
 have hmin:(ucells b).length=Nat.min n (64 - off):=by rw [hcs];exact (Nat.min_eq_left (by omega)).symm
 have hsrc:∀j v,(ucells b)[j]? =some v→w.cell? (A.add j)=some v:=fun j v hj=> by
  obtain ⟨A',e,h2⟩:=hA j v hj
  cases e;exact h2
 have hfit:i*64+off+(ucells b).length≤(ucells f.by').toArray.size:=by
  rw [hcs];simp [h.ok.byl];have:=hi.1;omega
 obtain ⟨w1,hw1⟩:∃w1,w1=w.setRow bb ((ucells f.by').toArray.toList.take (i*64+off)++(ucells b++(ucells f.by').toArray.toList.drop (i*64+off+(ucells b).length))).toArray:=⟨_,rfl⟩
 have hu1:Upd (fun k=> k=bb) w w1:=by rw [hw1];exact upd_setRow (F:=fun k=> k=bb) (Upd.refl _ _) (fun _=> rfl) _
 have hb1:Blk w1 bb (ucells (f.put i off b).by').toArray 227:=by
  have h3:=setRow_heap w bb _ ((ucells f.by').toArray.toList.take (i*64+off)++(ucells b++(ucells f.by').toArray.toList.drop (i*64+off+(ucells b).length))).toArray _ _ h.byt
  rw [←hw1] at h3
  refine Blk.of h3 ?_
  unfold Fs.put spl ucells
  simp [List.map_take,List.map_drop,Nat.mul_comm i 64]
 have hgot:WriteP w fb bb kb row f i off b (.returned (.int .i64 0)) w1:=by
  refine ⟨rfl,⟨⟨v,Blk.upd hu1 k1 hn1,k2.upd hu1 (fun g hg=> hr g hg)⟩,hb1,Blk.upd hu1 h.tkn hn3.symm,put_ok h.ok hi.1 (by omega)⟩,hu1⟩
 have hbyt:=h.byt
 have H:=Lib.hid (And.intro hgot (And.intro hw1 (And.intro hmin (And.intro hsrc (And.intro hfit hbyt)))))
 clear h k1 k2 hi hb hn hA hcs hmin hsrc hfit hw1 hu1 hb1 hgot hbyt
 go_enter Tryz.func193,Tryz.ntmps193
 go_wp2_with (first
  | (go_at_call 228;refine hp.mono ?_;rintro e w' ⟨rfl,rfl⟩)
  | (refine wpList_copy_own rfl (.tmp 25) (.tmp 26) 22 22 rfl 5 under8 (by kernel_rfl) bb (i*64+off) (64 - off) (64 - off) A n c rfl rfl (ucells f.by').toArray 227 H.out.2.2.2.2.2 (ucells b) H.out.2.2.1 H.out.2.2.2.1 H.out.2.2.2.2.1 (ucells_one b) ?_;rw [←H.out.2.1]))
 go_ret
 exact H.out.1
end
end Go.Proofs.YtjpjafajploiaaaGreatDoor
