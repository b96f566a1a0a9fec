/-
  Paths: every name of a list; Split.
-/
import Derived.Handy
import Derived.Test.YtjpjafajploiaaaGreatDoorUnixAlone18
set_option linter.unusedSimpArgs false
set_option linter.unusedVariables false
namespace Go.Proofs.YtjpjafajploiaaaGreatDoor
open Go.RowKit Own RegJ
open Go.Lib hiding intOf
def RdT (w:World) (a:Option Addr) (xs:List Txt):Prop:=∀k x,xs[k]? =some x→∃g o,a=some ⟨g,o,none⟩∧w.cell? ⟨g,o+k,none⟩=some (.string (B x))
theorem first_at:∀(xs:List Txt) (k:Nat) (x:Txt),xs[k]? =some x→(∀j y,j < k→xs[j]? =some y→nameE y=0)→nameE x≠0→firstE xs=nameE x
 | [],k,x,h,_,_=> by simp at h
 | y::r,0,x,h,_,hx=> by simp at h;subst h;unfold firstE;rw [if_neg hx]
 | y::r,k+1,x,h,hb,hx=> by
  unfold firstE
  rw [if_pos (hb 0 y (by omega) rfl)]
  exact first_at r k x (by simpa using h) (fun j z hj hz=> hb (j+1) z (by omega) (by simpa using hz)) hx
theorem first_all:∀(xs:List Txt),(∀(j:Nat) (y:Txt),xs[j]? =some y→nameE y=0)→firstE xs=0
 | [],_=> rfl
 | y::r,h=> by
  unfold firstE
  rw [if_pos (h 0 y rfl)]
  exact first_all r (fun j z hz=> h (j+1) z (by simpa using hz))
def Upto (xs:List Txt) (i:Nat):Prop:=∀(j:Nat) (y:Txt),j < i→xs[j]? =some y→nameE y=0
theorem Upto.next {xs:List Txt} {i:Nat} {x:Txt} (h:Upto xs i) (hx:xs[i]? =some x) (h0:nameE x=0):Upto xs (i+1):=fun j y hj hy=> by
 by_cases hji:j < i
 ·exact h j y hji hy
 ·have:j=i:=by omega
  subst this
  rw [hx] at hy;cases hy;exact h0
theorem Upto.bad {xs:List Txt} {i:Nat} {x:Txt} (h:Upto xs i) (hx:xs[i]? =some x) (h0:nameE x≠0):everyE xs=nameE x:=by
 unfold everyE;rw [first_at xs i x hx h h0,if_neg h0]
theorem Upto.all {xs:List Txt} {i:Nat} (h:Upto xs i) (hi:i=xs.length):everyE xs=if 6 < xs.length then 20 else 0:=by
 unfold everyE
 rw [first_all xs (fun j y hj=> h j y (by rw [hi];exact (List.getElem?_eq_some_iff.1 hj).1) hj),if_pos rfl]
set_option maxRecDepth 100000 in
theorem every_is {w:World} {a:Option Addr} {xs:List Txt} (n c:Nat) (h:RdT w a xs) (hn:xs.length=n) (hm:n≤maxLen):
  Calls Tryz.prog 180 #[.slice a n c,.func (.func 147) #[] #[]] w fun e w' => e= .returned (.int .i64 (everyE xs))∧w=w' :=by
 unfold maxLen at hm
 obtain ⟨N,hN⟩:∃N,everyE xs=N:=⟨_,rfl⟩
 rw [hN]
 have HN:=Lib.hid hN
 have HR:=Lib.hid (And.intro h hn)
 clear h hn hN
 go_enter Tryz.func180,Tryz.ntmps180
 go_wp2_with (fail)
 go_loopw [10] (fun ix wr=> ∃i:Nat,i≤n∧ix= .int .i64 i∧wr=w∧Hid (Upto xs i)) (fun ix _=> n - (intOf ix).toNat)
 case atStart=> exact ⟨0,Nat.zero_le _,rfl,rfl,Lib.hid (fun j y hj=> by omega)⟩
 case round=>
  obtain ⟨i,hi,rfl,rfl,HU⟩:=hrel
  by_cases hil:i < n
  ·obtain ⟨x,hx⟩:∃x,xs[i]? =some x:=⟨xs[i]'(by rw [HR.out.2];exact hil),List.getElem?_eq_getElem _⟩
   obtain ⟨g,o,rfl,k0⟩:=HR.out.1 i x hx
   have HX:=Lib.hid hx
   clear hx
   have d1:decide ((i:Int) < (n:Int))=true:=by simp;omega
   have i1:(i:Int) < (n:Int):=by omega
   have i2:(0:Int)≤i:=by omega
   have hnm:=name_is x
   by_cases hE:nameE x=0
   ·rw [hE] at hnm
    have HE:=Lib.hid hE
    clear hE
    go_wp2_with (go_at_call 147;refine (hnm _).mono ?_;rintro e w' ⟨rfl,rfl⟩)
    go_roundw
    case rel=> exact ⟨i+1,by omega,by go_num,by trivial,Lib.hid (HU.out.next HX.out HE.out)⟩
    case measure=> simp [intOf];omega
   ·have hNx:N=nameE x:=by rw [←HN.out];exact HU.out.bad HX.out hE
    rw [←hNx] at hnm hE
    have d2:(N==0)=false:=by simpa using hE
    have d3:(N !=0)=true:=by simpa using hE
    clear hNx HN
    go_wp2_with (go_at_call 147;refine (hnm _).mono ?_;rintro e w' ⟨rfl,rfl⟩)
    go_ret
    exact ⟨rfl,rfl⟩
  ·have hNx:N=if 6 < n then 20 else 0:=by
    have:=HU.out.all (by rw [HR.out.2];omega)
    rw [HN.out,HR.out.2] at this;exact this
   clear HN HU HR
   have d1:decide ((i:Int) < (n:Int))=false:=by simp;omega
   have d2:decide (i < n)=false:=by simp;omega
   by_cases h6:6 < n
   ·rw [if_pos h6] at hNx
    subst hNx
    have d3:decide ((n:Int) > 6)=true:=by simp;omega
    clear hil hi
    go_wp2_with (fail)
    go_ret
    exact ⟨rfl,rfl⟩
   ·rw [if_neg h6] at hNx
    subst hNx
    have d3:decide ((n:Int) > 6)=false:=by simp;omega
    clear hil hi
    go_wp2_with (fail)
    go_ret
    exact ⟨rfl,rfl⟩
abbrev tcells (xs:List Txt):List Value:=xs.map fun x=> Value.string (B x)
def Txts (w:World) (v:Value) (xs:List Txt) (b:Option Nat):Prop:=
 (v= .slice none 0 0∧xs= []∧b=none)∨
 ∃g cap rest,v= .slice (some ⟨g,0,none⟩) xs.length cap∧b=some g∧Blk w g (tcells xs++rest).toArray 9∧cap=(tcells xs++rest).length∧cap≤maxLen
theorem Txts.upd {w w' :World} {F:Nat→Prop} {v:Value} {xs:List Txt} {b:Option Nat} (h:Txts w v xs b) (hu:Upd F w w') (hf:∀g,b=some g→¬F g):Txts w' v xs b:=by
 rcases h with h | ⟨g,cap,rest,hv,hb,hB,hc,hm⟩
 ·exact Or.inl h
 ·exact Or.inr ⟨g,cap,rest,hv,hb,Blk.upd hu hB (hf g hb),hc,hm⟩
theorem Txts.lt {w:World} {v:Value} {xs:List Txt} {b:Option Nat} (h:Txts w v xs b) (g:Nat) (hg:b=some g):g < w.heap.size:=by
 rcases h with ⟨_,_,hb⟩ | ⟨g',cap,rest,hv,hb,hB,hc,hm⟩
 ·rw [hb] at hg;cases hg
 ·rw [hb] at hg;cases hg;exact hB.lt
theorem Txts.rd {w:World} {a:Option Addr} {n c:Nat} {xs:List Txt} {b:Option Nat} (h:Txts w (.slice a n c) xs b):RdT w a xs:=by
 intro k x hx
 rcases h with ⟨_,rfl,_⟩ | ⟨g,cap,rest,hv,hb,hB,hc,hm⟩
 ·simp at hx
 ·simp only [Value.slice.injEq] at hv
  refine ⟨g,0,hv.1,?_⟩
  have hk:k < xs.length:=(List.getElem?_eq_some_iff.1 hx).1
  rw [hB.rd,Nat.zero_add,List.getElem?_toArray,List.getElem?_append_left (by simpa using hk),List.getElem?_map,hx]
  rfl
theorem Txts.new {w:World} {xs:List Txt} (hne:xs≠ []) (hl:xs.length≤200000):Txts (w.alloc (.cells (tcells xs).toArray 9)) (.slice (some ⟨w.heap.size,0,none⟩) xs.length xs.length) xs (some w.heap.size):=by
 refine Or.inr ⟨w.heap.size,xs.length,[],rfl,rfl,?_,by simp,by unfold maxLen;omega⟩
 rw [List.append_nil];exact Blk.new _ _ _
def SplitP (l:Txt) (w:World) (e:Ending) (w' :World):Prop:=∃a c b,e= .returned (.tuple #[.slice a (splitL l).length c,.int .i64 (splitE l)])∧Txts w' (.slice a (splitL l).length c) (splitL l) b∧(∀g,b=some g→w.heap.size≤g)∧Below w.heap.size w w'
theorem SplitP.none {l:Txt} {w:World} {N:Int} (hL:splitL l= []) (hE:splitE l=N):SplitP l w (.returned (.tuple #[.slice .none 0 0,.int .i64 N])) w:=by
 subst hE
 refine ⟨.none,0,.none,?_,?_,fun g hg=> (by cases hg),Below.refl _ _⟩
 ·rw [hL];rfl
 ·rw [hL];exact Or.inl ⟨rfl,rfl,rfl⟩
theorem SplitP.none' {l:Txt} {w w' :World} {N:Int} (hL:splitL l= []) (hE:splitE l=N) (hB:Below w.heap.size w w'):SplitP l w (.returned (.tuple #[.slice .none 0 0,.int .i64 N])) w' :=by
 subst hE
 refine ⟨.none,0,.none,?_,?_,fun g hg=> (by cases hg),hB⟩
 ·rw [hL];rfl
 ·rw [hL];exact Or.inl ⟨rfl,rfl,rfl⟩
theorem ssplit (l:Txt) (w:World) (hl:l.length≤100000) (m:Int) (hm:w.cell? ⟨0,0,none⟩=some (.int .i64 m)):
  Calls Tryz.prog 179 #[.string (B l),.string (B [47])] w fun e w' => e= .returned (.slice (some ⟨w.heap.size,0,none⟩) (sp l).length (sp l).length)∧w' =w.alloc (.cells (tcells (sp l)).toArray 9):=by
 have h:=Tryz.strings_Split (B l) (B [47]) m w (by rw [B_size];omega) hm (by rw [B_size];simp)
 rw [count_sp,splitB_sp,List.map_map] at h
 exact h
theorem ext_one (l:Txt):(B l).extract 1 (B l).size=B (l.drop 1):=by
 apply ByteArray.ext
 apply Array.ext'
 have:=extract_to_end (B l) 1
 rw [this]
set_option maxRecDepth 100000 in
theorem split_is (l:Txt) (w:World) (hl:l.length≤100000) (m:Int) (hm:w.cell? ⟨0,0,none⟩=some (.int .i64 m)):
  Calls Tryz.prog 117 #[.string (B l)] w (SplitP l w):=by
 have e0:(B l).toList.isEmpty=decide (l= []):=by rw [B_list];cases l <;> rfl
 have e1:((B l).toList== [47])=decide (l= [47]):=by rw [B_list,beq_dec]
 by_cases h0:l= []
 ·have hE:splitE l=9:=by unfold splitE;rw [if_pos h0]
  have hP:=Lib.hid (SplitP.none (w:=w) (splitL_bad (by omega)) hE)
  rw [decide_eq_true h0] at e0
  clear e1 hm hl h0 hE
  generalize B l=s at*
  go_enter Tryz.func117,Tryz.ntmps117
  go_wp2_with (fail)
  go_returns
  exact hP.out
 ·rw [decide_eq_false h0] at e0
  obtain ⟨c,r,rfl⟩:∃c r,l=c::r:=by cases l with
   | nil=> exact absurd rfl h0
   | cons c r=> exact ⟨c,r,rfl⟩
  have hsz:0 < (B (c::r)).size:=by rw [B_size];simp
  have i1:(0:Int) < ((B (c::r)).size:Int):=by omega
  have hg:=fun h=> byte_at (s:=B (c::r)) (l:=c::r) (data_B _) (i:=0) (c:=c) rfl h
  have u1:((c.toNat:Int)==47)=decide (c=UInt8.ofNat 47):=u8_eq c 47 (by omega)
  have u2:((c.toNat:Int) !=47)= !decide (c=UInt8.ofNat 47):=by rw [←u1];rfl
  by_cases hc:c=UInt8.ofNat 47
  ·rw [decide_eq_true hc] at u1 u2
   by_cases h1:c::r= [47]
   ·have hP:=Lib.hid (SplitP.none (l:=c::r) (w:=w) (N:=0) (by rw [h1];exact splitL_slash.2) (by rw [h1];exact splitL_slash.1))
    rw [decide_eq_true h1] at e1
    have e1' :=beq_iff_eq.1 e1
    clear hm hl h0 h1 hc
    generalize B (c::r)=s at*
    go_enter Tryz.func117,Tryz.ntmps117
    go_wp2_with (fail)
    go_returns
    exact hP.out
   ·rw [decide_eq_false h1] at e1
    have hx:=ext_one (c::r)
    have hE:splitE (c::r)=everyE (sp r):=by unfold splitE;rw [if_neg h0,if_neg (by rw [hc];simp),if_neg h1];rfl
    have hL:splitE (c::r)=0→splitL (c::r)=sp r:=fun h=> by unfold splitL;rw [if_pos h,if_neg h1];rfl
    have hlr:r.length≤100000:=by simp at hl;omega
    have HL:=Lib.hid (And.intro hE hL)
    clear hE hL h0 h1 hc hl
    generalize B (c::r)=s at*
    go_enter Tryz.func117,Tryz.ntmps117
    go_wp2_with (first
     | (go_at_call 179;refine (ssplit r w hlr m hm).mono ?_;rintro e w1 ⟨rfl,hw1⟩;have hT:=Txts.new (w:=w) (xs:=sp r) (sp_ne r) (by have:=sp_len r;omega);rw [←hw1] at hT;have HB:Hid (Below w.heap.size w w1):=Lib.hid (by rw [hw1];exact (Below.refl _ _).alloc (Nat.le_refl _) _);have hev:=every_is (sp r).length (sp r).length hT.rd rfl (by have:=sp_len r;unfold maxLen;omega);have HT:=Lib.hid hT;clear hT hw1)
     | (go_at_call 180;(with_reducible refine hev.mono ?_);rintro e w2 ⟨rfl,rfl⟩))
    ·rename_i hb
     have hb' :everyE (sp r)≠0:=by simpa using hb
     go_returns
     exact SplitP.none' (splitL_bad (by rw [HL.out.1];exact hb')) HL.out.1 HB.out
    ·rename_i hb
     have hb' :everyE (sp r)=0:=by simpa using hb
     have hz:splitE (c::r)=0:=by rw [HL.out.1];exact hb'
     go_returns
     refine ⟨some ⟨w.heap.size,0,none⟩,(sp r).length,some w.heap.size,?_,?_,fun g hg=> by cases hg;exact Nat.le_refl _,HB.out⟩
     ·rw [HL.out.2 hz,hz,←hb'];rfl
     ·rw [HL.out.2 hz];exact HT.out
  ·rw [decide_eq_false hc] at u1 u2
   have hE:splitE (c::r)=19:=by unfold splitE;rw [if_neg h0,if_pos (by intro h;exact hc (by simpa using h))]
   have hP:=Lib.hid (SplitP.none (w:=w) (splitL_bad (by omega)) hE)
   clear e1 hm hl h0 hc hE
   generalize B (c::r)=s at*
   go_enter Tryz.func117,Tryz.ntmps117
   go_wp2_with (fail)
   go_returns
   exact hP.out
end Go.Proofs.YtjpjafajploiaaaGreatDoor
