/-
  Which of the blocks that were there a step may turn, and rows of integers that a call owns: plain facts on worlds.
-/
import Derived.Test.YtjpjafajploiaaaGreatDoorUnixAlone02
import Derived.Laws.AppendOwn
set_option linter.unusedSimpArgs false
set_option linter.unusedVariables false
namespace Go.Proofs.YtjpjafajploiaaaGreatDoor.Own
open Go.RowKit Go.Proofs.YtjpjafajploiaaaGreatDoor.RegJ
structure Upd (F:Nat→Prop) (w w' :World):Prop where
 os:w'.os=w.os
 tape:w'.tape=w.tape
 output:w'.output=w.output
 size:w.heap.size≤w'.heap.size
 block:∀k,k < w.heap.size→¬F k→w'.heap[k]? =w.heap[k]?
theorem Upd.refl (F:Nat→Prop) (w:World):Upd F w w:=⟨rfl,rfl,rfl,Nat.le_refl _,fun _ _ _=> rfl⟩
theorem Upd.trans {F G:Nat→Prop} {a b c:World} (h:Upd F a b) (k:Upd G b c) (hG:∀i,i < a.heap.size→G i→F i):Upd F a c:=
  ⟨k.os.trans h.os,k.tape.trans h.tape,k.output.trans h.output,Nat.le_trans h.size k.size,
   fun i hi hf=> (k.block i (Nat.lt_of_lt_of_le hi h.size) (fun hg=> hf (hG i hi hg))).trans (h.block i hi hf)⟩
theorem Upd.mono {F G:Nat→Prop} {a b:World} (h:Upd F a b) (hG:∀i,i < a.heap.size→F i→G i):Upd G a b:=
 ⟨h.os,h.tape,h.output,h.size,fun i hi hg=> h.block i hi (fun hf=> hg (hG i hi hf))⟩
theorem Upd.drew {F:Nat→Prop} {a w:World} (h:Upd F a w):Upd F a w.drew:=⟨h.os,h.tape,h.output,h.size,h.block⟩
theorem Upd.drewN {F:Nat→Prop} {a w:World} (h:Upd F a w) (n:Nat):Upd F a (w.drewN n):=⟨h.os,h.tape,h.output,h.size,h.block⟩
theorem Upd.alloc {F:Nat→Prop} {a w:World} (h:Upd F a w) (o:Obj):Upd F a (w.alloc o):=
 ⟨h.os,h.tape,h.output,Nat.le_trans h.size (by simp),fun k hk hf=> (Below.heap_alloc _ _ _ (Nat.lt_of_lt_of_le hk h.size)).trans (h.block k hk hf)⟩
theorem Upd.setCell {F:Nat→Prop} {a w:World} (h:Upd F a w) {p:Addr} (hp:p.block < a.heap.size→F p.block) (u:Value):Upd F a (w.setCell p u):=
 ⟨h.os,h.tape,h.output,Nat.le_trans h.size (by simp [World.setCell]),fun k hk hf=> by
  rw [Below.heap_setCell _ _ _ _ (fun e=> hf (by rw [e];exact hp (e▸hk)))];exact h.block k hk hf⟩
theorem Upd.of_below {F:Nat→Prop} {w w' :World} (h:Below w.heap.size w w'):Upd F w w' :=⟨h.os,h.tape,h.output,h.size,fun k hk _=> h.block k hk⟩
theorem Upd.below {F:Nat→Prop} {B:Nat} {w w' :World} (h:Upd F w w') (hB:B≤w.heap.size) (hF:∀k,F k→B≤k):Below B w w' :=
 ⟨h.os,h.tape,h.output,h.size,fun k hk=> h.block k (Nat.lt_of_lt_of_le hk hB) (fun hf=> by have:=hF k hf;omega)⟩
theorem Upd.grown {F:Nat→Prop} {w w' :World} {row:Option Nat} (hg:w.grownBy w' row) (hr:∀k,row=some k→F k):Upd F w w' :=
 ⟨hg.os,hg.tape,hg.output,hg.size,fun k hk hf=> hg.block k hk (fun e=> hf (hr k e.symm))⟩
theorem Blk.upd {F:Nat→Prop} {w w' :World} (hu:Upd F w w') {b:Nat} {cs:Array Value} {T:TypeId} (h:Blk w b cs T) (hf:¬F b):Blk w' b cs T:=by
 have hl:=h.lt
 unfold Blk at*;rw [hu.block b hl hf];exact h
theorem upd_heap {F:Nat→Prop} {w w' :World} (hu:Upd F w w') {b:Nat} {o:Obj} (h:w.heap[b]? =some o) (hf:¬F b):w'.heap[b]? =some o:=by
 rw [hu.block b (Array.getElem?_eq_some_iff.1 h).1 hf];exact h
abbrev icells (xs:List Int):List Value:=xs.map (Value.int .i64)
def Ints (w:World) (E:TypeId) (v:Value) (xs:List Int) (b:Option Nat):Prop:=
 (v= .slice none 0 0∧xs= []∧b=none)∨
 ∃g cap rest,v= .slice (some ⟨g,0,none⟩) xs.length cap∧b=some g∧Blk w g (icells xs++rest).toArray E∧cap=(icells xs++rest).length∧cap≤maxLen
theorem Ints.keep {w w' :World} {E:TypeId} {v:Value} {xs:List Int} {b:Option Nat} (h:Ints w E v xs b) (hk:∀g,b=some g→w'.heap[g]? =w.heap[g]?):Ints w' E v xs b:=by
 rcases h with h | ⟨g,cap,rest,hv,hb,hB,hc,hm⟩
 ·exact Or.inl h
 ·exact Or.inr ⟨g,cap,rest,hv,hb,by unfold Blk at*;rw [hk g hb];exact hB,hc,hm⟩
theorem Ints.upd {w w' :World} {F:Nat→Prop} {E:TypeId} {v:Value} {xs:List Int} {b:Option Nat} (h:Ints w E v xs b) (hu:Upd F w w') (hf:∀g,b=some g→¬F g):Ints w' E v xs b:=by
 rcases h with h | ⟨g,cap,rest,hv,hb,hB,hc,hm⟩
 ·exact Or.inl h
 ·exact Or.inr ⟨g,cap,rest,hv,hb,Blk.upd hu hB (hf g hb),hc,hm⟩
theorem Ints.lt {w:World} {E:TypeId} {v:Value} {xs:List Int} {b:Option Nat} (h:Ints w E v xs b) (g:Nat) (hg:b=some g):g < w.heap.size:=by
 rcases h with ⟨_,_,hb⟩ | ⟨g',cap,rest,hv,hb,hB,hc,hm⟩
 ·rw [hb] at hg;cases hg
 ·rw [hb] at hg;cases hg;exact hB.lt
theorem Ints.len {w:World} {E:TypeId} {v:Value} {xs:List Int} {b:Option Nat} (h:Ints w E v xs b):xs.length≤maxLen:=by
 rcases h with ⟨_,h,_⟩ | ⟨g,cap,rest,hv,hb,hB,hc,hm⟩
 ·rw [h];exact Nat.zero_le _
 ·rw [hc] at hm;simp at hm;omega
theorem getD_cells (xs:List Int) (j:Nat) (h:j < xs.length):(icells xs)[j]? =some (Value.int .i64 (xs.getD j 0)):=by
 simp [h]
theorem Ints.cells {w:World} {g:Nat} {E:TypeId} {xs:List Int} {rest:List Value} (hB:Blk w g (icells xs++rest).toArray E) (j:Nat) (h:j < xs.length):w.cell? ⟨g,0+j,none⟩=some (.int .i64 (xs.getD j 0)):=by
 rw [hB.rd,Nat.zero_add]
 rw [List.getElem?_toArray,List.getElem?_append_left (by simpa using h)]
 exact getD_cells xs j h
theorem Ints.own {w:World} {base:Nat} {E:TypeId} {v:Value} {xs:List Int} {b:Option Nat} (h:Ints w E v xs b) (hb:∀g,b=some g→base≤g):w.ownsRow base E 1 v xs.length (icells xs):=by
 refine ⟨by simp,?_⟩
 rcases h with ⟨hv,h0,_⟩ | ⟨g,cap,rest,hv,hg,hB,hc,hm⟩
 ·exact Or.inl ⟨hv,by rw [h0];rfl⟩
 ·refine Or.inr ⟨g,cap,_,hv,hb g hg,hB,by rw [hc];simp,hm,by rw [hc];simp,?_⟩
  simp
theorem Blk.sets {w:World} {b:Nat} {T:TypeId}:∀(vs:List Value) (l:List Value) (o:Nat),Blk w b l.toArray T→o+vs.length≤l.length→Blk (w.setCells b o vs) b (l.take o++vs++l.drop (o+vs.length)).toArray T:=by
 intro vs
 induction vs generalizing w with
 | nil=> intro l o h hl;simpa [World.setCells] using h
 | cons v r ih=>
  intro l o h hl
  simp only [List.length_cons] at hl
  have h1:=h.set o v
  have e:l.toArray.setIfInBounds o v=(l.set o v).toArray:=by simp
  rw [e] at h1
  have h2:=ih (l.set o v) (o+1) h1 (by simp;omega)
  refine Blk.of h2 ?_
  congr 1
  have e1:(l.set o v).take (o+1)=l.take o++ [v]:=by
   rw [List.take_set,List.take_succ_eq_append_getElem (by omega)]
   rw [List.set_append_right _ _ (by simp;omega)]
   congr 1
   have:o - (l.take o).length=0:=by simp;omega
   rw [this];rfl
  have e2:(l.set o v).drop (o+1+r.length)=l.drop (o+(r.length+1)):=by
   rw [List.drop_set_of_lt (by omega)];congr 1;omega
  rw [e1,e2];simp
theorem Upd.sets {F:Nat→Prop} {a:World}:∀(vs:List Value) (w:World) (b o:Nat),Upd F a w→(b < a.heap.size→F b)→Upd F a (w.setCells b o vs)
 | [],_,_,_,h,_=> h
 | v::r,w,b,o,h,hb=> Upd.sets r _ b (o+1) (h.setCell (p:=⟨b,o,none⟩) hb v) hb
end Go.Proofs.YtjpjafajploiaaaGreatDoor.Own
namespace Go.Proofs.YtjpjafajploiaaaGreatDoor
open Go.RowKit Own RegJ
def edgeB (md:Region.Mode) (ops:Array Oper) (j i:Nat):Bool:=match ops[j]? with
 | some o=> o.after.any fun e=> Region.binds md e && e.on==i
 | none=> false
def routeB (md:Region.Mode) (ops:Array Oper):Nat→List Nat→Bool
 | _,[]=> true
 | j,i::r=> edgeB md ops j i && routeB md ops i r
theorem path_up {md:Region.Mode} {ops:Array Oper} {f:Nat→Bool} (h:RegF.Closed md ops f):∀(l:List Nat) (j:Nat),routeB md ops j l=true→f j=true→∀i∈l,f i=true
 | [],_,_,_,i,hi=> by cases hi
 | k::r,j,hp,hf,i,hi=> by
  simp only [routeB,Bool.and_eq_true] at hp
  have hk:f k=true:=by
   have he:=hp.1
   unfold edgeB at he
   split at he
   ·rename_i o ho;exact h.step j k ho he hf
   ·cases he
  rw [List.mem_cons] at hi
  rcases hi with rfl | hi
  ·exact hk
  ·exact path_up h r k hp.2 hk i hi
theorem path_no {md:Region.Mode} {ops:Array Oper} {f:Nat→Bool} (h:RegF.Closed md ops f) {j k:Nat} (l:List Nat) (hp:routeB md ops j l=true) (hk:l.contains k=true) (hf:f k=false):f j=false:=by
 cases hj:f j with
 | false=> rfl
 | true=> rw [path_up h l j hp hj k (by simpa using hk)] at hf;cases hf
def Stg (W WA WC WS:World) (a c s:Bool) (w:World):Prop:=w=if s then WS else if c then WC else if a then WA else W
def KJ (A C S:Nat) (md:Region.Mode) (ops:Array Oper) (W WA WC WS:World) (f:Nat→Bool) (w:World):Prop:=RegF.Closed md ops f∧Stg W WA WC WS (f A) (f C) (f S) w
section
variable {A C S k:Nat} {md:Region.Mode} {ops:Array Oper} {W WA WC WS w:World} {f:Nat→Bool} {o:Oper}
theorem KJ.start (md:Region.Mode) (ops:Array Oper) (A C S:Nat) (hw:w=W):KJ A C S md ops W WA WC WS (fun _=> false) w:=⟨fun k o ho h=> (by cases h),hw⟩
theorem KJ.other (h:KJ A C S md ops W WA WC WS f w) (ho:ops[k]? =some o) (hf:Up md k o f) (h1:k≠A) (h2:k≠C) (h3:k≠S):KJ A C S md ops W WA WC WS (fset f k) w:=by
 refine ⟨RegF.Closed.fset ho ⟨hf,h.1⟩,?_⟩
 rw [fset_ne h1,fset_ne h2,fset_ne h3];exact h.2
theorem KJ.atA (h:KJ A C S md ops W WA WC WS f w) (hA:f A=false) (hC:f C=false) (hS:f S=false):w=W:=by have:=h.2;rw [hA,hC,hS] at this;exact this
theorem KJ.atC (h:KJ A C S md ops W WA WC WS f w) (hA:f A=true) (hC:f C=false) (hS:f S=false):w=WA:=by have:=h.2;rw [hA,hC,hS] at this;exact this
theorem KJ.fin (h:KJ A C S md ops W WA WC WS f w) (hS:f S=true):w=WS:=by have:=h.2;rw [hS] at this;exact this
theorem KJ.goA (h:KJ A C S md ops W WA WC WS f w) (ho:ops[A]? =some o) (hf:Up md A o f) (hC:f C=false) (hS:f S=false) (h1:A≠C) (h2:A≠S):KJ A C S md ops W WA WC WS (fset f A) WA:=by
 refine ⟨RegF.Closed.fset ho ⟨hf,h.1⟩,?_⟩
 rw [fset_eq,fset_ne h1,fset_ne h2,hC,hS];rfl
theorem KJ.goS (h:KJ A C S md ops W WA WC WS f w) (ho:ops[S]? =some o) (hf:Up md S o f):KJ A C S md ops W WA WC WS (fset f S) WS:=by
 refine ⟨RegF.Closed.fset ho ⟨hf,h.1⟩,?_⟩
 rw [fset_eq];rfl
theorem KJ.pre {F:World→Prop} (h:KJ A C S md ops W WA WC WS f w) (hS:f S=false) (h1:F W) (h2:F WA) (h3:F WC):F w:=by
 have:=h.2
 rw [hS] at this
 unfold Stg at this
 rw [this]
 cases f C <;> cases f A <;> assumption
end
theorem region_K {P:Program} {id:Nat} {Q:Exit→Act→World→Prop} {a:Act} {w:World} {l:List Oper} (A C S:Nat) (W WA WC WS:World) (hW:w.drew=W) (hm:P.follows .mixedOrders=true) (hB:Region.lexB .any l.toArray=true)
  (h:wpJ P .any l.toArray (KJ A C S .any l.toArray W WA WC WS) a.tmps.size (fun s a' => ∀w',KJ A C S .any l.toArray W WA WC WS (flags s) w' →Q .normal a' w') 0 l (Array.replicate l.length false) a):(Code.region id l.toArray true).wp P Q a w:=
 region_J (KJ A C S .any l.toArray W WA WC WS) hm hB (KJ.start _ _ _ _ _ hW) h
theorem KJ.pre2 {A S:Nat} {md:Region.Mode} {ops:Array Oper} {W WA WC WS w:World} {f:Nat→Bool} {F:World→Prop} (h:KJ A S S md ops W WA WC WS f w) (hS:f S=false) (h1:F W) (h2:F WA):F w:=by
 have:=h.2
 rw [hS] at this
 unfold Stg at this
 rw [this]
 cases f A <;> assumption
def SJ (S:Nat) (md:Region.Mode) (ops:Array Oper) (W WS:World) (f:Nat→Bool) (w:World):Prop:=RegF.Closed md ops f∧w=if f S then WS else W
section
variable {S k:Nat} {md:Region.Mode} {ops:Array Oper} {W WS w:World} {f:Nat→Bool} {o:Oper}
theorem SJ.other (h:SJ S md ops W WS f w) (ho:ops[k]? =some o) (hf:Up md k o f) (h3:k≠S):SJ S md ops W WS (fset f k) w:=by
 refine ⟨RegF.Closed.fset ho ⟨hf,h.1⟩,?_⟩
 rw [fset_ne h3];exact h.2
theorem SJ.atS (h:SJ S md ops W WS f w) (hS:f S=false):w=W:=by have:=h.2;rw [hS] at this;exact this
theorem SJ.fin (h:SJ S md ops W WS f w) (hS:f S=true):w=WS:=by have:=h.2;rw [hS] at this;exact this
theorem SJ.goS (h:SJ S md ops W WS f w) (ho:ops[S]? =some o) (hf:Up md S o f):SJ S md ops W WS (fset f S) WS:=by
 refine ⟨RegF.Closed.fset ho ⟨hf,h.1⟩,?_⟩
 rw [fset_eq];rfl
end
theorem region_S {P:Program} {id:Nat} {Q:Exit→Act→World→Prop} {a:Act} {w:World} {l:List Oper} (S:Nat) (W WS:World) (hW:w.drew=W) (hm:P.follows .mixedOrders=true) (hB:Region.lexB .any l.toArray=true)
  (h:wpJ P .any l.toArray (SJ S .any l.toArray W WS) a.tmps.size (fun s a' => ∀w',SJ S .any l.toArray W WS (flags s) w' →Q .normal a' w') 0 l (Array.replicate l.length false) a):(Code.region id l.toArray true).wp P Q a w:=
 region_J (SJ S .any l.toArray W WS) hm hB ⟨fun k o ho h=> (by cases h),hW⟩ h
def CJ (C:Nat) (md:Region.Mode) (ops:Array Oper) (W:World) (Q:World→Prop) (f:Nat→Bool) (w:World):Prop:=RegF.Closed md ops f∧if f C then Q w else w=W
section
variable {C k:Nat} {md:Region.Mode} {ops:Array Oper} {W w w' :World} {Q:World→Prop} {f:Nat→Bool} {o:Oper}
theorem CJ.other (h:CJ C md ops W Q f w) (ho:ops[k]? =some o) (hf:Up md k o f) (h3:k≠C):CJ C md ops W Q (fset f k) w:=by
 refine ⟨RegF.Closed.fset ho ⟨hf,h.1⟩,?_⟩
 rw [fset_ne h3];exact h.2
theorem CJ.atC (h:CJ C md ops W Q f w) (hC:f C=false):w=W:=by have:=h.2;rw [hC] at this;exact this
theorem CJ.fin (h:CJ C md ops W Q f w) (hC:f C=true):Q w:=by have:=h.2;rw [hC] at this;exact this
theorem CJ.goC (h:CJ C md ops W Q f w) (ho:ops[C]? =some o) (hf:Up md C o f) (hq:Q w'):CJ C md ops W Q (fset f C) w' :=by
 refine ⟨RegF.Closed.fset ho ⟨hf,h.1⟩,?_⟩
 rw [fset_eq];exact hq
end
theorem region_C {P:Program} {id:Nat} {Q' :Exit→Act→World→Prop} {a:Act} {w:World} {l:List Oper} (C:Nat) (W:World) (Q:World→Prop) (hW:w.drew=W) (hm:P.follows .mixedOrders=true) (hB:Region.lexB .any l.toArray=true)
  (h:wpJ P .any l.toArray (CJ C .any l.toArray W Q) a.tmps.size (fun s a' => ∀w',CJ C .any l.toArray W Q (flags s) w' →Q' .normal a' w') 0 l (Array.replicate l.length false) a):(Code.region id l.toArray true).wp P Q' a w:=
 region_J (CJ C .any l.toArray W Q) hm hB ⟨fun k o ho h=> (by cases h),hW⟩ h
def ChJ (N A C L:Nat) (md:Region.Mode) (ops:Array Oper) (W W1 WA WC:World) (R:World→Prop) (f:Nat→Bool) (w:World):Prop:=
 RegF.Closed md ops f∧(f L=true→R w)∧(f L=false→w=if f C=true then WC else if f A=true then WA else if f N=true then W1 else W)
section
variable {N A C L k:Nat} {md:Region.Mode} {ops:Array Oper} {W W1 WA WC w:World} {R:World→Prop} {f:Nat→Bool} {o:Oper}
theorem ChJ.other (h:ChJ N A C L md ops W W1 WA WC R f w) (ho:ops[k]? =some o) (hf:Up md k o f) (h1:k≠N) (h2:k≠A) (h3:k≠C) (h4:k≠L):ChJ N A C L md ops W W1 WA WC R (fset f k) w:=by
 refine ⟨RegF.Closed.fset ho ⟨hf,h.1⟩,?_⟩
 rw [fset_ne h1,fset_ne h2,fset_ne h3,fset_ne h4];exact h.2
theorem ChJ.fin (h:ChJ N A C L md ops W W1 WA WC R f w) (hL:f L=true):R w:=h.2.1 hL
theorem ChJ.pre {F:World→Prop} (h:ChJ N A C L md ops W W1 WA WC R f w) (hL:f L=false) (h1:F W) (h2:F W1) (h3:F WA) (h4:F WC):F w:=by
 have:=h.2.2 hL
 rw [this]
 cases f C <;> cases f A <;> cases f N <;> first | exact h1 | exact h2 | exact h3 | exact h4
end
end Go.Proofs.YtjpjafajploiaaaGreatDoor
namespace Go.Proofs.YtjpjafajploiaaaGreatDoor
open Go.RowKit Own RegJ
def UJ (A B S:Nat) (md:Region.Mode) (ops:Array Oper) (W:World) (R1 R2 R3:World→Prop) (f:Nat→Bool) (w:World):Prop:=
 RegF.Closed md ops f∧if f S then R3 w else if f B then R2 w else if f A then R1 w else w=W
section
variable {A B S k:Nat} {md:Region.Mode} {ops:Array Oper} {W w w' :World} {R1 R2 R3:World→Prop} {f:Nat→Bool} {o:Oper}
theorem UJ.other (h:UJ A B S md ops W R1 R2 R3 f w) (ho:ops[k]? =some o) (hf:Up md k o f) (h1:k≠A) (h2:k≠B) (h3:k≠S):UJ A B S md ops W R1 R2 R3 (fset f k) w:=by
 refine ⟨RegF.Closed.fset ho ⟨hf,h.1⟩,?_⟩
 rw [fset_ne h1,fset_ne h2,fset_ne h3];exact h.2
theorem UJ.atA (h:UJ A B S md ops W R1 R2 R3 f w) (hA:f A=false) (hB:f B=false) (hS:f S=false):w=W:=by have:=h.2;rw [hA,hB,hS] at this;exact this
theorem UJ.atB (h:UJ A B S md ops W R1 R2 R3 f w) (hA:f A=true) (hB:f B=false) (hS:f S=false):R1 w:=by have:=h.2;rw [hA,hB,hS] at this;exact this
theorem UJ.atS (h:UJ A B S md ops W R1 R2 R3 f w) (hB:f B=true) (hS:f S=false):R2 w:=by have:=h.2;rw [hB,hS] at this;exact this
theorem UJ.fin (h:UJ A B S md ops W R1 R2 R3 f w) (hS:f S=true):R3 w:=by have:=h.2;rw [hS] at this;exact this
theorem UJ.goA (h:UJ A B S md ops W R1 R2 R3 f w) (ho:ops[A]? =some o) (hf:Up md A o f) (hB:f B=false) (hS:f S=false) (h1:A≠B) (h2:A≠S) (hq:R1 w'):UJ A B S md ops W R1 R2 R3 (fset f A) w' :=by
 refine ⟨RegF.Closed.fset ho ⟨hf,h.1⟩,?_⟩
 rw [fset_eq,fset_ne h1,fset_ne h2,hB,hS];exact hq
theorem UJ.goB (h:UJ A B S md ops W R1 R2 R3 f w) (ho:ops[B]? =some o) (hf:Up md B o f) (hS:f S=false) (h2:B≠S) (hq:R2 w'):UJ A B S md ops W R1 R2 R3 (fset f B) w' :=by
 refine ⟨RegF.Closed.fset ho ⟨hf,h.1⟩,?_⟩
 rw [fset_eq,fset_ne h2,hS];exact hq
theorem UJ.goS (h:UJ A B S md ops W R1 R2 R3 f w) (ho:ops[S]? =some o) (hf:Up md S o f) (hq:R3 w'):UJ A B S md ops W R1 R2 R3 (fset f S) w' :=by
 refine ⟨RegF.Closed.fset ho ⟨hf,h.1⟩,?_⟩
 rw [fset_eq];exact hq
end
theorem region_U {P:Program} {id:Nat} {Q:Exit→Act→World→Prop} {a:Act} {w:World} {l:List Oper} (A B S:Nat) (W:World) (R1 R2 R3:World→Prop) (hW:w.drew=W) (hm:P.follows .mixedOrders=true) (hB:Region.lexB .any l.toArray=true)
  (h:wpJ P .any l.toArray (UJ A B S .any l.toArray W R1 R2 R3) a.tmps.size (fun s a' => ∀w',UJ A B S .any l.toArray W R1 R2 R3 (flags s) w' →Q .normal a' w') 0 l (Array.replicate l.length false) a):(Code.region id l.toArray true).wp P Q a w:=
 region_J (UJ A B S .any l.toArray W R1 R2 R3) hm hB ⟨fun k o ho h=> (by cases h),hW⟩ h
open RegF in
def LJ (W:World) (A S d:Nat) (zs cs:Array Value) (T:TypeId) (f:Nat→Bool) (a:Act) (w:World):Prop:=
 Below W.heap.size W w∧(f A=true→∃b,slot a d= .pointer (some ⟨b,0,none⟩)∧W.heap.size≤b∧Blk w b (if f S then cs else zs) T)
section
open RegF
variable {W w w' :World} {A S d:Nat} {zs cs:Array Value} {T:TypeId} {f f' :Nat→Bool} {a a' :Act}
theorem LJ.start (a:Act) (hw:w=W):LJ W A S d zs cs T (fun _=> false) a w:=by subst hw;exact ⟨Below.refl _ _,fun h=> by cases h⟩
theorem LJ.put (h:LJ W A S d zs cs T f a w) (e1:f' A=f A) (e2:f' S=f S) (s:slot a' d=slot a d):LJ W A S d zs cs T f' a' w:=by
 unfold LJ at*
 rw [e1,e2,s];exact h
theorem LJ.call (h:LJ W A S d zs cs T f a w) (e1:f' A=f A) (e2:f' S=f S) (s:slot a' d=slot a d) (hB:Below w.heap.size w w'):LJ W A S d zs cs T f' a' w' :=by
 refine ⟨h.1.trans (hB.mono h.1.size),fun hA=> ?_⟩
 rw [e1] at hA
 obtain ⟨b,h1,h2,h3⟩:=h.2 hA
 rw [e2,s]
 exact ⟨b,h1,h2,Blk.below hB h3 h3.lt⟩
theorem LJ.alloc (h:LJ W A S d zs cs T f a w) (e1:f' A=true) (e2:f' S=false) (s:slot a' d= .pointer (some ⟨w.heap.size,0,none⟩)):LJ W A S d zs cs T f' a' (w.alloc (.cells zs T)):=by
 refine ⟨h.1.trans (((Below.refl _ _).alloc (Nat.le_refl _) _).mono h.1.size),fun _=> ⟨w.heap.size,s,h.1.size,?_⟩⟩
 rw [e2]
 exact Blk.new w zs T
theorem LJ.at' (h:LJ W A S d zs cs T f a w) (hA:f A=true) {b:Nat} (hs:slot a d= .pointer (some ⟨b,0,none⟩)):W.heap.size≤b∧Blk w b (if f S then cs else zs) T:=by
 obtain ⟨b',h1,h2,h3⟩:=h.2 hA
 rw [hs] at h1
 cases h1
 exact ⟨h2,h3⟩
theorem LJ.store (h:LJ W A S d zs cs T f a w) (e1:f' A=f A) (e2:f' S=true) (s:slot a' d=slot a d) {b:Nat} (hA:f A=true) (hb:slot a d= .pointer (some ⟨b,0,none⟩)) (hB:Blk w' b cs T) (hu:Upd (fun k=> k=b) w w'):LJ W A S d zs cs T f' a' w' :=by
 obtain ⟨h2,h3⟩:=h.at' hA hb
 refine ⟨h.1.trans ((hu.below (B:=W.heap.size) h.1.size (fun k hk=> by omega))),fun _=> ⟨b,by rw [s];exact hb,h2,?_⟩⟩
 rw [e2]
 exact hB
end
end Go.Proofs.YtjpjafajploiaaaGreatDoor
namespace Go.Proofs.YtjpjafajploiaaaGreatDoor
open Go.RowKit Own RegJ
def VJ (C A B S:Nat) (md:Region.Mode) (ops:Array Oper) (W WC:World) (R1 R2 R3:World→Prop) (f:Nat→Bool) (w:World):Prop:=
 RegF.Closed md ops f∧if f S then R3 w else if f B then R2 w else if f A then R1 w else if f C then w=WC else w=W
section
variable {C A B S k:Nat} {md:Region.Mode} {ops:Array Oper} {W WC w w' :World} {R1 R2 R3:World→Prop} {f:Nat→Bool} {o:Oper}
theorem VJ.other (h:VJ C A B S md ops W WC R1 R2 R3 f w) (ho:ops[k]? =some o) (hf:Up md k o f) (h0:k≠C) (h1:k≠A) (h2:k≠B) (h3:k≠S):VJ C A B S md ops W WC R1 R2 R3 (fset f k) w:=by
 refine ⟨RegF.Closed.fset ho ⟨hf,h.1⟩,?_⟩
 rw [fset_ne h0,fset_ne h1,fset_ne h2,fset_ne h3];exact h.2
theorem VJ.atC (h:VJ C A B S md ops W WC R1 R2 R3 f w) (hC:f C=false) (hA:f A=false) (hB:f B=false) (hS:f S=false):w=W:=by have:=h.2;rw [hC,hA,hB,hS] at this;exact this
theorem VJ.atA (h:VJ C A B S md ops W WC R1 R2 R3 f w) (hC:f C=true) (hA:f A=false) (hB:f B=false) (hS:f S=false):w=WC:=by have:=h.2;rw [hC,hA,hB,hS] at this;exact this
theorem VJ.pre (h:VJ C A B S md ops W WC R1 R2 R3 f w) (hA:f A=false) (hB:f B=false) (hS:f S=false):w=W∨w=WC:=by
 have:=h.2
 rw [hA,hB,hS] at this
 cases hC:f C with
 | true=> rw [hC] at this;exact .inr this
 | false=> rw [hC] at this;exact .inl this
theorem VJ.atB (h:VJ C A B S md ops W WC R1 R2 R3 f w) (hA:f A=true) (hB:f B=false) (hS:f S=false):R1 w:=by have:=h.2;rw [hA,hB,hS] at this;exact this
theorem VJ.atS (h:VJ C A B S md ops W WC R1 R2 R3 f w) (hB:f B=true) (hS:f S=false):R2 w:=by have:=h.2;rw [hB,hS] at this;exact this
theorem VJ.fin (h:VJ C A B S md ops W WC R1 R2 R3 f w) (hS:f S=true):R3 w:=by have:=h.2;rw [hS] at this;exact this
theorem VJ.goC (h:VJ C A B S md ops W WC R1 R2 R3 f w) (ho:ops[C]? =some o) (hf:Up md C o f) (hA:f A=false) (hB:f B=false) (hS:f S=false) (h0:C≠A) (h1:C≠B) (h2:C≠S):VJ C A B S md ops W WC R1 R2 R3 (fset f C) WC:=by
 refine ⟨RegF.Closed.fset ho ⟨hf,h.1⟩,?_⟩
 rw [fset_eq,fset_ne h0,fset_ne h1,fset_ne h2,hA,hB,hS];rfl
theorem VJ.goA (h:VJ C A B S md ops W WC R1 R2 R3 f w) (ho:ops[A]? =some o) (hf:Up md A o f) (hB:f B=false) (hS:f S=false) (h1:A≠B) (h2:A≠S) (hq:R1 w'):VJ C A B S md ops W WC R1 R2 R3 (fset f A) w' :=by
 refine ⟨RegF.Closed.fset ho ⟨hf,h.1⟩,?_⟩
 rw [fset_eq,fset_ne h1,fset_ne h2,hB,hS];exact hq
theorem VJ.goB (h:VJ C A B S md ops W WC R1 R2 R3 f w) (ho:ops[B]? =some o) (hf:Up md B o f) (hS:f S=false) (h2:B≠S) (hq:R2 w'):VJ C A B S md ops W WC R1 R2 R3 (fset f B) w' :=by
 refine ⟨RegF.Closed.fset ho ⟨hf,h.1⟩,?_⟩
 rw [fset_eq,fset_ne h2,hS];exact hq
theorem VJ.goS (h:VJ C A B S md ops W WC R1 R2 R3 f w) (ho:ops[S]? =some o) (hf:Up md S o f) (hq:R3 w'):VJ C A B S md ops W WC R1 R2 R3 (fset f S) w' :=by
 refine ⟨RegF.Closed.fset ho ⟨hf,h.1⟩,?_⟩
 rw [fset_eq];exact hq
end
theorem region_V {P:Program} {id:Nat} {Q:Exit→Act→World→Prop} {a:Act} {w:World} {l:List Oper} (C A B S:Nat) (W WC:World) (R1 R2 R3:World→Prop) (hW:w.drew=W) (hm:P.follows .mixedOrders=true) (hB:Region.lexB .any l.toArray=true)
  (h:wpJ P .any l.toArray (VJ C A B S .any l.toArray W WC R1 R2 R3) a.tmps.size (fun s a' => ∀w',VJ C A B S .any l.toArray W WC R1 R2 R3 (flags s) w' →Q .normal a' w') 0 l (Array.replicate l.length false) a):(Code.region id l.toArray true).wp P Q a w:=
 region_J (VJ C A B S .any l.toArray W WC R1 R2 R3) hm hB ⟨fun k o ho h=> (by cases h),hW⟩ h
end Go.Proofs.YtjpjafajploiaaaGreatDoor
