/-
  Do: Read.
-/
import Derived.Test.YtjpjafajploiaaaGreatDoorUnixAlone44
import Derived.Test.YtjpjafajploiaaaGreatDoorUnixAlone38
import Derived.Laws.IdiomStrings
set_option linter.unusedSimpArgs false
set_option linter.unusedVariables false
namespace Go.Proofs.YtjpjafajploiaaaGreatDoor
open Go.RowKit Own RegJ Two
open Go.Lib hiding intOf
section
variable {cap:Nat} {w0 w w1 w2 w' W9 w8:World} {O O' O1:Nat→Prop} {fdb vb tb fb sb pb mb c c' :Nat} {z z' :Z} {syb qb qm n s rb:Nat} {m m' :PrM} {cs zs:Array Value}
set_option maxRecDepth 100000 in
set_option maxHeartbeats 4000000 in
theorem zuread_is(h:UZ cap w0 O fdb vb tb fb sb pb mb c z syb qb qm m w)(pid:Int)(hw:(Lit.int .i64 pid).wf=true)(a bq:Int)(hbq:bq≤9223372036854775807)(s t:ByteArray)(ys:List Int)(er:Int)(hr:readZ z pid a bq=(ys,er,z'))(l:Txt)(hyl:ys=l.map fun c=> (c.toNat:Int))(q:Nat)(hq:ys.length=q)(h0:er=0):
  Calls Tryz.prog 44 #[.pointer(some⟨syb,0,none⟩),.int .i64 pid,.agg #[.int .i64 3,.int .i64 a,.int .i64 bq,.string s,.string t]]w fun e w' => e= .returned(.agg #[.int .i64 0,.int .i64 q,.string(B l)])∧Upd O w w' ∧∃O',UZ cap w0 O' fdb vb tb fb sb pb mb(c+8)z' syb qb qm m w' ∧∀k,O' k→O k∨w.heap.size≤k:=by
 subst h0
 obtain⟨hal,h2,hcb,hb⟩:=h.call #[.int .i64 3,.int .i64 a,.int .i64 bq,.string s,.string t] #[.int .i64 0,.int .i64 0,.string⟨#[]⟩]35 32
 obtain⟨W9,hW9⟩:∃W9,((w.alloc(.cells #[.int .i64 3,.int .i64 a,.int .i64 bq,.string s,.string t]35)).alloc(.cells #[.int .i64 0,.int .i64 0,.string⟨#[]⟩]32))=W9:=⟨_,rfl⟩
 have hrd:=fun(W:World)(hB:Below w.heap.size w W)=> zz_read(h.below hB).ez h.mc pid hw a bq hbq ys 0 hr
 have hrO:¬O(w.heap.size+1):=fun hk=> by have:=h.news.2.1 _ hk;omega
 have hlq:l.length=q:=by rw [←hq,hyl,List.length_map]
 have HS:=Lib.hid(And.intro hrd(And.intro h2.sy(And.intro hcb(And.intro hb(And.intro hal(And.intro hq(And.intro hyl(And.intro hlq(And.intro h hrO)))))))))
 have c2:=h2.sy.rd 2
 have c4:=hcb.rd
 clear h h2 hal hb hcb hw hr hyl hq hlq hW9 hrd hrO
 go_enter Tryz.func44,Tryz.ntmps44
 go_upto_region 1 with(fail)
 go_region_with(go_at_call 83;refine(HS.out.1 _(HS.out.2.2.2.2.1.trans((dn _ _).mono HS.out.2.2.2.2.1.size))).mono ?_;rintro e w1⟨ra,cp,gb,O1,rfl,hRow,hgb,hU1,hX1,hO1⟩;rw [HS.out.2.2.2.2.2.1]at hRow ⊢;have hk1:=Blk.upd hU1(Blk.below(dn _ _)HS.out.2.2.2.1 HS.out.2.2.2.1.lt)HS.out.2.2.2.2.2.2.2.2.2;have hz1:=(HS.out.2.2.2.2.2.2.2.2.1.below(HS.out.2.2.2.2.1.trans((dn _ _).mono HS.out.2.2.2.2.1.size))).step hU1 hX1 hO1(by omega);have hu1:=(Upd.of_below(F:=O)(HS.out.2.2.2.2.1.trans((dn _ _).mono HS.out.2.2.2.2.1.size))).trans hU1(fun _ _ h=> h);have ho1:∀k,O1 k→O k∨w.heap.size≤k:=(fun k hk=> (hO1 k hk).imp id(fun h=> Nat.le_trans(HS.out.2.2.2.2.1.trans((dn _ _).mono HS.out.2.2.2.2.1.size)).size h));have hnr:¬O1(w.heap.size+1):=(fun hk=> (hO1 _ hk).elim HS.out.2.2.2.2.2.2.2.2.2(fun h=> absurd(Blk.below(dn _ _)HS.out.2.2.2.1 HS.out.2.2.2.1.lt).lt(Nat.not_lt.2 h)));have H1:=Lib.hid(And.intro hRow(And.intro hk1(And.intro hz1(And.intro hu1(And.intro ho1 hnr)))));clear hRow hgb hU1 hX1 hO1 hk1 hz1 hu1 ho1 hnr)
 all_goals
  go_wp2_with(first
   | (go_at_call 41;refine(plain_is _ 0 0(q:Nat)rfl w1).mono ?_;rintro e w3⟨rfl,hBp⟩;have hcv:(convert 22 9(.slice ra q cp)).run Tryz.prog(w3.alloc(.cells #[.int .i64 0,.int .i64(q:Nat),.string⟨#[]⟩]32))= .ok(.string(B l))(w3.alloc(.cells #[.int .i64 0,.int .i64(q:Nat),.string⟨#[]⟩]32)):=(by have hR:=(H1.out.1.below hBp).below((Below.refl w3.heap.size w3).alloc(Nat.le_refl _)(.cells #[.int .i64 0,.int .i64(q:Nat),.string⟨#[]⟩]32));rw [HS.out.2.2.2.2.2.2.1]at hR;rw [←HS.out.2.2.2.2.2.2.2.1]at hR ⊢;exact row_str hR);have H3:=Lib.hid(And.intro hBp(Blk.below hBp H1.out.2.1 H1.out.2.1.lt));clear hBp)
   | (refine wpList_store_row rfl 32(.tmp 6)(.tmp 32)rfl(w.heap.size+1) #[.int .i64 0,.int .i64 q,.string(B l)]rfl rfl 32 #[.int .i64 0,.int .i64 0,.string⟨#[]⟩](Blk.alloc H3.out.2 _)info_res rfl(by simp [Value.oneCell']) ?_))
  exact bodyPost_ret(v:= .agg #[.int .i64 0,.int .i64 q,.string(B l)])(results_cellU(fn:=Tryz.f44)Tryz.results44 _ _(w.heap.size+1)32 #[.int .i64 0,.int .i64 q,.string(B l)]_ rfl(blk_row(Blk.alloc H3.out.2 _)_)Tryz.underlying32 rfl info_res)rfl⟨rfl,((H1.out.2.2.2.1.trans(Upd.of_below(F:=O)H3.out.1)(fun _ _ h=> h)).alloc _).trans(upd_row _ _ _)(fun k hk e=> by omega),O1,(((H1.out.2.2.1.below H3.out.1).below((Below.refl _ _).alloc(Nat.le_refl _)_)).beside(upd_row _ _ _)(fun k e=> by subst e;obtain⟨k0,k1,k2,k3,k4,k5⟩:=HS.out.2.2.2.2.2.2.2.2.1.news;exact⟨by omega,H1.out.2.2.2.2.2,by omega,by omega,by omega,by omega⟩)),H1.out.2.2.2.2.1⟩
set_option maxRecDepth 100000 in
set_option maxHeartbeats 4000000 in
theorem zuread_err(h:UZ cap w0 O fdb vb tb fb sb pb mb c z syb qb qm m w)(pid:Int)(hw:(Lit.int .i64 pid).wf=true)(a bq:Int)(hbq:bq≤9223372036854775807)(s t:ByteArray)(ys:List Int)(er:Int)(hr:readZ z pid a bq=(ys,er,z'))(q:Nat)(hq:ys.length=q)(h0:er≠0):
  Calls Tryz.prog 44 #[.pointer(some⟨syb,0,none⟩),.int .i64 pid,.agg #[.int .i64 3,.int .i64 a,.int .i64 bq,.string s,.string t]]w fun e w' => e= .returned(.agg #[.int .i64 er,.int .i64 0,.string⟨#[]⟩])∧Upd O w w' ∧∃O',UZ cap w0 O' fdb vb tb fb sb pb mb(c+8)z' syb qb qm m w' ∧∀k,O' k→O k∨w.heap.size≤k:=by
 obtain⟨hal,h2,hcb,hb⟩:=h.call #[.int .i64 3,.int .i64 a,.int .i64 bq,.string s,.string t] #[.int .i64 0,.int .i64 0,.string⟨#[]⟩]35 32
 have hrd:=fun(W:World)(hB:Below w.heap.size w W)=> zz_read(h.below hB).ez h.mc pid hw a bq hbq ys er hr
 have hrO:¬O(w.heap.size+1):=fun hk=> by have:=h.news.2.1 _ hk;omega
 have hpe:(if er=0 then((0:Int),(q:Int))else(er,0))=(er,0):=if_neg h0
 have dr1:(er==0)=false:=by simpa using h0
 have HS:=Lib.hid(And.intro hrd(And.intro h2.sy(And.intro hcb(And.intro hb(And.intro hal(And.intro hq(And.intro True.intro(And.intro True.intro(And.intro h hrO)))))))))
 have c2:=h2.sy.rd 2
 have c4:=hcb.rd
 clear h h2 hal hb hcb hw hr hq hrd hrO h0
 go_enter Tryz.func44,Tryz.ntmps44
 go_upto_region 1 with(fail)
 go_region_with(go_at_call 83;refine(HS.out.1 _(HS.out.2.2.2.2.1.trans((dn _ _).mono HS.out.2.2.2.2.1.size))).mono ?_;rintro e w1⟨ra,cp,gb,O1,rfl,hRow,hgb,hU1,hX1,hO1⟩;rw [HS.out.2.2.2.2.2.1]at hRow ⊢;have hk1:=Blk.upd hU1(Blk.below(dn _ _)HS.out.2.2.2.1 HS.out.2.2.2.1.lt)HS.out.2.2.2.2.2.2.2.2.2;have hz1:=(HS.out.2.2.2.2.2.2.2.2.1.below(HS.out.2.2.2.2.1.trans((dn _ _).mono HS.out.2.2.2.2.1.size))).step hU1 hX1 hO1(by omega);have hu1:=(Upd.of_below(F:=O)(HS.out.2.2.2.2.1.trans((dn _ _).mono HS.out.2.2.2.2.1.size))).trans hU1(fun _ _ h=> h);have ho1:∀k,O1 k→O k∨w.heap.size≤k:=(fun k hk=> (hO1 k hk).imp id(fun h=> Nat.le_trans(HS.out.2.2.2.2.1.trans((dn _ _).mono HS.out.2.2.2.2.1.size)).size h));have hnr:¬O1(w.heap.size+1):=(fun hk=> (hO1 _ hk).elim HS.out.2.2.2.2.2.2.2.2.2(fun h=> absurd(Blk.below(dn _ _)HS.out.2.2.2.1 HS.out.2.2.2.1.lt).lt(Nat.not_lt.2 h)));have H1:=Lib.hid(And.intro hRow(And.intro hk1(And.intro hz1(And.intro hu1(And.intro ho1 hnr)))));clear hRow hgb hU1 hX1 hO1 hk1 hz1 hu1 ho1 hnr)
 all_goals
  go_wp2_with(first
   | (go_at_call 41;refine(plain_is(q:Int)er er 0 hpe w1).mono ?_;rintro e w3⟨rfl,hBp⟩;have H3:=Lib.hid(And.intro hBp(Blk.below hBp H1.out.2.1 H1.out.2.1.lt));clear hBp)
   | (refine wpList_store_row rfl 32(.tmp 6)(.tmp 32)rfl(w.heap.size+1) #[.int .i64 er,.int .i64 0,.string⟨#[]⟩]rfl rfl 32 #[.int .i64 0,.int .i64 0,.string⟨#[]⟩](Blk.alloc H3.out.2 _)info_res rfl(by simp [Value.oneCell']) ?_))
  exact bodyPost_ret(v:= .agg #[.int .i64 er,.int .i64 0,.string⟨#[]⟩])(results_cellU(fn:=Tryz.f44)Tryz.results44 _ _(w.heap.size+1)32 #[.int .i64 er,.int .i64 0,.string⟨#[]⟩]_ rfl(blk_row(Blk.alloc H3.out.2 _)_)Tryz.underlying32 rfl info_res)rfl⟨rfl,((H1.out.2.2.2.1.trans(Upd.of_below(F:=O)H3.out.1)(fun _ _ h=> h)).alloc _).trans(upd_row _ _ _)(fun k hk e=> by omega),O1,(((H1.out.2.2.1.below H3.out.1).below((Below.refl _ _).alloc(Nat.le_refl _)_)).beside(upd_row _ _ _)(fun k e=> by subst e;obtain⟨k0,k1,k2,k3,k4,k5⟩:=HS.out.2.2.2.2.2.2.2.2.1.news;exact⟨by omega,H1.out.2.2.2.2.2,by omega,by omega,by omega,by omega⟩)),H1.out.2.2.2.2.1⟩
set_option maxRecDepth 100000 in
set_option maxHeartbeats 4000000 in
theorem zudo_read(h:UZ cap w0 O fdb vb tb fb sb pb mb c z syb qb qm m w)(pid:Int)(hw:(Lit.int .i64 pid).wf=true)(hd:aliveF m pid=true)(a bq:Int)(hbq:bq≤9223372036854775807)(s t:ByteArray)(hm:mayB 3 a bq s t=true)(ys:List Int)(er:Int)(hr:readZ z pid a bq=(ys,er,z'))(l:Txt)(hyl:ys=l.map fun c=> (c.toNat:Int))(e1 e2:Int)(d:ByteArray)(he:(if er=0 then((0:Int),(ys.length:Int),B l)else(er,0,⟨#[]⟩))=(e1,e2,d)):
  Calls Tryz.prog 12 #[.pointer(some⟨syb,0,none⟩),.int .i64 pid,.agg #[.int .i64 3,.int .i64 a,.int .i64 bq,.string s,.string t]]w(UZP cap w0 O fdb vb tb fb sb pb mb(c+10)z' syb qb qm m w(.agg #[.int .i64 e1,.int .i64 e2,.string d])):=by
 obtain⟨hal,h2,hcb,hb⟩:=h.call #[.int .i64 3,.int .i64 a,.int .i64 bq,.string s,.string t] #[.int .i64 0,.int .i64 0,.string⟨#[]⟩]35 32
 have c3:=h2.sy.rd 3
 have ha:=alive_is h2.pr.b pid hw true hd
 have hma:=fun w1=> may_any 3 a bq s t w1
 simp only [hm]at hma
 clear hm
 have hch:∀w1,Below w.heap.size w w1→Calls Tryz.prog 44 #[.pointer(some⟨syb,0,none⟩),.int .i64 pid,.agg #[.int .i64 3,.int .i64 a,.int .i64 bq,.string s,.string t]]w1 fun e w' => e= .returned(.agg #[.int .i64 e1,.int .i64 e2,.string d])∧Upd O w1 w' ∧∃O',UZ cap w0 O' fdb vb tb fb sb pb mb(c+8)z' syb qb qm m w' ∧∀k,O' k→O k∨w1.heap.size≤k:=by
  intro w1 hB
  by_cases h0:er=0
  ·rw [if_pos h0]at he;cases he
   exact zuread_is(h.below hB)pid hw a bq hbq s t ys er hr l hyl _ rfl h0
  ·rw [if_neg h0]at he;cases he
   exact zuread_err(h.below hB)pid hw a bq hbq s t ys er hr _ rfl h0
 have H:=Lib.hid(And.intro hal(And.intro hcb(And.intro hb(And.intro h hch))))
 clear h h2 hal hb hcb hw hd hch hr hyl he
 go_enter Tryz.func12,Tryz.ntmps12
 go_wp2_with(first
  | (go_at_call 22;refine ha.mono ?_;rintro e w1⟨rfl,hB⟩;have q1:=(Blk.below hB H.out.2.1 H.out.2.1.lt).rd;have H1:=Lib.hid(And.intro(H.out.1.trans(hB.mono H.out.1.size))(And.intro(Blk.below hB H.out.2.1 H.out.2.1.lt)(Blk.below hB H.out.2.2.1 H.out.2.2.1.lt)));clear hB ha)
  | (go_at_call 40;refine(hma _).mono ?_;rintro e w2⟨rfl,hB⟩;have q2:=(Blk.below hB H1.out.2.1 H1.out.2.1.lt).rd;have c9:=(H.out.2.2.2.1.below(H1.out.1.trans(hB.mono H1.out.1.size))).sy.rd;have H2:=Lib.hid(And.intro(H1.out.1.trans(hB.mono H1.out.1.size))(And.intro(Blk.below hB H1.out.2.1 H1.out.2.1.lt)(Blk.below hB H1.out.2.2 H1.out.2.2.lt)));clear hB hma q1)
  | (go_at_call 44;refine(H.out.2.2.2.2 w2 H2.out.1).mono ?_;rintro e w3⟨rfl,hU,O3,hX,hO⟩;have H3:=Lib.hid(And.intro hU(And.intro hX(And.intro hO(Blk.upd hU H2.out.2.2(fun hk=> by have:=H.out.2.2.2.1.news.2.1 _ hk;omega)))));clear hU hX hO)
  | (refine wpList_store_row rfl 32(.tmp 6)(.tmp 58)rfl(w.heap.size+1) #[.int .i64 e1,.int .i64 e2,.string d]rfl rfl 32 #[.int .i64 0,.int .i64 0,.string⟨#[]⟩]H3.out.2.2.2 info_res rfl(by simp [Value.oneCell']) ?_))
 obtain⟨k0,k1,k2,k3,k4,k5⟩:=H.out.2.2.2.1.news
 have hz2:=H2.out.1.size
 have hrl:=H2.out.2.2.lt
 have hX4:=(H3.out.2.1.beside(upd_row w3(w.heap.size+1) #[.int .i64 e1,.int .i64 e2,.string d])(fun k e=> by subst e;exact⟨by omega,fun hk=> by rcases H3.out.2.2.1 _ hk with h | h;(have:=k1 _ h;omega);omega,by omega,by omega,by omega,by omega⟩)).up(show c+8≤c+10 by omega)
 exact bodyPost_ret(v:= .agg #[.int .i64 e1,.int .i64 e2,.string d])(results_cellU(fn:=Tryz.f12)Tryz.results12 _ _(w.heap.size+1)32 #[.int .i64 e1,.int .i64 e2,.string d]_ rfl(blk_row H3.out.2.2.2 _)Tryz.underlying32 rfl info_res)rfl⟨rfl,(((Upd.of_below(F:=fun k=> O k∨k=qm)H2.out.1).trans H3.out.1(fun k _ e=> .inl e)).trans(upd_row _ _ _)(fun k hk e=> by omega)),O3,hX4,fun k hk=> (H3.out.2.2.1 k hk).imp id(fun h=> by omega)⟩
end
end Go.Proofs.YtjpjafajploiaaaGreatDoor
namespace Go.Proofs.YtjpjafajploiaaaGreatDoor
open Go.RowKit Own RegJ
def VJ(C A B S:Nat)(md:Region.Mode)(ops:Array Oper)(W WC:World)(R1 R2 R3:World→Prop)(f:Nat→Bool)(w:World):Prop:=
 RegF.Closed md ops f∧if f S then R3 w else if f B then R2 w else if f A then R1 w else if f C then w=WC else w=W
section
variable {C A B S k:Nat} {md:Region.Mode} {ops:Array Oper} {W WC w w' :World} {R1 R2 R3:World→Prop} {f:Nat→Bool} {o:Oper}
theorem VJ.other(h:VJ C A B S md ops W WC R1 R2 R3 f w)(ho:ops[k]? =some o)(hf:Up md k o f)(h0:k≠C)(h1:k≠A)(h2:k≠B)(h3:k≠S):VJ C A B S md ops W WC R1 R2 R3(fset f k)w:=by
 refine⟨RegF.Closed.fset ho⟨hf,h.1⟩,?_⟩
 rw [fset_ne h0,fset_ne h1,fset_ne h2,fset_ne h3];exact h.2
theorem VJ.atC(h:VJ C A B S md ops W WC R1 R2 R3 f w)(hC:f C=false)(hA:f A=false)(hB:f B=false)(hS:f S=false):w=W:=by have:=h.2;rw [hC,hA,hB,hS]at this;exact this
theorem VJ.atA(h:VJ C A B S md ops W WC R1 R2 R3 f w)(hC:f C=true)(hA:f A=false)(hB:f B=false)(hS:f S=false):w=WC:=by have:=h.2;rw [hC,hA,hB,hS]at this;exact this
theorem VJ.pre(h:VJ C A B S md ops W WC R1 R2 R3 f w)(hA:f A=false)(hB:f B=false)(hS:f S=false):w=W∨w=WC:=by
 have:=h.2
 rw [hA,hB,hS]at this
 cases hC:f C with
 | true=> rw [hC]at this;exact .inr this
 | false=> rw [hC]at this;exact .inl this
theorem VJ.atB(h:VJ C A B S md ops W WC R1 R2 R3 f w)(hA:f A=true)(hB:f B=false)(hS:f S=false):R1 w:=by have:=h.2;rw [hA,hB,hS]at this;exact this
theorem VJ.atS(h:VJ C A B S md ops W WC R1 R2 R3 f w)(hB:f B=true)(hS:f S=false):R2 w:=by have:=h.2;rw [hB,hS]at this;exact this
theorem VJ.fin(h:VJ C A B S md ops W WC R1 R2 R3 f w)(hS:f S=true):R3 w:=by have:=h.2;rw [hS]at this;exact this
theorem VJ.goC(h:VJ C A B S md ops W WC R1 R2 R3 f w)(ho:ops[C]? =some o)(hf:Up md C o f)(hA:f A=false)(hB:f B=false)(hS:f S=false)(h0:C≠A)(h1:C≠B)(h2:C≠S):VJ C A B S md ops W WC R1 R2 R3(fset f C)WC:=by
 refine⟨RegF.Closed.fset ho⟨hf,h.1⟩,?_⟩
 rw [fset_eq,fset_ne h0,fset_ne h1,fset_ne h2,hA,hB,hS];rfl
theorem VJ.goA(h:VJ C A B S md ops W WC R1 R2 R3 f w)(ho:ops[A]? =some o)(hf:Up md A o f)(hB:f B=false)(hS:f S=false)(h1:A≠B)(h2:A≠S)(hq:R1 w'):VJ C A B S md ops W WC R1 R2 R3(fset f A)w' :=by
 refine⟨RegF.Closed.fset ho⟨hf,h.1⟩,?_⟩
 rw [fset_eq,fset_ne h1,fset_ne h2,hB,hS];exact hq
theorem VJ.goB(h:VJ C A B S md ops W WC R1 R2 R3 f w)(ho:ops[B]? =some o)(hf:Up md B o f)(hS:f S=false)(h2:B≠S)(hq:R2 w'):VJ C A B S md ops W WC R1 R2 R3(fset f B)w' :=by
 refine⟨RegF.Closed.fset ho⟨hf,h.1⟩,?_⟩
 rw [fset_eq,fset_ne h2,hS];exact hq
theorem VJ.goS(h:VJ C A B S md ops W WC R1 R2 R3 f w)(ho:ops[S]? =some o)(hf:Up md S o f)(hq:R3 w'):VJ C A B S md ops W WC R1 R2 R3(fset f S)w' :=by
 refine⟨RegF.Closed.fset ho⟨hf,h.1⟩,?_⟩
 rw [fset_eq];exact hq
end
theorem region_V {P:Program} {id:Nat} {Q:Exit→Act→World→Prop} {a:Act} {w:World} {l:List Oper}(C A B S:Nat)(W WC:World)(R1 R2 R3:World→Prop)(hW:w.drew=W)(hm:P.follows .mixedOrders=true)(hB:Region.lexB .any l.toArray=true)
  (h:wpJ P .any l.toArray(VJ C A B S .any l.toArray W WC R1 R2 R3)a.tmps.size(fun s a' => ∀w',VJ C A B S .any l.toArray W WC R1 R2 R3(flags s)w' →Q .normal a' w')0 l(Array.replicate l.length false)a):(Code.region id l.toArray true).wp P Q a w:=
 region_J(VJ C A B S .any l.toArray W WC R1 R2 R3)hm hB⟨fun k o ho h=> (by cases h),hW⟩h
end Go.Proofs.YtjpjafajploiaaaGreatDoor
namespace Go.Proofs.YtjpjafajploiaaaGreatDoor
open Go.RowKit Own RegJ Two
open Go.Lib hiding intOf
section
variable {cap:Nat} {w0 w w1 w2 w' W9 w8:World} {O O' O1:Nat→Prop} {fdb vb tb fb sb pb mb c c' :Nat} {z z' :Z} {syb qb qm n s rb:Nat} {m m' :PrM} {cs zs:Array Value}
theorem conv_src(w:World)(s:ByteArray)(hO:¬O w.heap.size):∃gc WC,(convert 9 22(.string s)).run Tryz.prog w= .ok(.slice(some⟨w.heap.size,0,none⟩)s.size gc)WC∧Below w.heap.size w WC∧SrcF O WC(.slice(some⟨w.heap.size,0,none⟩)s.size gc)(s.data.toList.map fun c=> (c.toNat:Int)):=by
 refine⟨_,_,run_bytes_of_string w 9 22 5 s Tryz.underlying9 Tryz.underlying22 Tryz.underlying5,?_,?_⟩
 ·exact(dn w 1).trans(((Below.refl w.drew.heap.size w.drew).alloc(Nat.le_refl _)_).mono(Nat.le_refl _))
 ·have hlen:(s.data.toList.map fun c=> (c.toNat:Int)).length=s.size:=by rw [List.length_map,Array.length_toList];rfl
  refine⟨some⟨w.heap.size,0,none⟩,_,by rw [hlen],by rw [hlen];exact grownCap_ge w s.size 0 5,fun hp=> ⟨w.heap.size,0,rfl,fun j u hj=> ⟨_,rfl,?_⟩,hO,by show w.heap.size < (w.heap.push _).size;simp⟩⟩
  rw [add_off]
  have h:(w.drew.alloc(.cells(bytesRow s(grownCap w s.size 0 5))5((bytesRow s(grownCap w s.size 0 5)).size,(bytesRow s(grownCap w s.size 0 5)).size+1))).heap[w.heap.size]? =some(.cells(bytesRow s(grownCap w s.size 0 5))5((bytesRow s(grownCap w s.size 0 5)).size,(bytesRow s(grownCap w s.size 0 5)).size+1)):=by show(w.heap.push _)[w.heap.size]? =_;simp
  unfold World.cell?
  rw [h]
  have hj2:=hj
  unfold ucells at hj2
  rw [List.map_map,List.getElem?_map]at hj2
  have hjl:j < s.data.size:=by
   rcases Nat.lt_or_ge j s.data.size with h | h
   ·exact h
   ·rw [List.getElem?_eq_none(by simpa using h)]at hj2;cases hj2
  simp only [bytesRow]
  rw [if_neg(by simp)]
  rw [Array.getElem?_append_left(by simpa using hjl),Array.getElem?_map]
  rw [Array.getElem?_toList]at hj2
  exact hj2
set_option maxRecDepth 100000 in
set_option maxHeartbeats 4000000 in
theorem zudo_write(h:UZ cap w0 O fdb vb tb fb sb pb mb c z syb qb qm m w)(hc:c≤8900)(pid:Int)(hw:(Lit.int .i64 pid).wf=true)(hd:aliveF m pid=true)(a bq:Int)(s t:ByteArray)(hs6:s.size≤100000)(hm:mayB 4 a bq s t=true)(v1 v2:Int)(hz:writeZ cap z pid a(s.data.toList.map fun c=> (c.toNat:Int))=(v1,v2,z'))(r1 r2:Int)(hr:plR v1 v2=(r1,r2)):
  Calls Tryz.prog 12 #[.pointer(some⟨syb,0,none⟩),.int .i64 pid,.agg #[.int .i64 4,.int .i64 a,.int .i64 bq,.string s,.string t]]w(UZP cap w0 O fdb vb tb fb sb pb mb(c+10)z' syb qb qm m w(resV r1 r2⟨#[]⟩)):=by
 obtain⟨hal,h2,hcb,hb⟩:=h.call #[.int .i64 4,.int .i64 a,.int .i64 bq,.string s,.string t] #[.int .i64 0,.int .i64 0,.string⟨#[]⟩]35 32
 have c3:=h2.sy.rd 3
 have ha:=alive_is h2.pr.b pid hw true hd
 have hma:=fun w1=> may_any 4 a bq s t w1
 simp only [hm]at hma
 clear hm
 have hlen:(s.data.toList.map fun c=> (c.toNat:Int)).length=s.size:=by rw [List.length_map,Array.length_toList];rfl
 have hcall:=fun(W9:World)(hX9:UZ cap w0 O fdb vb tb fb sb pb mb c z syb qb qm m W9)gc ad(hv:SrcF O W9(.slice ad s.size gc)(s.data.toList.map fun c=> (c.toNat:Int)))=> zz_write hX9.ez hX9.mc pid hw a(s.data.toList.map fun c=> (c.toNat:Int))s.size gc ad hlen hs6 hv v1 v2 hz
 have H:=Lib.hid(And.intro hal(And.intro hcb(And.intro hb(And.intro h hcall))))
 clear h h2 hal hb hcb hw hd hc hcall hlen hz
 go_enter Tryz.func12,Tryz.ntmps12
 go_upto_region 15 with(first
  | (go_at_call 22;refine ha.mono ?_;rintro e w1⟨rfl,hB⟩;have q1:=(Blk.below hB H.out.2.1 H.out.2.1.lt).rd;have H1:=Lib.hid(And.intro(H.out.1.trans(hB.mono H.out.1.size))(And.intro(Blk.below hB H.out.2.1 H.out.2.1.lt)(Blk.below hB H.out.2.2.1 H.out.2.2.1.lt)));clear hB ha)
  | (go_at_call 40;refine(hma _).mono ?_;rintro e w2⟨rfl,hB⟩;have q2:=(Blk.below hB H1.out.2.1 H1.out.2.1.lt).rd;have c9:=(H.out.2.2.2.1.below(H1.out.1.trans(hB.mono H1.out.1.size))).sy.rd;have H2:=Lib.hid(And.intro(H1.out.1.trans(hB.mono H1.out.1.size))(And.intro(Blk.below hB H1.out.2.1 H1.out.2.1.lt)(Blk.below hB H1.out.2.2 H1.out.2.2.lt)));clear hB hma q1))
 obtain⟨-,-,-,hX,hcall⟩:=H.out
 obtain⟨hB2,hcb2,hrb2⟩:=H2.out
 obtain⟨W9,hW9⟩:∃W9,w2.drew=W9:=⟨_,rfl⟩
 have hd9:=below_dr w2
 rw [hW9]at hd9
 have h9:=hB2.trans(hd9.mono hB2.size)
 obtain⟨k0,k1,k2,k3,k4,k5⟩:=hX.news
 have hz9:=h9.size
 obtain⟨gc,WC,hcv,hBC,hsrc⟩:=conv_src(O:=O)W9 s(fun hk=> by have:=k1 _ hk;omega)
 have h9C:=h9.trans(hBC.mono hz9)
 have hX9:=hX.below h9
 have hXC:=hX.below h9C
 have hrb9:=Blk.below hd9 hrb2 hrb2.lt
 have hrbC:=Blk.below hBC hrb9 hrb9.lt
 have hcb9:=Blk.below hd9 hcb2 hcb2.lt
 have hcbC:=Blk.below hBC hcb9 hcb9.lt
 have hrO:¬O(w.heap.size+1):=fun hk=> by have:=k1 _ hk;omega
 obtain⟨RQ,hRQ⟩:∃RQ,RQ=UQ cap w0 O fdb vb tb fb sb pb mb(c+8)z' syb qb qm m WC(w.heap.size+1) #[.int .i64 0,.int .i64 0,.string⟨#[]⟩]:=⟨_,rfl⟩
 obtain⟨RF,hRF⟩:∃RF,RF=UQ cap w0 O fdb vb tb fb sb pb mb(c+8)z' syb qb qm m WC(w.heap.size+1) #[.int .i64 r1,.int .i64 r2,.string⟨#[]⟩]:=⟨_,rfl⟩
 have hcl:Calls Tryz.prog 45 #[.pointer(some⟨fdb,0,none⟩),.int .i64 pid,.int .i64 a,.slice(some⟨W9.heap.size,0,none⟩)s.size gc]WC fun e w8=> e= .returned(.tuple #[.int .i64 v1,.int .i64 v2])∧RQ w8:=by
  rw [hRQ];exact(hcall WC hXC gc _ hsrc).mono(fun e w8 hq=> UQ.zp hXC hrbC hrO hq(by omega))
 have hpl:∀w1 w8,RQ w1→Below w1.heap.size w1 w8→RQ w8:=by rw [hRQ];exact fun w1 w8 h hB=> h.below hB
 have hrw:∀w1,RQ w1→Blk w1(w.heap.size+1) #[.int .i64 0,.int .i64 0,.string⟨#[]⟩]32:=by rw [hRQ];exact fun w1 h=> h.2
 have hsf:∀w1,RQ w1→RF(w1.setRow(w.heap.size+1) #[.int .i64 r1,.int .i64 r2,.string⟨#[]⟩]):=by rw [hRQ,hRF];exact fun w1 h=> h.store(by omega)hrO hrbC.lt⟨by omega,by omega,by omega,by omega⟩ #[.int .i64 r1,.int .i64 r2,.string⟨#[]⟩]
 have hcell:∀w1,w1=W9∨w1=WC→w1.cell? ⟨syb,2,none⟩=some(.pointer(some⟨fdb,0,none⟩))∧w1.cell? ⟨w.heap.size,1,none⟩=some(.int .i64 a)∧w1.cell? ⟨w.heap.size,3,none⟩=some(.string s):=by
  intro w1 hw1
  rcases hw1 with e | e
  ·rw [e];exact⟨hX9.sy.rd 2,hcb9.rd 1,hcb9.rd 3⟩
  ·rw [e];exact⟨hXC.sy.rd 2,hcbC.rd 1,hcbC.rd 3⟩
 have HR:=Lib.hid(And.intro hcl(And.intro hpl(And.intro hrw(And.intro hsf(And.intro hcell hcv)))))
 have HF:=Lib.hid(And.intro hRF h9C)
 clear hX hcall hB2 hcb2 hrb2 hd9 h9 hX9 k0 k1 k2 k3 k4 k5 hrb9 hrO hpl hcl hrw hsf hRQ hRF q2 hcv hBC hsrc h9C hXC hrbC hcb9 hcbC hcell hz9 c9
 refine region_V 9 10 13 14 W9 WC RQ RQ RF hW9(by kernel_rfl)(by kernel_rfl) ?_
 iterate 3
  apply wpJ_op rfl(by rfl)
  ·intro f w1 hf hJ Q1 hQ
   simp only [nrm]at hQ
   go_wp2_with(fail)
   exact hQ _ _ rfl(hJ.other rfl hf(by decide)(by decide)(by decide)(by decide))
  simp only [nrm]
 apply wpJ_op rfl(by rfl)
 ·intro f w1 hf hJ Q1 hQ
  have hA:f 10=false:=path_no hJ.1 [3](by kernel_rfl)(by decide)hf.1
  have hB:f 13=false:=path_no hJ.1 [11,10](by kernel_rfl)(by decide)hA
  have hS:f 14=false:=path_no hJ.1 [13](by kernel_rfl)(by decide)hB
  have c3:=(HR.out.2.2.2.2.1 w1(hJ.pre hA hB hS)).1
  simp only [nrm]at hQ
  go_wp2_with(fail)
  exact hQ _ _ rfl(hJ.other rfl hf(by decide)(by decide)(by decide)(by decide))
 iterate 2
  simp only [nrm]
  apply wpJ_op rfl(by rfl)
  ·intro f w1 hf hJ Q1 hQ
   simp only [nrm]at hQ
   go_wp2_with(fail)
   exact hQ _ _ rfl(hJ.other rfl hf(by decide)(by decide)(by decide)(by decide))
 simp only [nrm]
 apply wpJ_op rfl(by rfl)
 ·intro f w1 hf hJ Q1 hQ
  have hA:f 10=false:=path_no hJ.1 [6](by kernel_rfl)(by decide)hf.1
  have hB:f 13=false:=path_no hJ.1 [11,10](by kernel_rfl)(by decide)hA
  have hS:f 14=false:=path_no hJ.1 [13](by kernel_rfl)(by decide)hB
  have c6:=(HR.out.2.2.2.2.1 w1(hJ.pre hA hB hS)).2.1
  simp only [nrm]at hQ
  go_wp2_with(fail)
  exact hQ _ _ rfl(hJ.other rfl hf(by decide)(by decide)(by decide)(by decide))
 simp only [nrm]
 apply wpJ_op rfl(by rfl)
 ·intro f w1 hf hJ Q1 hQ
  simp only [nrm]at hQ
  go_wp2_with(fail)
  exact hQ _ _ rfl(hJ.other rfl hf(by decide)(by decide)(by decide)(by decide))
 simp only [nrm]
 apply wpJ_op rfl(by rfl)
 ·intro f w1 hf hJ Q1 hQ
  have hA:f 10=false:=path_no hJ.1 [9,8](by kernel_rfl)(by decide)hf.1
  have hB:f 13=false:=path_no hJ.1 [11,10](by kernel_rfl)(by decide)hA
  have hS:f 14=false:=path_no hJ.1 [13](by kernel_rfl)(by decide)hB
  have c8:=(HR.out.2.2.2.2.1 w1(hJ.pre hA hB hS)).2.2
  simp only [nrm]at hQ
  go_wp2_with(fail)
  exact hQ _ _ rfl(hJ.other rfl hf(by decide)(by decide)(by decide)(by decide))
 simp only [nrm]
 apply wpJ_op rfl(by rfl)
 ·intro f w1 hf hJ Q1 hQ
  have hA:f 10=false:=path_no hJ.1 [9](by kernel_rfl)(by decide)hf.1
  have hB:f 13=false:=path_no hJ.1 [11,10](by kernel_rfl)(by decide)hA
  have hS:f 14=false:=path_no hJ.1 [13](by kernel_rfl)(by decide)hB
  rw [hJ.atC hf.1 hA hB hS]
  have hcv:=HR.out.2.2.2.2.2
  simp only [nrm]at hQ
  go_wp2_with(fail)
  exact hQ _ _ rfl(hJ.goC rfl hf hA hB hS(by decide)(by decide)(by decide))
 simp only [nrm]
 apply wpJ_op rfl(by rfl)
 ·intro f w1 hf hJ Q1 hQ
  have hB:f 13=false:=path_no hJ.1 [11,10](by kernel_rfl)(by decide)hf.1
  have hS:f 14=false:=path_no hJ.1 [13](by kernel_rfl)(by decide)hB
  have hC:f 9=true:=up_dep hf 9(by kernel_rfl)
  rw [hJ.atA hC hf.1 hB hS]
  simp only [nrm]at hQ
  go_wp2_with(go_at_call 45;refine HR.out.1.mono ?_;rintro e w8⟨rfl,hq⟩)
  exact hQ _ _ rfl(hJ.goA rfl hf hB hS(by decide)(by decide)hq)
 iterate 2
  simp only [nrm]
  apply wpJ_op rfl(by rfl)
  ·intro f w1 hf hJ Q1 hQ
   simp only [nrm]at hQ
   go_wp2_with(fail)
   exact hQ _ _ rfl(hJ.other rfl hf(by decide)(by decide)(by decide)(by decide))
 simp only [nrm]
 apply wpJ_op rfl(by rfl)
 ·intro f w1 hf hJ Q1 hQ
  have hS:f 14=false:=path_no hJ.1 [13](by kernel_rfl)(by decide)hf.1
  have hA:f 10=true:=up_dep hf 10(by kernel_rfl)
  have hR1:=hJ.atB hA hf.1 hS
  simp only [nrm]at hQ
  go_wp2_with(go_at_call 41;refine(plain_is v1 v2 r1 r2 hr w1).mono ?_;rintro e w8⟨rfl,hBl⟩;have hq:=HR.out.2.1 _ _ hR1 hBl)
  exact hQ _ _ rfl(hJ.goB rfl hf hS(by decide)hq)
 simp only [nrm]
 apply wpJ_op(v:=undef)rfl(by rfl)
 ·intro f w1 hf hJ Q1 hQ
  have hB:f 13=true:=up_dep hf 13(by kernel_rfl)
  have hR1:=hJ.atS hB hf.1
  simp only [nrm]at hQ
  go_wp2_with(refine wpList_store_row rfl 32(.tmp 6)(.tmp 74)rfl(w.heap.size+1) #[.int .i64 r1,.int .i64 r2,.string⟨#[]⟩]rfl rfl 32 #[.int .i64 0,.int .i64 0,.string⟨#[]⟩](HR.out.2.2.1 _ hR1)info_res rfl(by simp [Value.oneCell']) ?_)
  exact hQ _ _ rfl(hJ.goS rfl hf(HR.out.2.2.2.1 _ hR1))
 simp only [nrm]
 refine wpJ_nil ?_
 intro w9 hJ9
 have hq9:=hJ9.fin rfl
 clear hJ9
 obtain⟨hRF,h9C⟩:=HF.out
 rw [hRF]at hq9
 go_wp2_with(fail)
 exact bodyPost_ret(v:=resV r1 r2⟨#[]⟩)(results_cellU(fn:=Tryz.f12)Tryz.results12 _ _(w.heap.size+1)32 #[.int .i64 r1,.int .i64 r2,.string⟨#[]⟩]_ rfl hq9.2 Tryz.underlying32 rfl info_res)rfl((hq9.up(show c+8≤c+10 by omega)).fin h9C(by omega))
end
end Go.Proofs.YtjpjafajploiaaaGreatDoor
