/-
  A result is itself; bytes that came in, as a string.
-/
import Derived.Test.YtjpjafajploiaaaGreatDoorUnixAlone49
import Derived.Laws.StructEq
import Derived.ChangeKeysEq
import Derived.Lib.BytesEntry
set_option linter.unusedSimpArgs false
set_option linter.unusedVariables false
namespace Go.Proofs.YtjpjafajploiaaaGreatDoor
open Go.RowKit Own RegJ Two
open Go.Lib hiding intOf
theorem eq_three {P:Program} {t:TypeId} {f0 f1 f2:Field} (hs:P.underlying t=some (.struct #[f0,f1,f2])) (hp:P.stoodInHeld t=false) (n0:f0.name≠ "_") (n1:f1.name≠ "_") (n2:f2.name≠ "_") (o0:f0.offset=0) (o1:f1.offset=1) (o2:f2.offset=2)
  (p0:P.plainKey f0.type=true) (p1:P.plainKey f1.type=true) (p2:P.plainKey f2.type=true) (i0:P.underlying f0.type=some (.int .i64)) (i1:P.underlying f1.type=some (.int .i64)) (i2:P.underlying f2.type=some .string) (x y:Int) (s:ByteArray) (w:World):
  (binOp .eql t (.agg #[.int .i64 x,.int .i64 y,.string s]) (.agg #[.int .i64 x,.int .i64 y,.string s])).run P w= .ok (.bool true) w:=by
 have hf:(P.fieldsOf t).toList= [f0,f1,f2]:=by unfold Program.fieldsOf;rw [hs]
 rw [run_eql_struct,run_equalIn_struct w 9999 t _ _ (by unfold Program.fieldsOf;rw [hs]) hp,hf]
 have q0:=Go.run_part_plain (w:=w) p0 (xs:= #[.int .i64 x,.int .i64 y,.string s]) (off:=0) (v:= .int .i64 x) rfl
 have q1:=Go.run_part_plain (w:=w) p1 (xs:= #[.int .i64 x,.int .i64 y,.string s]) (off:=1) (v:= .int .i64 y) rfl
 have q2:=Go.run_part_plain (w:=w) p2 (xs:= #[.int .i64 x,.int .i64 y,.string s]) (off:=2) (v:= .string s) rfl
 have e0:=run_equalIn_int (P:=P) w 9998 f0.type .i64 .i64 x x i0
 have e1:=run_equalIn_int (P:=P) w 9998 f1.type .i64 .i64 y y i1
 have e2:=run_equalIn_string (P:=P) w 9998 f2.type s s i2
 simp only [Op.eqFields,o0,o1,o2,if_pos n0,if_pos n1,if_pos n2,Sem.run_bind,q0,q1,q2,Result.andThen_ok,e0,e1,e2,beq_self_eq_true,Bool.not_true,Bool.false_eq_true,if_false,Sem.run_pure]
set_option maxRecDepth 100000 in
theorem eqr_any (x y:Int) (s:ByteArray) (w:World):(binOp .eql 32 (.agg #[.int .i64 x,.int .i64 y,.string s]) (.agg #[.int .i64 x,.int .i64 y,.string s])).run Tryz.prog w= .ok (.bool true) w:=
 eq_three (P:=Tryz.prog) Tryz.underlying32 (by kernel_rfl) (by decide) (by decide) (by decide) rfl rfl rfl (by kernel_rfl) (by kernel_rfl) (by kernel_rfl) (by kernel_rfl) (by kernel_rfl) (by kernel_rfl) x y s w
theorem argS {w0:World} {v:Value} {bs:List Int} (h:ArgB w0 v bs):∃s:ByteArray,s.size=bs.length∧∀w,Below w0.heap.size w0 w→(convert 22 9 v).run Tryz.prog w= .ok (.string s) w:=by
 obtain ⟨a,c,rfl,hc,hr⟩:=h
 cases a with
 | none=>
  have h0:bs.length=0:=Nat.eq_zero_of_not_pos fun hp=> by obtain ⟨g,q,e,-⟩:=hr hp;cases e
  rw [h0]
  exact ⟨⟨#[]⟩,rfl,fun w _=> run_convert_nil_bytes w _ _ _ c Tryz.underlying22 Tryz.underlying5 Tryz.underlying9⟩
 | some a=>
  refine ⟨bs.foldl (fun r n=> r.push (UInt8.ofNat n.toNat)) ByteArray.empty,?_,fun w hB=> ?_⟩
  ·have:∀(l:List Int) (r:ByteArray),(l.foldl (fun r n=> r.push (UInt8.ofNat n.toNat)) r).size=r.size+l.length:=by
    intro l
    induction l with
    | nil=> intro r;rfl
    | cons x l ih=> intro r;rw [List.foldl_cons,ih,ByteArray.size_push,List.length_cons];omega
   rw [this];exact Nat.zero_add _
  ·rw [run_convert_bytes_string w _ _ _ _ _ _ Tryz.underlying22 Tryz.underlying5 Tryz.underlying9]
   refine run_bytesToString w a _ c bs ?_
   have:=run_loadCells_list (P:=Tryz.prog) w a (bs.map (Value.int .u8)) (fun j v hj=> by
    have hp:0 < bs.length:=by
     have:=(List.getElem?_eq_some_iff.1 hj).1
     rw [List.length_map] at this;omega
    obtain ⟨g,q,e,h1,h2⟩:=hr hp
    cases e
    obtain ⟨A,eA,h3⟩:=rdv_far h1 h2 hB j v (by unfold ucells;exact hj)
    cases eA
    rw [←h3])
   rw [List.length_map] at this
   exact this
end Go.Proofs.YtjpjafajploiaaaGreatDoor
namespace Go.Proofs.YtjpjafajploiaaaGreatDoor
open Go.RowKit Own RegJ Two
open Go.Lib hiding intOf
abbrev resC (x:Int) (y:Int) (s:ByteArray):Array Value:= #[.int .i64 x,.int .i64 y,.string s]
structure KB (w:World) (O:Nat→Prop) (qm r:Nat) (cs:Array Value):Prop where
 blk:Blk w r cs 32
 no:¬O r
 ne:r≠qm
def ALI (w0:World) (fdb vb tb fb sb pb mb syb qb qm r7 r8:Nat) (n:Int) (bs:List Int) (i:Nat) (w:World):Prop:=
 ∃O z m,UZ 64 w0 O fdb vb tb fb sb pb mb (30+10*i) z syb qb qm m w∧AU z m bs∧BY z∧KB w O qm r7 (resC 0 0 ⟨#[]⟩)∧KB w O qm r8 (resC 0 n ⟨#[]⟩)
section
variable {w0 w w1 w2 w' :World} {O O' O1:Nat→Prop} {fdb vb tb fb sb pb mb c c' :Nat} {z z' :Z} {syb qb qm r7 r8 i r:Nat} {m m' :PrM} {bs:List Int} {n:Int} {cs:Array Value}
theorem KB.below (h:KB w O qm r cs) (hB:Below w.heap.size w w'):KB w' O qm r cs:=⟨Blk.below hB h.blk h.blk.lt,h.no,h.ne⟩
theorem KB.upd (h:KB w O qm r cs) (hU:Upd (fun k=> O k∨k=qm) w w') (hO:∀k,O' k→O k∨w.heap.size≤k):KB w' O' qm r cs:=
 ⟨Blk.upd hU h.blk (fun hk=> hk.elim h.no h.ne),fun hk=> (hO _ hk).elim h.no (fun h' => by have:=h.blk.lt;omega),h.ne⟩
theorem ALI.skip (h:ALI w0 fdb vb tb fb sb pb mb syb qb qm r7 r8 n bs i w) (hB:Below w.heap.size w w'):ALI w0 fdb vb tb fb sb pb mb syb qb qm r7 r8 n bs (i+1) w' :=by
 obtain ⟨O,z,m,h1,h2,h3,h4,h5⟩:=h
 exact ⟨O,z,m,(h1.below hB).up (by omega),h2,h3,h4.below hB,h5.below hB⟩
theorem ALI.step (hB:Below w.heap.size w w1) (h4:KB w O qm r7 (resC 0 0 ⟨#[]⟩)) (h5:KB w O qm r8 (resC 0 n ⟨#[]⟩)) {v:Value} {e:Ending} (hz:UZP 64 w0 O fdb vb tb fb sb pb mb (30+10*i+10) z' syb qb qm m' w1 v e w') (hA:AU z' m' bs) (hY:BY z'):ALI w0 fdb vb tb fb sb pb mb syb qb qm r7 r8 n bs (i+1) w' :=by
 obtain ⟨-,hU,O',hX,hO⟩:=hz
 exact ⟨O',z',m',hX,hA,hY,(h4.below hB).upd hU hO,(h5.below hB).upd hU hO⟩
theorem kb_new (h:UZ 64 w0 O fdb vb tb fb sb pb mb c z syb qb qm m w) (hr:w.heap.size=r):KB (w.alloc (.cells cs 32)) O qm r cs:=by
 subst hr
 exact ⟨Blk.new w _ _,fun hk=> by have:=h.news.2.1 _ hk;omega,fun e=> by have:=h.news;omega⟩
theorem ali_start (s:ByteArray) (h:UZ 64 w0 O fdb vb tb fb sb pb mb (0+10+10+10) (zC (u8s s)) syb qb qm mA w) (h7:KB w O qm r7 (resC 0 0 ⟨#[]⟩)) (hr:w.heap.size=r8):ALI w0 fdb vb tb fb sb pb mb syb qb qm r7 r8 n (u8s s) 0 (w.alloc (.cells (resC 0 n ⟨#[]⟩) 32)):=by
 have hal:=(Below.refl w.heap.size w).alloc (Nat.le_refl _) (.cells (resC 0 n ⟨#[]⟩) 32)
 exact ⟨O,_,_,h.below hal,auC _,byC s,h7.below hal,kb_new h hr⟩
theorem tx_ne {S:ByteArray} (h:¬S.toList= [47,109,105,110,101]):tx S≠pathM:=by
 rw [ByteArray.toList_eq] at h;exact h
theorem by00A:BY zA:=by00.sames rfl rfl
theorem by00B:BY zB:=by
 have:=byC ⟨#[]⟩
 exact this.sames rfl rfl
end
set_option maxRecDepth 100000 in
set_option maxHeartbeats 8000000 in
theorem ualone_v (v:Value) (bs:List Int) (av:Option Addr) (len cap:Nat) (w:World) (hv:ArgB w v bs) (hmb:bs.length≤maxLen) (hm:len≤maxLen) (hA:UActs w av len) (m0:Int) (hm0:w.cell? ⟨0,0,none⟩=some (.int .i64 m0)):
  Calls Tryz.prog 3 #[v,.slice av len cap] w fun e w' => e= .returned (.bool true)∧Below w.heap.size w w' :=by
 letI:Inhabited CapT:=capOf 16
 have hgr:=greatu_v (cap:=cap) hA hm 40 (by omega)
 have haw:=fun w1 (h1:Below w.heap.size w w1)=> u_awake w1 (MC.below ⟨m0,hm0⟩ h1) rfl
 have hnw:=zunew_is 64 (by omega) (by omega) w ⟨m0,hm0⟩
 obtain ⟨s,hs,hcv⟩:=argS hv
 obtain ⟨a,cp,rfl,-,-⟩:=hv
 obtain ⟨bl,hbl⟩:∃bl,bs.length=bl:=⟨_,rfl⟩
 rw [hbl] at hs hmb hcv ⊢
 have HW:=Lib.hid (And.intro haw hcv)
 have HA:=Lib.hid hA
 have HL:=Lib.hid hm
 unfold maxLen at hmb hm
 clear haw hA hm0 hcv
 go_enter Tryz.func3,Tryz.ntmps3
 by_cases hb:bl > 512
 ·have d1:decide ((bl:Int) > 512)=true:=by simp;omega
  have d1n:decide (bl > 512)=true:=by simpa using hb
  clear hb
  go_upto_if 18 with (go_at_call 8;refine hgr.mono ?_;rintro e w1 ⟨gr,rfl,hgs,rfl⟩;have HG:=Lib.hid hgs;clear hgr hgs)
  cases gr
  all_goals
   go_wp2_with (go_at_call 9;refine (HW.out.1 _ (Below.refl _ _)).mono ?_;rintro e w2 ⟨rfl,hb2⟩;have H2:=Lib.hid hb2;clear hb2)
   go_ret
   exact ⟨rfl,H2.out⟩
 have d1:decide ((bl:Int) > 512)=false:=by simp;omega
 have d1n:decide (bl > 512)=false:=by simpa using hb
 go_upto_if 18 with (go_at_call 8;refine hgr.mono ?_;rintro e w1 ⟨gr,rfl,hgs,rfl⟩;have HG:=Lib.hid hgs;clear hgr hgs)
 ·go_wp2_with (go_at_call 9;refine (HW.out.1 _ (Below.refl _ _)).mono ?_;rintro e w2 ⟨rfl,hb2⟩;have H2:=Lib.hid hb2;clear hb2)
  go_ret
  exact ⟨rfl,H2.out⟩
 rename_i hgf
 have hl40:=HG.out (by simpa using hgf)
 have HB:=Lib.hid (And.intro (show bl≤512 by omega) (And.intro hs hl40))
 clear hb hs hl40 HG hgf
 have hOp:=fun (O:Nat→Prop) (fdb vb tb fb sb pb mb c syb qb qm:Nat) (W:World) (h:UZ 64 w O fdb vb tb fb sb pb mb c zA syb qb qm mA W) (hc:c≤8900)=> zudo_is h hc (by00A) 500 (by decide) 1 1 0 ⟨#[47,109,105,110,101]⟩ ⟨#[]⟩ 0 0 ⟨#[]⟩ openA
 have hWr:=fun (O:Nat→Prop) (fdb vb tb fb sb pb mb c syb qb qm:Nat) (W:World) (h:UZ 64 w O fdb vb tb fb sb pb mb c zB syb qb qm mA W) (hc:c≤8900)=> zudo_is h hc (by00B) 500 (by decide) 4 0 0 s ⟨#[]⟩ 0 bl ⟨#[]⟩ (by rw [writeA s (by have:=HB.out;omega),HB.out.2.1])
 go_wp2_with (first
  | (go_at_call 10;refine hnw.mono ?_;rintro e w1 ⟨syb,fdb,vb,tb,fb,sb,pb,mb,qb,qm,O,rfl,hX⟩;have a1:=zustart_is hX (by omega) 500 (by decide) 0 startA;clear hnw hX)
  | (go_at_call 11;go_loud (refine a1.mono ?_;rintro e w2 ⟨rfl,-,O2,hX2,-⟩;have a2:=hOp _ _ _ _ _ _ _ _ _ _ _ _ _ hX2 (by omega);clear a1 hX2 hOp))
  | (go_at_call 12;go_loud ((with_reducible refine a2.mono ?_);rintro e w3 ⟨rfl,-,O3,hX3,-⟩;obtain ⟨r7,hr7⟩:∃r7,w3.heap.size=r7:=⟨_,rfl⟩;have hal:=(Below.refl w3.heap.size w3).alloc (Nat.le_refl _) (.cells (resC 0 0 ⟨#[]⟩) 32);have hk7:KB (w3.alloc (.cells (resC 0 0 ⟨#[]⟩) 32)) O3 qm r7 (resC 0 0 ⟨#[]⟩):=kb_new hX3 hr7;have a3:=hWr _ _ _ _ _ _ _ _ _ _ _ _ _ (hX3.below hal) (by omega);have hcv3:=HW.out.2 _ (hX3.below hal).ez.bel;have HK7:=Lib.hid hk7;clear a2 hX3 hWr hal hk7))
  | (go_at_call 12;go_loud ((with_reducible refine a3.mono ?_);rintro e w4 ⟨rfl,hU4,O4,hX4,hO4⟩;obtain ⟨r8,hr8⟩:∃r8,w4.heap.size=r8:=⟨_,rfl⟩;have H4:=Lib.hid (ali_start (n:=(bl:Int)) s hX4 (HK7.out.upd hU4 hO4) hr8);clear a3 hX4 hU4 hO4 hcv3 HK7)))
 clear HL
 go_loopw [9] (fun v9 wr=> ∃i:Nat,i≤len∧v9= .int .i64 i∧Hid (ALI w fdb vb tb fb sb pb mb syb qb qm r7 r8 (bl:Int) (u8s s) i wr)) (fun v9 _=> len - (intOf v9).toNat)
 case atStart=> exact ⟨0,Nat.zero_le _,rfl,H4⟩
 case round=>
  obtain ⟨i,hi,rfl,HR⟩:=hrel
  by_cases hil:i < len
  ·obtain ⟨g,o,d,p,n,sys,a',b',S,T,hact⟩:=HA.out i hil
   obtain ⟨O,z,m,hX,hAU,hBY,h7,h8⟩:=HR.out
   have d5:decide ((i:Int) < (len:Int))=true:=by simp;omega
   have i5:(i:Int) < (len:Int):=by omega
   have i6:(0:Int)≤i:=by omega
   have hbel:=hX.ez.bel
   have k0:=(hbel.cell (by exact hact.lt)).trans hact.k0
   have k1:=(hbel.cell (by exact hact.lt)).trans hact.k1
   have k2:=(hbel.cell (by exact hact.lt)).trans hact.k2
   have k3:=(hbel.cell (by exact hact.lt)).trans hact.k3
   have k4:=(hbel.cell (by exact hact.lt)).trans hact.k4
   have k5:=(hbel.cell (by exact hact.lt)).trans hact.k5
   have k6:=(hbel.cell (by exact hact.lt)).trans hact.k6
   have k7:=(hbel.cell (by exact hact.lt)).trans hact.k7
   have hwp:=hact.wp
   have hwn:=hact.wn
   obtain rfl:=hact.adr
   have hal:Below wr.heap.size wr (wr.alloc (.cells #[.int .i64 d,.int .i64 p,.int .i64 n,.int .i64 sys,.int .i64 a',.int .i64 b',.string S,.string T] 37)):=(Below.refl _ _).alloc (Nat.le_refl _) _
   have r0:=(Blk.new wr #[.int .i64 d,.int .i64 p,.int .i64 n,.int .i64 sys,.int .i64 a',.int .i64 b',.string S,.string T] 37).rd
   have HY:=Lib.hid hal
   have HI:=Lib.hid (And.intro hil HB.out.2.2)
   have HX:=Lib.hid (And.intro hX (And.intro hAU (And.intro hBY (And.intro h7 (And.intro h8 (And.intro hwp hwn))))))
   clear hact hX hAU hBY h7 h8 hbel hal hwp hwn hi hil
   by_cases c1:p=500
   ·subst c1
    go_wp2_with (fail)
    go_roundw
    case rel=> exact ⟨i+1,by have:=HI.out;omega,by go_num,Lib.hid (HR.out.skip HY.out)⟩
    case measure=> have:=HI.out;simp [intOf];omega
   have HP:=Lib.hid c1
   have e1:decide (p=500)=false:=by simpa using c1
   have e1n:(p==500)=false:=by simpa using c1
   by_cases c2:n=500
   ·subst c2
    clear c1
    go_wp2_with (fail)
    go_roundw
    case rel=> exact ⟨i+1,by have:=HI.out;omega,by go_num,Lib.hid (HR.out.skip HY.out)⟩
    case measure=> have:=HI.out;simp [intOf];omega
   have HN:=Lib.hid c2
   have e2:decide (n=500)=false:=by simpa using c2
   have e2n:(n==500)=false:=by simpa using c2
   by_cases c3:S.toList= [47,109,105,110,101]
   ·have e3:decide (S.toList= [47,109,105,110,101])=true:=by simpa using c3
    have e3n:(S.toList== [47,109,105,110,101])=true:=by simpa using c3
    clear c1 c2
    go_wp2_with (fail)
    go_roundw
    case rel=> exact ⟨i+1,by have:=HI.out;omega,by go_num,Lib.hid (HR.out.skip HY.out)⟩
    case measure=> have:=HI.out;simp [intOf];omega
   have HS:=Lib.hid c3
   have e3:decide (S.toList= [47,109,105,110,101])=false:=by simpa using c3
   have e3n:(S.toList== [47,109,105,110,101])=false:=by simpa using c3
   by_cases c4:T.toList= [47,109,105,110,101]
   ·have e4:decide (T.toList= [47,109,105,110,101])=true:=by simpa using c4
    have e4n:(T.toList== [47,109,105,110,101])=true:=by simpa using c4
    clear c1 c2
    go_wp2_with (fail)
    go_roundw
    case rel=> exact ⟨i+1,by have:=HI.out;omega,by go_num,Lib.hid (HR.out.skip HY.out)⟩
    case measure=> have:=HI.out;simp [intOf];omega
   have HT:=Lib.hid c4
   have e4:decide (T.toList= [47,109,105,110,101])=false:=by simpa using c4
   have e4n:(T.toList== [47,109,105,110,101])=false:=by simpa using c4
   clear c1 c2
   by_cases c5:d=0
   ·subst c5
    obtain ⟨u,hu⟩:∃u,udoZ 64 z m p sys a' b' S T=u:=⟨_,rfl⟩
    have hdo:=zudo_is (HX.out.1.below HY.out) (by have:=HI.out;omega) HX.out.2.2.1 p HX.out.2.2.2.2.2.1 sys a' b' S T u.1.1 u.1.2.1 u.1.2.2 (z' :=u.2.1) (m' :=u.2.2) (by rw [hu])
    have HAU:=Lib.hid (show AU u.2.1 u.2.2 (u8s s) by rw [←hu];exact au_do HX.out.2.1 64 HP.out sys a' b' S T (tx_ne HS.out) (tx_ne HT.out))
    have HBY:=Lib.hid (show BY u.2.1 by rw [←hu];exact udoZ_by HX.out.2.2.1 64 p sys a' b' S T)
    clear hu
    go_wp2_with (go_at_call 12;refine hdo.mono ?_;rintro e w5 hz;have HZ:=Lib.hid (ALI.step HY.out HX.out.2.2.2.1 HX.out.2.2.2.2.1 hz HAU.out HBY.out);obtain ⟨rfl,-⟩:=hz;clear hdo)
    go_roundw
    case rel=> exact ⟨i+1,by have:=HI.out;omega,by go_num,Lib.hid HZ.out⟩
    case measure=> have:=HI.out;simp [intOf];omega
   have HD1:=Lib.hid c5
   have f1:decide (d=0)=false:=by simpa using c5
   have f1n:(d==0)=false:=by simpa using c5
   clear c5
   by_cases c6:d=1
   ·subst c6
    obtain ⟨u,hu⟩:∃u,startU z m p=u:=⟨_,rfl⟩
    have hdo:=zustart_is (HX.out.1.below HY.out) (by have:=HI.out;omega) p HX.out.2.2.2.2.2.1 u.1 (z' :=u.2.1) (m' :=u.2.2) (by rw [hu])
    have HAU:=Lib.hid (show AU u.2.1 u.2.2 (u8s s) by rw [←hu];exact au_start HX.out.2.1 HP.out)
    have HBY:=Lib.hid (show BY u.2.1 by rw [←hu];exact startU_by HX.out.2.2.1 p)
    clear hu
    go_wp2_with (go_at_call 11;refine hdo.mono ?_;rintro e w5 hz;have HZ:=Lib.hid (ALI.step HY.out HX.out.2.2.2.1 HX.out.2.2.2.2.1 hz HAU.out HBY.out);obtain ⟨rfl,-⟩:=hz;clear hdo)
    go_roundw
    case rel=> exact ⟨i+1,by have:=HI.out;omega,by go_num,Lib.hid HZ.out⟩
    case measure=> have:=HI.out;simp [intOf];omega
   have HD2:=Lib.hid c6
   have f2:decide (d=1)=false:=by simpa using c6
   have f2n:(d==1)=false:=by simpa using c6
   clear c6
   by_cases c7:d=2
   ·subst c7
    obtain ⟨u,hu⟩:∃u,forkU z m p n=u:=⟨_,rfl⟩
    have hdo:=zufork_is (HX.out.1.below HY.out) (by have:=HI.out;omega) p n HX.out.2.2.2.2.2.1 HX.out.2.2.2.2.2.2 u.1 (z' :=u.2.1) (m' :=u.2.2) (by rw [hu])
    have HAU:=Lib.hid (show AU u.2.1 u.2.2 (u8s s) by rw [←hu];exact au_fork HX.out.2.1 HP.out HN.out)
    have HBY:=Lib.hid (show BY u.2.1 by rw [←hu];exact forkU_by HX.out.2.2.1 p n)
    clear hu
    go_wp2_with (go_at_call 13;refine hdo.mono ?_;rintro e w5 hz;have HZ:=Lib.hid (ALI.step HY.out HX.out.2.2.2.1 HX.out.2.2.2.2.1 hz HAU.out HBY.out);obtain ⟨rfl,-⟩:=hz;clear hdo)
    go_roundw
    case rel=> exact ⟨i+1,by have:=HI.out;omega,by go_num,Lib.hid HZ.out⟩
    case measure=> have:=HI.out;simp [intOf];omega
   have HD3:=Lib.hid c7
   have f3:decide (d=2)=false:=by simpa using c7
   have f3n:(d==2)=false:=by simpa using c7
   clear c7
   by_cases c8:d=3
   ·subst c8
    obtain ⟨u,hu⟩:∃u,exitU z m p n=u:=⟨_,rfl⟩
    have hdo:=zuexit_is (HX.out.1.below HY.out) (by have:=HI.out;omega) p n HX.out.2.2.2.2.2.1 u.1 (z' :=u.2.1) (m' :=u.2.2) (by rw [hu])
    have HAU:=Lib.hid (show AU u.2.1 u.2.2 (u8s s) by rw [←hu];exact au_exit HX.out.2.1 HP.out n)
    have HBY:=Lib.hid (show BY u.2.1 by rw [←hu];exact exitU_by HX.out.2.2.1 p n)
    clear hu
    go_wp2_with (go_at_call 14;refine hdo.mono ?_;rintro e w5 hz;have HZ:=Lib.hid (ALI.step HY.out HX.out.2.2.2.1 HX.out.2.2.2.2.1 hz HAU.out HBY.out);obtain ⟨rfl,-⟩:=hz;clear hdo)
    go_roundw
    case rel=> exact ⟨i+1,by have:=HI.out;omega,by go_num,Lib.hid HZ.out⟩
    case measure=> have:=HI.out;simp [intOf];omega
   have HD4:=Lib.hid c8
   have f4:decide (d=3)=false:=by simpa using c8
   have f4n:(d==3)=false:=by simpa using c8
   clear c8
   go_wp2_with (fail)
   go_roundw
   case rel=> exact ⟨i+1,by have:=HI.out;omega,by go_num,Lib.hid (HR.out.skip HY.out)⟩
   case measure=> have:=HI.out;simp [intOf];omega
  ·obtain rfl:i=len:=by omega
   obtain ⟨O,z,m,hX,hAU,hBY,h7,h8⟩:=HR.out
   have d5:decide ((i:Int) < (i:Int))=false:=by simp
   obtain ⟨z2,hs2,hA2,ht2,hn2,hp2⟩:=seekA hAU
   have hB2:BY z2:=hBY.sames hn2 hp2
   have hlen:(u8s s).length=bl:=by rw [u8s_len];exact HB.out.2.1
   obtain ⟨z3,hs3⟩:=readA hA2 ht2 (by rw [hlen];exact HB.out.1)
   rw [hlen,toU_u8s] at hs3
   have b1:=zudo_is hX (by have:=HB.out;omega) hBY 500 (by decide) 5 0 0 ⟨#[]⟩ ⟨#[]⟩ 0 0 ⟨#[]⟩ hs2
   have b2:=fun (O:Nat→Prop) (c:Nat) (W:World) (h:UZ 64 w O fdb vb tb fb sb pb mb c z2 syb qb qm m W) (hc:c≤8900)=> zudo_is h hc hB2 500 (by decide) 3 0 512 ⟨#[]⟩ ⟨#[]⟩ 0 bl s hs3
   have q1:=eqr_any 0 0 ⟨#[]⟩
   have q2:=eqr_any 0 bl ⟨#[]⟩
   have q3:=eqr_any 0 bl s
   have HX:=Lib.hid (And.intro h7 h8)
   clear hAU hBY h7 h8 hs2 hs3 hA2 ht2 hn2 hp2 hB2 hlen hX hi hil
   go_wp2_with (first
    | (go_at_call 12;(with_reducible refine b1.mono ?_);rintro e w5 ⟨rfl,hU5,O5,hX5,hO5⟩;have b3:=b2 _ _ _ hX5 (by have:=HB.out;omega);have H5:=Lib.hid (And.intro (HX.out.1.upd hU5 hO5) (HX.out.2.upd hU5 hO5));clear b1 b2 hU5 hX5 hO5)
    | (go_at_call 12;(with_reducible refine b3.mono ?_);rintro e w6 ⟨rfl,hU6,O6,hX6,hO6⟩;obtain ⟨r11,hr11⟩:∃r11,w6.heap.size=r11:=⟨_,rfl⟩;have hal:=(Below.refl w6.heap.size w6).alloc (Nat.le_refl _) (.cells (resC 0 bl s) 32);have g7:=((H5.out.1.upd hU6 hO6).below hal).blk.rd;have g8:=((H5.out.2.upd hU6 hO6).below hal).blk.rd;have g11:=(kb_new (cs:=resC 0 bl s) hX6 hr11).blk.rd;have hbW:=(hX6.below hal).ez.bel;have haw6:=HW.out.1 _ hbW;have hcv6:=HW.out.2 _ hbW;have HZ:=Lib.hid hbW;clear b3 hU6 hX6 hO6 hal hbW)
    | (go_at_call 9;(with_reducible refine haw6.mono ?_);rintro e w7 ⟨rfl,hb7⟩;have H7:=Lib.hid hb7;clear haw6 hb7))
   go_ret
   exact ⟨rfl,HZ.out.trans (H7.out.mono HZ.out.size)⟩
end Go.Proofs.YtjpjafajploiaaaGreatDoor
