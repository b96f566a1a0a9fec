/-
  Descriptors: Read, of files.
-/
import Derived.Test.YtjpjafajploiaaaGreatDoorUnixAlone25
import Derived.RegionTactic
import Derived.BigRegion
import Derived.Test.YtjpjafajploiaaaGreatDoorUnixAlone24
set_option linter.unusedSimpArgs false
set_option linter.unusedVariables false
namespace Go.Proofs.YtjpjafajploiaaaGreatDoor
open Go.RowKit Own RegJ Two
open Go.Lib hiding intOf
section
variable {w0 w w1 w2 w' :World} {O O1:Nat→Prop} {fdb vb tb fb sb pb mb:Nat} {ns ns' :NSt} {c N N' :Nat} {S S' :FS}
def KRead [Inhabited CapT] (w0:World) (O:Nat→Prop) (fdb vb tb fb sb pb mb:Nat) (ns:NSt) (c N:Nat) (S:FS) (w:World) (ys:List Int) (er:Int) (e:Ending) (w' :World):Prop:=∃a cp gb O',e= .returned (.tuple #[.slice a ys.length cp,.int .i64 er])∧RowV w' 5 (.slice a ys.length cp) (ucells ys) gb∧(∀g,gb=some g→w.heap.size≤g∧¬O' g)∧Upd O w w' ∧FX w0 O' fdb vb tb fb sb pb mb ns c N S w' ∧∀k,O' k→O k∨w.heap.size≤k
set_option maxRecDepth 100000 in
set_option maxHeartbeats 4000000 in
theorem kf_read [Inhabited CapT] (h:FX w0 O fdb vb tb fb sb pb mb ns c N S w) (x:Nat) (t:Th) (ht:S.th x=some t) (hid:(Lit.int .i64 t.id).wf=true) (n:Int) (hn:n≤9223372036854775807) (ys:List Int) (hpl:0≤t.pl∧t.pl+(ys.length:Int)≤9223372036854775807) (er:Int) (hr:readV (filesOf ns) t.id t.pl n=(ys,er)) (hyl:ys.length≤1000000):
  Calls Tryz.prog 139 #[.pointer (some ⟨fdb,0,none⟩),.pointer (some ⟨x,0,none⟩),.int .i64 n] w (KRead w0 O fdb vb tb fb sb pb mb ns c N (S.setth x {t with pl:=t.pl+(ys.length:Int)}) w ys er):=by
 have hB:=h.fd.x x t ht
 have c0:=h.fd.f.rd 0
 have k:=hB.rd
 have hst:=fun w1 (hB:Below w.heap.size w w1)=> v_store (h.below hB)
 have hrd:=fun w1 (hB:Below w.heap.size w w1)=> v_read (h.below hB) t.id hid t.pl n (by omega) (by omega) ys er hr
 have key:∀w1 a cp gb,RowV w1 5 (.slice a ys.length cp) (ucells ys) gb→(∀g,gb=some g→w.heap.size≤g)→Below w.heap.size w w1→KRead w0 O fdb vb tb fb sb pb mb ns c N (S.setth x {t with pl:=t.pl+(ys.length:Int)}) w ys er (.returned (.tuple #[.slice a ys.length cp,.int .i64 er])) (w1.setCell ⟨x,3,none⟩ (.int .i64 (t.pl+(ys.length:Int)))):=by
  intro w1 a cp gb h1 h2 h3
  have hD:=h.below h3
  have hu:Upd (Ow fdb mb S) w1 (w1.setCell ⟨x,3,none⟩ (.int .i64 (t.pl+(ys.length:Int)))):=(Upd.refl _ _).setCell (p:=⟨x,3,none⟩) (fun _=> .inr (.inr (.inr (by rw [ht];rfl)))) _
  obtain ⟨k1,k2⟩:=hD.own hu (hD.fd.setth ht {t with pl:=t.pl+(ys.length:Int)} 3 (.int .i64 (t.pl+(ys.length:Int))) rfl) (fun k hk=> .inl (Ow.th ht hk))
  have hg:∀g,gb=some g→¬O g:=fun g hg hO=> by have:=(h.rng g hO).2;have:=h2 g hg;omega
  refine ⟨a,cp,gb,_,rfl,h1.upd k1 (fun g hgb=> hg g hgb),fun g hgb=> ⟨h2 g hgb,fun hO=> ?_⟩,(Upd.of_below (F:=O) h3).trans k1 (fun _ _ h=> h),k2,fun k hk=> ?_⟩
  ·rcases hO with hO | hO
   ·exact hg g hgb hO
   ·have:=h1.lt g hgb;omega
  ·rcases hk with hk | hk
   ·exact .inl hk
   ·exact .inr (Nat.le_trans h3.size hk.1)
 have cells:∀w1,Below w.heap.size w w1→w1.cell? ⟨x,3,none⟩=some (.int .i64 t.pl)∧w1.frozen? ⟨x,3,none⟩=false:=fun w1 h1=> ⟨(Blk.below h1 hB hB.lt).rd 3,(Blk.below h1 hB hB.lt).nf 3⟩
 have HK:=Lib.hid (And.intro key cells)
 have j1:=hpl.1
 have j2:=hpl.2
 clear h hr hB ht key cells
 go_enter Tryz.func139,Tryz.ntmps139
 go_upto_region 1 with (fail)
 go_region_with (first
  | (go_at_call 141;refine (hst _ (dn _ _)).mono ?_;rintro e w1 ⟨rfl,rfl⟩)
  | (go_at_call 189;refine (hrd _ (dn _ _)).mono ?_;rintro e w1 ⟨a,cp,gb,rfl,h1,h2,h3⟩;have h4:=(dn w _).trans h3;have H1:=Lib.hid (And.intro h1 (And.intro h2 h4));clear h1 h2 h3 h4))
 all_goals
  obtain ⟨k3,f3⟩:=HK.out.2 _ H1.out.2.2
  go_wp2_with (fail)
  go_ret2
  exact HK.out.1 _ _ _ _ H1.out.1 H1.out.2.1 H1.out.2.2
set_option maxRecDepth 100000 in
set_option maxHeartbeats 2000000 in
theorem k_read [Inhabited CapT] (h:FX w0 O fdb vb tb fb sb pb mb ns c N S w) (pid:Int) (hw:(Lit.int .i64 pid).wf=true) (b:Nat) (hb:S.pr pid=some b) (d x:Nat) (hd:d < 8) (hx:S.sl b d=some x) (t:Th) (ht:S.th x=some t) (hpp:t.pp=false) (hwr:t.wr=false) (hid:(Lit.int .i64 t.id).wf=true) (n:Int) (hn:n≤9223372036854775807) (ys:List Int) (hpl:0≤t.pl∧t.pl+(ys.length:Int)≤9223372036854775807) (er:Int) (hr:readV (filesOf ns) t.id t.pl n=(ys,er)) (hyl:ys.length≤1000000):
  Calls Tryz.prog 83 #[.pointer (some ⟨fdb,0,none⟩),.int .i64 pid,.int .i64 d,.int .i64 n] w (KRead w0 O fdb vb tb fb sb pb mb ns c N (S.setth x {t with pl:=t.pl+(ys.length:Int)}) w ys er):=by
 have hg:=k_get h.fd pid hw b hb d x hd hx
 have hB:=h.fd.x x t ht
 have c0:w.cell? ⟨x,0,none⟩=some (.bool false):=by rw [←hpp];exact hB.rd 0
 have c1:w.cell? ⟨x,1,none⟩=some (.bool false):=by rw [←hwr];exact hB.rd 1
 have hfr:=kf_read h x t ht hid n hn ys hpl er hr hyl
 clear h hB ht hb hx hpp hwr hid hr hpl
 go_enter Tryz.func83,Tryz.ntmps83
 go_wp2_with (first
  | (go_at_call 80;refine hg.mono ?_;rintro e w1 ⟨rfl,rfl⟩)
  | (go_at_call 139;refine hfr.mono ?_;rintro e w2 ⟨a,cp,gb,O2,rfl,hq⟩;have HF:=Lib.hid hq;clear hq hfr))
 go_ret2
 exact ⟨a,cp,gb,O2,rfl,HF.out⟩
end
end Go.Proofs.YtjpjafajploiaaaGreatDoor
namespace Go.Proofs.YtjpjafajploiaaaGreatDoor
open Go.RowKit Own RegJ Two
open Go.Lib hiding intOf
theorem one_split {x:Txt} (h:nameE x=0):splitE (47::x)=0∧splitL (47::x)= [x]:=by
 have he:everyE [x]=0:=every_mk (by unfold firstE;rw [if_pos h];rfl) (by simp)
 have:=join_split he
 unfold joinT at this
 rw [if_neg (by simp)] at this
 simpa using this
theorem one_par {x:Txt} (h:nameE x=0):parE (47::x)=0∧parD (47::x)= [47]∧parN (47::x)=x:=by
 obtain ⟨h1,h2⟩:=one_split h
 have hp:parE (47::x)=0:=by unfold parE;rw [if_pos h1,if_neg (by rw [h2];simp)]
 refine ⟨hp,?_,?_⟩
 ·unfold parD;rw [if_pos hp,h2];rfl
 ·unfold parN;rw [if_pos hp,h2];rfl
theorem walkR_root (ns:NSt):walkR ns [47]=(0,0):=by
 unfold walkR;rw [if_pos splitL_slash.1,splitL_slash.2];rfl
theorem one_walk {x:Txt} (h:nameE x=0) (ns:NSt):walkR ns (47::x)=if (findR ns 0 x).2=0 then ((findR ns 0 x).1,0) else (0,(findR ns 0 x).2):=by
 obtain ⟨h1,h2⟩:=one_split h
 unfold walkR;rw [if_pos h1,h2]
 unfold walkL;split <;> rfl
theorem one_parE {x:Txt} (h:nameE x=0) (ns:NSt):parEr ns (47::x)=0∧parDi ns (47::x)=0:=by
 obtain ⟨h1,h2,h3⟩:=one_par h
 unfold parEr parDi
 rw [if_pos h1,h2,walkR_root]
 exact ⟨rfl,rfl⟩
theorem dir0:dirAt ns0 0=some ⟨true,0,0,[],[]⟩:=rfl
def nsR (l:Int) (es:List En) (b:List Int):NSt:=fun j=> if j=0 then some ⟨true,0,0,es,[]⟩ else if j=1 then some ⟨false,l,1,[],b⟩ else none
theorem put_one (l l' :Int) (es:List En) (b b' :List Int):nsPut (nsR l es b) 1 (some ⟨false,l',1,[],b'⟩)=nsR l' es b' :=by
 funext j;unfold nsPut nsR
 by_cases h1:j=1
 ·subst h1;simp
 ·rw [if_neg h1]
  simp only [if_neg h1]
theorem put_root (l:Int) (es es' :List En) (b:List Int):nsPut (nsR l es b) 0 (some ⟨true,0,0,es',[]⟩)=nsR l es' b:=by
 funext j;unfold nsPut nsR
 by_cases h0:j=0
 ·subst h0;simp
 ·simp only [if_neg h0]
def nsO (x:Txt) (op:Int) (b:List Int):NSt:=fun j=> if j=0 then some ⟨true,0,0,[(x,1)],[]⟩ else if j=1 then some ⟨false,1,op,[],b⟩ else none
theorem o_put (x:Txt) (op op' :Int) (b b' :List Int):nsPut (nsO x op b) 1 (some ⟨false,1,op',[],b'⟩)=nsO x op' b' :=by
 funext j;unfold nsPut nsO
 by_cases h1:j=1
 ·subst h1;simp
 ·rw [if_neg h1]
  simp only [if_neg h1]
theorem o_nd (x:Txt) (op:Int) (b:List Int):ndAt (nsO x op b) 1=some ⟨false,1,op,[],b⟩:=rfl
section
variable {x:Txt}
theorem o_none (hx:nameE x=0):walkR ns0 (47::x)=(0,9):=by rw [one_walk hx];rfl
theorem o_ent (hx:nameE x=0) (ns:NSt) (id:Int) (h0:id≠0) (hn:ndAt ns id≠none) (es:List En) (j:Nat) (hA:isAt es x j=false) (hl:es.length≠8):entR ns es j x id=0:=by
 unfold entR
 rw [if_neg (by rw [hx];simp),if_neg (fun h=> h.elim h0 hn),if_neg (by rw [hA];simp),if_neg hl]
theorem o_new (hx:nameE x=0) (n:Int) (hn:0≤n∧n≤7) (hA:flA n=true):openF ns0 (47::x) n=(1,0,nsO x 1 []):=by
 show openF ns0 (47::x) n=(1,0,nsR 1 [(x,1)] [])
 unfold openF
 rw [if_neg (by omega),if_pos ⟨by rw [o_none hx],hA⟩]
 unfold newF
 obtain ⟨h1,h2⟩:=one_parE hx ns0
 rw [if_pos h1,h2,(one_par hx).2.2]
 unfold madeF
 rw [dir0]
 have hf:freeF ns0=some 1:=by decide+kernel
 rw [hf]
 simp only
 have hns:nsPut ns0 1 (some ⟨false,0,1,[],[]⟩)=nsR 0 [] []:=by
  funext j;unfold nsPut nsR ns0
  by_cases h1:j=1
  ·subst h1;simp
  ·rw [if_neg h1,if_neg h1]
 rw [hns]
 have he:entF (nsR 0 [] []) (Int.toNat 0) ⟨true,0,0,[],[]⟩ x ((1:Nat):Int)=(0,nsR 1 [(x,1)] []):=by
  have h0:=o_ent hx (nsR 0 [] []) 1 (by omega) (by simp [ndAt,nsR]) [] (plc [] x) (by simp [plc,isAt]) (by simp)
  unfold entF
  rw [show ((1:Nat):Int)=1 from rfl,if_pos h0]
  have e2:insE ([]:List En) (plc [] x) (x,(1:Int))= [(x,1)]:=by unfold insE;simp
  rw [show ((⟨true,0,0,[],[]⟩:Nd)).es= [] from rfl,e2]
  have e3:nsPut (nsR 0 [] []) (Int.toNat 0) (some (setEs ⟨true,0,0,[],[]⟩ [(x,1)]))=nsR 0 [(x,1)] []:=put_root 0 [] [(x,1)] []
  unfold nsEnt
  rw [e3]
  have e4:nsR 0 [(x,1)] [] (Int.toNat 1)=some ⟨false,0,1,[],[]⟩:=rfl
  rw [e4]
  simp only
  have e5:nsPut (nsR 0 [(x,1)] []) (Int.toNat 1) (some (addL ⟨false,0,1,[],[]⟩ 1))=nsR 1 [(x,1)] []:=put_one 0 1 [(x,1)] [] []
  rw [e5]
 rw [he]
 rfl
theorem o_used (op:Int) (b:List Int):usedN (filesOf (nsO x op b)) 16=(b.length+63) / 64:=by
 simp [usedN,filesOf,nsO,blks]
theorem o_write (F:Nat) (hF:8≤F) (op:Int) (bs b:List Int) (off:Nat) (h1:off+b.length≤512) (h2:bs.length≤512) (h3:b≠ []):wrF (nsO x op bs) F 1 off b=(0,nsO x op (writeB bs off b)):=by
 have hb:b.length≠0:=fun h=> h3 (List.eq_nil_of_length_eq_zero h)
 unfold wrF
 rw [o_nd]
 simp only [Bool.false_eq_true,if_false]
 rw [if_neg (by omega),if_neg hb,if_neg (by omega),o_used,if_neg (by simp only [Int.toNat_natCast];omega)]
 rw [show Int.toNat (off:Int)=off from by simp]
 exact congrArg (Prod.mk 0) (o_put x op op bs (writeB bs off b))
theorem o_write0 (F:Nat) (op:Int) (bs:List Int) (off:Nat):wrF (nsO x op bs) F 1 off []=(0,nsO x op bs):=by
 unfold wrF
 rw [o_nd]
 simp only [Bool.false_eq_true,if_false]
 rw [if_neg (by omega),if_pos (by simp)]
theorem writeB_end (bs b:List Int):writeB bs bs.length b=bs++b:=by
 unfold writeB extB spl
 have e:max bs.length (bs.length+b.length)=bs.length+b.length:=by omega
 rw [e]
 simp
end
end Go.Proofs.YtjpjafajploiaaaGreatDoor
namespace Go.Proofs.YtjpjafajploiaaaGreatDoor
open Go.RowKit Own RegJ Two
open Go.Lib hiding intOf
section
variable {w w' :World} {vb tb:Nat} {ns ns' :NSt} {lo lo' :Lo} {N c d:Nat}
set_option maxRecDepth 100000 in
theorem lst_err [Inhabited CapT] (h:VV w vb tb ns lo c) (l:Txt) (hl:l.length≤100000) (a e0:Int) (hw:walkR ns l=(a,e0)) (he:e0≠0):
  Calls Tryz.prog 29 #[.pointer (some ⟨vb,0,none⟩),.string (B l)] w fun e w' => e= .returned (.tuple #[.slice none 0 0,.int .i64 e0])∧Below w.heap.size w w' :=by
 have hwk:=walk_is h.1 l hl a e0 hw
 clear h hl hw
 generalize B l=L at*
 go_enter Tryz.func29,Tryz.ntmps29
 go_wp2_with (go_at_call 70;(with_reducible refine hwk.mono ?_);rintro e w1 ⟨rfl,hB⟩;have H1:=Lib.hid hB;clear hB hwk)
 go_returns
 exact ⟨rfl,H1.out⟩
set_option maxRecDepth 100000 in
theorem lst_no [Inhabited CapT] (h:VV w vb tb ns lo c) (l:Txt) (hl:l.length≤100000) (a:Int) (hw:walkR ns l=(a,0)) (hd:dirAt ns a=none):
  Calls Tryz.prog 29 #[.pointer (some ⟨vb,0,none⟩),.string (B l)] w fun e w' => e= .returned (.tuple #[.slice none 0 0,.int .i64 11])∧Below w.heap.size w w' :=by
 have hwk:=walk_is h.1 l hl a 0 hw
 have H:=Lib.hid (And.intro h hd)
 clear h hl hw hd
 generalize B l=L at*
 go_enter Tryz.func29,Tryz.ntmps29
 go_wp2_with (first
  | (go_at_call 70;(with_reducible refine hwk.mono ?_);rintro e w1 ⟨rfl,hB⟩;have h1:=H.out.1.below hB;have c1:=h1.1.cell;have hls:=list_no h1.1.2.1 a H.out.2;have H1:=Lib.hid hB;clear hB hwk h1)
  | (go_at_call 71;(with_reducible refine hls.mono ?_);rintro e w2 ⟨rfl,rfl⟩;clear hls))
 go_returns
 exact ⟨rfl,H1.out⟩
theorem lst_yes [Inhabited CapT] (h:VV w vb tb ns lo c) (l:Txt) (hl:l.length≤100000) (i:Nat) (nd:Nd) (hi:ns i=some nd) (hd:nd.dir=true) (hw:walkR ns l=((i:Int),0)):
  Calls Tryz.prog 29 #[.pointer (some ⟨vb,0,none⟩),.string (B l)] w fun e w' => ∃w1,Below w.heap.size w w1∧ListP nd.es w1 e w' :=by
 have hwk:=walk_is h.1 l hl i 0 hw
 have H:=Lib.hid (And.intro h (And.intro hi hd))
 clear h hl hw hi hd
 have hcon:∀w1,Below w.heap.size w w1→Calls Tryz.prog 71 #[.pointer (some ⟨tb,0,none⟩),.int .i64 i] w1 (ListP nd.es w1):=fun w1 hB=> list_yes (H.out.1.below hB).1.2.1 i nd H.out.2.1 H.out.2.2
 generalize B l=L at*
 generalize (i:Int)=I at*
 generalize nd.es=es at*
 go_enter Tryz.func29,Tryz.ntmps29
 go_wp2_with (first
  | (go_at_call 70;(with_reducible refine hwk.mono ?_);rintro e w1 ⟨rfl,hB⟩;have c1:=(H.out.1.below hB).1.cell;have hls:=hcon w1 hB;have H1:=Lib.hid hB;clear hB hwk)
  | (go_at_call 71;(with_reducible refine hls.mono ?_);rintro e w2 ⟨v,b,rfl,hr,hb,hB2⟩;have H2:=Lib.hid (And.intro hr (And.intro hb hB2));clear hls hr hb hB2))
 go_returns
 exact ⟨w1,H1.out,v,b,rfl,H2.out.1,H2.out.2.1,H2.out.2.2⟩
end
end Go.Proofs.YtjpjafajploiaaaGreatDoor
