/-
  Open of a path that leads to something, or that makes nothing: the flags, the walk's answer, a directory, a file as it is.
-/
import Derived.Test.YtjpjafajploiaaaGreatDoorUnixAlone22
import Derived.StillTailTactics
import Derived.Test.YtjpjafajploiaaaGreatDoorUnixAlone23
import Derived.Test.YtjpjafajploiaaaGreatDoorUnixAlone04
import Derived.Test.YtjpjafajploiaaaGreatDoorUnixAlone02
set_option linter.unusedSimpArgs false
set_option linter.unusedVariables false
namespace Go.Proofs.YtjpjafajploiaaaGreatDoor
open Go.RowKit Own RegJ Two
open Go.Lib hiding intOf
section
variable {w w' :World} {vb tb:Nat} {ns ns' :NSt} {lo lo' :Lo} {N c d:Nat}
abbrev flA (n:Int):Bool:=Go.bits Go.BinOp.and Go.IntKind.i64 n 1 !=0
abbrev flB (n:Int):Bool:=Go.bits Go.BinOp.and Go.IntKind.i64 n 2 !=0
set_option maxRecDepth 100000 in
theorem open_bad (vb:Nat) (s:ByteArray) (n:Int) (hn:n < 0∨7 < n):Calls Tryz.prog 79 #[.pointer (some ⟨vb,0,none⟩),.string s,.int .i64 n] w fun e w' => e= .returned (.tuple #[.int .i64 0,.int .i64 19])∧Below w.heap.size w w' :=by
 have hB:Below w.heap.size w (w.alloc (.cells #[.pointer (some ⟨vb,0,none⟩)] 66)):=(Below.refl _ _).alloc (Nat.le_refl _) _
 have c0:=(Blk.new w #[.pointer (some ⟨vb,0,none⟩)] 66).rd
 rcases hn with hn | hn
 ·go_enter Tryz.func79,Tryz.ntmps79
  go_wp2
  go_returns
  exact ⟨rfl,hB⟩
 ·have hn2:¬n < 0:=by omega
  go_enter Tryz.func79,Tryz.ntmps79
  go_wp2
  go_returns
  exact ⟨rfl,hB⟩
set_option maxRecDepth 100000 in
theorem open_err [Inhabited CapT] (h:VV w vb tb ns lo c) (l:Txt) (hl:l.length≤100000) (a e0:Int) (hw:walkR ns l=(a,e0)) (he:e0≠0) (n:Int) (hn:0≤n∧n≤7) (hf:e0=9→flA n=false):Calls Tryz.prog 79 #[.pointer (some ⟨vb,0,none⟩),.string (B l),.int .i64 n] w fun e w' => e= .returned (.tuple #[.int .i64 0,.int .i64 e0])∧Below w.heap.size w w' :=by
 have hB0:Below w.heap.size w (w.alloc (.cells #[.pointer (some ⟨vb,0,none⟩)] 66)):=(Below.refl _ _).alloc (Nat.le_refl _) _
 have hwk:=walk_is (h.below hB0).1 l hl a e0 hw
 have hbv:=Blk.new w #[.pointer (some ⟨vb,0,none⟩)] 66
 have c0:=hbv.rd
 have n1:¬n < 0:=by omega
 have n2:¬7 < n:=by omega
 have H:=Lib.hid (And.intro hB0 hbv)
 clear h hB0 hbv hl hw hn
 generalize B l=L at*
 unfold flA at hf
 by_cases h9:e0=9
 ·have hf9:=hf h9
  subst h9
  clear hf he
  go_enter Tryz.func79,Tryz.ntmps79
  go_wp2_with (go_at_call 70;(with_reducible refine hwk.mono ?_);rintro e w1 ⟨rfl,hB⟩;have hb1:=(Blk.below hB H.out.2 H.out.2.lt).alloc (.cells #[.int .i64 a] 3);clear c0;have c0:=hb1.rd;have H1:=Lib.hid hB;clear hB hwk hb1)
  go_returns
  have hb:=H.out.1.trans (H1.out.mono H.out.1.size)
  exact ⟨rfl,hb.alloc hb.size _⟩
 ·clear hf
  go_enter Tryz.func79,Tryz.ntmps79
  go_wp2_with (go_at_call 70;(with_reducible refine hwk.mono ?_);rintro e w1 ⟨rfl,hB⟩;have hb1:=(Blk.below hB H.out.2 H.out.2.lt).alloc (.cells #[.int .i64 a] 3);clear c0;have c0:=hb1.rd;have H1:=Lib.hid hB;clear hB hwk hb1)
  go_returns
  have hb:=H.out.1.trans (H1.out.mono H.out.1.size)
  exact ⟨rfl,hb.alloc hb.size _⟩
set_option maxRecDepth 100000 in
theorem open_dir [Inhabited CapT] (h:VV w vb tb ns lo c) (l:Txt) (hl:l.length≤100000) (a:Int) (hw:walkR ns l=(a,0)) (hd:isDirF ns a=true) (n:Int) (hn:0≤n∧n≤7):Calls Tryz.prog 79 #[.pointer (some ⟨vb,0,none⟩),.string (B l),.int .i64 n] w fun e w' => e= .returned (.tuple #[.int .i64 0,.int .i64 12])∧Below w.heap.size w w' :=by
 have hB0:Below w.heap.size w (w.alloc (.cells #[.pointer (some ⟨vb,0,none⟩)] 66)):=(Below.refl _ _).alloc (Nat.le_refl _) _
 have hwk:=walk_is (h.below hB0).1 l hl a 0 hw
 have hbv:=Blk.new w #[.pointer (some ⟨vb,0,none⟩)] 66
 have c0:=hbv.rd
 have n1:¬n < 0:=by omega
 have n2:¬7 < n:=by omega
 have H:=Lib.hid (And.intro hB0 (And.intro hbv (And.intro h hd)))
 clear h hB0 hbv hl hw hn hd
 generalize B l=L at*
 go_enter Tryz.func79,Tryz.ntmps79
 go_wp2_with (first
  | (go_at_call 70;(with_reducible refine hwk.mono ?_);rintro e w1 ⟨rfl,hB⟩;have hb1:=(Blk.below hB H.out.2.1 H.out.2.1.lt).alloc (.cells #[.int .i64 a] 3);clear c0;have c0:=hb1.rd;have c1:=(Blk.new w1 #[.int .i64 a] 3).rd;have hb:=H.out.1.trans (hB.mono H.out.1.size);have hb2:=hb.alloc hb.size (.cells #[.int .i64 a] 3);have hid:=isdir_is (H.out.2.2.1.below hb2).1 a true H.out.2.2.2;have H1:=Lib.hid hb2;clear hB hwk hb1 hb hb2)
  | (go_at_call 86;(with_reducible refine hid.mono ?_);rintro e w2 ⟨rfl,hB⟩;have H2:=Lib.hid hB;clear hB hid))
 go_returns
 exact ⟨rfl,H1.out.trans (H2.out.mono H1.out.size)⟩
end
end Go.Proofs.YtjpjafajploiaaaGreatDoor
/-
 Open of a file as it is (no FlagFresh).
-/
namespace Go.Proofs.YtjpjafajploiaaaGreatDoor
open Go.RowKit Own RegJ Two
open Go.Lib hiding intOf
section
variable {w w' :World} {vb tb:Nat} {ns ns' :NSt} {lo lo' :Lo} {N c d:Nat}
set_option maxRecDepth 100000 in
theorem open_old [Inhabited CapT] (h:VV w vb tb ns lo c) (hc:c≤9000) (l:Txt) (hl:l.length≤100000) (i:Nat) (hw:walkR ns l=((i:Int),0)) (nd:Nd) (hi:ns i=some nd) (hd:isDirF ns i=false) (n:Int) (hn:0≤n∧n≤7) (hf:flB n=false):Calls Tryz.prog 79 #[.pointer (some ⟨vb,0,none⟩),.string (B l),.int .i64 n] w (MadP w vb tb (nsPut ns i (some (addO nd 1))) lo (c+1) (.tuple #[.int .i64 i,.int .i64 0])):=by
 have hB0:Below w.heap.size w (w.alloc (.cells #[.pointer (some ⟨vb,0,none⟩)] 66)):=(Below.refl _ _).alloc (Nat.le_refl _) _
 have hwk:=walk_is (h.below hB0).1 l hl i 0 hw
 have hbv:=Blk.new w #[.pointer (some ⟨vb,0,none⟩)] 66
 have c0:=hbv.rd
 have n1:¬n < 0:=by omega
 have n2:¬7 < n:=by omega
 have ho:0≤nd.opens∧nd.opens≤100000:=⟨h.2.inv.opn i nd hi,by have:=h.2.opn i nd hi;omega⟩
 have hop:∀W,Below w.heap.size w W→Calls Tryz.prog 134 #[.pointer (some ⟨tb,0,none⟩),.int .i64 i] W fun e w' => e= .returned (.int .i64 0)∧∃lo',VV w' vb tb (nsPut ns i (some (addO nd 1))) lo' (c+1)∧TFr lo lo' W w' :=fun W hB=> by
  have hW:=h.below hB
  refine (open_yes hW.1.2.1 i nd hi ho.1 ho.2).mono ?_
  rintro e w' ⟨rfl,hT,hF⟩
  exact ⟨rfl,lo,⟨(hW.1.step hT hF).le (by omega),h.2.opened hi⟩,hF⟩
 have H:=Lib.hid (And.intro hB0 (And.intro hbv (And.intro h (And.intro hd hop))))
 clear h hB0 hbv hl hw hn hd hop hi ho
 generalize B l=L at*
 generalize hI:(i:Int)=I at*
 unfold flB at hf
 go_enter Tryz.func79,Tryz.ntmps79
 go_wp2_with (first
  | (go_at_call 70;(with_reducible refine hwk.mono ?_);rintro e w1 ⟨rfl,hB⟩;have hb1:=(Blk.below hB H.out.2.1 H.out.2.1.lt).alloc (.cells #[.int .i64 I] 3);clear c0;have c0:=hb1.rd;have c1:=(Blk.new w1 #[.int .i64 I] 3).rd;have hz1:=(Blk.below hB H.out.2.1 H.out.2.1.lt).lt;have hb:=H.out.1.trans (hB.mono H.out.1.size);have hb2:=hb.alloc hb.size (.cells #[.int .i64 I] 3);have hid:=isdir_is (H.out.2.2.1.below hb2).1 I false H.out.2.2.2.1;have H1:=Lib.hid (And.intro hb2 hb1);clear hB hwk hb1 hb hb2)
  | (go_at_call 86;(with_reducible refine hid.mono ?_);rintro e w2 ⟨rfl,hB⟩;have hb:=H1.out.1.trans (hB.mono H1.out.1.size);have k0:=Blk.below hB H1.out.2 H1.out.2.lt;have k1:=Blk.below hB (Blk.new w1 #[.int .i64 I] 3) (Blk.new w1 #[.int .i64 I] 3).lt;have cv:=(H.out.2.2.1.below hb).1.cell;have c0:=k0.rd;have c1:=k1.rd;have f0:=k0.nf;have H2:=Lib.hid hb;clear hB hid hb k0 k1))
 go_still_tail 5,(by kernel_rfl)
 change wpList _ _ _ _ _ w2.drew
 have hbd:Below w.heap.size w w2.drew:=H2.out.drew
 have hop:=H.out.2.2.2.2 _ hbd
 have c1' :w2.drew.cell? ⟨w1.heap.size,0,none⟩=some (.int .i64 I):=c1 0
 have hlt:=H.out.2.2.1.lts.2.1
 have H3:=Lib.hid hbd
 clear hbd c0 c1 cv f0
 generalize w2.drew=w3 at*
 go_wp2_with (go_at_call 134;(with_reducible refine hop.mono ?_);rintro e w4 ⟨rfl,lo4,hV,hF⟩;have c4:w4.cell? ⟨w1.heap.size,0,none⟩=some (.int .i64 I):=cell_upd hF.1 c1' (fun ⟨r,hr⟩=> by have:w1.heap.size < w.heap.size:=hlt r _ hr;omega);have H4:=Lib.hid (And.intro hV hF);clear hop hV hF)
 go_returns
 exact ⟨rfl,lo4,H4.out.1,(TFr.of_below H3.out).trans H4.out.2⟩
end
end Go.Proofs.YtjpjafajploiaaaGreatDoor
/-
 Open of a file,cut (FlagFresh).
-/
namespace Go.Proofs.YtjpjafajploiaaaGreatDoor
open Go.RowKit Own RegJ Two
open Go.Lib hiding intOf
section
variable {w w' :World} {vb tb:Nat} {ns ns' :NSt} {lo lo' :Lo} {N c d:Nat}
theorem cut_f [Inhabited CapT] (h:VV w vb tb ns lo c) (sb:Nat) (hsb:lo (.st .sto)=some sb) (i:Nat) (nd:Nd) (hi:ns i=some nd) (hd:nd.dir=false):
  Calls Tryz.prog 133 #[.pointer (some ⟨sb,0,none⟩),.int .i64 i] w fun e w' => e= .returned (.int .i64 0)∧∃lo',VV w' vb tb (nsPut ns i (some (setB nd []))) lo' c∧TFr lo lo' w w' :=by
 have hfs:filesOf ns i=some nd.bs:=by unfold filesOf;rw [hi];simp [hd]
 have hSN:SameN ns (nsPut ns i (some (setB nd []))):=Or.inr ⟨i,nd,[],hi,hd,rfl⟩
 have hcut:=s_cut h.1.2.1.sto sb hsb i nd.bs hfs
 rw [←files_put hi hd []] at hcut
 refine hcut.mono ?_
 rintro e w' ⟨rfl,so,hS,hF,hs1,hs2⟩
 have hT:=h.1.2.1.store hS hF hs1 hSN.cond.1 hSN.cond.2
 have hTF:TFr lo (loSt lo so) w w' :=by
  refine ⟨hF.1.mono (fun k _ ⟨q,hq⟩=> ⟨.st q,hq⟩),fun r k hk=> ?_,hs1,hs2⟩
  rcases loSt_old hk with ⟨q,rfl,e⟩ | ⟨e,_⟩
  ·rcases hF.2 q k e with ⟨q',e⟩ | e
   ·exact Or.inl ⟨.st q',e⟩
   ·exact Or.inr e
  ·exact Or.inl ⟨r,e⟩
 exact ⟨rfl,_,⟨h.1.step hT hTF,hSN.iv h.2⟩,hTF⟩
set_option maxRecDepth 100000 in
theorem open_fresh [Inhabited CapT] (h:VV w vb tb ns lo c) (hc:c≤9000) (l:Txt) (hl:l.length≤100000) (i:Nat) (hw:walkR ns l=((i:Int),0)) (nd:Nd) (hi:ns i=some nd) (hd:nd.dir=false) (n:Int) (hn:0≤n∧n≤7) (hf:flB n=true):Calls Tryz.prog 79 #[.pointer (some ⟨vb,0,none⟩),.string (B l),.int .i64 n] w (MadP w vb tb (nsPut ns i (some (addO (setB nd []) 1))) lo (c+1) (.tuple #[.int .i64 i,.int .i64 0])):=by
 have hB0:Below w.heap.size w (w.alloc (.cells #[.pointer (some ⟨vb,0,none⟩)] 66)):=(Below.refl _ _).alloc (Nat.le_refl _) _
 have hwk:=walk_is (h.below hB0).1 l hl i 0 hw
 have hbv:=Blk.new w #[.pointer (some ⟨vb,0,none⟩)] 66
 have c0:=hbv.rd
 have n1:¬n < 0:=by omega
 have n2:¬7 < n:=by omega
 have hdir:isDirF ns i=false:=by unfold isDirF;rw [(by unfold ndAt;simp [hi]:ndAt ns (i:Int)=some nd)];exact hd
 obtain ⟨sb,hsb,_⟩:=h.1.cell0
 have hct:∀W,Below w.heap.size w W→W.cell? ⟨vb,0,none⟩=some (.pointer (some ⟨sb,0,none⟩))∧Calls Tryz.prog 133 #[.pointer (some ⟨sb,0,none⟩),.int .i64 i] W fun e w' => e= .returned (.int .i64 0)∧∃lo',VV w' vb tb (nsPut ns i (some (setB nd []))) lo' c∧TFr lo lo' W w' :=fun W hB=> by
  have hW:=h.below hB
  obtain ⟨sb2,h1,h2⟩:=hW.1.cell0
  rw [hsb] at h1;cases h1
  exact ⟨h2,cut_f hW sb hsb i nd hi hd⟩
 have hop:∀W lo1,VV W vb tb (nsPut ns i (some (setB nd []))) lo1 c→Calls Tryz.prog 134 #[.pointer (some ⟨tb,0,none⟩),.int .i64 i] W fun e w' => e= .returned (.int .i64 0)∧∃lo',VV w' vb tb (nsPut ns i (some (addO (setB nd []) 1))) lo' (c+1)∧TFr lo1 lo' W w' :=fun W lo1 hW=> by
  have hi2:nsPut ns i (some (setB nd [])) i=some (setB nd []):=put_eq _ _ _
  have e2:nsPut (nsPut ns i (some (setB nd []))) i (some (addO (setB nd []) 1))=nsPut ns i (some (addO (setB nd []) 1)):=by
   funext j
   by_cases hj:j=i
   ·subst hj;rw [put_eq,put_eq]
   ·rw [put_ne _ _ _ hj,put_ne _ _ _ hj,put_ne _ _ _ hj]
  refine (open_yes hW.1.2.1 i _ hi2 (hW.2.inv.opn i _ hi2) (by have:=hW.2.opn i _ hi2;omega)).mono ?_
  rintro e w' ⟨rfl,hT,hF⟩
  have hV:=(⟨(hW.1.step hT hF).le (by omega),hW.2.opened hi2⟩:VV w' vb tb _ lo1 (c+1))
  rw [e2] at hV
  exact ⟨rfl,lo1,hV,hF⟩
 have H:=Lib.hid (And.intro hB0 (And.intro hbv (And.intro h (And.intro hdir (And.intro hct hop)))))
 clear h hB0 hbv hl hw hn hd hop hi hdir hct hsb
 generalize B l=L at*
 generalize hI:(i:Int)=I at*
 unfold flB at hf
 go_enter Tryz.func79,Tryz.ntmps79
 go_wp2_with (first
  | (go_at_call 70;(with_reducible refine hwk.mono ?_);rintro e w1 ⟨rfl,hB⟩;have hb1:=(Blk.below hB H.out.2.1 H.out.2.1.lt).alloc (.cells #[.int .i64 I] 3);clear c0;have c0:=hb1.rd;have c1:=(Blk.new w1 #[.int .i64 I] 3).rd;have hz1:=(Blk.below hB H.out.2.1 H.out.2.1.lt).lt;have hb:=H.out.1.trans (hB.mono H.out.1.size);have hb2:=hb.alloc hb.size (.cells #[.int .i64 I] 3);have hid:=isdir_is (H.out.2.2.1.below hb2).1 I false H.out.2.2.2.1;have H1:=Lib.hid (And.intro hb2 hb1);clear hB hwk hb1 hb hb2)
  | (go_at_call 86;(with_reducible refine hid.mono ?_);rintro e w2 ⟨rfl,hB⟩;have hb:=H1.out.1.trans (hB.mono H1.out.1.size);have k0:=Blk.below hB H1.out.2 H1.out.2.lt;have k1:=Blk.below hB (Blk.new w1 #[.int .i64 I] 3) (Blk.new w1 #[.int .i64 I] 3).lt;have cv:=(H.out.2.2.2.2.1 _ hb).1;have c0:=k0.rd;have c1:=k1.rd;have f0:=k0.nf;have hz2:=k1.lt;have H2:=Lib.hid hb;clear hB hid hb k0 k1))
 go_still_tail 5,(by kernel_rfl)
 change wpList _ _ _ _ _ w2.drew
 have hbd:Below w.heap.size w w2.drew:=H2.out.drew
 have hcut:=(H.out.2.2.2.2.1 _ hbd).2
 have c0' :w2.drew.cell? ⟨w.heap.size,0,none⟩=some (.pointer (some ⟨vb,0,none⟩)):=c0 0
 have c1' :w2.drew.cell? ⟨w1.heap.size,0,none⟩=some (.int .i64 I):=c1 0
 have hlt:=H.out.2.2.1.lts.2.1
 have hzz:w1.heap.size < w2.drew.heap.size:=hz2
 have H3:=Lib.hid hbd
 clear hbd c0 c1 cv f0
 generalize w2.drew=w3 at*
 go_wp2_with (go_at_call 133;(with_reducible refine hcut.mono ?_);rintro e w4 ⟨rfl,lo4,hV,hF⟩;have c4:w4.cell? ⟨w1.heap.size,0,none⟩=some (.int .i64 I):=cell_upd hF.1 c1' (fun ⟨r,hr⟩=> by have:w1.heap.size < w.heap.size:=hlt r _ hr;omega);have c5:w4.cell? ⟨w.heap.size,0,none⟩=some (.pointer (some ⟨vb,0,none⟩)):=cell_upd hF.1 c0' (fun ⟨r,hr⟩=> by have:w.heap.size < w.heap.size:=hlt r _ hr;omega);have cv:=hV.1.cell;have hlt4:∀r k,lo4 r=some k→k≠w1.heap.size:=(fun r k hk e=> (hF.2.1 r k hk).elim (fun ⟨r',hr'⟩=> by have:=hlt r' _ hr';omega) (fun h=> by omega));have H4:=Lib.hid (And.intro hV hF);clear hcut hV hF c0' c1')
 go_still_tail 5,(by kernel_rfl)
 change wpList _ _ _ _ _ w4.drew
 have hop:=H.out.2.2.2.2.2 w4.drew lo4 (H4.out.1.below (Below.refl _ _).drew)
 have c4' :w4.drew.cell? ⟨w1.heap.size,0,none⟩=some (.int .i64 I):=c4
 have hF4:TFr lo lo4 w3 w4.drew:=H4.out.2.trans (TFr.of_below (Below.refl _ _).drew)
 have H5:=Lib.hid hF4
 clear c4 c5 cv hF4
 generalize w4.drew=w5 at*
 go_wp2_with (go_at_call 134;(with_reducible refine hop.mono ?_);rintro e w6 ⟨rfl,lo6,hV,hF⟩;have c6:w6.cell? ⟨w1.heap.size,0,none⟩=some (.int .i64 I):=cell_upd hF.1 c4' (fun ⟨r,hr⟩=> hlt4 r _ hr rfl);have H6:=Lib.hid (And.intro hV hF);clear hop hV hF)
 go_returns
 exact ⟨rfl,lo6,H6.out.1,((TFr.of_below H3.out).trans H5.out).trans H6.out.2⟩
end
end Go.Proofs.YtjpjafajploiaaaGreatDoor
/-
 Open that makes a file,with any flags;Open of any path (openF).
-/
namespace Go.Proofs.YtjpjafajploiaaaGreatDoor
open Go.RowKit Own RegJ Two
open Go.Lib hiding intOf
section
variable {w w' :World} {vb tb:Nat} {ns ns' :NSt} {lo lo' :Lo} {N c d:Nat}
theorem refs_ge {ns:NSt} {i:Nat} {nd:Nd} (hi:ns i=some nd) (m:Nat):∀k,i < k→cntE nd.es m≤refs ns m k
 | 0,h=> by omega
 | k+1,h=> by
  unfold refs
  by_cases e:i=k
  ·subst e;rw [hi];unfold cntO;simp
  ·have:=refs_ge hi m k (by omega);omega
theorem entry_live (hV:IV ns c) {i:Nat} {nd:Nd} (hi:ns i=some nd) {x:En} (hx:x∈nd.es):∃k nk,x.2=((k:Nat):Int)∧ns k=some nk:=by
 have hid:=hV.inv.ids i nd hi x hx
 refine ⟨x.2.toNat,?_⟩
 have h16:i < 16:=Nat.lt_of_not_le fun h=> by rw [hV.inv.far i h] at hi;cases hi
 cases hk:ns x.2.toNat with
 | some nk=> exact ⟨nk,by omega,rfl⟩
 | none=>
  exfalso
  have h1:=hV.inv.cnt x.2.toNat
  have h2:=refs_ge hi x.2.toNat 16 h16
  unfold lnk at h1
  rw [hk] at h1
  have h3:0 < cntE nd.es x.2.toNat:=by
   unfold cntE
   rw [List.count_pos_iff,Int.toNat_of_nonneg (by omega)]
   exact List.mem_map_of_mem hx
  simp only [List.count_nil] at h1
  omega
theorem walkL_nd (hV:IV ns c):∀(l:List Txt) (i:Nat) (nd:Nd),ns i=some nd→∀a,walkL ns i l=(a,0)→∃k nk,a=((k:Nat):Int)∧ns k=some nk
 | [],i,nd,hi,a,h=> by unfold walkL at h;cases h;exact ⟨i,nd,rfl,hi⟩
 | x::r,i,nd,hi,a,h=> by
  unfold walkL at h
  by_cases h0:(findR ns i x).2=0
  ·rw [if_pos h0] at h
   unfold findR at h0 h
   cases hd:dirAt ns i with
   | none=> rw [hd] at h0;simp at h0
   | some nd2=>
    rw [hd] at h0 h
    simp only at h0 h
    obtain ⟨i2,e2,hi2,_⟩:=dirAt_some hd
    cases hf:fndE nd2.es x with
    | none=> rw [hf] at h0;simp at h0
    | some k=>
     rw [hf] at h
     simp only at h
     unfold fndE at hf
     rw [Option.map_eq_some_iff] at hf
     obtain ⟨y,hy,rfl⟩:=hf
     obtain ⟨k,nk,e,hk⟩:=entry_live hV hi2 (List.mem_of_find?_eq_some hy)
     rw [e] at h
     exact walkL_nd hV r k nk hk a h
  ·rw [if_neg h0] at h
   exact absurd (congrArg Prod.snd h) h0
theorem walkR_nd (hV:IV ns c) {l:Txt} {a:Int} (h:walkR ns l=(a,0)):∃k nk,a=((k:Nat):Int)∧ns k=some nk:=by
 unfold walkR at h
 by_cases h0:splitE l=0
 ·rw [if_pos h0] at h
  obtain ⟨nd,hr⟩:=Option.isSome_iff_exists.mp hV.root
  exact walkL_nd hV _ 0 nd hr a h
 ·rw [if_neg h0] at h
  exact absurd (congrArg Prod.snd h) h0
theorem walkL_no {ns:NSt}:∀(l:List Txt) (id a e0:Int),walkL ns id l=(a,e0)→e0≠0→a=0
 | [],id,a,e0,h,he=> by unfold walkL at h;exact absurd (congrArg Prod.snd h).symm he
 | x::r,id,a,e0,h,he=> by
  unfold walkL at h
  by_cases h0:(findR ns id x).2=0
  ·rw [if_pos h0] at h;exact walkL_no r _ a e0 h he
  ·rw [if_neg h0] at h;exact (congrArg Prod.fst h).symm
theorem walkR_no {ns:NSt} {l:Txt} {a e0:Int} (h:walkR ns l=(a,e0)) (he:e0≠0):a=0:=by
 unfold walkR at h
 by_cases h0:splitE l=0
 ·rw [if_pos h0] at h;exact walkL_no _ _ _ _ h he
 ·rw [if_neg h0] at h;exact (congrArg Prod.fst h).symm
set_option maxRecDepth 100000 in
theorem open_made [Inhabited CapT] (h:VV w vb tb ns lo c) (hc:c≤9000) (l:Txt) (hl:l.length≤100000) (hw:walkR ns l=(0,9)) (n:Int) (hn:0≤n∧n≤7) (hf:flA n=true) (m1 m2:Int) (ns' :NSt) (hm:newF ns l=(m1,m2,ns')):
  Calls Tryz.prog 79 #[.pointer (some ⟨vb,0,none⟩),.string (B l),.int .i64 n] w (MadP w vb tb ns' lo (c+3) (.tuple #[.int .i64 m1,.int .i64 m2])):=by
 have n1:¬n < 0:=by omega
 have n2:¬7 < n:=by omega
 unfold flA at hf
 have hl0:=h.lts
 have hB0:Below w.heap.size w (w.alloc (.cells #[.pointer (some ⟨vb,0,none⟩)] 66)):=(Below.refl _ _).alloc (Nat.le_refl _) _
 have hwk:=walk_is (h.below hB0).1 l hl 0 9 hw
 have hbv:=Blk.new w #[.pointer (some ⟨vb,0,none⟩)] 66
 have c0:=hbv.rd
 have hpar:∀w1,Below w.heap.size (w.alloc (.cells #[.pointer (some ⟨vb,0,none⟩)] 66)) w1→w1.cell? ⟨w.heap.size,0,none⟩=some (.pointer (some ⟨vb,0,none⟩))→w.heap.size < w1.heap.size→Calls Tryz.prog 87 #[.pointer (some ⟨vb,0,none⟩),.string (B l),.func (.func 131) #[] #[.pointer (some ⟨w.heap.size,0,none⟩),.pointer (some ⟨w1.heap.size,0,none⟩)]] (w1.alloc (.cells #[.int .i64 0] 3))
   fun e w2=> ∃r,e= .returned (.int .i64 r)∧OKP (w1.alloc (.cells #[.int .i64 0] 3)) vb tb ns' lo (c+3) w1.heap.size m1 m2 r w2:=fun w1 hB1 hcv hsz=> by
  have hBw:Below w.heap.size w w1:=hB0.trans hB1
  have hBn:=hBw.alloc hBw.size (.cells #[.int .i64 0] 3)
  have h2:=h.below hBn
  have hbi:=Blk.new w1 #[.int .i64 0] 3
  refine par_OpenF h2 l hl _ _ _ (fun E w3 hB3 hE hE0=> ?_) (fun hE w3 hB3=> ?_)
  ·unfold newF at hm
   rw [if_neg (by rw [hE];exact hE0),hE] at hm
   cases hm
   exact ⟨rfl,(Blk.below hB3 hbi hbi.lt).cell rfl,lo,(h2.below hB3).le (by omega),Upd.of_below hB3,fun r k hk=> Or.inl ⟨r,hk⟩,rfl,rfl⟩
  ·unfold newF at hm
   rw [if_pos hE] at hm
   have hcv2:w3.cell? ⟨w.heap.size,0,none⟩=some (.pointer (some ⟨vb,0,none⟩)):=cell_upd (Upd.of_below (F:=fun _=> False) hB3) (cell_upd ((Upd.refl (fun _=> False) w1).alloc _) hcv (fun h=> h)) (fun h=> h)
   refine (openK_is (h2.below hB3) hc w.heap.size w1.heap.size hcv2 ⟨_,Blk.below hB3 hbi hbi.lt⟩ (fun r hr=> ?_) (by omega) (by omega) _ _ m1 m2 ns' hm).mono ?_
   ·have:=hl0.2.1 r _ hr;omega
   ·rintro e w4 ⟨r,rfl,h1,h2,lo',h3,h4,h5⟩
    have hz:=hB3.size
    exact ⟨r,rfl,h1,h2,lo',h3,(Upd.of_below hB3).trans h4 (fun _ _ e=> e),fun r k hk=> (h5.1 r k hk).elim Or.inl (fun e=> Or.inr (by omega)),h5.2⟩
 have H:=Lib.hid (And.intro h (And.intro hB0 (And.intro hpar (And.intro hbv hl0))))
 clear h hB0 hpar hbv hl hw hm hl0
 generalize B l=L at*
 go_enter Tryz.func79,Tryz.ntmps79
 go_wp2_with (first
  | (go_at_call 70;(with_reducible refine hwk.mono ?_);rintro e w1 ⟨rfl,hB⟩;have hb1:=Blk.below hB H.out.2.2.2.1 H.out.2.2.2.1.lt;clear c0;have c0:=(hb1.alloc (.cells #[.int .i64 0] 3)).rd;have hbw:Below w.heap.size (w.alloc (.cells #[.pointer (some ⟨vb,0,none⟩)] 66)) w1:=hB.mono (by simp);have hp:=H.out.2.2.1 w1 hbw (hb1.cell rfl) hb1.lt;have H1:=Lib.hid (And.intro hbw hb1);clear hB hwk hb1 hbw)
  | (go_at_call 87;(with_reducible refine hp.mono ?_);rintro e w2 ⟨r,rfl,rfl,c2,hq⟩;have H2:=Lib.hid hq;clear hp hq))
 go_returns
 obtain ⟨lo',h3,h4,h5⟩:=H2.out
 have hz1:=H1.out.2.lt
 refine ⟨rfl,lo',h3,?_,fun r k hk=> (h5.1 r k hk).elim Or.inl (fun e=> Or.inr ?_),h5.2⟩
 ·have hBw:Below w.heap.size w w1:=H.out.2.1.trans H1.out.1
  exact (Upd.of_below (hBw.alloc hBw.size (.cells #[.int .i64 0] 3))).trans h4 (fun i hi e=> e.elim id (fun e=> by omega))
 ·simp at e;omega
def openF (ns:NSt) (l:Txt) (n:Int):Int×Int×NSt:=if n < 0∨7 < n then (0,19,ns) else if (walkR ns l).2=9∧flA n=true then newF ns l else if (walkR ns l).2≠0 then (0,(walkR ns l).2,ns) else match ndAt ns (walkR ns l).1 with
 | none=> (0,0,ns)
 | some nd=> if nd.dir=true then (0,12,ns) else ((walkR ns l).1,0,nsPut ns (walkR ns l).1.toNat (some (addO (if flB n=true then setB nd [] else nd) 1)))
theorem Open_is [Inhabited CapT] (h:VV w vb tb ns lo c) (hc:c≤9000) (l:Txt) (hl:l.length≤100000) (n m1 m2:Int) (ns' :NSt) (hm:openF ns l n=(m1,m2,ns')):
  Calls Tryz.prog 79 #[.pointer (some ⟨vb,0,none⟩),.string (B l),.int .i64 n] w (MadP w vb tb ns' lo (c+3) (.tuple #[.int .i64 m1,.int .i64 m2])):=by
 have hquiet:∀ {v:Value} {e:Ending} {w2:World},e= .returned v∧Below w.heap.size w w2→MadP w vb tb ns lo (c+3) v e w2:=fun {v e w2} hh=> ⟨hh.1,lo,(h.below hh.2).le (by omega),TFr.of_below hh.2⟩
 unfold openF at hm
 by_cases hb:n < 0∨7 < n
 ·rw [if_pos hb] at hm;cases hm
  exact (open_bad vb (B l) n hb).mono fun e w2 hh=> hquiet hh
 ·rw [if_neg hb] at hm
  obtain ⟨a,e0,hw⟩:∃a e0,walkR ns l=(a,e0):=⟨_,_,rfl⟩
  rw [hw] at hm
  simp only at hm
  by_cases h9:e0=9∧flA n=true
  ·rw [if_pos h9] at hm
   obtain ⟨rfl,hf⟩:=h9
   have ha:a=0:=walkR_no hw (by decide)
   subst ha
   exact open_made h hc l hl hw n (by omega) hf m1 m2 ns' hm
  ·rw [if_neg h9] at hm
   by_cases h0:e0=0
   ·subst h0
    rw [if_neg (by simp)] at hm
    obtain ⟨k,nk,rfl,hk⟩:=walkR_nd h.2 hw
    have hnd:ndAt ns (k:Int)=some nk:=by unfold ndAt;simp [hk]
    rw [hnd] at hm
    simp only [Int.toNat_natCast] at hm
    by_cases hd:nk.dir=true
    ·rw [if_pos hd] at hm;cases hm
     exact (open_dir h l hl _ hw (by unfold isDirF;rw [hnd];exact hd) n (by omega)).mono fun e w2 hh=> hquiet hh
    ·have hd' :nk.dir=false:=by simpa using hd
     rw [if_neg hd] at hm
     by_cases hf:flB n=true
     ·rw [if_pos hf] at hm;cases hm
      refine (open_fresh h hc l hl k hw nk hk hd' n (by omega) hf).mono ?_
      rintro e w2 ⟨g1,lo2,g2,g3⟩
      exact ⟨g1,lo2,g2.le (by omega),g3⟩
     ·rw [if_neg hf] at hm;cases hm
      refine (open_old h hc l hl k hw nk hk (by unfold isDirF;rw [hnd];exact hd') n (by omega) (by simpa using hf)).mono ?_
      rintro e w2 ⟨g1,lo2,g2,g3⟩
      exact ⟨g1,lo2,g2.le (by omega),g3⟩
   ·rw [if_pos h0] at hm;cases hm
    refine (open_err h l hl a _ hw h0 n (by omega) (fun e=> ?_)).mono fun e w2 hh=> hquiet hh
    cases hx:flA n with
    | false=> rfl
    | true=> exact absurd ⟨e,hx⟩ h9
end
end Go.Proofs.YtjpjafajploiaaaGreatDoor
namespace Go.Proofs.YtjpjafajploiaaaGreatDoor
open Go.RowKit Own RegJ Two
open Go.Lib hiding intOf
structure Th where
 pp:Bool
 wr:Bool
 id:Int
 pl:Int
 en:Bool
 nm:Int
structure FS where
 pr:Int→Option Nat
 sl:Nat→Nat→Option Nat
 th:Nat→Option Th
def fs00:FS:=⟨fun _=> none,fun _ _=> none,fun _=> none⟩
def ptb (x:Option Nat):Value:= .pointer (x.map fun b=> ⟨b,0,none⟩)
abbrev thC (t:Th):Array Value:= #[.bool t.pp,.bool t.wr,.int .i64 t.id,.int .i64 t.pl,.bool t.en,.int .i64 t.nm]
abbrev slC (f:Nat→Option Nat):Array Value:= #[ptb (f 0),ptb (f 1),ptb (f 2),ptb (f 3),ptb (f 4),ptb (f 5),ptb (f 6),ptb (f 7)]
theorem slC_at (f:Nat→Option Nat) {d:Nat} (h:d < 8):(slC f)[d]? =some (ptb (f d)):=by
 have:d=0∨d=1∨d=2∨d=3∨d=4∨d=5∨d=6∨d=7:=by omega
 rcases this with rfl | rfl | rfl | rfl | rfl | rfl | rfl | rfl <;> rfl
def upN {α:Type} (f:Nat→α) (d:Nat) (x:α):Nat→α:=fun k=> if k=d then x else f k
theorem upN_eq {α:Type} (f:Nat→α) (d:Nat) (x:α):upN f d x d=x:=if_pos rfl
theorem upN_ne {α:Type} (f:Nat→α) {d k:Nat} (x:α) (h:k≠d):upN f d x k=f k:=if_neg h
theorem slC_set (f:Nat→Option Nat) {d:Nat} (h:d < 8) (x:Option Nat):(slC f).setIfInBounds d (ptb x)=slC (upN f d x):=by
 have:d=0∨d=1∨d=2∨d=3∨d=4∨d=5∨d=6∨d=7:=by omega
 rcases this with rfl | rfl | rfl | rfl | rfl | rfl | rfl | rfl <;> rfl
def Ow (fdb mb:Nat) (S:FS) (k:Nat):Prop:=k=fdb∨k=mb∨(∃i,S.pr i=some k)∨(S.th k).isSome=true
structure FdB (w:World) (fdb vb pb mb:Nat) (N:Nat) (S:FS):Prop where
 f:Blk w fdb #[.pointer (some ⟨vb,0,none⟩),.pointer (some ⟨pb,0,none⟩),.map (some mb)] 154
 m:∃n s,MapI w Tryz.prog 3 mb n s (fun i=> (S.pr i).map fun b=> .pointer (some ⟨b,0,none⟩))∧n≤N
 t:∀i b,S.pr i=some b→Blk w b (slC (S.sl b)) 164
 x:∀b t,S.th b=some t→Blk w b (thC t) 173
 r:∀i b,S.pr i=some b→∀d x,d < 8→S.sl b d=some x→∃t,S.th x=some t
 j:∀i j b,S.pr i=some b→S.pr j=some b→i=j
section
variable {w w' :World} {fdb vb pb mb N:Nat} {S:FS}
theorem FdB.lt (h:FdB w fdb vb pb mb N S) {k:Nat} (hk:Ow fdb mb S k):k < w.heap.size:=by
 rcases hk with rfl | rfl | ⟨i,hi⟩ | hx
 ·exact h.f.lt
 ·obtain ⟨n,s,hm,_⟩:=h.m;exact hm.lt
 ·exact (h.t i k hi).lt
 ·obtain ⟨t,ht⟩:=Option.isSome_iff_exists.1 hx;exact (h.x k t ht).lt
theorem FdB.upd {F:Nat→Prop} (h:FdB w fdb vb pb mb N S) (hu:Upd F w w') (hF:∀k,Ow fdb mb S k→¬F k):FdB w' fdb vb pb mb N S:=by
 obtain ⟨n,s,hm,hn⟩:=h.m
 exact ⟨Blk.upd hu h.f (hF _ (.inl rfl)),⟨n,s,hm.upd hu (hF _ (.inr (.inl rfl))),hn⟩,fun i b hi=> Blk.upd hu (h.t i b hi) (hF _ (.inr (.inr (.inl ⟨i,hi⟩)))),fun b t ht=> Blk.upd hu (h.x b t ht) (hF _ (.inr (.inr (.inr (by rw [ht];rfl))))),h.r,h.j⟩
theorem FdB.below (h:FdB w fdb vb pb mb N S) (hB:Below w.heap.size w w'):FdB w' fdb vb pb mb N S:=h.upd (Upd.of_below (F:=fun _=> False) hB) (fun _ _ h=> h)
theorem FdB.slot (h:FdB w fdb vb pb mb N S) {i:Int} {b d:Nat} (hi:S.pr i=some b) (hd:d < 8):w.cell? ⟨b,d,none⟩=some (ptb (S.sl b d)):=((h.t i b hi).rd d).trans (slC_at _ hd)
end
def FX [Inhabited CapT] (w0:World) (O:Nat→Prop) (fdb vb tb fb sb pb mb:Nat) (ns:NSt) (c N:Nat) (S:FS) (w:World):Prop:=
 ∃lo,VV w vb tb ns lo c∧Below w0.heap.size w0 w∧(∀k,O k→w0.heap.size≤k∧k < w.heap.size)∧(∀r k,lo r=some k→O k)∧lo (.st .frm)=some fb∧lo (.st .sto)=some sb∧
  FdB w fdb vb pb mb N S∧∀k,Ow fdb mb S k→O k∧(∀r,lo r≠some k)∧k≠vb∧k≠0
def FP [Inhabited CapT] (w0:World) (O:Nat→Prop) (fdb vb tb fb sb pb mb:Nat) (ns:NSt) (c N:Nat) (S:FS) (w:World) (v:Value) (e:Ending) (w' :World):Prop:=
 e= .returned v∧Upd O w w' ∧∃O',FX w0 O' fdb vb tb fb sb pb mb ns c N S w' ∧∀k,O' k→O k∨w.heap.size≤k
section
variable {w0 w w' :World} {O O' :Nat→Prop} {fdb vb tb fb sb pb mb:Nat} {ns ns' :NSt} {c c' N N' :Nat} {S S' :FS} {lo lo' :Lo}
theorem FX.dv [Inhabited CapT] (h:FX w0 O fdb vb tb fb sb pb mb ns c N S w):DV w0 vb tb fb sb ns c w:=by
 obtain ⟨lo,h1,h2,h3,h4,h5,h6,_⟩:=h
 exact ⟨lo,h1,h2,fun r k hk=> (h3 k (h4 r k hk)).1,h5,h6⟩
theorem FX.fd [Inhabited CapT] (h:FX w0 O fdb vb tb fb sb pb mb ns c N S w):FdB w fdb vb pb mb N S:=by
 obtain ⟨lo,_,_,_,_,_,_,h7,_⟩:=h
 exact h7
theorem FX.bel [Inhabited CapT] (h:FX w0 O fdb vb tb fb sb pb mb ns c N S w):Below w0.heap.size w0 w:=by
 obtain ⟨lo,_,h2,_⟩:=h
 exact h2
theorem FX.rng [Inhabited CapT] (h:FX w0 O fdb vb tb fb sb pb mb ns c N S w):∀k,O k→w0.heap.size≤k∧k < w.heap.size:=by
 obtain ⟨lo,_,_,h3,_⟩:=h
 exact h3
theorem FX.below [Inhabited CapT] (h:FX w0 O fdb vb tb fb sb pb mb ns c N S w) (hB:Below w.heap.size w w'):FX w0 O fdb vb tb fb sb pb mb ns c N S w' :=by
 obtain ⟨lo,h1,h2,h3,h4,h5,h6,h7,h8⟩:=h
 exact ⟨lo,h1.below hB,h2.trans (hB.mono h2.size),fun k hk=> ⟨(h3 k hk).1,Nat.lt_of_lt_of_le (h3 k hk).2 hB.size⟩,h4,h5,h6,h7.below hB,h8⟩
theorem FX.le [Inhabited CapT] (h:FX w0 O fdb vb tb fb sb pb mb ns c N S w) (hc:c≤c'):FX w0 O fdb vb tb fb sb pb mb ns c' N S w:=by
 obtain ⟨lo,h1,h2⟩:=h
 exact ⟨lo,h1.le hc,h2⟩
theorem FX.far [Inhabited CapT] (h:FX w0 O fdb vb tb fb sb pb mb ns c N S w) {g:Nat} (hg:w.heap.size≤g):¬O g:=fun hk=> by have:=(h.rng g hk).2;omega
theorem FP.same [Inhabited CapT] {v:Value} (h:FX w0 O fdb vb tb fb sb pb mb ns c N S w) (hB:Below w.heap.size w w'):FP w0 O fdb vb tb fb sb pb mb ns c N S w v (.returned v) w' :=
 ⟨rfl,Upd.of_below hB,O,h.below hB,fun k hk=> .inl hk⟩
theorem FP.ahead [Inhabited CapT] {v:Value} {e:Ending} {w1:World} (hB:Below w.heap.size w w1) (h:FP w0 O fdb vb tb fb sb pb mb ns c N S w1 v e w'):FP w0 O fdb vb tb fb sb pb mb ns c N S w v e w' :=by
 obtain ⟨h1,h2,O',h3,h4⟩:=h
 exact ⟨h1,(Upd.of_below hB).trans h2 (fun _ _ h=> h),O',h3,fun k hk=> (h4 k hk).imp id (fun h=> Nat.le_trans hB.size h)⟩
theorem FX.step [Inhabited CapT] (h1:VV w vb tb ns lo c) (h2:Below w0.heap.size w0 w) (h3:∀k,O k→w0.heap.size≤k∧k < w.heap.size) (h4:∀r k,lo r=some k→O k) (h5:lo (.st .frm)=some fb) (h6:lo (.st .sto)=some sb) (h7:FdB w fdb vb pb mb N S)
  (h8:∀k,Ow fdb mb S k→O k∧(∀r,lo r≠some k)∧k≠vb∧k≠0) (hV:VV w' vb tb ns' lo' c') (hF:TFr lo lo' w w') (v:Value):FP w0 O fdb vb tb fb sb pb mb ns' c' N S w v (.returned v) w' :=by
 have hu:Upd O w w' :=hF.1.mono (fun k _ ⟨r,hr⟩=> h4 r k hr)
 have hs:=hF.1.size
 refine ⟨rfl,hu,fun k=> O k∨(w.heap.size≤k∧k < w'.heap.size),⟨lo',hV,h2.trans (hu.below h2.size (fun k hk=> (h3 k hk).1)),fun k hk=> ?_,fun r k hr=> ?_,hF.2.2.2.trans h5,hF.2.2.1.trans h6,h7.upd hF.1 (fun k hk ⟨r,hr⟩=> (h8 k hk).2.1 r hr),fun k hk=> ⟨.inl (h8 k hk).1,fun r hr=> ?_,(h8 k hk).2.2⟩⟩,fun k hk=> hk.imp id (·.1)⟩
 ·rcases hk with hk | hk
  ·exact ⟨(h3 k hk).1,Nat.lt_of_lt_of_le (h3 k hk).2 hs⟩
  ·exact ⟨Nat.le_trans h2.size hk.1,hk.2⟩
 ·rcases hF.2.1 r k hr with ⟨q,hq⟩ | hq
  ·exact .inl (h4 q k hq)
  ·exact .inr ⟨hq,hV.lts.2.1 r k hr⟩
 ·rcases hF.2.1 r k hr with ⟨q,hq⟩ | hq
  ·exact (h8 k hk).2.1 q hq
  ·have:=h7.lt hk
   omega
theorem FX.own [Inhabited CapT] (h:FX w0 O fdb vb tb fb sb pb mb ns c N S w) (hu:Upd (Ow fdb mb S) w w') (hB:FdB w' fdb vb pb mb N' S') (hO:∀k,Ow fdb mb S' k→Ow fdb mb S k∨w.heap.size≤k):Upd O w w' ∧FX w0 (fun k=> O k∨(w.heap.size≤k∧Ow fdb mb S' k)) fdb vb tb fb sb pb mb ns c N' S' w' :=by
 obtain ⟨lo,h1,h2,h3,h4,h5,h6,h7,h8⟩:=h
 obtain ⟨l1,l2,l3⟩:=h1.lts
 have hu2:Upd O w w' :=hu.mono (fun k _ hk=> (h8 k hk).1)
 refine ⟨hu2,lo,h1.upd hu (fun hk=> (h8 _ hk).2.2.1 rfl) (fun r k hr hk=> (h8 _ hk).2.1 r hr) (fun hk=> (h8 _ hk).2.2.2 rfl),h2.trans (hu2.below h2.size (fun k hk=> (h3 k hk).1)),fun k hk=> ?_,fun r k hr=> .inl (h4 r k hr),h5,h6,hB,fun k hk=> ?_⟩
 ·rcases hk with hk | hk
  ·exact ⟨(h3 k hk).1,Nat.lt_of_lt_of_le (h3 k hk).2 hu.size⟩
  ·exact ⟨Nat.le_trans h2.size hk.1,hB.lt hk.2⟩
 ·rcases hO k hk with ho | ho
  ·exact ⟨.inl (h8 k ho).1,(h8 k ho).2⟩
  ·exact ⟨.inr ⟨ho,hk⟩,fun r hr=> by have:=l2 r k hr;omega,by omega,by omega⟩
theorem v_open [Inhabited CapT] (h:FX w0 O fdb vb tb fb sb pb mb ns c N S w) (hc:c≤9000) (l:Txt) (hl:l.length≤100000) (n a r:Int) (ns' :NSt) (hr:openF ns l n=(a,r,ns')) (s:ByteArray) (hs:s=B l):
  Calls Tryz.prog 79 #[.pointer (some ⟨vb,0,none⟩),.string s,.int .i64 n] w (FP w0 O fdb vb tb fb sb pb mb ns' (c+3) N S w (.tuple #[.int .i64 a,.int .i64 r])):=by
 subst hs
 obtain ⟨lo,h1,h2,h3,h4,h5,h6,h7,h8⟩:=h
 refine (Open_is h1 hc l hl n a r _ hr).mono ?_
 rintro e w' ⟨rfl,lo',g1,g2⟩
 exact FX.step h1 h2 h3 h4 h5 h6 h7 h8 g1 g2 _
theorem v_nodes [Inhabited CapT] (h:FX w0 O fdb vb tb fb sb pb mb ns c N S w):Calls Tryz.prog 30 #[.pointer (some ⟨vb,0,none⟩)] w fun e w' => e= .returned (.pointer (some ⟨tb,0,none⟩))∧w=w' :=d_nodes h.dv
theorem v_store [Inhabited CapT] (h:FX w0 O fdb vb tb fb sb pb mb ns c N S w):Calls Tryz.prog 141 #[.pointer (some ⟨vb,0,none⟩)] w fun e w' => e= .returned (.pointer (some ⟨sb,0,none⟩))∧w=w' :=d_store h.dv
theorem v_size [Inhabited CapT] (h:FX w0 O fdb vb tb fb sb pb mb ns c N S w) (id:Int) (hw:(Lit.int .i64 id).wf=true) (r1 r2:Int) (hr:sizeV (filesOf ns) id=(r1,r2)):Calls Tryz.prog 142 #[.pointer (some ⟨sb,0,none⟩),.int .i64 id] w fun e w' => e= .returned (.tuple #[.int .i64 r1,.int .i64 r2])∧w=w' :=d_size h.dv id hw r1 r2 hr
theorem v_cl [Inhabited CapT] (h:FX w0 O fdb vb tb fb sb pb mb ns c N S w) (hc:c≤9000) (id:Int) (r:Int) (ns' :NSt) (hr:closeF ns id=(r,ns')):
  Calls Tryz.prog 82 #[.pointer (some ⟨tb,0,none⟩),.int .i64 id] w (FP w0 O fdb vb tb fb sb pb mb ns' (c+1) N S w (.int .i64 r)):=by
 obtain ⟨lo,h1,h2,h3,h4,h5,h6,h7,h8⟩:=h
 have hiv:=closeF_iv h1.2 id
 rw [hr] at hiv
 refine (close_f h1.1.2.1 h1.2 (by omega) id r _ hr).mono ?_
 rintro e w' ⟨rfl,lo',hT,hF⟩
 exact FX.step h1 h2 h3 h4 h5 h6 h7 h8 ⟨(h1.1.step hT hF).le (by omega),hiv⟩ hF _
def FRead (w:World) (ys:List Int) (er:Int) (e:Ending) (w' :World):Prop:=∃a cp b,e= .returned (.tuple #[.slice a ys.length cp,.int .i64 er])∧RowV w' 5 (.slice a ys.length cp) (ucells ys) b∧(∀g,b=some g→w.heap.size≤g)∧Below w.heap.size w w'
theorem v_read [Inhabited CapT] (h:FX w0 O fdb vb tb fb sb pb mb ns c N S w) (id:Int) (hw:(Lit.int .i64 id).wf=true) (off n:Int) (hoff:off≤9223372036854775807) (hn:n≤9223372036854775807) (ys:List Int) (er:Int) (hr:readV (filesOf ns) id off n=(ys,er)):
  Calls Tryz.prog 189 #[.pointer (some ⟨sb,0,none⟩),.int .i64 id,.int .i64 off,.int .i64 n] w (FRead w ys er):=by
 obtain ⟨lo,h1,h2,h3,h4,h5,h6,h7,h8⟩:=h
 refine (s_read h1.1.2.1.sto sb h6 id hw off n hoff hn ys er hr).mono ?_
 rintro e w' ⟨v,b,rfl,k1,k2,hB⟩
 obtain ⟨a,cp,rfl,-,-⟩:=k1.slice
 rw [show (ucells ys).length=ys.length from List.length_map _] at*
 exact ⟨a,cp,b,rfl,k1,k2,hB⟩
def SrcF (O:Nat→Prop) (w:World) (v:Value) (b:List Int):Prop:=∃a c,v= .slice a b.length c∧b.length≤c∧(0 < b.length→∃g q,a=some ⟨g,q,none⟩∧RdV w (some ⟨g,q,none⟩) (ucells b)∧¬O g∧g < w.heap.size)
theorem v_write [Inhabited CapT] (h:FX w0 O fdb vb tb fb sb pb mb ns c N S w) (id:Int) (hw:(Lit.int .i64 id).wf=true) (off:Int) (b:List Int) (hb6:b.length≤1000000) (v:Value) (hv:SrcF O w v b) (r:Int) (ns' :NSt) (hr:wrF ns capN id off b=(r,ns')):
  Calls Tryz.prog 143 #[.pointer (some ⟨sb,0,none⟩),.int .i64 id,.int .i64 off,v] w (FP w0 O fdb vb tb fb sb pb mb ns' c N S w (.int .i64 r)):=by
 obtain ⟨lo,h1,h2,h3,h4,h5,h6,h7,h8⟩:=h
 obtain ⟨g1,g2⟩:=wrF_is ns capN id off b
 rw [hr] at g1 g2
 have hsrc:SrcB w (soOf lo) v b:=by
  obtain ⟨a,cc,rfl,k1,k2⟩:=hv
  refine ⟨a,cc,rfl,k1,fun hp=> ?_⟩
  obtain ⟨g,q,rfl,k3,k4,k5⟩:=k2 hp
  exact ⟨g,q,rfl,k3,fun r k hk e=> k4 (e▸h4 _ _ hk),k5⟩
 refine (s_write h1.1.2.1.sto sb h6 id hw off b hb6 v hsrc r _ g1).mono ?_
 rintro e w' ⟨rfl,so,hS,hF,hs1,hs2⟩
 have hT:=h1.1.2.1.store hS hF hs1 g2.cond.1 g2.cond.2
 have hTF:TFr lo (loSt lo so) w w' :=by
  refine ⟨hF.1.mono (fun k _ ⟨q,hq⟩=> ⟨.st q,hq⟩),fun r k hk=> ?_,hs1,hs2⟩
  rcases loSt_old hk with ⟨q,rfl,e⟩ | ⟨e,_⟩
  ·rcases hF.2 q k e with ⟨q',e⟩ | e
   ·exact Or.inl ⟨.st q',e⟩
   ·exact Or.inr e
  ·exact Or.inl ⟨r,e⟩
 exact FX.step h1 h2 h3 h4 h5 h6 h7 h8 ⟨h1.1.step hT hTF,g2.iv h1.2⟩ hTF _
end
end Go.Proofs.YtjpjafajploiaaaGreatDoor
namespace Go.Proofs.YtjpjafajploiaaaGreatDoor
open Go.RowKit Own RegJ Two
open Go.Lib hiding intOf
theorem zero_tab (w:World):(zeroValue 132).run Tryz.prog w= .ok (.pointer none) w:=by kernel_rfl
theorem dn (w:World) (q:Nat):Below w.heap.size w (w.drewN q):=((Upd.refl (fun _=> False) w).drewN q).below (Nat.le_refl _) (fun _ h=> h.elim)
def procR (S:FS) (pid:Int):Int:=match S.pr pid with | some _=> 0 | none=> 4
section
variable {w w' :World} {fdb vb pb mb N:Nat} {S:FS}
theorem FdB.look (h:FdB w fdb vb pb mb N S) (pid:Int) (hw:(Lit.int .i64 pid).wf=true):(Instr.lookup 152 (.map (some mb)) (.int .i64 pid) false).run Tryz.prog w= .ok (ptb (S.pr pid)) w:=by
 obtain ⟨n,s,hm,_⟩:=h.m
 have hl:=hm.look Tryz.underlying3 Tryz.underlying152 (zero_tab w) pid hw
 rw [hl]
 cases S.pr pid <;> rfl
set_option maxRecDepth 100000 in
theorem k_proc (h:FdB w fdb vb pb mb N S) (pid:Int) (hw:(Lit.int .i64 pid).wf=true) (p:Option Nat) (hp:S.pr pid=p) (r:Int) (hr:procR S pid=r):
  Calls Tryz.prog 67 #[.pointer (some ⟨fdb,0,none⟩),.int .i64 pid] w fun e w' => e= .returned (.tuple #[ptb p,.int .i64 r])∧w=w' :=by
 have hl:=h.look pid hw
 have c2:=h.f.rd 2
 unfold procR at hr
 rw [hp] at hl hr
 clear h hp hw
 cases p with
 | none=>
  obtain rfl:4=r:=hr
  simp only [ptb,Option.map] at hl ⊢
  go_enter Tryz.func67,Tryz.ntmps67
  go_wp2_with (fail)
  go_ret2
  exact ⟨rfl,rfl⟩
 | some b=>
  obtain rfl:0=r:=hr
  simp only [ptb,Option.map] at hl ⊢
  go_enter Tryz.func67,Tryz.ntmps67
  go_wp2_with (fail)
  go_ret2
  exact ⟨rfl,rfl⟩
set_option maxRecDepth 100000 in
theorem k_get (h:FdB w fdb vb pb mb N S) (pid:Int) (hw:(Lit.int .i64 pid).wf=true) (b:Nat) (hb:S.pr pid=some b) (d x:Nat) (hd:d < 8) (hx:S.sl b d=some x):
  Calls Tryz.prog 80 #[.pointer (some ⟨fdb,0,none⟩),.int .i64 pid,.int .i64 d] w fun e w' => e= .returned (.tuple #[.pointer (some ⟨x,0,none⟩),.int .i64 0])∧w=w' :=by
 have hp:=k_proc h pid hw (some b) hb 0 (by unfold procR;rw [hb])
 have c0:w.cell? ⟨b,d,none⟩=some (.pointer (some ⟨x,0,none⟩)):=by rw [h.slot hb hd,hx];rfl
 have d1:decide ((d:Int) < 0)=false:=decide_eq_false (by omega)
 have d2:decide ((d:Int)≥8)=false:=by simp;omega
 have i1:(d:Int) < 8:=by omega
 have i2:(0:Int)≤d:=by omega
 clear h hb hx
 simp only [ptb,Option.map] at hp
 go_enter Tryz.func80,Tryz.ntmps80
 go_wp2_with (go_at_call 67;refine hp.mono ?_;rintro e w1 ⟨rfl,rfl⟩)
 go_ret2
 exact ⟨rfl,rfl⟩
set_option maxRecDepth 100000 in
theorem k_getno (h:FdB w fdb vb pb mb N S) (pid:Int) (hw:(Lit.int .i64 pid).wf=true) (b:Nat) (hb:S.pr pid=some b) (d:Nat) (hd:d < 8) (hx:S.sl b d=none):
  Calls Tryz.prog 80 #[.pointer (some ⟨fdb,0,none⟩),.int .i64 pid,.int .i64 d] w fun e w' => e= .returned (.tuple #[.pointer none,.int .i64 8])∧w=w' :=by
 have hp:=k_proc h pid hw (some b) hb 0 (by unfold procR;rw [hb])
 have c0:w.cell? ⟨b,d,none⟩=some (.pointer none):=by rw [h.slot hb hd,hx];rfl
 have d1:decide ((d:Int) < 0)=false:=decide_eq_false (by omega)
 have d2:decide ((d:Int)≥8)=false:=by simp;omega
 have i1:(d:Int) < 8:=by omega
 have i2:(0:Int)≤d:=by omega
 clear h hb hx
 simp only [ptb,Option.map] at hp
 go_enter Tryz.func80,Tryz.ntmps80
 go_wp2_with (go_at_call 67;refine hp.mono ?_;rintro e w1 ⟨rfl,rfl⟩)
 go_ret2
 exact ⟨rfl,rfl⟩
def freeL (f:Nat→Option Nat):Nat→List Int
 | 0=> []
 | i+1=> freeL f i++(if (f i).isNone then [(i:Int)] else [])
theorem freeL_len (f:Nat→Option Nat):∀i,(freeL f i).length≤i
 | 0=> Nat.le_refl _
 | i+1=> by
  have:=freeL_len f i
  unfold freeL
  rw [List.length_append]
  split <;> simp <;> omega
theorem freeL_least (f:Nat→Option Nat) (d:Nat) (hd:f d=none) (hl:∀k,k < d→f k≠none):∀i,d < i→∃r,freeL f i=(d:Int)::r:=by
 have h0:∀i,i≤d→freeL f i= []:=by
  intro i
  induction i with
  | zero=> intro _;rfl
  | succ i ih=>
   intro h
   unfold freeL
   rw [ih (by omega)]
   have:=hl i (by omega)
   cases hf:f i with
   | none=> exact absurd hf this
   | some _=> rfl
 intro i
 induction i with
 | zero=> intro h;omega
 | succ i ih=>
  intro h
  unfold freeL
  by_cases hi:d < i
  ·obtain ⟨r,hr⟩:=ih hi
   rw [hr]
   exact ⟨_,rfl⟩
  ·obtain rfl:d=i:=by omega
   rw [h0 d (Nat.le_refl _),hd]
   exact ⟨[],rfl⟩
theorem freeL_none (f:Nat→Option Nat) (hl:∀k,k < 8→f k≠none):∀i,i≤8→freeL f i= []
 | 0,_=> rfl
 | i+1,h=> by
  unfold freeL
  rw [freeL_none f hl i (by omega)]
  cases hf:f i with
  | none=> exact absurd hf (hl i (by omega))
  | some _=> rfl
def FreeP (w:World) (ys:List Int) (e:Ending) (w' :World):Prop:=∃a c b,e= .returned (.tuple #[.slice a ys.length c,.int .i64 0])∧RowV w' 3 (.slice a ys.length c) (icells ys) b∧(∀g,b=some g→w.heap.size≤g)∧Below w.heap.size w w'
set_option maxRecDepth 100000 in
set_option maxHeartbeats 2000000 in
theorem k_free (h:FdB w fdb vb pb mb N S) (pid:Int) (hw:(Lit.int .i64 pid).wf=true) (b:Nat) (hb:S.pr pid=some b) (n:Nat) (v:Value) (r:Int) (P:Ending→World→Prop)
  (hyes:n≤(freeL (S.sl b) 8).length→∀e w',FreeP w (freeL (S.sl b) 8) e w' →P e w')
  (hno:(freeL (S.sl b) 8).length < n→∀w',Below w.heap.size w w' →P (.returned (.tuple #[.slice none 0 0,.int .i64 14])) w'):
  Calls Tryz.prog 78 #[.pointer (some ⟨fdb,0,none⟩),.int .i64 pid,.int .i64 n] w P:=by
 have hp:=k_proc h pid hw (some b) hb 0 (by unfold procR;rw [hb])
 have hs:=fun d hd=> h.slot hb (d:=d) hd
 have hlt:=(h.t pid b hb).lt
 have HE:=Lib.hid (And.intro hs (And.intro hlt (And.intro hyes hno)))
 have HL:=Lib.hid (freeL_len (S.sl b))
 clear h hb hs hlt hyes hno
 simp only [ptb,Option.map] at hp
 go_enter Tryz.func78,Tryz.ntmps78
 go_wp2_with (go_at_call 67;refine hp.mono ?_;rintro e w1 ⟨rfl,rfl⟩)
 go_loopw [10,23] (fun v10 ix wr=> ∃i:Nat,i≤8∧ix= .int .i64 i∧∃a m c,v10= .slice a m c∧Hid (∃g,RowV wr 3 (.slice a m c) (icells (freeL (S.sl b) i)) g∧(∀k,g=some k→w.heap.size≤k)∧Below w.heap.size w wr)) (fun _ ix _=> 8 - (intOf ix).toNat)
 case atStart=> exact ⟨0,Nat.zero_le _,rfl,none,0,0,rfl,Lib.hid ⟨none,.inl ⟨rfl,rfl,rfl⟩,fun k hk=> (by cases hk),Below.refl _ _⟩⟩
 case round=>
  obtain ⟨i,hi,rfl,a,m,c,rfl,H⟩:=hrel
  obtain ⟨gr,hR,hgr,hBl⟩:=H.out
  have hm:m=(freeL (S.sl b) i).length:=by
   obtain ⟨a',c',hv,_⟩:=hR.slice
   simp only [Value.slice.injEq,List.length_map] at hv
   exact hv.2.1
  have hml:=HL.out i
  by_cases hil:i < 8
  ·have d1:decide ((i:Int) < 8)=true:=by simp;omega
   have i1:(i:Int) < 8:=by omega
   have i2:(0:Int)≤i:=by omega
   have c0:wr.cell? ⟨b,i,none⟩=some (ptb (S.sl b i)):=(hBl.cell (p:=⟨b,i,none⟩) HE.out.2.1).trans (HE.out.1 i hil)
   cases hx:S.sl b i with
   | some x=>
    have HX:=Lib.hid (show freeL (S.sl b) (i+1)=freeL (S.sl b) i by show freeL (S.sl b) i++(if (S.sl b i).isNone then [(i:Int)] else [])=_;rw [hx];simp)
    rw [hx] at c0
    simp only [ptb,Option.map] at c0
    clear hx hR hgr hBl hm
    go_wp2_with (fail)
    go_quiet (fail)
    go_wp2_with (fail)
    go_roundw
    case rel=> exact ⟨i+1,by omega,by go_num,a,m,c,rfl,Lib.hid (by rw [HX.out];obtain ⟨g,h1,h2,h3⟩:=H.out;exact ⟨g,h1.below (dn _ _),h2,h3.trans (((dn _ _)).mono h3.size)⟩)⟩
    case measure=> simp [intOf];omega
   | none=>
    have HX:=Lib.hid (show freeL (S.sl b) (i+1)=freeL (S.sl b) i++ [(i:Int)] by show freeL (S.sl b) i++(if (S.sl b i).isNone then [(i:Int)] else [])=_;rw [hx];simp)
    rw [hx] at c0
    simp only [ptb,Option.map] at c0
    have HK:=Lib.hid (fun q=> hR.below ((dn wr q).trans ((Below.refl _ _).alloc (by simp) (.cells #[.int .i64 (i:Int)] 3))))
    have HM:=Lib.hid (And.intro hgr (And.intro hBl hm))
    clear hx hR hgr hBl hm
    go_wp2_with (fail)
    go_quiet (fail)
    go_wp2_with (at_builtin;refine wp_appV rfl _ _ 59 3 (.int .i64 0) 8 (by kernel_rfl) rfl (by decide) Tryz.underlying59 rfl (.slice a m c) (icells (freeL (S.sl b) i)) gr rfl (HK.out _) (some ⟨wr.heap.size,0,none⟩) 1 1 [.int .i64 i] rfl rfl (fun _=> ⟨_,rfl,new_cell (wr.drewN _) (.int .i64 i) 3⟩) (fun u hu=> by (simp at hu;subst hu;rfl)) (by simp;omega) ?_;intro v' w4 row' hI hrow' hu4;obtain ⟨a2,c2,rfl,-,-⟩:=hI.slice;have H4:=Lib.hid (And.intro hI (And.intro hrow' hu4));clear hI hrow' hu4)
    go_roundw
    case rel=>
     refine ⟨i+1,by omega,by go_num,a2,_,c2,rfl,Lib.hid ?_⟩
     rw [HX.out,show icells (freeL (S.sl b) i++ [(i:Int)])=icells (freeL (S.sl b) i)++ [Value.int .i64 i] by simp [icells]]
     have hB5:=HM.out.2.1.trans ((dn wr nq).mono HM.out.2.1.size)
     refine ⟨row',by rw [show (freeL (S.sl b) i).length+1=(icells (freeL (S.sl b) i)++ [Value.int .i64 i]).length by simp];exact H4.out.1,fun k hk=> ?_,?_⟩
     ·rcases H4.out.2.1 k hk with h1 | h1
      ·exact HM.out.1 k h1
      ·have h2:=HM.out.2.1.size
       simp at h1
       omega
     ·have h6:=(hB5.alloc hB5.size (.cells #[.int .i64 (i:Int)] 3))
      exact h6.trans (H4.out.2.2.below h6.size (fun k hk=> HM.out.1 k hk))
    case measure=> simp [intOf];omega
  ·have hi8:i=8:=by omega
   have d1:decide ((i:Int) < 8)=false:=by simp;omega
   have d0:decide (i < 8)=false:=by simp;omega
   rw [hi8] at hm hR
   by_cases hn:n≤m
   ·have d2:decide ((m:Int) < (n:Int))=false:=by simp;omega
    have d3:decide (m < n)=false:=by simp;omega
    have HF:=Lib.hid (And.intro (HE.out.2.2.1 (hm▸hn)) (And.intro hR (And.intro hBl (And.intro hm hgr))))
    clear hR hgr hBl hn hi8 hm hil hi
    go_wp2_with (fail)
    show P (.returned (.tuple #[.slice a m c,.int .i64 0])) wr
    refine HF.out.1 _ _ ⟨a,c,gr,?_,?_,HF.out.2.2.2.2,HF.out.2.2.1⟩
    ·rw [←HF.out.2.2.2.1]
    ·rw [←HF.out.2.2.2.1];exact HF.out.2.1
   ·have d2:decide ((m:Int) < (n:Int))=true:=by simp;omega
    have d3:(m:Int) < (n:Int):=by omega
    have HF:=Lib.hid (And.intro (HE.out.2.2.2 (by omega)) hBl)
    clear hR hgr hBl hn hi8 hm hil hi
    go_wp2_with (fail)
    show P (.returned (.tuple #[.slice none 0 0,.int .i64 14])) wr
    exact HF.out.1 _ HF.out.2
end
def FS.start (S:FS) (pid:Int) (b:Nat):FS:=⟨fun i=> if i=pid then some b else S.pr i,upN S.sl b (fun _=> none),S.th⟩
theorem MapI.ne_blk {P:Program} {k:TypeId} {w:World} {b n s:Nat} {m:Int→Option Value} (h:MapI w P k b n s m) {g:Nat} {cs:Array Value} {T:TypeId} (hB:Blk w g cs T):g≠b:=by
 obtain ⟨D,⟨es,clock,hb,_⟩,_⟩:=h
 intro e
 subst e
 unfold Blk at hB
 rw [hB] at hb
 cases hb
theorem FdB.start {w w1 w2:World} {fdb vb pb mb N:Nat} {S:FS} (h:FdB w fdb vb pb mb N S) (pid:Int) (hp:S.pr pid=none) (hB:Below w.heap.size w w1) (b:Nat) (ht:Blk w1 b (slC fun _=> none) 164) (hb:w.heap.size≤b) (n s:Nat)
  (hm:MapI w2 Tryz.prog 3 mb (n+1) s (mput (fun i=> (S.pr i).map fun b=> .pointer (some ⟨b,0,none⟩)) pid (.pointer (some ⟨b,0,none⟩)))) (hn:n≤N) (hu:Upd (fun k=> k=mb) w1 w2):FdB w2 fdb vb pb mb (N+1) (S.start pid b):=by
 obtain ⟨n0,s0,hm0,_⟩:=h.m
 have hmb:=hm0.lt
 have h1:=h.below hB
 have keep:∀g cs T,Blk w g cs T→Blk w2 g cs T:=fun g cs T hg=> Blk.upd hu (Blk.below hB hg hg.lt) (hm0.ne_blk hg)
 have old:∀i b',S.pr i=some b' →b' ≠b:=fun i b' hi=> by have:=(h.t i b' hi).lt;omega
 refine ⟨keep _ _ _ h.f,⟨n+1,s,?_,by omega⟩,fun i b' hi=> ?_,fun x t hx=> keep _ _ _ (h.x x t hx),fun i b' hi d x hd hx=> ?_,fun i j b' hi hj=> ?_⟩
 ·have e:(mput (fun i=> (S.pr i).map fun b=> (.pointer (some ⟨b,0,none⟩):Value)) pid (.pointer (some ⟨b,0,none⟩)))=(fun i=> ((S.start pid b).pr i).map fun b=> .pointer (some ⟨b,0,none⟩)):=by
   funext i
   unfold mput FS.start
   simp only
   split <;> rfl
  rw [←e];exact hm
 ·unfold FS.start at hi ⊢
  simp only at hi ⊢
  split at hi
  ·cases hi
   rw [upN_eq]
   exact Blk.upd hu ht (by omega)
  ·rw [upN_ne _ _ (old i b' hi)]
   exact keep _ _ _ (h.t i b' hi)
 ·unfold FS.start at hi hx ⊢
  simp only at hi hx ⊢
  split at hi
  ·cases hi
   rw [upN_eq] at hx
   cases hx
  ·rw [upN_ne _ _ (old i b' hi)] at hx
   exact h.r i b' hi d x hd hx
 ·unfold FS.start at hi hj
  simp only at hi hj
  split at hi
  ·cases hi
   split at hj
   ·rename_i e1 e2;rw [e1,e2]
   ·exact absurd rfl (old j _ hj)
  ·split at hj
   ·cases hj;exact absurd rfl (old i _ hi)
   ·exact h.j i j b' hi hj
section
variable {w0 w w' :World} {O:Nat→Prop} {fdb vb tb fb sb pb mb:Nat} {ns:NSt} {c N:Nat} {S:FS}
set_option maxRecDepth 100000 in
theorem k_start [Inhabited CapT] (h:FX w0 O fdb vb tb fb sb pb mb ns c N S w) (hN:N≤100000) (pid:Int) (hw:(Lit.int .i64 pid).wf=true) (h0:0≤pid) (hp:S.pr pid=none):
  Calls Tryz.prog 39 #[.pointer (some ⟨fdb,0,none⟩),.int .i64 pid] w fun e w' => ∃b,w.heap.size≤b∧FP w0 O fdb vb tb fb sb pb mb ns c (N+1) (S.start pid b) w (.int .i64 0) e w' :=by
 have hf:=h.fd
 have hl:=hf.look pid hw
 rw [hp] at hl
 simp only [ptb,Option.map] at hl
 have c2:=hf.f.rd 2
 have d1:decide (pid < 0)=false:=decide_eq_false (by omega)
 obtain ⟨n,s,hm,hn⟩:=hf.m
 have hal:Below w.heap.size w (w.alloc (.cells (slC fun _=> none) 164)):=(Below.refl _ _).alloc (Nat.le_refl _) _
 have hm1:MapI (w.alloc (.cells (slC fun _=> none) 164)) Tryz.prog 3 mb n s (fun i=> (S.pr i).map fun b=> .pointer (some ⟨b,0,none⟩)):=hm.upd (Upd.of_below (F:=fun _=> False) hal) (fun h=> h)
 have key:∀w2,MapI w2 Tryz.prog 3 mb (n+1) (if ((S.pr pid).map fun b=> (.pointer (some ⟨b,0,none⟩):Value)).isSome then s else s+1) (mput (fun i=> (S.pr i).map fun b=> .pointer (some ⟨b,0,none⟩)) pid (.pointer (some ⟨w.heap.size,0,none⟩)))→Upd (fun k=> k=mb) (w.alloc (.cells (slC fun _=> none) 164)) w2→FP w0 O fdb vb tb fb sb pb mb ns c (N+1) (S.start pid w.heap.size) w (.int .i64 0) (.returned (.int .i64 0)) w2:=by
  intro w2 hm2 hu2
  have hB2:=hf.start pid hp hal w.heap.size (Blk.new w _ _) (Nat.le_refl _) n _ hm2 hn hu2
  have hu:Upd (Ow fdb mb S) w w2:=(Upd.of_below (F:=Ow fdb mb S) hal).trans hu2 (fun i _ hi=> .inr (.inl hi))
  obtain ⟨k1,k2⟩:=h.own hu hB2 (fun k hk=> by
   rcases hk with rfl | rfl | ⟨i,hi⟩ | hx
   ·exact .inl (.inl rfl)
   ·exact .inl (.inr (.inl rfl))
   ·unfold FS.start at hi
    simp only at hi
    split at hi
    ·cases hi;exact .inr (Nat.le_refl _)
    ·exact .inl (.inr (.inr (.inl ⟨i,hi⟩)))
   ·exact .inl (.inr (.inr (.inr hx))))
  exact ⟨rfl,k1,_,k2,fun k hk=> hk.imp id (·.1)⟩
 have HK:=Lib.hid (And.intro key (And.intro hm1 (And.intro hn hw)))
 clear h hf hm hn key hm1 hal hp
 go_enter Tryz.func39,Tryz.ntmps39
 go_wp2_with (refine wp_mapput _ rfl (.tmp 22) (.tmp 23) (.tmp 25) 152 rfl 3 132 Tryz.underlying3 Tryz.underlying152 mb n s _ rfl HK.out.2.1 (by have:=HK.out.2.2.1;unfold maxLen;omega) pid HK.out.2.2.2 _ rfl rfl ?_;intro w2 hm2 hu2;have H2:=Lib.hid (HK.out.1 w2 hm2 hu2);clear hm2 hu2)
 go_ret
 exact ⟨w.heap.size,Nat.le_refl _,H2.out⟩
end
end Go.Proofs.YtjpjafajploiaaaGreatDoor
namespace Go.Proofs.YtjpjafajploiaaaGreatDoor
open Go.RowKit Own RegJ Two
open Go.Lib hiding intOf
section
variable {w w' :World} {vb tb:Nat} {ns ns' :NSt} {lo lo' :Lo} {N c d:Nat}
def linkE (ns:NSt) (d:Int) (nm:Txt) (id:Int):Int×NSt:=match dirAt ns d with
 | none=> (11,ns)
 | some nd=> entF ns d.toNat nd nm id
def linkF (ns:NSt) (s t:Txt):Int×NSt:=if (walkR ns s).2≠0 then ((walkR ns s).2,ns) else if isDirF ns (walkR ns s).1=true then (6,ns) else atPar ns t fun d nm=> linkE ns d nm (walkR ns s).1
theorem linkE_is [Inhabited CapT] (h:VV w vb tb ns lo c) (d:Int) (nm:Txt) (id r:Int) (ns' :NSt) (hr:linkE ns d nm id=(r,ns')):
  Calls Tryz.prog 89 #[.pointer (some ⟨tb,0,none⟩),.int .i64 d,.string (B nm),.int .i64 id] w fun e w' => e= .returned (.int .i64 r)∧∃lo',VV w' vb tb ns' lo' (c+1)∧TFr lo lo' w w' :=by
 unfold linkE at hr
 cases hd:dirAt ns d with
 | none=>
  rw [hd] at hr;cases hr
  refine (enter_nodir h.1.2.1 d id nm hd).mono ?_
  rintro e w' ⟨rfl,rfl⟩
  exact ⟨rfl,lo,h.le (by omega),TFr.refl _ _⟩
 | some nd=>
  rw [hd] at hr
  simp only at hr
  obtain ⟨i,rfl,hi,hdir⟩:=dirAt_some hd
  simp only [Int.toNat_natCast] at hr
  have hiv:=entF_iv h.2 hi hdir nm id
  rw [hr] at hiv
  refine (enter_f h.1.2.1 i id nm nd hi hdir (fun m hm=> ?_) r ns' hr).mono ?_
  ·obtain ⟨k,hk,hkk⟩:=ndAt_some hm
   exact ⟨h.2.inv.links hkk,h.2.inv.bnd k m hkk⟩
  ·rintro e w' ⟨rfl,lo',hT,hF⟩
   exact ⟨rfl,lo',⟨(h.1.step hT hF).le (by omega),hiv⟩,hF⟩
set_option maxRecDepth 100000 in
theorem linkK_is [Inhabited CapT] (h:VV w vb tb ns lo c) (bv bi:Nat) (hv:w.cell? ⟨bv,0,none⟩=some (.pointer (some ⟨vb,0,none⟩))) (id:Int) (hi:w.cell? ⟨bi,0,none⟩=some (.int .i64 id))
  (d:Int) (nm:Txt) (r0:Int) (ns' :NSt) (hr:linkE ns d nm id=(r0,ns')):
  Calls Tryz.prog 88 #[.int .i64 d,.string (B nm),.pointer (some ⟨bv,0,none⟩),.pointer (some ⟨bi,0,none⟩)] w fun e w' => ∃r,e= .returned (.int .i64 r)∧ParP w vb tb ns' lo (c+1) r0 r w' :=by
 have hB:Below w.heap.size w w.drew:=(Below.refl _ _).drew
 have hen:=linkE_is (h.below hB) d nm id r0 ns' hr
 have cv:=h.1.cell
 have H:=Lib.hid hB
 clear h hr hB
 generalize B nm=L at*
 go_enter Tryz.func88,Tryz.ntmps88
 go_wp2
 go_still_tail 7,(by kernel_rfl)
 change wpList _ _ _ _ _ w.drew
 clear hv hi cv
 generalize w.drew=w3 at*
 go_wp2_with (go_at_call 89;(with_reducible refine hen.mono ?_);rintro e w4 ⟨rfl,lo4,hV,hF⟩;have H4:=Lib.hid (And.intro hV hF);clear hen hV hF)
 go_returns
 exact ⟨r0,rfl,rfl,lo4,H4.out.1,(TFr.of_below H.out).trans H4.out.2⟩
set_option maxRecDepth 100000 in
theorem Link_is [Inhabited CapT] (h:VV w vb tb ns lo c) (l l2:Txt) (hl:l.length≤100000) (hl2:l2.length≤100000) (r0:Int) (ns' :NSt) (hm:linkF ns l l2=(r0,ns')):
  Calls Tryz.prog 48 #[.pointer (some ⟨vb,0,none⟩),.string (B l),.string (B l2)] w (MadP w vb tb ns' lo (c+1) (.int .i64 r0)):=by
 have hl0:=h.lts
 have hB0:Below w.heap.size w (w.alloc (.cells #[.pointer (some ⟨vb,0,none⟩)] 66)):=(Below.refl _ _).alloc (Nat.le_refl _) _
 obtain ⟨a,e0,hw⟩:∃a e0,walkR ns l=(a,e0):=⟨_,_,rfl⟩
 have hwk:=walk_is (h.below hB0).1 l hl a e0 hw
 have hbv:=Blk.new w #[.pointer (some ⟨vb,0,none⟩)] 66
 have c0:=hbv.rd
 unfold linkF at hm
 rw [hw] at hm
 simp only at hm
 by_cases h0:e0=0
 ·subst h0
  rw [if_neg (by simp)] at hm
  by_cases hd:isDirF ns a=true
  ·rw [if_pos hd] at hm;cases hm
   have H:=Lib.hid (And.intro hB0 (And.intro hbv (And.intro h hd)))
   clear h hB0 hbv hl hl2 hw hd hl0
   generalize B l=L at*
   generalize B l2=L2 at*
   go_enter Tryz.func48,Tryz.ntmps48
   go_wp2_with (first
    | (go_at_call 70;(with_reducible refine hwk.mono ?_);rintro e w1 ⟨rfl,hB⟩;have hb1:=(Blk.below hB H.out.2.1 H.out.2.1.lt).alloc (.cells #[.int .i64 a] 3);clear c0;have c0:=hb1.rd;have c1:=(Blk.new w1 #[.int .i64 a] 3).rd;have hb:=H.out.1.trans (hB.mono H.out.1.size);have hb2:=hb.alloc hb.size (.cells #[.int .i64 a] 3);have hid:=isdir_is (H.out.2.2.1.below hb2).1 a true H.out.2.2.2;have H1:=Lib.hid hb2;clear hB hwk hb1 hb hb2)
    | (go_at_call 86;(with_reducible refine hid.mono ?_);rintro e w2 ⟨rfl,hB⟩;have H2:=Lib.hid hB;clear hB hid))
   go_returns
   have hb:=H1.out.trans (H2.out.mono H1.out.size)
   exact ⟨rfl,lo,(H.out.2.2.1.below hb).le (by omega),TFr.of_below hb⟩
  ·rw [if_neg hd] at hm
   unfold atPar at hm
   have hpar:∀w1 b1,Below w.heap.size w w1→w1.cell? ⟨w.heap.size,0,none⟩=some (.pointer (some ⟨vb,0,none⟩))→w1.cell? ⟨b1,0,none⟩=some (.int .i64 a)→Calls Tryz.prog 87 #[.pointer (some ⟨vb,0,none⟩),.string (B l2),.func (.func 88) #[] #[.pointer (some ⟨w.heap.size,0,none⟩),.pointer (some ⟨b1,0,none⟩)]] w1
     fun e w2=> ∃r,e= .returned (.int .i64 r)∧ParP w1 vb tb ns' lo (c+1) r0 r w2:=fun w1 b1 hB1 hcv hci=> by
    have h2:=h.below hB1
    refine par_LinkF h2 l2 hl2 _ _ _ (fun E w3 hB3 hE hE0=> ?_) (fun hE w3 hB3=> ?_)
    ·rw [if_neg (by rw [hE];exact hE0),hE] at hm
     cases hm
     exact ⟨rfl,lo,(h2.below hB3).le (by omega),TFr.of_below hB3⟩
    ·rw [if_pos hE] at hm
     have f1:w3.cell? ⟨w.heap.size,0,none⟩=some (.pointer (some ⟨vb,0,none⟩)):=cell_upd (Upd.of_below (F:=fun _=> False) hB3) hcv (fun h=> h)
     have f2:w3.cell? ⟨b1,0,none⟩=some (.int .i64 a):=cell_upd (Upd.of_below (F:=fun _=> False) hB3) hci (fun h=> h)
     refine (linkK_is (h2.below hB3) w.heap.size b1 f1 a f2 (parDi ns l2) (parN l2) r0 ns' hm).mono ?_
     rintro e w4 ⟨r,rfl,rfl,lo',h3,h4⟩
     exact ⟨r,rfl,rfl,lo',h3,(TFr.of_below hB3).trans h4⟩
   have H:=Lib.hid (And.intro hB0 (And.intro hbv (And.intro h (And.intro (by simpa using hd:isDirF ns a=false) hpar))))
   clear h hB0 hbv hl hl2 hw hd hl0 hpar hm
   generalize B l=L at*
   generalize B l2=L2 at*
   go_enter Tryz.func48,Tryz.ntmps48
   go_wp2_with (first
    | (go_at_call 70;(with_reducible refine hwk.mono ?_);rintro e w1 ⟨rfl,hB⟩;have hb1:=(Blk.below hB H.out.2.1 H.out.2.1.lt).alloc (.cells #[.int .i64 a] 3);clear c0;have c0:=hb1.rd;have c1:=(Blk.new w1 #[.int .i64 a] 3).rd;have hb:=H.out.1.trans (hB.mono H.out.1.size);have hb2:=hb.alloc hb.size (.cells #[.int .i64 a] 3);have hid:=isdir_is (H.out.2.2.1.below hb2).1 a false H.out.2.2.2.1;have H1:=Lib.hid (And.intro hb2 hb1);clear hB hwk hb1 hb hb2)
    | (go_at_call 86;(with_reducible refine hid.mono ?_);rintro e w2 ⟨rfl,hB⟩;have hb:=H1.out.1.trans (hB.mono H1.out.1.size);have k0:=Blk.below hB H1.out.2 H1.out.2.lt;have k1:=Blk.below hB (Blk.new w1 #[.int .i64 a] 3) (Blk.new w1 #[.int .i64 a] 3).lt;clear c0 c1;have c0:=k0.rd;have hp:=H.out.2.2.2.2 w2 w1.heap.size hb (k0.rd 0) (k1.rd 0);have H2:=Lib.hid hb;clear hB hid hb k0 k1)
    | (go_at_call 87;(with_reducible refine hp.mono ?_);rintro e w3 ⟨r,rfl,rfl,hq⟩;have H3:=Lib.hid hq;clear hp hq))
   go_returns
   obtain ⟨lo',h3,h4⟩:=H3.out
   exact ⟨rfl,lo',h3,(TFr.of_below H2.out).trans h4⟩
 ·rw [if_pos h0] at hm;cases hm
  have H:=Lib.hid (And.intro hB0 (And.intro hbv h))
  clear h hB0 hbv hl hl2 hw hl0
  generalize B l=L at*
  generalize B l2=L2 at*
  go_enter Tryz.func48,Tryz.ntmps48
  go_wp2_with (go_at_call 70;(with_reducible refine hwk.mono ?_);rintro e w1 ⟨rfl,hB⟩;have H1:=Lib.hid hB;clear hB hwk)
  go_returns
  have hb:=H.out.1.trans (H1.out.mono H.out.1.size)
  have hb2:=hb.alloc hb.size (.cells #[.int .i64 a] 3)
  exact ⟨rfl,lo,(H.out.2.2.below hb2).le (by omega),TFr.of_below hb2⟩
end
end Go.Proofs.YtjpjafajploiaaaGreatDoor
/-
 Stat of a path that leads nowhere;Stat of a vfs of the call's own.
-/
namespace Go.Proofs.YtjpjafajploiaaaGreatDoor
open Go.RowKit Own RegJ Two
open Go.Lib hiding intOf
section
variable {w w' :World} {vb tb:Nat} {ns ns' :NSt} {lo lo' :Lo} {N c d:Nat}
set_option maxRecDepth 100000 in
theorem stat_no [Inhabited CapT] (h:VV w vb tb ns lo c) (l:Txt) (hl:l.length≤100000) (a e0:Int) (hw:walkR ns l=(a,e0)) (he:e0≠0):
  Calls Tryz.prog 94 #[.pointer (some ⟨vb,0,none⟩),.string (B l)] w fun e w' => e= .returned (.tuple #[.agg in0,.int .i64 e0])∧Below w.heap.size w w' :=by
 have hB0:Below w.heap.size w (w.alloc (.cells in0 184)):=(Below.refl _ _).alloc (Nat.le_refl _) _
 have hb0:=Blk.new w in0 184
 have hwk:=walk_is (h.below hB0).1 l hl a e0 hw
 unfold in0 at*
 have H:=Lib.hid (And.intro hB0 hb0)
 clear h hB0 hl hw hb0
 generalize B l=L at*
 go_enter Tryz.func94,Tryz.ntmps94
 go_wp2_with (go_at_call 70;(with_reducible refine hwk.mono ?_);rintro e w1 ⟨rfl,hB⟩;have hk1:=Blk.below hB H.out.2 H.out.2.lt;have c1:=hk1.rd;have f1:=hk1.nf;have H1:=Lib.hid (And.intro hB hk1);clear hB hwk hk1)
 have hk3:Blk ((((w1.setCell ⟨w.heap.size,0,none⟩ (.int .i64 0)).setCell ⟨w.heap.size,1,none⟩ (.int .i64 0)).setCell ⟨w.heap.size,2,none⟩ (.bool false)).setCell ⟨w.heap.size,3,none⟩ (.int .i64 0)) w.heap.size #[.int .i64 0,.int .i64 0,.bool false,.int .i64 0] 184:=Blk.of ((((H1.out.2.set 0 (.int .i64 0)).set 1 (.int .i64 0)).set 2 (.bool false)).set 3 (.int .i64 0)) rfl
 have hu:=((((Upd.refl (fun k=> k=w.heap.size) w1).setCell (p:=⟨w.heap.size,0,none⟩) (fun _=> rfl) (.int .i64 0)).setCell (p:=⟨w.heap.size,1,none⟩) (fun _=> rfl) (.int .i64 0)).setCell (p:=⟨w.heap.size,2,none⟩) (fun _=> rfl) (.bool false)).setCell (p:=⟨w.heap.size,3,none⟩) (fun _=> rfl) (.int .i64 0)
 have hb:=H.out.1.trans (H1.out.1.mono H.out.1.size)
 have hbb:Below w.heap.size w ((((w1.setCell ⟨w.heap.size,0,none⟩ (.int .i64 0)).setCell ⟨w.heap.size,1,none⟩ (.int .i64 0)).setCell ⟨w.heap.size,2,none⟩ (.bool false)).setCell ⟨w.heap.size,3,none⟩ (.int .i64 0)):=hb.trans (hu.below hb.size (fun k hk=> by omega))
 clear hu hb
 generalize ((((w1.setCell ⟨w.heap.size,0,none⟩ (.int .i64 0)).setCell ⟨w.heap.size,1,none⟩ (.int .i64 0)).setCell ⟨w.heap.size,2,none⟩ (.bool false)).setCell ⟨w.heap.size,3,none⟩ (.int .i64 0))=w9 at hk3 hbb ⊢
 have c9:=hk3.rd
 try simp only [Exit.inBlock,Exit.then]
 refine bodyPost_ret (by simp [results,Tryz.results94,go_sem,c9];try rfl) rfl ?_
 exact ⟨rfl,hbb⟩
def statF (ns:NSt) (l:Txt):Array Value×Int:=if (walkR ns l).2≠0 then (in0,(walkR ns l).2) else (getA ns (walkR ns l).1,0)
theorem Stat_is [Inhabited CapT] (h:VV w vb tb ns lo c) (l:Txt) (hl:l.length≤100000) (A:Array Value) (r:Int) (hr:statF ns l=(A,r)):
  Calls Tryz.prog 94 #[.pointer (some ⟨vb,0,none⟩),.string (B l)] w fun e w' => e= .returned (.tuple #[.agg A,.int .i64 r])∧Below w.heap.size w w' :=by
 obtain ⟨a,e0,hw⟩:∃a e0,walkR ns l=(a,e0):=⟨_,_,rfl⟩
 unfold statF at hr
 rw [hw] at hr
 simp only at hr
 by_cases h0:e0=0
 ·subst h0
  rw [if_neg (by simp)] at hr
  obtain ⟨k,nk,rfl,hk⟩:=walkR_nd h.2 hw
  have hnd:ndAt ns (k:Int)=some nk:=by unfold ndAt;simp [hk]
  unfold getA at hr
  rw [hnd] at hr
  cases hr
  exact stat_yes h l hl _ hw nk hnd
 ·rw [if_pos h0] at hr
  cases hr
  exact stat_no h l hl a _ hw h0
end
end Go.Proofs.YtjpjafajploiaaaGreatDoor
