/- Parts of the proofs. -/
import Derived.Test.YtjpgoeimclipjaaGreatLg14
import Derived.BigQuiet
import Derived.Deep.DeepCutAuto
namespace Go.Proofs.YtjpgoeimclipjaaGreat
open Go.RowKit Go.Lib Pl
attribute [local go_sem] ext_list app_list
theorem act_fields:Tryz.prog.underlying 29=some (.struct (Tryz.prog.fieldsOf 29)):=by kernel_rfl
theorem act_stood:Tryz.prog.stoodInHeld 29=false:=by kernel_rfl
theorem act_guard:Tryz.prog.eqGuardType Tryz.prog.depth 29=false:=by kernel_rfl
theorem run_neq_act (w:World) (f g:Act'):(binOp .neq 29 (actV f) (actV g)).run Tryz.prog w = .ok (.bool (!decide (f=g))) w:=by
 obtain ⟨a,b,c,d⟩:=f;obtain ⟨a',b',c',d'⟩:=g;rw [run_neq_struct,run_equalIn_agg _ _ _ _ _ act_fields act_stood];simp only [Program.fieldsOf,Tryz.underlying29]
 have e1:∀ (x y:Bytes) w,(Op.equalIn 9999 9 (S x) (S y)).run Tryz.prog w = .ok (decide (x=y)) w:=fun x y w=>by
  rw [run_equalIn_string w 9998 _ _ _ Tryz.underlying9,S_eq]
 have e2:∀ (x y:Int) w,(Op.equalIn 9999 3 (I x) (I y)).run Tryz.prog w = .ok (x == y) w:=fun x y w=>run_equalIn_int w 9998 _ _ _ x y Tryz.underlying3;simp [Op.eqFields,part,e1,e2]
 by_cases h1:a=a' <;> by_cases h2:b=b' <;> by_cases h3:c=c' <;> by_cases h4:d=d' <;> simp [h1,h2,h3,h4]
set_option maxHeartbeats 4000000 in
set_option maxRecDepth 100000 in
theorem sameActs_any (A:Option Addr) (n cap:Nat) (C:Option Addr) (cap3:Nat) (fs:List Act') (w:World) (h:actsAt w w.heap.size A n fs) (h':actsAt w w.heap.size C n fs) (hn:n≤1000000) :
  Calls Tryz.prog 51 #[.slice A n cap,.slice C n cap3] w fun e w'=>e = .returned (.bool true)∧Below w.heap.size w w':=by
 have d1:((n:Int) == (n:Int))=true:=by simp
 have d2:((n:Int) != (n:Int))=false:=by simp
 have H:=zH h;have H':=zH h';clear h h';go_enter Tryz.func51,Tryz.ntmps51;go_wp2_with fail;clear d1 d2;go_loopw [5] (fun iv wr=>∃ k:Nat,k≤n∧iv = .int .i64 k∧Below w.heap.size w wr) (fun iv _=>n-(intOf iv).toNat)
 case atStart=>exact ⟨0,Nat.zero_le _,rfl,Below.refl _ _⟩
 case round =>
  obtain ⟨k,hk,rfl,hb0⟩:=hrel;have HBE:=zH hb0
  by_cases hkn:k<n
  ·obtain ⟨b,off,f,rfl,hb,hf,x0,x1,x2,x3⟩:=((zU H).below hb0).at_ (k:=k) hkn;obtain ⟨b',off',g,rfl,hb',hg,y0,y1,y2,y3⟩:=((zU H').below hb0).at_ (k:=k) hkn;obtain rfl:f=g:=by rw [hf] at hg;injection hg
   have z0:(0:Int)≤(k:Int):=by omega
   have z1:(k:Int)<(n:Int):=by omega
   have hgd:=act_guard;have hq:=fun W=>run_neq_act W f f;obtain ⟨f1,f2,f3,f4⟩:=f;rw [decide_eq_true rfl] at hq;clear hf hg hb0;go_wp2_with fail;go_quiet (fail);go_wp2_with fail;go_roundw
   case rel=>exact ⟨k+1,by omega,by go_num,_root_.Go.below_drewN (zU HBE) _⟩
   case measure=>simp [intOf];omega
  ·have z1:¬ (k:Int)<(n:Int):=by omega
   have z2:decide ((k:Int)<(n:Int))=false:=by simp;omega
   clear hb0;go_wp2_with fail;go_ret;exact ⟨rfl,zU HBE⟩
end Go.Proofs.YtjpgoeimclipjaaGreat
namespace Go.Proofs.YtjpgoeimclipjaaGreat
open Go.RowKit Go.Lib Pl
attribute [local go_sem] ext_list app_list
set_option maxHeartbeats 8000000 in
set_option maxRecDepth 100000 in
theorem logReplays_0 (x:Act') (s:Bytes) (w:World) (hx:ActSz x) (hs:s.length≤140737488355328) (hm:MaxLenIs w) (hE:actE x=0) :
  Calls Tryz.prog 13 #[actV x,S s] w fun e w'=>e = .returned (.bool true)∧Below w.heap.size w w':=by
 have C1:=fun (W:World)=>logWrite_any x W hx;have C2:=fun (W:World)=>actError_any x W hx;have C4:=fun (W:World)=>replay_any s W hs;have C5:=fun (W:World)=>replayOf_any s W hs;have hfew:=(replay_few s).1;unfold ReplayRes at C4 C5;obtain ⟨L,hL⟩:∃ L,L=replayL s:=⟨_,rfl⟩
 obtain ⟨k,hk⟩:∃ L,L=replayN s:=⟨_,rfl⟩
 obtain ⟨q,hq⟩:∃ L,L=replayE s:=⟨_,rfl⟩
 rw [←hL,←hk,←hq] at C4 C5;rw [←hL] at hfew;obtain ⟨n,hn⟩:∃ n,n=L.length:=⟨_,rfl⟩
 rw [←hn] at C4 C5 hfew;have C3:=zH (fun (W:World)=>actBytes_any x W hE);rw [hE,show writeA x=actB x from by unfold writeA;rw [if_pos hE]] at C1;rw [hE] at C2;obtain ⟨t,ht⟩:∃ t,t=actB x:=⟨_,rfl⟩
 rw [←ht] at C1;have c3:=zU C3;rw [←ht] at c3;have C3:=zH c3;clear ht c3;have C1:=zH C1;have C2:=zH C2;have C4:=zH C4;have C5:=zH C5;clear hL hk hq hn hx hE hs;obtain ⟨B,hB⟩:∃ B,B=w.heap.size:=⟨_,rfl⟩
 obtain ⟨w0,hw0⟩:∃ w0,w0=(w).alloc (.cells #[I x.kind,I x.n,S x.name,S x.text] 29):=⟨_,rfl⟩
 obtain ⟨B0,hB0⟩:∃ B0,B0=w0.heap.size:=⟨_,rfl⟩
 have hact:w0.heap[B]? = some (.cells #[I x.kind,I x.n,S x.name,S x.text] 29 (0,0)):=by rw [hw0,hB];exact heap_alloc_new _ _
 have H0:=zH (show St w0 w0 B0 [] from ⟨by simp,by rw [hB0];exact Below.refl _ _,by rw [hB0];exact Nat.le_refl _⟩);have HBW:=zH (show Below B w w0 by rw [hw0,hB];exact (Below.refl _ _).alloc (Nat.le_refl _) _);have hlt:B<B0:=by rw [hB0];exact (Array.getElem?_eq_some_iff.1 hact).1
 have HACT:=zH (fun (W:World) (hb:Below B0 w0 W)=>show W.heap[B]? = some (.cells #[I x.kind,I x.n,S x.name,S x.text] 29 (0,0)) from (hb.block _ hlt).trans hact);have HM:=zH (show MaxLenIs w0 from hm.up (by have:=zU HBW;rw [hB] at this;exact this));have HLE:=zH (show B≤B0 by omega);have HB:=zH hB;have HW0:=zH hw0;have HB0:=zH hB0;rw [←hB];clear hB hw0 hB0 hact hlt hm;obtain ⟨xk,xn,xs,xt⟩:=x;go_enter Tryz.func13,Tryz.ntmps13;go_upto_region 1 with fail
 rw [←zU HW0,←zU HB];obtain ⟨p00,p01,p02,p03⟩:=act_cells (zU HACT _ (zU H0).bel);go_wp2_with fail;refine (zU C1 _).mono ?_;rintro e w1 ⟨rfl,hb1⟩;have H1:=zH ((zU H0).below hb1);clear hb1;clear p00 p01 p02 p03;obtain ⟨p10,p11,p12,p13⟩:=act_cells (zU HACT _ (zU H1).bel);go_wp2_with fail;refine (zU C2 _).mono ?_;rintro e w2 ⟨rfl,hb2⟩;have H2:=zH ((zU H1).below hb2);clear hb2;clear p10 p11 p12 p13;obtain ⟨p20,p21,p22,p23⟩:=act_cells (zU HACT _ (zU H2).bel);go_wp2_with fail;refine (zU C3 _).mono ?_;rintro e w3 ⟨rfl,hb3⟩;have H3:=zH ((zU H2).below hb3);clear hb3;clear p20 p21 p22 p23;obtain ⟨p30,p31,p32,p33⟩:=act_cells (zU HACT _ (zU H3).bel);go_wp2_with fail;refine (zU C4 _).mono ?_;rintro e w4 ⟨⟨Al4,cl4,rfl,ho4⟩,hb4⟩;obtain ⟨Am4,cm4,hv4,hat4,_⟩:=actsAt_of_own ho4;injection hv4 with e1 _ _
 subst e1;have HL4:=zH hat4;have H4:=zH ((zU H3).below hb4);clear hb4 ho4 hat4;clear p30 p31 p32 p33;obtain ⟨p40,p41,p42,p43⟩:=act_cells (zU HACT _ (zU H4).bel);go_wp2_with fail;refine (zU C5 _).mono ?_;rintro e w5 ⟨⟨Al5,cl5,rfl,ho5⟩,hb5⟩;have HL4:=zH ((zU HL4).up hb5);obtain ⟨Am5,cm5,hv5,hat5,_⟩:=actsAt_of_own ho5;injection hv5 with e1 _ _
 subst e1;have HL5:=zH hat5;have H5:=zH ((zU H4).below hb5);clear hb5 ho5 hat5;clear p40 p41 p42 p43;obtain ⟨p50,p51,p52,p53⟩:=act_cells (zU HACT _ (zU H5).bel);go_wp2_with fail;refine (logBegun_any _ ((zU HM).up (by have:=(zU H5).bel;rw [zU HB0] at this;exact this))).mono ?_;rintro e w6 ⟨rfl,hb6⟩;have HL4:=zH ((zU HL4).up hb6);have HL5:=zH ((zU HL5).up hb6);have H6:=zH ((zU H5).below hb6);clear hb6;clear p50 p51 p52 p53;obtain ⟨p60,p61,p62,p63⟩:=act_cells (zU HACT _ (zU H6).bel);go_wp2_with fail;refine (sameActs_any Al4 n _ Al5 _ L _ (zU HL4) (zU HL5) (by omega)).mono ?_;rintro e w7 ⟨rfl,hb7⟩;have HL4:=zH ((zU HL4).up hb7);have HL5:=zH ((zU HL5).up hb7);have H7:=zH ((zU H6).below hb7);clear hb7;clear p60 p61 p62 p63;obtain ⟨p70,p71,p72,p73⟩:=act_cells (zU HACT _ (zU H7).bel);go_wp2_with fail;go_ret;exact ⟨rfl,(zU HBW).trans ((zU H7).bel.mono (zU HLE))⟩
set_option maxHeartbeats 8000000 in
set_option maxRecDepth 100000 in
theorem logReplays_1 (x:Act') (s:Bytes) (w:World) (hx:ActSz x) (hs:s.length≤140737488355328) (hm:MaxLenIs w) (hE:actE x≠0) :
  Calls Tryz.prog 13 #[actV x,S s] w fun e w'=>e = .returned (.bool true)∧Below w.heap.size w w':=by
 have C1:=fun (W:World)=>logWrite_any x W hx;have C2:=fun (W:World)=>actError_any x W hx;have C4:=fun (W:World)=>replay_any s W hs;have C5:=fun (W:World)=>replayOf_any s W hs;have hfew:=(replay_few s).1;unfold ReplayRes at C4 C5;obtain ⟨L,hL⟩:∃ L,L=replayL s:=⟨_,rfl⟩
 obtain ⟨k,hk⟩:∃ L,L=replayN s:=⟨_,rfl⟩
 obtain ⟨q,hq⟩:∃ L,L=replayE s:=⟨_,rfl⟩
 rw [←hL,←hk,←hq] at C4 C5;rw [←hL] at hfew;obtain ⟨n,hn⟩:∃ n,n=L.length:=⟨_,rfl⟩
 rw [←hn] at C4 C5 hfew;rw [show writeA x=[] from by unfold writeA;rw [if_neg hE]] at C1;obtain ⟨c,hc⟩:∃ c,c=actE x:=⟨_,rfl⟩
 rw [←hc] at C1 C2 hE;have d1:((c:Int) != 0)=true:=by rw [bne_iff_ne];omega
 have d2:((c:Int) == 0)=false:=by rw [beq_eq_false_iff_ne];omega
 have d3:¬ (c:Int)=0:=by omega
 clear hc;have C1:=zH C1;have C2:=zH C2;have C4:=zH C4;have C5:=zH C5;clear hL hk hq hn hx hE hs;obtain ⟨B,hB⟩:∃ B,B=w.heap.size:=⟨_,rfl⟩
 obtain ⟨w0,hw0⟩:∃ w0,w0=(w).alloc (.cells #[I x.kind,I x.n,S x.name,S x.text] 29):=⟨_,rfl⟩
 obtain ⟨B0,hB0⟩:∃ B0,B0=w0.heap.size:=⟨_,rfl⟩
 have hact:w0.heap[B]? = some (.cells #[I x.kind,I x.n,S x.name,S x.text] 29 (0,0)):=by rw [hw0,hB];exact heap_alloc_new _ _
 have H0:=zH (show St w0 w0 B0 [] from ⟨by simp,by rw [hB0];exact Below.refl _ _,by rw [hB0];exact Nat.le_refl _⟩);have HBW:=zH (show Below B w w0 by rw [hw0,hB];exact (Below.refl _ _).alloc (Nat.le_refl _) _);have hlt:B<B0:=by rw [hB0];exact (Array.getElem?_eq_some_iff.1 hact).1
 have HACT:=zH (fun (W:World) (hb:Below B0 w0 W)=>show W.heap[B]? = some (.cells #[I x.kind,I x.n,S x.name,S x.text] 29 (0,0)) from (hb.block _ hlt).trans hact);have HM:=zH (show MaxLenIs w0 from hm.up (by have:=zU HBW;rw [hB] at this;exact this));have HLE:=zH (show B≤B0 by omega);have HB:=zH hB;have HW0:=zH hw0;have HB0:=zH hB0;rw [←hB];clear hB hw0 hB0 hact hlt hm;obtain ⟨xk,xn,xs,xt⟩:=x;go_enter Tryz.func13,Tryz.ntmps13;go_upto_region 1 with fail
 rw [←zU HW0,←zU HB];obtain ⟨p00,p01,p02,p03⟩:=act_cells (zU HACT _ (zU H0).bel);go_wp2_with fail;refine (zU C1 _).mono ?_;rintro e w1 ⟨rfl,hb1⟩;have H1:=zH ((zU H0).below hb1);clear hb1;clear p00 p01 p02 p03;obtain ⟨p10,p11,p12,p13⟩:=act_cells (zU HACT _ (zU H1).bel);go_wp2_with fail;refine (zU C2 _).mono ?_;rintro e w2 ⟨rfl,hb2⟩;have H2:=zH ((zU H1).below hb2);clear hb2;clear p10 p11 p12 p13;obtain ⟨p20,p21,p22,p23⟩:=act_cells (zU HACT _ (zU H2).bel);go_wp2_with fail;refine (zU C4 _).mono ?_;rintro e w3 ⟨⟨Al3,cl3,rfl,ho3⟩,hb3⟩;obtain ⟨Am3,cm3,hv3,hat3,_⟩:=actsAt_of_own ho3;injection hv3 with e1 _ _
 subst e1;have HL3:=zH hat3;have H3:=zH ((zU H2).below hb3);clear hb3 ho3 hat3;clear p20 p21 p22 p23;obtain ⟨p30,p31,p32,p33⟩:=act_cells (zU HACT _ (zU H3).bel);go_wp2_with fail;refine (zU C5 _).mono ?_;rintro e w4 ⟨⟨Al4,cl4,rfl,ho4⟩,hb4⟩;have HL3:=zH ((zU HL3).up hb4);obtain ⟨Am4,cm4,hv4,hat4,_⟩:=actsAt_of_own ho4;injection hv4 with e1 _ _
 subst e1;have HL4:=zH hat4;have H4:=zH ((zU H3).below hb4);clear hb4 ho4 hat4;clear p30 p31 p32 p33;obtain ⟨p40,p41,p42,p43⟩:=act_cells (zU HACT _ (zU H4).bel);go_wp2_with fail;refine (logBegun_any _ ((zU HM).up (by have:=(zU H4).bel;rw [zU HB0] at this;exact this))).mono ?_;rintro e w5 ⟨rfl,hb5⟩;have HL3:=zH ((zU HL3).up hb5);have HL4:=zH ((zU HL4).up hb5);have H5:=zH ((zU H4).below hb5);clear hb5;clear p40 p41 p42 p43;obtain ⟨p50,p51,p52,p53⟩:=act_cells (zU HACT _ (zU H5).bel);go_wp2_with fail;refine (sameActs_any Al3 n _ Al4 _ L _ (zU HL3) (zU HL4) (by omega)).mono ?_;rintro e w6 ⟨rfl,hb6⟩;have HL3:=zH ((zU HL3).up hb6);have HL4:=zH ((zU HL4).up hb6);have H6:=zH ((zU H5).below hb6);clear hb6;clear p50 p51 p52 p53;obtain ⟨p60,p61,p62,p63⟩:=act_cells (zU HACT _ (zU H6).bel);go_wp2_with fail;go_ret;exact ⟨rfl,(zU HBW).trans ((zU H6).bel.mono (zU HLE))⟩
theorem logReplays_any (x:Act') (s:Bytes) (w:World) (hx:ActSz x) (hs:s.length≤140737488355328) (hm:MaxLenIs w) :
  Calls Tryz.prog 13 #[actV x,S s] w fun e w'=>e = .returned (.bool true)∧Below w.heap.size w w':=by
 by_cases hE:actE x=0
 ·exact logReplays_0 x s w hx hs hm hE
 ·exact logReplays_1 x s w hx hs hm hE
end Go.Proofs.YtjpgoeimclipjaaGreat
