/- Parts of the proofs. -/
import Derived.Test.YtjpgoeimclipjaaGreatLg14
namespace Go.Proofs.YtjpgoeimclipjaaGreat
open Go.RowKit Go.Lib Pl
attribute [local go_sem] ext_list app_list
section
variable {x : Act'} {w W W' : World} {B : Nat} {A : Option Addr} {n : Nat} {L : List Act'}
theorem StS.drew (h:StS x w B A n L W):StS x w B A n L W.drew:=h.below (Below.refl _ _).drew
end
attribute [local go_sem ↓] concat_list in
set_option maxHeartbeats 8000000 in
set_option maxRecDepth 100000 in
theorem storeOf_any (s:Bytes) (x:Act') (w:World) (hs:s.length≤140737488355328) (hx:ActSz x) :
  Calls Tryz.prog 52 #[S s,actV x] w fun e w'=>e = .returned (.tuple #[S (storeA s x).1,I (storeA s x).2])∧Below w.heap.size w w':=by
 obtain ⟨B,hB⟩:∃ B,B=w.heap.size:=⟨_,rfl⟩
 obtain ⟨w0,hw0⟩:∃ w0,w0=w.alloc (.cells #[I x.kind,I x.n,S x.name,S x.text] 29):=⟨_,rfl⟩
 have H0:=zH (show WrM x w w0 B by rw [hw0,hB];exact WrM.new x w);have C1:=zH (fun W=>replayOf_any s W hs);have S1:=zH (store_1 (s:=s) (x:=x));have S2:=zH (store_2 (s:=s) (x:=x));have S3:=zH (store_3 (s:=s) (x:=x));have S4:=zH (store_4 (s:=s) (x:=x));have S5:=zH (store_5 (s:=s) (x:=x));obtain ⟨hfew,hkn,_⟩:=replay_few s;have hsz:=replay_sz s;have hec:=replayE_cases s;obtain ⟨r,hr⟩:∃ r,r=storeA s x:=⟨_,rfl⟩
 rw [←hr,←hB];have c1:=zU C1;have s1:=zU S1;have s2:=zU S2;have s3:=zU S3;have s4:=zU S4;have s5:=zU S5;clear C1 S1 S2 S3 S4 S5;unfold ReplayRes at c1;rw [←hr] at s1 s2 s3 s4 s5;obtain ⟨L,hL⟩:∃ L,L=replayL s:=⟨_,rfl⟩
 obtain ⟨q,hq⟩:∃ L,L=replayE s:=⟨_,rfl⟩
 obtain ⟨k,hk⟩:∃ L,L=replayN s:=⟨_,rfl⟩
 obtain ⟨E,hE⟩:∃ E,E=actE x:=⟨_,rfl⟩
 obtain ⟨t,ht⟩:∃ E,E=actB x:=⟨_,rfl⟩
 obtain ⟨y,hy⟩:∃ y,y=doA (doneA L) x:=⟨_,rfl⟩
 rw [←hL] at hfew hsz;rw [←hk] at hkn;rw [←hq] at hec s1 s2 s3 s4 s5;rw [←hL,←hq,←hk] at c1;rw [←hE] at s2 s3 s4 s5;rw [←hL,←hk,←ht] at s3 s4 s5;rw [←hy] at s4 s5;obtain ⟨n,hn⟩:∃ n,n=L.length:=⟨_,rfl⟩
 rw [←hn] at hfew c1 s3 s4 s5;have htl:E=0→t.length≤1046:=fun h=>by rw [ht];exact (actB_len (by rw [←hE];exact h)).1
 have CE:=fun W=>actError_any x W hx;rw [←hE] at CE;have CE:=zH CE;have CA:=zH (fun (h:E=0) (W:World)=>show Calls Tryz.prog 48 #[actV x] W fun e w'=>e = .returned (S t)∧Below W.heap.size W w' by rw [ht];exact actBytes_any x W (by rw [←hE];exact h));have CD:=zH (fun (A:Option Addr) (cap:Nat) (W:World) (hat:actsAt W W.heap.size A n L)=>doneOf_any A n cap L W hat hsz (by omega));have CO:=fun (C:Option Addr) (m kc:Nat) (C2:Option Addr) (m2 kc2:Nat) (W:World) (hi:ArcIn W C m C2 m2 (doneA L))=>doOf_any C m kc C2 m2 kc2 (doneA L) x W hi (right_sz (doneA_ra _)) hx;rw [←hy] at CO;have CO:=zH CO;obtain ⟨xk,xn,xs,xt⟩:=x;have R:=zH (show (∀ W A,StS ⟨xk,xn,xs,xt⟩ w B A n L W→W.cell? ⟨B,0,none⟩=some (I xk))∧(∀ W A,StS ⟨xk,xn,xs,xt⟩ w B A n L W→W.cell? ⟨B,1,none⟩=some (I xn))∧(∀ W A,StS ⟨xk,xn,xs,xt⟩ w B A n L W→W.cell? ⟨B,2,none⟩=some (S xs))∧(∀ W A,StS ⟨xk,xn,xs,xt⟩ w B A n L W→W.cell? ⟨B,3,none⟩=some (S xt)) from ⟨fun W A h=>(act_cells h.m.t).1,fun W A h=>(act_cells h.m.t).2.1,fun W A h=>(act_cells h.m.t).2.2.1,fun W A h=>(act_cells h.m.t).2.2.2⟩);have C1:=zH c1;have S1:=zH s1;have S2:=zH s2;have S3:=zH s3;have S4:=zH s4;have S5:=zH s5;have HB:=zH hB;have HW0:=zH hw0;have HTL:=zH htl;clear c1 s1 s2 s3 s4 s5 hB hw0 hr hL hq hk hE ht hy hn hsz htl hx hs
 rcases hec with ⟨_,hq⟩ | ⟨hsl,hq⟩
 ·have HR:r=([],q):=zU S1 (by omega);subst hq;go_enter Tryz.func52,Tryz.ntmps52;go_upto_region 1 with fail
  rw [←zU HW0,←zU HB];go_wp2_with fail;refine (zU C1 _).mono ?_;rintro e w1 ⟨⟨A,cap,rfl,ho1⟩,hb1⟩;obtain ⟨A',cap',hv,hat,_⟩:=actsAt_of_own ho1;injection hv with e1 _ _
  subst e1;have H1:=zH (show StS ⟨xk,xn,xs,xt⟩ w B A n L w1 from ⟨(zU H0).below hb1,hat⟩);clear hb1 ho1 hat;go_wp2_with fail;go_ret2;rw [HR];exact ⟨rfl,(zU H1).m.bel⟩
 have d0:((q:Int) != 0)=false:=by rw [hq];rfl
 have d0':((q:Int) == 0)=true:=by rw [hq];rfl
 by_cases hE:E≠0
 ·have HR:r=([],E):=zU S2 hq hE;have d1:((E:Int) != 0)=true:=by rw [bne_iff_ne];omega
  have d2:((E:Int) == 0)=false:=by rw [beq_eq_false_iff_ne];omega
  clear hE;subst hq;go_enter Tryz.func52,Tryz.ntmps52;go_upto_region 1 with fail
  rw [←zU HW0,←zU HB];go_wp2_with fail;refine (zU C1 _).mono ?_;rintro e w1 ⟨⟨A,cap,rfl,ho1⟩,hb1⟩;obtain ⟨A',cap',hv,hat,_⟩:=actsAt_of_own ho1;injection hv with e1 _ _
  subst e1;have H1:=zH (show StS ⟨xk,xn,xs,xt⟩ w B A n L w1 from ⟨(zU H0).below hb1,hat⟩);clear hb1 ho1 hat;obtain ⟨p0,p1,p2,p3⟩:=act_cells (zU H1).m.t;go_wp2_with fail;refine (zU CE _).mono ?_;rintro e w2 ⟨rfl,hb2⟩;have H2:=zH ((zU H1).below hb2);clear hb2 p0 p1 p2 p3;go_wp2_with fail;go_ret2;rw [HR];exact ⟨rfl,(zU H2).m.bel⟩
 have hE0:E=0:=Decidable.not_not.1 hE;subst hE0;have hlt:=zU HTL rfl;subst hq;have T3:=zH (zU S3 rfl rfl);have T4:=zH (zU S4 rfl rfl);have T5:=zH (zU S5 rfl rfl);clear hE d0 d0' HTL S1 S2 S3 S4 S5;have CA2:=zH (zU CA rfl);clear CA
 by_cases h100:100≤n
 ·have HR:r=([],2):=zU T3 (.inl h100);have d100:(100:Int)≤(n:Int):=by omega
  go_enter Tryz.func52,Tryz.ntmps52;go_upto_region 1 with fail
  rw [←zU HW0,←zU HB];go_wp2_with fail;refine (zU C1 _).mono ?_;rintro e w1 ⟨⟨A,cap,rfl,ho1⟩,hb1⟩;obtain ⟨A',cap',hv,hat,_⟩:=actsAt_of_own ho1;injection hv with e1 _ _
  subst e1;have H1:=zH (show StS ⟨xk,xn,xs,xt⟩ w B A n L w1 from ⟨(zU H0).below hb1,hat⟩);clear hb1 ho1 hat;obtain ⟨p0,p1,p2,p3⟩:=act_cells (zU H1).m.t;go_wp2_with fail;refine (zU CE _).mono ?_;rintro e w2 ⟨rfl,hb2⟩;have H2:=zH ((zU H1).below hb2);clear hb2 p0 p1 p2 p3;go_wp2_with fail;go_ret2;rw [HR];exact ⟨rfl,(zU H2).m.bel⟩
 have d100:¬ (100:Int)≤(n:Int):=by omega
 by_cases hbig:16384<k+t.length
 ·have HR:r=([],2):=zU T3 (.inr hbig);have z3:(16384:Int)<(k:Int)+(t.length:Int):=by omega
  go_enter Tryz.func52,Tryz.ntmps52;go_upto_region 1 with fail
  rw [←zU HW0,←zU HB];go_wp2_with fail;refine (zU C1 _).mono ?_;rintro e w1 ⟨⟨A,cap,rfl,ho1⟩,hb1⟩;obtain ⟨A',cap',hv,hat,_⟩:=actsAt_of_own ho1;injection hv with e1 _ _
  subst e1;have H1:=zH (show StS ⟨xk,xn,xs,xt⟩ w B A n L w1 from ⟨(zU H0).below hb1,hat⟩);clear hb1 ho1 hat;obtain ⟨p0,p1,p2,p3⟩:=act_cells (zU H1).m.t;go_wp2_with fail;refine (zU CE _).mono ?_;rintro e w2 ⟨rfl,hb2⟩;have H2:=zH ((zU H1).below hb2);clear hb2 p0 p1 p2 p3;obtain ⟨p0,p1,p2,p3⟩:=act_cells (zU H2).m.t;go_wp2_with fail;refine (zU CA2 _).mono ?_;rintro e w3 ⟨rfl,hb3⟩;have H2:=zH ((zU H2).below hb3);clear hb3 p0 p1 p2 p3;go_wp2_with fail;go_ret2;rw [HR];exact ⟨rfl,(zU H2).m.bel⟩
 have z3:¬ (16384:Int)<(k:Int)+(t.length:Int):=by omega
 have U4:=zH (zU T4 (by omega));have U5:=zH (zU T5 (by omega));clear T3 T4 T5;go_enter Tryz.func52,Tryz.ntmps52;go_upto_region 1 with fail
 rw [←zU HW0,←zU HB];go_wp2_with fail;refine (zU C1 _).mono ?_;rintro e w1 ⟨⟨A,cap,rfl,ho1⟩,hb1⟩;obtain ⟨A',cap',hv,hat,_⟩:=actsAt_of_own ho1;injection hv with e1 _ _
 subst e1;have H1:=zH (show StS ⟨xk,xn,xs,xt⟩ w B A n L w1 from ⟨(zU H0).below hb1,hat⟩);clear hb1 ho1 hat;obtain ⟨p0,p1,p2,p3⟩:=act_cells (zU H1).m.t;go_wp2_with fail;refine (zU CE _).mono ?_;rintro e w2 ⟨rfl,hb2⟩;have H2:=zH ((zU H1).below hb2);clear hb2 p0 p1 p2 p3;obtain ⟨p0,p1,p2,p3⟩:=act_cells (zU H2).m.t;go_wp2_with fail;refine (zU CA2 _).mono ?_;rintro e w3 ⟨rfl,hb3⟩;have H2:=zH ((zU H2).below hb3);clear hb3 p0 p1 p2 p3;go_upto_region 9 with fail
 clear d100 z3 hbig h100;have KD:=zH (fun (c:Nat) (W:World) (hW:Below w3.heap.size w3 W)=>zU CD A c W ((zU H2).l.up hW));have HM2:=zH (trivial);have R:=zH (show (∀ W,Below w3.heap.size w3 W→W.cell? ⟨B,0,none⟩=some (I xk))∧(∀ W,Below w3.heap.size w3 W→W.cell? ⟨B,1,none⟩=some (I xn))∧(∀ W,Below w3.heap.size w3 W→W.cell? ⟨B,2,none⟩=some (S xs))∧(∀ W,Below w3.heap.size w3 W→W.cell? ⟨B,3,none⟩=some (S xt)) from ⟨fun W h=>(act_cells ((zU H2).m.below h).t).1,fun W h=>(act_cells ((zU H2).m.below h).t).2.1,fun W h=>(act_cells ((zU H2).m.below h).t).2.2.1,fun W h=>(act_cells ((zU H2).m.below h).t).2.2.2⟩);obtain ⟨r0,r1,r2,r3⟩:=zU R;go_cut [11] (fun ev wx=>ev=I y.2∧StS ⟨xk,xn,xs,xt⟩ w B A n L wx)
 case first =>
  go_region_held3 (fun W=>Below w3.heap.size w3 W) (first | assumption | exact bl_drew (Below.refl _ _) | exact bl_drew (bl_alloc (Below.refl _ _) _) | exact bl_alloc (Below.refl _ _) _ | exact bl_drew (by assumption) | exact bl_alloc (by assumption) _ | exact bl_set (bl_set (by assumption) _ _) _ _ | exact bl_set (by assumption) _ _ | exact bl_set1 (bl_set1 (by assumption) hle4 _ _) hle4 _ _ | exact bl_set1 (by assumption) hle4 _ _ | exact bl_call (by assumption) (by assumption))
   ((first
    | (go_at_call 19;refine (zU KD _ _ (by first | exact bl_drew (Below.refl _ _) | exact bl_drew (bl_alloc (Below.refl _ _) _) | assumption)).mono ?_;rintro e w4 ⟨⟨Ra,na,ca,Rb,nb',cb,rfl,ho4⟩,hb4⟩;have HI4:=zH ho4.inn;have hb4w:Below w3.heap.size w3 w4:=(by first | exact bl_call (bl_drew (Below.refl _ _)) hb4 | exact bl_call (bl_drew (bl_alloc (Below.refl _ _) _)) hb4);have hle4:w3.heap.size≤w4.heap.size:=hb4w.size;(try (have hz4:w4.heap[w3.heap.size]? = some (.cells #[.slice none 0 0,.slice none 0 0] 33 (0,0)):=(hb4.block w3.heap.size (by show w3.heap.size<(w3.alloc _).heap.size;simp)).trans (heap_alloc_new w3 (.cells #[.slice none 0 0,.slice none 0 0] 33));have HZ4:=zH hz4;clear hz4));clear ho4 hb4)
    | (go_at_call 45;refine (zU CO Ra na ca Rb nb' cb _ (by first | exact zU HI4 | exact (zU HI4).alloc _)).mono ?_;rintro e w5 ⟨hr5,hb5⟩;obtain ⟨Rc,nc,cc,Rd,nd,cd,rfl,_,_,_⟩:=hr5.open;have hb5w:Below w3.heap.size w3 w5:=(by first | exact bl_call hb4w hb5 | exact bl_call (bl_alloc hb4w _) hb5);(try (have hz5:w5.heap[w3.heap.size]? = some (.cells #[.slice none 0 0,.slice none 0 0] 33 (0,0)):=(hb5.block w3.heap.size ((Array.getElem?_eq_some_iff.1 (zU HZ4)).1)).trans (zU HZ4);obtain ⟨y0,y1,f0,f1⟩:=two_cells hz5;clear hz5));(try (have hz6:w5.heap[w4.heap.size]? = some (.cells #[.slice none 0 0,.slice none 0 0] 33 (0,0)):=(hb5.block w4.heap.size (by simp)).trans (heap_alloc_new w4 (.cells #[.slice none 0 0,.slice none 0 0] 33));obtain ⟨y2,y3,f2,f3⟩:=two_cells hz6;clear hz6));clear hr5 hb5)
    | fail))
  all_goals
   go_wp2_with fail;go_meet;exact ⟨rfl,(zU H2).below (by assumption)⟩
 case rest =>
  obtain ⟨rfl,h6⟩:=hcut;have H6:=zH h6;clear h6
  by_cases hy:y.2=0
  ·have HR:r=(s.take k++t,0):=zU U5 hy;have d6:((y.2:Int) != 0)=false:=by rw [hy];rfl
   have d7:((y.2:Int) == 0)=true:=by rw [hy];rfl
   have z6:(k:Int)≤(s.length:Int):=by omega
   rw [take_slice] at HR;have hsl2:(Pl.slice s 0 k).length≤s.length:=by unfold Pl.slice;rw [List.length_drop,List.length_take];omega
   have b1:(Pl.slice s 0 k).length+t.length≤9223372036854775807:=by omega
   have z7:k≤s.length:=hkn;clear hy;go_wp2_with fail;have R:=zH (show (∀ W,StS ⟨xk,xn,xs,xt⟩ w B A n L W→W.cell? ⟨B,0,none⟩=some (I xk))∧(∀ W,StS ⟨xk,xn,xs,xt⟩ w B A n L W→W.cell? ⟨B,1,none⟩=some (I xn))∧(∀ W,StS ⟨xk,xn,xs,xt⟩ w B A n L W→W.cell? ⟨B,2,none⟩=some (S xs))∧(∀ W,StS ⟨xk,xn,xs,xt⟩ w B A n L W→W.cell? ⟨B,3,none⟩=some (S xt)) from ⟨fun W h=>(act_cells h.m.t).1,fun W h=>(act_cells h.m.t).2.1,fun W h=>(act_cells h.m.t).2.2.1,fun W h=>(act_cells h.m.t).2.2.2⟩);obtain ⟨r0,r1,r2,r3⟩:=zU R
   go_region_held3 (fun W=>StS ⟨xk,xn,xs,xt⟩ w B A n L W) (first | exact (zU H6).drew | assumption | exact StS.drew (by assumption) | exact StS.below (by assumption) (by assumption))
    ((first
     | (go_at_call 48;refine (zU CA2 _).mono ?_;rintro e w7 ⟨rfl,hb7⟩)
     | fail))
   all_goals
    have hfin:StS ⟨xk,xn,xs,xt⟩ w B A n L _:=(by assumption)
    have HFIN:=zH hfin.m.bel;go_wp2_with fail;go_ret2;rw [HR];exact ⟨rfl,zU HFIN⟩
  ·have HR:r=([],y.2):=zU U4 hy;have d6:((y.2:Int) != 0)=true:=by rw [bne_iff_ne];omega
   have d7:((y.2:Int) == 0)=false:=by rw [beq_eq_false_iff_ne];omega
   go_wp2_with fail;go_ret2;rw [HR];exact ⟨rfl,(zU H6).m.bel⟩
end Go.Proofs.YtjpgoeimclipjaaGreat
namespace Go.Proofs.YtjpgoeimclipjaaGreat
open Go.RowKit Go.Lib Pl
attribute [local go_sem] ext_list app_list
structure StL (w W:World) (B:Nat) (l:List Vr) (A:Option Addr) (n:Nat) (L:List Act'):Prop where
 s:St w W B l
 r:actsAt W W.heap.size A n L
theorem StL.below {w W W':World} {B:Nat} {l:List Vr} {A:Option Addr} {n:Nat} {L:List Act'} (h:StL w W B l A n L) (hb:Below W.heap.size W W'):StL w W' B l A n L:=⟨h.s.below hb,h.r.up hb⟩
theorem StL.drew {w W:World} {B:Nat} {l:List Vr} {A:Option Addr} {n:Nat} {L:List Act'} (h:StL w W B l A n L):StL w W.drew B l A n L:=h.below (Below.refl _ _).drew
set_option maxHeartbeats 8000000 in
set_option maxRecDepth 100000 in
theorem logStores_any (s:Bytes) (x:Act') (w:World) (hs:s.length≤140737488355328) (hx:ActSz x) (hm:MaxLenIs w) :
  Calls Tryz.prog 14 #[S s,actV x] w fun e w'=>e = .returned (.bool true)∧Below w.heap.size w w':=by
 have C1:=fun (W:World) (hM:MaxLenIs W)=>recover_any s W hs hM;have C2:=fun (W:World)=>replayOf_any s W hs;have C3:=fun (W:World) (hM:MaxLenIs W)=>store_any s x W hs hx hM;have C4:=fun (W:World)=>storeOf_any s x W hs hx;have hfew:=(replay_few s).1;have hsz:=replay_sz s;have hra:=doneA_ra (replayL s);have hnd:=hra.nd;have hnf:=hra.nf;unfold ReplayRes at C2;obtain ⟨L,hL⟩:∃ L,L=replayL s:=⟨_,rfl⟩
 obtain ⟨k,hk⟩:∃ L,L=replayN s:=⟨_,rfl⟩
 obtain ⟨q,hq⟩:∃ L,L=replayE s:=⟨_,rfl⟩
 obtain ⟨t,ht⟩:∃ t,t=(storeA s x).1:=⟨_,rfl⟩
 obtain ⟨c,hc⟩:∃ t,t=(storeA s x).2:=⟨_,rfl⟩
 rw [←hL,←hq] at C1;rw [←hL,←hk,←hq] at C2;rw [←ht,←hc] at C3 C4;rw [←hL] at hfew hsz hnd hnf;obtain ⟨n,hn⟩:∃ n,n=L.length:=⟨_,rfl⟩
 rw [←hn] at C1 C2 hfew;obtain ⟨a,ha⟩:∃ a,a=doneA L:=⟨_,rfl⟩
 rw [←ha] at C1 hnd hnf;have CD:=fun (A:Option Addr) (cap:Nat) (W:World) (hat:actsAt W W.heap.size A n L)=>doneOf_any A n cap L W hat hsz (by omega);rw [←ha] at CD;have C1:=zH C1;have C2:=zH C2;have C3:=zH C3;have C4:=zH C4;have CD:=zH CD;clear hL hk hq hn hx ht hc hs hra hsz ha;obtain ⟨B,hB⟩:∃ B,B=w.heap.size:=⟨_,rfl⟩
 obtain ⟨w0,hw0⟩:∃ w0,w0=(w).alloc (.cells #[I x.kind,I x.n,S x.name,S x.text] 29):=⟨_,rfl⟩
 obtain ⟨B0,hB0⟩:∃ B0,B0=w0.heap.size:=⟨_,rfl⟩
 have hact:w0.heap[B]? = some (.cells #[I x.kind,I x.n,S x.name,S x.text] 29 (0,0)):=by rw [hw0,hB];exact heap_alloc_new _ _
 have H0:=zH (show St w0 w0 B0 [] from ⟨by simp,by rw [hB0];exact Below.refl _ _,by rw [hB0];exact Nat.le_refl _⟩);have HBW:=zH (show Below B w w0 by rw [hw0,hB];exact (Below.refl _ _).alloc (Nat.le_refl _) _);have hlt:B<B0:=by rw [hB0];exact (Array.getElem?_eq_some_iff.1 hact).1
 have HACT:=zH (fun (W:World) (hb:Below B0 w0 W)=>show W.heap[B]? = some (.cells #[I x.kind,I x.n,S x.name,S x.text] 29 (0,0)) from (hb.block _ hlt).trans hact);have HM:=zH (show MaxLenIs w0 from hm.up (by have:=zU HBW;rw [hB] at this;exact this));have HLE:=zH (show B≤B0 by omega);have HB:=zH hB;have HW0:=zH hw0;have HB0:=zH hB0;rw [←hB];clear hB hw0 hB0 hact hlt hm;obtain ⟨xk,xn,xs,xt⟩:=x;go_enter Tryz.func14,Tryz.ntmps14;go_upto_region 1 with fail
 rw [←zU HW0,←zU HB];obtain ⟨p00,p01,p02,p03⟩:=act_cells (zU HACT _ (zU H0).bel);go_wp2_with fail;refine (zU C1 _ ((zU HM).up (by have:=(zU H0).bel;rw [zU HB0] at this;exact this))).mono ?_;rintro e w1 ⟨hr1,hb1⟩;obtain ⟨Ra1,na1,ca1,Rb1,nb1,cb1,rfl,hi1,hc1,ho1⟩:=hr1.open;have H1:=zH ((zU H0).below hb1);have HI1:=zH hi1;have HC1:=zH hc1;have HO1:=zH ho1;clear hb1 hi1 hc1 hr1 ho1;go_upto_region 2 with (refine wpList_store_row rfl 33 (.tmp 5) (.tmp 18) rfl w1.heap.size #[.slice Ra1 na1 ca1,.slice Rb1 nb1 cb1] rfl rfl 33 _ (heap_alloc_new _ _) sizeArc rfl (one_two _ _ _ _ _ _) ?_)
 obtain ⟨x1,hx1⟩:∃ x,x=(w1.alloc (.cells #[.slice none 0 0,.slice none 0 0] 33)).setRow w1.heap.size #[.slice Ra1 na1 ca1,.slice Rb1 nb1 cb1]:=⟨_,rfl⟩
 obtain ⟨P1,hP1⟩:∃ P,P=w1.heap.size:=⟨_,rfl⟩
 have G1:=zH (show St w0 x1 B0 [⟨P1,Ra1,na1,ca1,Rb1,nb1,cb1,a⟩] by rw [hx1,hP1];exact (zU H1).new (zU HI1) ca1 cb1);rw [←hx1,←hP1];clear hx1 hP1;clear p00 p01 p02 p03;have u1x0:x1.cell? ⟨P1,0,none⟩=some (.slice Ra1 na1 ca1):=(zU G1).c0 0 rfl;have v1x0:x1.cell? ⟨P1,1,none⟩=some (.slice Rb1 nb1 cb1):=(zU G1).c1 0 rfl;obtain ⟨p10,p11,p12,p13⟩:=act_cells (zU HACT _ (zU G1).bel);go_wp2_with fail;refine (zU C2 _).mono ?_;rintro e w2 ⟨⟨Al2,cl2,rfl,ho2⟩,hb2⟩;obtain ⟨Am2,cm2,hv2,hat2,_⟩:=actsAt_of_own ho2;injection hv2 with e1 _ _
 subst e1;have HL2:=zH hat2;have H2:=zH ((zU G1).below hb2);clear hb2 ho2 hat2;clear u1x0 v1x0 p10 p11 p12 p13;have u2x0:w2.cell? ⟨P1,0,none⟩=some (.slice Ra1 na1 ca1):=(zU H2).c0 0 rfl;have v2x0:w2.cell? ⟨P1,1,none⟩=some (.slice Rb1 nb1 cb1):=(zU H2).c1 0 rfl;obtain ⟨p20,p21,p22,p23⟩:=act_cells (zU HACT _ (zU H2).bel);go_wp2_with fail;refine (zU C3 _ ((zU HM).up (by have:=(zU H2).bel;rw [zU HB0] at this;exact this))).mono ?_;rintro e w3 ⟨rfl,hb3⟩;have HL2:=zH ((zU HL2).up hb3);have H3:=zH ((zU H2).below hb3);clear hb3;clear u2x0 v2x0 p20 p21 p22 p23;have u3x0:w3.cell? ⟨P1,0,none⟩=some (.slice Ra1 na1 ca1):=(zU H3).c0 0 rfl;have v3x0:w3.cell? ⟨P1,1,none⟩=some (.slice Rb1 nb1 cb1):=(zU H3).c1 0 rfl;obtain ⟨p30,p31,p32,p33⟩:=act_cells (zU HACT _ (zU H3).bel);go_wp2_with fail;refine (zU C4 _).mono ?_;rintro e w4 ⟨rfl,hb4⟩;have HL2:=zH ((zU HL2).up hb4);have H4:=zH ((zU H3).below hb4);clear hb4;clear u3x0 v3x0 p30 p31 p32 p33;have u4x0:w4.cell? ⟨P1,0,none⟩=some (.slice Ra1 na1 ca1):=(zU H4).c0 0 rfl;have v4x0:w4.cell? ⟨P1,1,none⟩=some (.slice Rb1 nb1 cb1):=(zU H4).c1 0 rfl;obtain ⟨p40,p41,p42,p43⟩:=act_cells (zU HACT _ (zU H4).bel);go_upto_region 5 with fail
 have HS:=zH (show StL w0 w4 B0 [⟨P1,Ra1,na1,ca1,Rb1,nb1,cb1,a⟩] Al2 n L from ⟨zU H4,zU HL2⟩);clear u4x0 v4x0 p40 p41 p42 p43;have t0:∀ W:World,StL w0 W B0 [⟨P1,Ra1,na1,ca1,Rb1,nb1,cb1,a⟩] Al2 n L→W.cell? ⟨P1,0,none⟩=some (.slice Ra1 na1 ca1):=fun W hW=>hW.s.c0 0 rfl;have t1:∀ W:World,StL w0 W B0 [⟨P1,Ra1,na1,ca1,Rb1,nb1,cb1,a⟩] Al2 n L→W.cell? ⟨P1,1,none⟩=some (.slice Rb1 nb1 cb1):=fun W hW=>hW.s.c1 0 rfl;have CB:=zH (fun (W:World) (hW:StL w0 W B0 [⟨P1,Ra1,na1,ca1,Rb1,nb1,cb1,a⟩] Al2 n L)=>logBegun_any W ((zU HM).up (by have:=hW.s.bel;rw [zU HB0] at this;exact this)));have CDD:=zH (fun (c:Nat) (W:World) (hW:StL w0 W B0 [⟨P1,Ra1,na1,ca1,Rb1,nb1,cb1,a⟩] Al2 n L)=>zU CD Al2 c W hW.r);have CS:=zH (fun (W:World) (hW:StL w0 W B0 [⟨P1,Ra1,na1,ca1,Rb1,nb1,cb1,a⟩] Al2 n L) (C:Option Addr) (m kc:Nat) (C2:Option Addr) (m2 kc2:Nat) (hi:ArcIn W C m C2 m2 a)=>sameArc Ra1 na1 ca1 Rb1 nb1 cb1 C m kc C2 m2 kc2 a W (hW.s.at_ 0 rfl).i hi hnd hnf)
 go_region_held3 (fun W=>StL w0 W B0 [⟨P1,Ra1,na1,ca1,Rb1,nb1,cb1,a⟩] Al2 n L) (first | exact (zU HS).drew | assumption | exact StL.drew (by assumption) | exact StL.below (by assumption) (by assumption))
  ((first
   | (go_at_call 15;refine (zU CB _ (by first | exact (zU HS).drew | exact zU HS | assumption | exact StL.drew (by assumption) | exact StL.below (by assumption) (by assumption))).mono ?_;rintro e wz ⟨rfl,hbz⟩)
   | (go_at_call 19;refine (zU CDD _ _ (by first | exact (zU HS).drew | exact zU HS | assumption | exact StL.drew (by assumption) | exact StL.below (by assumption) (by assumption))).mono ?_;rintro e wz ⟨⟨Rz,nz,cz,Ry,ny,cy,rfl,hoz⟩,hbz⟩;have HIZ:=zH hoz.inn;clear hoz)
   | (go_at_call 18;refine (zU CS _ (by first | assumption | exact StL.below (by assumption) (by assumption)) _ _ _ _ _ _ (zU HIZ)).mono ?_;rintro e wy ⟨rfl,hby⟩)))
 all_goals
  go_wp2_with fail;go_ret;exact ⟨rfl,(zU HBW).trans ((StL.s (by assumption)).bel.mono (zU HLE))⟩
end Go.Proofs.YtjpgoeimclipjaaGreat
