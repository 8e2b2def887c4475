/- Parts of the proofs. -/
import Derived.Test.YtbnmfdlaabdlhaaGreatDoorDk14
import Derived.Deep.Slices
import Derived.Deep.Fields
import Derived.Carry
import Derived.OpenVars
import Derived.HandedShaped
import Derived.Shelf.Vars
set_option maxHeartbeats 16000000
set_option maxRecDepth 100000
namespace Go.Proofs.YtbnmfdlaabdlhaaGreatDoor
section
open Go.RowKit Go.Lib Pl
attribute [local go_sem] qf qe
theorem qnw(args:Array Value)(w:World):(callFunc 40 args).run Tryz.prog w=.ok (.enter 40 args) w :=
 qbn Tryz.func40 (by kernel_rfl) (by kernel_rfl) args w
theorem qnr(args:Array Value)(w:World):(callFunc 41 args).run Tryz.prog w=.ok (.enter 41 args) w :=
 qbn Tryz.func41 (by kernel_rfl) (by kernel_rfl) args w
theorem qbX(args:Array Value)(w:World):(callFunc 38 args).run Tryz.prog w=.ok (.enter 38 args) w :=
 qbn Tryz.func38 (by kernel_rfl) (by kernel_rfl) args w
theorem qor(e:Nat)(w:World)(he:e<=5) :
  Calls Tryz.prog 38 #[I e] w fun x w'=>x=.returned (S (qez e))/\Below w.heap.size w w':=by
 have C:=qe9 e w (by omega);have hl:=qnY (n:=e) (by omega);obtain⟨d,hd⟩:∃d,d=dig e:=⟨_,rfl⟩
 have hed:qez e=qeQ++d:=by rw[hd];rfl
 rw[<-hd]at C hl;rw[hed];have C:=zH C;clear hd hed he;go_enter Tryz.func38,Tryz.ntmps38;go_wp2_with fail;refine (zU C).mono ?_;rintro x w1 ⟨rfl,hb1⟩;have HB:=zH hb1;clear hb1;go_wp2_with fail;go_ret;exact⟨rfl,zU HB⟩
theorem qwx{a:Arc} : (qbu a).1.length<=16384:=by
 unfold qbu
 split
 ·exact Nat.zero_le _
 ·split
  ·exact Nat.zero_le _
  ·rename_i h2;show (qbm a).length<=16384;omega
theorem qtl(base:Nat)(A:Option Addr)(n cap:Nat)(A2:Option Addr)(n2 cap2:Nat)(a:Arc)(s:qa)(w:World)(h:OwnA w base (.slice A n cap) (.slice A2 n2 cap2) a)(hra:RightA a)(hs:s.length<=16384)(hbase:base<=w.heap.size) :
  Calls Tryz.prog 14 #[qv A n cap A2 n2 cap2,S s] w fun e w'=>(∃C m k C2 m2 k2,e=.returned (.tuple #[qv C m k C2 m2 k2,S (qaK a s).2])/\OwnA w' base (.slice C m k) (.slice C2 m2 k2) (qaK a s).1)/\Below w.heap.size w w':=by
 obtain⟨B,hB⟩:∃B,B=w.heap.size:=⟨_,rfl⟩
 obtain⟨w0,hw0⟩:∃w0,w0=(w.alloc (.cells #[.slice A n cap,.slice A2 n2 cap2] 33)).alloc (.cells #[.slice none 0 0,.slice none 0 0] 33):=⟨_,rfl⟩
 have H0:=zH (show AR A n cap A2 n2 cap2 a w w0 B by rw[hw0,hB];exact AR.new h.inn cap cap2);have HI:=zH h;have HZ:=zH (qgj hra);have HRA:=zH hra;have HB:=zH hB;have HW0:=zH hw0;have HBS:=zH (show base<=B by rw[hB];exact hbase);rw[<-hB];obtain⟨g,hg⟩:∃g,g=qaK a s:=⟨_,rfl⟩
 rw[<-hg];have hg:g=qhp a (qc9 a s):=hg;have hr5:=qkn a s;obtain⟨r,hr⟩:∃r,r=qc9 a s:=⟨_,rfl⟩
 rw[<-hr]at hg hr5;have HG:=zH hg;have HR5:=zH hr5;unfold qc9 at hr;have hwl:=qcE s;have CW:=qeP s w0 hs;obtain⟨op,hop⟩:∃x,x=(qi s).1:=⟨_,rfl⟩
 obtain⟨rest,hrest⟩:∃x,x=(qi s).2.1:=⟨_,rfl⟩
 obtain⟨m,hm⟩:∃x,x=(qi s).2.2:=⟨_,rfl⟩
 rw[<-hop,<-hrest,<-hm]at CW;have CW:=zH CW;rw[<-hop,<-hrest]at hwl;have hmn:m=false->s=op:=fun h=>by rw[hop];exact (qip (hm ▸ h)).symm
 rw[<-hop,<-hrest,<-hm]at hr;have HR:=zH hr;have HNE:=zH (show ∀t:qa,(qi t).2.2=false->m=true->s=t->False from fun t ht hmt e=>by rw[hm,e,ht]at hmt;cases hmt);have HWL:=zH (show rest.length<=16384 by omega);have CR:=zH (fun (e:Nat) (he:e<=5) (W:World)=>qor e W he);have CD:=zH (fun (k:Nat) (W:World) (hk:k<=9223372036854775807)=>qe9 k W hk);clear hB hw0 h hra hg hr hr5 hwl hmn hop hrest hm hs hbase;go_enter Tryz.func14,Tryz.ntmps14;go_upto_region 1 with fail
 rw[<-zU HW0,<-zU HB];go_wp2_with fail;refine (zU CW).mono ?_;rintro e w1 ⟨rfl,hb1⟩;have H1:=zH ((zU H0).below hb1);clear hb1;cases m with
 | false =>
  have hr:=zU HR;rw[if_neg (by decide)]at hr;unfold qbV at hr
  by_cases h1:s=qdR
  ·have d1:(s == qdR)=true:=by simpa using h1
   unfold qdR at d1;rw[if_pos h1]at hr;clear h1;have HRR:=zH (show g=(a,qcg a)by rw[zU HG,hr,qcS]);clear hr;go_upto_region 4 with fail
   refine AnyK.begin (fun W=>W.cell? ⟨B,0,none⟩=some (.slice A n cap)/\W.cell? ⟨B,1,none⟩=some (.slice A2 n2 cap2)) 5 5 (by kernel_rfl) rfl ?_;have G0:=zH ((zU H1).drew);have hs0:=(zU G0).ab.c;refine AnyK.t 0 5 ?_ hs0 ?_ ?_
   rotate_left
   ·rintro W ⟨hS1,hS2⟩;go_simp
    try with_reducible rfl
   refine AnyK.t 1 5 ?_ hs0 ?_ ?_
   rotate_left
   ·rintro W ⟨hS1,hS2⟩;go_simp
    try with_reducible rfl
   refine AnyK.one 2 rfl (by kernel_rfl) (fun K hK=>?_);refine qC rfl 40 _ _ rfl #[qv A n cap A2 n2 cap2] (by simp[Act.eval]) qnw ((qrp A n cap A2 n2 cap2 a _ (zU G0).ab.i (zU HRA)).mono ?_);rintro e v1 ⟨rfl,hb⟩;refine .inl ⟨_,rfl,?_⟩;have G1:=zH ((zU G0).below hb);have hs1:=(zU G1).ab.c;clear hb hs0;refine AnyK.o hK (fun _=>hs1) ?_;clear hK K;refine AnyK.one 3 rfl (by kernel_rfl) (fun K hK=>?_);refine qaa rfl (.tmp 4) (.tmp 27) rfl (B+1) A n cap A2 n2 cap2 rfl rfl _ _ (zU G1).z ?_;refine AnyK.o hK (fun _=>(zU G1).kept _) ?_;clear hK K;refine AnyK.one 4 rfl (by kernel_rfl) (fun K hK=>?_);go_simp;refine AnyK.o hK (fun _=>(zU G1).kept _) ?_;clear hK K;refine AnyK.done (by kernel_rfl) ?_;go_wp2_with fail;refine bodyPost_ret (qc rfl _ _ (B+1) 33 #[.slice A n cap,.slice A2 n2 cap2] (0,0) _ rfl ((zU G1).end_ _).1 Tryz.underlying33 rfl qd) rfl ⟨?_,((zU G1).end_ _).2⟩;rw[zU HRR];exact⟨_,_,_,_,_,_,rfl,(zU HI).below (by rw[<-zU HB];exact ((zU G1).end_ _).2)⟩
  have d1:(s == qdR)=false:=qaD h1;unfold qdR at d1
  by_cases h2:s=qdP
  ·have d2:(s == qdP)=true:=by simpa using h2
   unfold qdP at d2;rw[if_neg h1,if_pos h2]at hr;clear h1 h2;have HRR:=zH (show g=(a,dig (qdZ a))by rw[zU HG,hr,qcS]);have hsm:=qhh (zU HRA);have HSM:=zH hsm;clear hr hsm;go_upto_region 6 with fail
   refine AnyK.begin (fun W=>W.cell? ⟨B,0,none⟩=some (.slice A n cap)/\W.cell? ⟨B,1,none⟩=some (.slice A2 n2 cap2)) 6 6 (by kernel_rfl) rfl ?_;have G0:=zH ((zU H1).drew);have hs0:=(zU G0).ab.c;refine AnyK.t 0 6 ?_ hs0 ?_ ?_
   rotate_left
   ·rintro W ⟨hS1,hS2⟩;go_simp
    try with_reducible rfl
   refine AnyK.t 1 6 ?_ hs0 ?_ ?_
   rotate_left
   ·rintro W ⟨hS1,hS2⟩;go_simp
    try with_reducible rfl
   refine AnyK.one 2 rfl (by kernel_rfl) (fun K hK=>?_);refine qC rfl 41 _ _ rfl #[qv A n cap A2 n2 cap2] (by simp[Act.eval]) qnr ((qqX A n cap A2 n2 cap2 a _ (zU G0).ab.i (zU HZ) (zU HRA)).mono ?_);rintro e v1 ⟨rfl,hb⟩;refine .inl ⟨_,rfl,?_⟩;have G1:=zH ((zU G0).below hb);have hs1:=(zU G1).ab.c;clear hb hs0;refine AnyK.o hK (fun _=>hs1) ?_;clear hK K;refine AnyK.one 3 rfl (by kernel_rfl) (fun K hK=>?_);refine qC rfl 39 _ _ rfl #[I (qdZ a)] (by simp[Act.eval]) qev ((zU CD (qdZ a) _ (zU HSM)).mono ?_);rintro e v2 ⟨rfl,hb⟩;refine .inl ⟨_,rfl,?_⟩;have G2:=zH ((zU G1).below hb);have hs2:=(zU G2).ab.c;clear hb hs1;refine AnyK.o hK (fun _=>hs2) ?_;clear hK K;refine AnyK.one 4 rfl (by kernel_rfl) (fun K hK=>?_);refine qaa rfl (.tmp 4) (.tmp 33) rfl (B+1) A n cap A2 n2 cap2 rfl rfl _ _ (zU G2).z ?_;refine AnyK.o hK (fun _=>(zU G2).kept _) ?_;clear hK K;refine AnyK.one 5 rfl (by kernel_rfl) (fun K hK=>?_);go_simp;refine AnyK.o hK (fun _=>(zU G2).kept _) ?_;clear hK K;refine AnyK.done (by kernel_rfl) ?_;go_wp2_with fail;refine bodyPost_ret (qc rfl _ _ (B+1) 33 #[.slice A n cap,.slice A2 n2 cap2] (0,0) _ rfl ((zU G2).end_ _).1 Tryz.underlying33 rfl qd) rfl ⟨?_,((zU G2).end_ _).2⟩;rw[zU HRR];exact⟨_,_,_,_,_,_,rfl,(zU HI).below (by rw[<-zU HB];exact ((zU G2).end_ _).2)⟩
  have d2:(s == qdP)=false:=qaD h2;unfold qdP at d2
  by_cases h3:s=qdQ
  ·have d3:(s == qdQ)=true:=by simpa using h3
   unfold qdQ at d3;rw[if_neg h1,if_neg h2,if_pos h3]at hr;clear h1 h2 h3;have CS:=fun (W:World) (hW:ArcIn W A n A2 n2 a)=>qqZ A n cap A2 n2 cap2 a W hW (zU HZ);have hsl:=qwx (a:=a);obtain⟨q,hq⟩:∃q,q=(qbu a).1:=⟨_,rfl⟩
   obtain⟨x,hx⟩:∃x,x=(qbu a).2:=⟨_,rfl⟩
   rw[<-hq,<-hx]at CS;rw[<-hq,<-hx]at hr;rw[<-hq]at hsl;have CS:=zH CS;have HSL:=zH hsl;clear hq hx hsl;obtain⟨y0,y1⟩:=(zU H1).ab.c
   by_cases he:x=0
   rotate_left
   ·rw[if_pos he]at hr;have HRR:=zH (show g=(a,qez x)by rw[zU HG,hr,qam a _ _ he]);have hx5:x<=5:=by have h9:=zU HR5;rw[hr]at h9;exact h9
    have HX5:=zH hx5;have g1:((x:Int) != 0)=true:=by rw[bne_iff_ne];omega
    have g2:¬(x:Int)=0:=by omega
    clear hr he hx5;go_wp2_with fail;refine (zU CS _ (zU H1).ab.i).mono ?_;rintro e w2 ⟨rfl,hb2⟩;have H2:=zH ((zU H1).below hb2);clear hb2 y0 y1;go_upto_region 10 with fail
    refine AnyK.begin (fun W=>W.cell? ⟨B,0,none⟩=some (.slice A n cap)/\W.cell? ⟨B,1,none⟩=some (.slice A2 n2 cap2)) 6 6 (by kernel_rfl) rfl ?_;have G0:=zH ((zU H2).drew);have hs0:=(zU G0).ab.c;refine AnyK.t 0 6 ?_ hs0 ?_ ?_
    rotate_left
    ·rintro W ⟨hS1,hS2⟩;go_simp
     try with_reducible rfl
    refine AnyK.t 1 6 ?_ hs0 ?_ ?_
    rotate_left
    ·rintro W ⟨hS1,hS2⟩;go_simp
     try with_reducible rfl
    refine AnyK.t 2 6 ?_ hs0 ?_ ?_
    rotate_left
    ·rintro W ⟨hS1,hS2⟩;go_simp
     try with_reducible rfl
    refine AnyK.one 3 rfl (by kernel_rfl) (fun K hK=>?_);refine qdW rfl 38 _ _ _ rfl rfl #[I x] (by simp[Act.eval]) qbX ((zU CR x (zU HX5) _).mono ?_);rintro e v1 ⟨rfl,hb⟩;refine .inl ⟨_,rfl,?_⟩;have G1:=zH ((zU G0).below hb);have hs1:=(zU G1).ab.c;clear hb hs0;refine AnyK.o hK (fun _=>hs1) ?_;clear hK K;refine AnyK.one 4 rfl (by kernel_rfl) (fun K hK=>?_);refine qaa rfl (.tmp 4) (.tmp 47) rfl (B+1) A n cap A2 n2 cap2 rfl rfl _ _ (zU G1).z ?_;refine AnyK.o hK (fun _=>(zU G1).kept _) ?_;clear hK K;refine AnyK.one 5 rfl (by kernel_rfl) (fun K hK=>?_);go_simp;refine AnyK.o hK (fun _=>(zU G1).kept _) ?_;clear hK K;refine AnyK.done (by kernel_rfl) ?_;go_wp2_with fail;refine bodyPost_ret (qc rfl _ _ (B+1) 33 #[.slice A n cap,.slice A2 n2 cap2] (0,0) _ rfl ((zU G1).end_ _).1 Tryz.underlying33 rfl qd) rfl ⟨?_,((zU G1).end_ _).2⟩;rw[zU HRR];exact⟨_,_,_,_,_,_,rfl,(zU HI).below (by rw[<-zU HB];exact ((zU G1).end_ _).2)⟩
   rw[if_neg (by simpa using he)]at hr;have HRR:=zH (show g=(a,dig q.length)by rw[zU HG,hr,qcS]);subst he;clear hr;go_wp2_with fail;refine (zU CS _ (zU H1).ab.i).mono ?_;rintro e w2 ⟨rfl,hb2⟩;have H2:=zH ((zU H1).below hb2);clear hb2 y0 y1;go_upto_region 11 with fail
   refine AnyK.begin (fun W=>W.cell? ⟨B,0,none⟩=some (.slice A n cap)/\W.cell? ⟨B,1,none⟩=some (.slice A2 n2 cap2)) 6 6 (by kernel_rfl) rfl ?_;have G0:=zH ((zU H2).drew);have hs0:=(zU G0).ab.c;refine AnyK.t 0 6 ?_ hs0 ?_ ?_
   rotate_left
   ·rintro W ⟨hS1,hS2⟩;go_simp
    try with_reducible rfl
   refine AnyK.t 1 6 ?_ hs0 ?_ ?_
   rotate_left
   ·rintro W ⟨hS1,hS2⟩;go_simp
    try with_reducible rfl
   refine AnyK.t 2 6 ?_ hs0 ?_ ?_
   rotate_left
   ·rintro W ⟨hS1,hS2⟩;go_simp
    try with_reducible rfl
   refine AnyK.one 3 rfl (by kernel_rfl) (fun K hK=>?_);refine qC rfl 39 _ _ rfl #[I q.length] (by simp[Act.eval]) qev ((zU CD q.length _ (by have:=zU HSL;omega)).mono ?_);rintro e v1 ⟨rfl,hb⟩;refine .inl ⟨_,rfl,?_⟩;have G1:=zH ((zU G0).below hb);have hs1:=(zU G1).ab.c;clear hb hs0;refine AnyK.o hK (fun _=>hs1) ?_;clear hK K;refine AnyK.one 4 rfl (by kernel_rfl) (fun K hK=>?_);refine qaa rfl (.tmp 4) (.tmp 51) rfl (B+1) A n cap A2 n2 cap2 rfl rfl _ _ (zU G1).z ?_;refine AnyK.o hK (fun _=>(zU G1).kept _) ?_;clear hK K;refine AnyK.one 5 rfl (by kernel_rfl) (fun K hK=>?_);go_simp;refine AnyK.o hK (fun _=>(zU G1).kept _) ?_;clear hK K;refine AnyK.done (by kernel_rfl) ?_;go_wp2_with fail;refine bodyPost_ret (qc rfl _ _ (B+1) 33 #[.slice A n cap,.slice A2 n2 cap2] (0,0) _ rfl ((zU G1).end_ _).1 Tryz.underlying33 rfl qd) rfl ⟨?_,((zU G1).end_ _).2⟩;rw[zU HRR];exact⟨_,_,_,_,_,_,rfl,(zU HI).below (by rw[<-zU HB];exact ((zU G1).end_ _).2)⟩
  have d3:(s == qdQ)=false:=qaD h3;unfold qdQ at d3
  by_cases h4:s=qbI
  ·have d4:(s == qbI)=true:=by simpa using h4
   unfold qbI at d4;rw[if_neg h1,if_neg h2,if_neg h3,if_pos h4]at hr;clear h1 h2 h3 h4;have CP:=fun (W:World) (hW:ArcIn W A n A2 n2 a)=>qnN A n cap A2 n2 cap2 a W hW (zU HZ);obtain⟨u,hu⟩:∃u,u=qaH a:=⟨_,rfl⟩
   rw[<-hu]at CP hr;have CP:=zH CP;clear hu;obtain⟨y0,y1⟩:=(zU H1).ab.c;go_wp2_with fail;refine (zU CP _ (zU H1).ab.i).mono ?_;rintro e w2 ⟨hres,hb2⟩;obtain⟨C1,m1,k1,C2',m2,k2,rfl,hin,hmk,hown⟩:=hres.open;have hown:u.2=0->OwnA w2 w1.heap.size (.slice C1 m1 k1) (.slice C2' m2 k2) u.1:=fun _=>hown;clear hres hin hmk;have H2:=zH ((zU H1).below hb2);have hw12:=(zU H1).lt;have HL1:=zH hw12;have HOW:=zH hown;clear hb2 hown hw12 y0 y1;go_upto_region 14 with (refine wpList_store_row rfl 33 (.tmp 12) (.tmp 61) rfl w2.heap.size #[.slice C1 m1 k1,.slice C2' m2 k2] rfl rfl 33 _ (heap_alloc_new _ _) qd rfl (qN _ _ _ _ _ _) ?_)
   obtain⟨w3,hw3⟩:∃w3,w3=(w2.alloc (.cells #[.slice none 0 0,.slice none 0 0] 33)).setRow w2.heap.size #[.slice C1 m1 k1,.slice C2' m2 k2]:=⟨_,rfl⟩
   have hb3:Below w2.heap.size w2 w3:=by rw[hw3];exact below_setRow ((Below.refl _ _).alloc (Nat.le_refl _) _) (Nat.le_refl _) _
   have hv3:w3.heap[w2.heap.size]?=some (.cells #[.slice C1 m1 k1,.slice C2' m2 k2] 33 (0,0)):=by rw[hw3];exact setRow_heap _ _ _ _ _ _ (heap_alloc_new _ _)
   rw[<-hw3];have H3:=zH ((zU H2).below hb3);have HB3:=zH hb3;obtain⟨z0,z1⟩:=(⟨(qk hv3).1,(qk hv3).2.1⟩:w3.cell? ⟨w2.heap.size,0,none⟩=some (.slice C1 m1 k1)/\w3.cell? ⟨w2.heap.size,1,none⟩=some (.slice C2' m2 k2))
   clear hw3 hb3 hv3
   by_cases he:u.2=0
   rotate_left
   ·have g1:((u.2:Int) != 0)=true:=by rw[bne_iff_ne];omega
    have g2:¬(u.2:Int)=0:=by omega
    have HRR:=zH (show g=(a,qez u.2)by rw[zU HG,hr,qam a _ _ he]);have HX5:=zH (show u.2<=5 by have h9:=zU HR5;rw[hr]at h9;exact h9);clear hr he z0 z1;go_upto_region 15 with fail
    refine AnyK.begin (fun W=>W.cell? ⟨B,0,none⟩=some (.slice A n cap)/\W.cell? ⟨B,1,none⟩=some (.slice A2 n2 cap2)) 6 6 (by kernel_rfl) rfl ?_;have G0:=zH ((zU H3).drew);have hs0:=(zU G0).ab.c;refine AnyK.t 0 6 ?_ hs0 ?_ ?_
    rotate_left
    ·rintro W ⟨hS1,hS2⟩;go_simp
     try with_reducible rfl
    refine AnyK.t 1 6 ?_ hs0 ?_ ?_
    rotate_left
    ·rintro W ⟨hS1,hS2⟩;go_simp
     try with_reducible rfl
    refine AnyK.t 2 6 ?_ hs0 ?_ ?_
    rotate_left
    ·rintro W ⟨hS1,hS2⟩;go_simp
     try with_reducible rfl
    refine AnyK.one 3 rfl (by kernel_rfl) (fun K hK=>?_);refine qdW rfl 38 _ _ _ rfl rfl #[I u.2] (by simp[Act.eval]) qbX ((zU CR u.2 (zU HX5) _).mono ?_);rintro e v1 ⟨rfl,hb⟩;refine .inl ⟨_,rfl,?_⟩;have G1:=zH ((zU G0).below hb);have hs1:=(zU G1).ab.c;clear hb hs0;refine AnyK.o hK (fun _=>hs1) ?_;clear hK K;refine AnyK.one 4 rfl (by kernel_rfl) (fun K hK=>?_);refine qaa rfl (.tmp 4) (.tmp 65) rfl (B+1) A n cap A2 n2 cap2 rfl rfl _ _ (zU G1).z ?_;refine AnyK.o hK (fun _=>(zU G1).kept _) ?_;clear hK K;refine AnyK.one 5 rfl (by kernel_rfl) (fun K hK=>?_);go_simp;refine AnyK.o hK (fun _=>(zU G1).kept _) ?_;clear hK K;refine AnyK.done (by kernel_rfl) ?_;go_wp2_with fail;refine bodyPost_ret (qc rfl _ _ (B+1) 33 #[.slice A n cap,.slice A2 n2 cap2] (0,0) _ rfl ((zU G1).end_ _).1 Tryz.underlying33 rfl qd) rfl ⟨?_,((zU G1).end_ _).2⟩;rw[zU HRR];exact⟨_,_,_,_,_,_,rfl,(zU HI).below (by rw[<-zU HB];exact ((zU G1).end_ _).2)⟩
   have HRR:=zH (show g=(u.1,wOk)by rw[zU HG,hr,he,qcS]);have HO:=zH ((((zU HOW) he).below (zU HB3)).setRow (zU HL1) #[.slice C1 m1 k1,.slice C2' m2 k2]);have HBL:=zH (show base<=w1.heap.size by have h8:=zU HL1;have h9:=zU HBS;omega);rw[he];clear hr he;go_wp2_with (refine wpList_store_row rfl 33 (.tmp 4) (.tmp 69) rfl (B+1) #[.slice C1 m1 k1,.slice C2' m2 k2] rfl rfl 33 _ (zU H3).z qd rfl (qN _ _ _ _ _ _) ?_);refine bodyPost_ret (qc rfl _ _ (B+1) 33 #[.slice C1 m1 k1,.slice C2' m2 k2] (0,0) _ rfl ((zU H3).end_ _).1 Tryz.underlying33 rfl qd) rfl ⟨?_,((zU H3).end_ _).2⟩;rw[zU HRR];exact⟨_,_,_,_,_,_,rfl,(zU HO).mono (zU HBL)⟩
  have d4:(s == qbI)=false:=qaD h4;unfold qbI at d4;have hr':=hr;rw[if_neg h1,if_neg h2,if_neg h3,if_neg h4]at hr';have hr:=hr';clear h1 h2 h3 h4 hr';have HRR:=zH (show g=(a,qez 1)by rw[zU HG,hr,qam a _ _ Nat.one_ne_zero]);clear hr;go_upto_region 27 with fail
  refine AnyK.begin (fun W=>W.cell? ⟨B,0,none⟩=some (.slice A n cap)/\W.cell? ⟨B,1,none⟩=some (.slice A2 n2 cap2)) 5 5 (by kernel_rfl) rfl ?_;have G0:=zH ((zU H1).drew);have hs0:=(zU G0).ab.c;refine AnyK.t 0 5 ?_ hs0 ?_ ?_
  rotate_left
  ·rintro W ⟨hS1,hS2⟩;go_simp
   try with_reducible rfl
  refine AnyK.t 1 5 ?_ hs0 ?_ ?_
  rotate_left
  ·rintro W ⟨hS1,hS2⟩;go_simp
   try with_reducible rfl
  refine AnyK.one 2 rfl (by kernel_rfl) (fun K hK=>?_);refine qdW rfl 38 _ _ _ rfl rfl #[I 1] (by simp[Act.eval]) qbX ((zU CR 1 (by decide) _).mono ?_);rintro e v1 ⟨rfl,hb⟩;refine .inl ⟨_,rfl,?_⟩;have G1:=zH ((zU G0).below hb);have hs1:=(zU G1).ab.c;clear hb hs0;refine AnyK.o hK (fun _=>hs1) ?_;clear hK K;refine AnyK.one 3 rfl (by kernel_rfl) (fun K hK=>?_);refine qaa rfl (.tmp 4) (.tmp 123) rfl (B+1) A n cap A2 n2 cap2 rfl rfl _ _ (zU G1).z ?_;refine AnyK.o hK (fun _=>(zU G1).kept _) ?_;clear hK K;refine AnyK.one 4 rfl (by kernel_rfl) (fun K hK=>?_);go_simp;refine AnyK.o hK (fun _=>(zU G1).kept _) ?_;clear hK K;refine AnyK.done (by kernel_rfl) ?_;go_wp2_with fail;refine bodyPost_ret (qc rfl _ _ (B+1) 33 #[.slice A n cap,.slice A2 n2 cap2] (0,0) _ rfl ((zU G1).end_ _).1 Tryz.underlying33 rfl qd) rfl ⟨?_,((zU G1).end_ _).2⟩;rw[zU HRR];exact⟨_,_,_,_,_,_,rfl,(zU HI).below (by rw[<-zU HB];exact ((zU G1).end_ _).2)⟩
 | true =>
  have d1:=qaD (zU HNE qdR (by decide) rfl);have d2:=qaD (zU HNE qdP (by decide) rfl);have d3:=qaD (zU HNE qdQ (by decide) rfl);have d4:=qaD (zU HNE qbI (by decide) rfl);unfold qdR at d1;unfold qdP at d2;unfold qdQ at d3;unfold qbI at d4;have hr:=zU HR;rw[if_pos rfl]at hr;unfold qlh at hr
  by_cases h1:op=qfg\/op=qdS\/op=qgd
  ·rw[if_pos h1]at hr;have he:((op == [112,117,116])=true)\/((op == [112,117,116])=false/\(op == [100,114,111,112])=true)\/((op == [112,117,116])=false/\(op == [100,114,111,112])=false/\(op == [116,114,97,105,110])=true):=by rcases h1 with h|h|h <;> rw[h] <;> decide
   have CP:=fun (W:World) (hW:ArcIn W A n A2 n2 a)=>qpb A n cap A2 n2 cap2 a op rest W hW (zU HRA) (zU HWL);obtain⟨u,hu⟩:∃u,u=qa7 a op rest:=⟨_,rfl⟩
   rw[<-hu]at CP hr;have CP:=zH CP;clear hu h1;obtain⟨y0,y1⟩:=(zU H1).ab.c
   rcases he with e1|⟨e1,e2⟩|⟨e1,e2,e3⟩
   all_goals
    go_wp2_with fail;refine (zU CP _ (zU H1).ab.i).mono ?_;rintro e w2 ⟨⟨C1,m1,k1,C2',m2,k2,rfl,hown⟩,hb2⟩;have H2:=zH ((zU H1).below hb2);have hw12:=(zU H1).lt;have HL1:=zH hw12;have HOW:=zH hown;clear hb2 hown hw12 y0 y1;go_upto_region 19 with (refine wpList_store_row rfl 33 (.tmp 14) (.tmp 89) rfl w2.heap.size #[.slice C1 m1 k1,.slice C2' m2 k2] rfl rfl 33 _ (heap_alloc_new _ _) qd rfl (qN _ _ _ _ _ _) ?_)
    obtain⟨w3,hw3⟩:∃w3,w3=(w2.alloc (.cells #[.slice none 0 0,.slice none 0 0] 33)).setRow w2.heap.size #[.slice C1 m1 k1,.slice C2' m2 k2]:=⟨_,rfl⟩
    have hb3:Below w2.heap.size w2 w3:=by rw[hw3];exact below_setRow ((Below.refl _ _).alloc (Nat.le_refl _) _) (Nat.le_refl _) _
    have hv3:w3.heap[w2.heap.size]?=some (.cells #[.slice C1 m1 k1,.slice C2' m2 k2] 33 (0,0)):=by rw[hw3];exact setRow_heap _ _ _ _ _ _ (heap_alloc_new _ _)
    rw[<-hw3];have H3:=zH ((zU H2).below hb3);have HB3:=zH hb3;obtain⟨z0,z1⟩:=(⟨(qk hv3).1,(qk hv3).2.1⟩:w3.cell? ⟨w2.heap.size,0,none⟩=some (.slice C1 m1 k1)/\w3.cell? ⟨w2.heap.size,1,none⟩=some (.slice C2' m2 k2))
    clear hw3 hb3 hv3
    by_cases he:u.2=0
    rotate_left
    ·have g1:((u.2:Int) != 0)=true:=by rw[bne_iff_ne];omega
     have g2:¬(u.2:Int)=0:=by omega
     have HRR:=zH (show g=(a,qez u.2)by rw[zU HG,hr,qam a _ _ he]);have HX5:=zH (show u.2<=5 by have h9:=zU HR5;rw[hr]at h9;exact h9);clear hr he z0 z1;go_upto_region 20 with fail
     refine AnyK.begin (fun W=>W.cell? ⟨B,0,none⟩=some (.slice A n cap)/\W.cell? ⟨B,1,none⟩=some (.slice A2 n2 cap2)) 6 6 (by kernel_rfl) rfl ?_;have G0:=zH ((zU H3).drew);have hs0:=(zU G0).ab.c;refine AnyK.t 0 6 ?_ hs0 ?_ ?_
     rotate_left
     ·rintro W ⟨hS1,hS2⟩;go_simp
      try with_reducible rfl
     refine AnyK.t 1 6 ?_ hs0 ?_ ?_
     rotate_left
     ·rintro W ⟨hS1,hS2⟩;go_simp
      try with_reducible rfl
     refine AnyK.t 2 6 ?_ hs0 ?_ ?_
     rotate_left
     ·rintro W ⟨hS1,hS2⟩;go_simp
      try with_reducible rfl
     refine AnyK.one 3 rfl (by kernel_rfl) (fun K hK=>?_);refine qdW rfl 38 _ _ _ rfl rfl #[I u.2] (by simp[Act.eval]) qbX ((zU CR u.2 (zU HX5) _).mono ?_);rintro e v1 ⟨rfl,hb⟩;refine .inl ⟨_,rfl,?_⟩;have G1:=zH ((zU G0).below hb);have hs1:=(zU G1).ab.c;clear hb hs0;refine AnyK.o hK (fun _=>hs1) ?_;clear hK K;refine AnyK.one 4 rfl (by kernel_rfl) (fun K hK=>?_);refine qaa rfl (.tmp 4) (.tmp 93) rfl (B+1) A n cap A2 n2 cap2 rfl rfl _ _ (zU G1).z ?_;refine AnyK.o hK (fun _=>(zU G1).kept _) ?_;clear hK K;refine AnyK.one 5 rfl (by kernel_rfl) (fun K hK=>?_);go_simp;refine AnyK.o hK (fun _=>(zU G1).kept _) ?_;clear hK K;refine AnyK.done (by kernel_rfl) ?_;go_wp2_with fail;refine bodyPost_ret (qc rfl _ _ (B+1) 33 #[.slice A n cap,.slice A2 n2 cap2] (0,0) _ rfl ((zU G1).end_ _).1 Tryz.underlying33 rfl qd) rfl ⟨?_,((zU G1).end_ _).2⟩;rw[zU HRR];exact⟨_,_,_,_,_,_,rfl,(zU HI).below (by rw[<-zU HB];exact ((zU G1).end_ _).2)⟩
    have HRR:=zH (show g=(u.1,wOk)by rw[zU HG,hr,he,qcS]);have HO:=zH ((((zU HOW) he).below (zU HB3)).setRow (zU HL1) #[.slice C1 m1 k1,.slice C2' m2 k2]);have HBL:=zH (show base<=w1.heap.size by have h8:=zU HL1;have h9:=zU HBS;omega);rw[he];clear hr he;go_wp2_with (refine wpList_store_row rfl 33 (.tmp 4) (.tmp 97) rfl (B+1) #[.slice C1 m1 k1,.slice C2' m2 k2] rfl rfl 33 _ (zU H3).z qd rfl (qN _ _ _ _ _ _) ?_);refine bodyPost_ret (qc rfl _ _ (B+1) 33 #[.slice C1 m1 k1,.slice C2' m2 k2] (0,0) _ rfl ((zU H3).end_ _).1 Tryz.underlying33 rfl qd) rfl ⟨?_,((zU H3).end_ _).2⟩;rw[zU HRR];exact⟨_,_,_,_,_,_,rfl,(zU HO).mono (zU HBL)⟩
  have e1:(op == [112,117,116])=false:=qaD fun e=>h1 (.inl e);have e2:(op == [100,114,111,112])=false:=qaD fun e=>h1 (.inr (.inl e));have e3:(op == [116,114,97,105,110])=false:=qaD fun e=>h1 (.inr (.inr e))
  by_cases h2:op=qfh\/op=qge
  ·rw[if_neg h1,if_pos h2]at hr;have he:((op == [103,101,116])=true)\/((op == [103,101,116])=false/\(op == [114,97,110,103,101])=true):=by rcases h2 with h|h <;> rw[h] <;> decide
   have CP:=fun (W:World) (hW:ArcIn W A n A2 n2 a)=>qqc A n cap A2 n2 cap2 a op rest W hW (zU HRA) (zU HWL);obtain⟨u,hu⟩:∃u,u=qb3 a op rest:=⟨_,rfl⟩
   rw[<-hu]at CP hr;have CP:=zH CP;clear hu h1 h2;obtain⟨y0,y1⟩:=(zU H1).ab.c
   rcases he with e4|⟨e4,e5⟩
   all_goals
    go_wp2_with fail;refine (zU CP _ (zU H1).ab.i).mono ?_;rintro e w2 ⟨rfl,hb2⟩;have H2:=zH ((zU H1).below hb2);clear hb2 y0 y1
    by_cases he:u.2=0
    rotate_left
    ·have g1:((u.2:Int) != 0)=true:=by rw[bne_iff_ne];omega
     have g2:¬(u.2:Int)=0:=by omega
     have HRR:=zH (show g=(a,qez u.2)by rw[zU HG,hr,qam a _ _ he]);have HX5:=zH (show u.2<=5 by have h9:=zU HR5;rw[hr]at h9;exact h9);clear hr he;go_upto_region 25 with fail
     refine AnyK.begin (fun W=>W.cell? ⟨B,0,none⟩=some (.slice A n cap)/\W.cell? ⟨B,1,none⟩=some (.slice A2 n2 cap2)) 6 6 (by kernel_rfl) rfl ?_;have G0:=zH ((zU H2).drew);have hs0:=(zU G0).ab.c;refine AnyK.t 0 6 ?_ hs0 ?_ ?_
     rotate_left
     ·rintro W ⟨hS1,hS2⟩;go_simp
      try with_reducible rfl
     refine AnyK.t 1 6 ?_ hs0 ?_ ?_
     rotate_left
     ·rintro W ⟨hS1,hS2⟩;go_simp
      try with_reducible rfl
     refine AnyK.t 2 6 ?_ hs0 ?_ ?_
     rotate_left
     ·rintro W ⟨hS1,hS2⟩;go_simp
      try with_reducible rfl
     refine AnyK.one 3 rfl (by kernel_rfl) (fun K hK=>?_);refine qdW rfl 38 _ _ _ rfl rfl #[I u.2] (by simp[Act.eval]) qbX ((zU CR u.2 (zU HX5) _).mono ?_);rintro e v1 ⟨rfl,hb⟩;refine .inl ⟨_,rfl,?_⟩;have G1:=zH ((zU G0).below hb);have hs1:=(zU G1).ab.c;clear hb hs0;refine AnyK.o hK (fun _=>hs1) ?_;clear hK K;refine AnyK.one 4 rfl (by kernel_rfl) (fun K hK=>?_);refine qaa rfl (.tmp 4) (.tmp 117) rfl (B+1) A n cap A2 n2 cap2 rfl rfl _ _ (zU G1).z ?_;refine AnyK.o hK (fun _=>(zU G1).kept _) ?_;clear hK K;refine AnyK.one 5 rfl (by kernel_rfl) (fun K hK=>?_);go_simp;refine AnyK.o hK (fun _=>(zU G1).kept _) ?_;clear hK K;refine AnyK.done (by kernel_rfl) ?_;go_wp2_with fail;refine bodyPost_ret (qc rfl _ _ (B+1) 33 #[.slice A n cap,.slice A2 n2 cap2] (0,0) _ rfl ((zU G1).end_ _).1 Tryz.underlying33 rfl qd) rfl ⟨?_,((zU G1).end_ _).2⟩;rw[zU HRR];exact⟨_,_,_,_,_,_,rfl,(zU HI).below (by rw[<-zU HB];exact ((zU G1).end_ _).2)⟩
    have HRR:=zH (show g=(a,u.1)by rw[zU HG,hr,he,qcS]);rw[he];obtain⟨y0,y1⟩:=(zU H2).ab.c;clear hr he;go_wp2_with (refine wpList_store_row rfl 33 (.tmp 4) (.tmp 121) rfl (B+1) #[.slice A n cap,.slice A2 n2 cap2] rfl rfl 33 _ (zU H2).z qd rfl (qN _ _ _ _ _ _) ?_);refine bodyPost_ret (qc rfl _ _ (B+1) 33 #[.slice A n cap,.slice A2 n2 cap2] (0,0) _ rfl ((zU H2).end_ _).1 Tryz.underlying33 rfl qd) rfl ⟨?_,((zU H2).end_ _).2⟩;rw[zU HRR];exact⟨_,_,_,_,_,_,rfl,(zU HI).below (by rw[<-zU HB];exact ((zU H2).end_ _).2)⟩
  have e4:(op == [103,101,116])=false:=qaD fun e=>h2 (.inl e);have e5:(op == [114,97,110,103,101])=false:=qaD fun e=>h2 (.inr e);rw[if_neg h1,if_neg h2]at hr;clear h1 h2;have HRR:=zH (show g=(a,qez 1)by rw[zU HG,hr,qam a _ _ Nat.one_ne_zero]);clear hr;go_upto_region 27 with fail
  refine AnyK.begin (fun W=>W.cell? ⟨B,0,none⟩=some (.slice A n cap)/\W.cell? ⟨B,1,none⟩=some (.slice A2 n2 cap2)) 5 5 (by kernel_rfl) rfl ?_;have G0:=zH ((zU H1).drew);have hs0:=(zU G0).ab.c;refine AnyK.t 0 5 ?_ hs0 ?_ ?_
  rotate_left
  ·rintro W ⟨hS1,hS2⟩;go_simp
   try with_reducible rfl
  refine AnyK.t 1 5 ?_ hs0 ?_ ?_
  rotate_left
  ·rintro W ⟨hS1,hS2⟩;go_simp
   try with_reducible rfl
  refine AnyK.one 2 rfl (by kernel_rfl) (fun K hK=>?_);refine qdW rfl 38 _ _ _ rfl rfl #[I 1] (by simp[Act.eval]) qbX ((zU CR 1 (by decide) _).mono ?_);rintro e v1 ⟨rfl,hb⟩;refine .inl ⟨_,rfl,?_⟩;have G1:=zH ((zU G0).below hb);have hs1:=(zU G1).ab.c;clear hb hs0;refine AnyK.o hK (fun _=>hs1) ?_;clear hK K;refine AnyK.one 3 rfl (by kernel_rfl) (fun K hK=>?_);refine qaa rfl (.tmp 4) (.tmp 123) rfl (B+1) A n cap A2 n2 cap2 rfl rfl _ _ (zU G1).z ?_;refine AnyK.o hK (fun _=>(zU G1).kept _) ?_;clear hK K;refine AnyK.one 4 rfl (by kernel_rfl) (fun K hK=>?_);go_simp;refine AnyK.o hK (fun _=>(zU G1).kept _) ?_;clear hK K;refine AnyK.done (by kernel_rfl) ?_;go_wp2_with fail;refine bodyPost_ret (qc rfl _ _ (B+1) 33 #[.slice A n cap,.slice A2 n2 cap2] (0,0) _ rfl ((zU G1).end_ _).1 Tryz.underlying33 rfl qd) rfl ⟨?_,((zU G1).end_ _).2⟩;rw[zU HRR];exact⟨_,_,_,_,_,_,rfl,(zU HI).below (by rw[<-zU HB];exact ((zU G1).end_ _).2)⟩
theorem qm5{τ:Type}(step:τ->qa->τ):∀(r:qa) (t:τ) (cur:qa),(∀c∈r,c≠10)->qJ step t cur r=t
 | [],_,_,_=>rfl
 | c::r,t,cur,h=>by
  rw[qJ,if_neg (h c (by simp)),qm5 step r t _ (fun x hx=>h x (by simp[hx]))]
theorem qly{s:qa}{k:Nat}{c:UInt8}(h:s[k]?=some c):(s.take (k+1)).count 10=(s.take k).count 10+if c=10 then 1 else 0:=by
 rw[List.take_add_one,h,List.count_append];show _+[c].count 10=_;rw[List.count_singleton]
 by_cases hc:c=10
 ·subst hc;simp
 ·simp[hc]
theorem qnL(s:qa)(k:Nat):(s.take k).count 10<=s.count 10:=List.Sublist.count_le _ (List.take_sublist _ _)
theorem qrG{s:qa}{f i:Nat}{c:UInt8}(hf:f<=i)(h:s[i]?=some c):s.drop f=slice s f i++c::s.drop (i+1):=by
 obtain⟨hi,he⟩:=List.getElem?_eq_some_iff.1 h;unfold slice
 conv=>lhs;rw[<-List.take_append_drop i s,List.drop_append,List.drop_eq_getElem_cons hi,he]
 rw[List.length_take,Nat.min_eq_left (Nat.le_of_lt hi),Nat.sub_eq_zero_of_le hf,List.drop_zero]
theorem qqT{s:qa}{f i:Nat}{c:UInt8}(hf:f<=i)(h:s[i]?=some c):slice s f (i+1)=slice s f i++[c]:=by
 obtain⟨hi,he⟩:=List.getElem?_eq_some_iff.1 h;unfold slice;rw[List.take_add_one,h,List.drop_append,List.length_take,Nat.min_eq_left (Nat.le_of_lt hi),Nat.sub_eq_zero_of_le hf];rfl
structure PO(w:World)(H:Nat)(A:Option Addr)(n cap:Nat)(A2:Option Addr)(n2 cap2:Nat)(a:Arc)(W:World):Prop where
 o:W.heap[H]?=some (.cells #[.slice A n cap,.slice A2 n2 cap2] 33 (0,0))
 own:OwnA W (H+1) (.slice A n cap) (.slice A2 n2 cap2) a
 bel:Below H w W
 ra:RightA a
section
variable {w W W' : World} {H : Nat} {A A2 : Option Addr} {n cap n2 cap2 : Nat} {a : Arc}
theorem PO.lt(h:PO w H A n cap A2 n2 cap2 a W):H<W.heap.size:=(zE h.o).1
theorem PO.up(h:PO w H A n cap A2 n2 cap2 a W)(hb:Below W.heap.size W W'):PO w H A n cap A2 n2 cap2 a W' :=
 ⟨(hb.block _ h.lt).trans h.o,h.own.below hb,h.bel.trans (hb.mono (Nat.le_of_lt h.lt)),h.ra⟩
theorem PO.c(h:PO w H A n cap A2 n2 cap2 a W):W.cell? ⟨H,0,none⟩=some (.slice A n cap)/\W.cell? ⟨H,1,none⟩=some (.slice A2 n2 cap2):=⟨(qk h.o).1,(qk h.o).2.1⟩
theorem PO.set(h:PO w H A n cap A2 n2 cap2 a W){C C2:Option Addr}{m k m2 k2:Nat}{b:Arc}(ho:OwnA W (H+1) (.slice C m k) (.slice C2 m2 k2) b)(hr:RightA b):PO w H C m k C2 m2 k2 b (W.setRow H #[.slice C m k,.slice C2 m2 k2]) :=
 ⟨setRow_heap _ _ _ _ _ _ h.o,ho.setRow (Nat.lt_succ_self _) _,below_setRow h.bel (Nat.le_refl _) _,hr⟩
end
theorem qoZ(args:Array Value)(w:World):(callFunc 14 args).run Tryz.prog w=.ok (.enter 14 args) w :=
 qbn Tryz.func14 (by kernel_rfl) (by kernel_rfl) args w
attribute [local go_sem ↓] qba in
theorem qpF(s:qa)(w:World)(hs0:s.length<=9223372036854775807) :
  Calls Tryz.prog 5 #[S s] w fun e w'=>e=.returned (.tuple #[S (qeZ s).1,I (qeZ s).2])/\Below w.heap.size w w':=by
 obtain⟨pr,hpr⟩:∃pr,pr=qeZ s:=⟨_,rfl⟩
 rw[<-hpr];have HPR:=zH hpr;clear hpr;go_enter Tryz.func5,Tryz.ntmps5;go_wp2_with fail;go_loopw [4,5] (fun cv iv wr=>∃k c:Nat,k<=s.length/\iv=.int .i64 k/\cv=.int .i64 c/\c=(s.take k).count 10/\c<=101/\Below w.heap.size w wr) (fun _ iv _=>s.length-(intOf iv).toNat)
 case atStart=>exact⟨0,0,Nat.zero_le _,rfl,rfl,by simp,by decide,Below.refl _ _⟩
 case round =>
  obtain⟨k,c,hk,rfl,rfl,hc,hc1,hbel⟩:=hrel;have HC:=zH hc;have HB:=zH hbel;clear hc hbel
  by_cases hks:k<s.length
  ·by_cases hcc:c<=100
   ·obtain⟨b,hb⟩:∃b,(⟨s.toArray⟩:ByteArray)[k]'hks=b:=⟨_,rfl⟩
    have hsb:s[k]?=some b:=by rw[zG hks];exact congrArg some hb
    have hct:=qly hsb;obtain⟨x,hx⟩:∃x,x=b.toNat:=⟨_,rfl⟩
    have hb256:=b.toNat_lt;rw[<-hx]at hb256;have hx':=hx.symm;have hbx:b=10↔x=10:=by rw[hx,<-UInt8.toNat_inj];exact Iff.rfl
    have HCT:=zH hct;have HBX:=zH hbx;clear hsb hct hx hbx
    by_cases h10:x=10
    ·subst h10;have w1:IntKind.i64.wrap ((c:Int)+1)=(c:Int)+1:=IntWalk.i64_in _ ⟨by omega,by omega⟩;have hct:=zU HCT;rw[if_pos ((zU HBX).2 rfl),<-zU HC]at hct;have HCT2:=zH hct;clear hct;go_wp2_with fail;go_roundw
     case rel=>exact⟨k+1,c+1,by omega,by simp,by simp,(zU HCT2).symm,by omega,zU HB⟩
     case measure=>simp[intOf];omega
    ·have d1:((x:Int) == 10)=false:=by rw[zB];omega
     have hct:=zU HCT;rw[if_neg (fun e=>h10 ((zU HBX).1 e)),<-zU HC]at hct;have HCT2:=zH hct;clear hct h10;go_wp2_with fail;go_roundw
     case rel=>exact⟨k+1,c,by omega,by simp,by simp,(zU HCT2).symm,by omega,zU HB⟩
     case measure=>simp[intOf];omega
   ·have hr:pr=([],2):=by
     rw[zU HPR];unfold qeZ;have:=qnL s k;rw[<-zU HC]at this;rw[if_pos (.inr (by omega))]
    have HR:=zH hr;have z1:¬(c:Int)<=100:=by omega
    have z2:(100:Int)<(c:Int):=by omega
    clear hr hcc
    by_cases hbig:16384<s.length
    ·have z3:(16384:Int)<(s.length:Int):=by omega
     go_wp2_with fail;go_ret2;rw[zU HR];exact⟨rfl,zU HB⟩
    ·have z3:¬(16384:Int)<(s.length:Int):=by omega
     go_wp2_with fail;go_ret2;rw[zU HR];exact⟨rfl,zU HB⟩
  ·obtain rfl:k=s.length:=by omega
   have hc:=zU HC;rw[List.take_length]at hc;have hpr:=zU HPR;unfold qeZ at hpr;rw[<-hc]at hpr;have y1:¬(s.length:Int)<(s.length:Int):=by omega
   by_cases hbig:16384<s.length
   ·have z3:(16384:Int)<(s.length:Int):=by omega
    rw[if_pos (.inl hbig)]at hpr;subst hpr;clear hc;go_wp2_with fail;go_ret2;exact⟨rfl,zU HB⟩
   have z3:¬(16384:Int)<(s.length:Int):=by omega
   by_cases hcc:100<c
   ·have z2:(100:Int)<(c:Int):=by omega
    rw[if_pos (.inr hcc)]at hpr;subst hpr;clear hc;go_wp2_with fail;go_ret2;exact⟨rfl,zU HB⟩
   have z2:¬(100:Int)<(c:Int):=by omega
   rw[if_neg (by rintro (h|h) <;> omega)]at hpr;have hs:s.length<=16384:=by omega
   clear hc hbig hcc hks hk
   by_cases h0:s.length=0
   rotate_left
   have y3:0<s.length:=by omega
   obtain⟨b,hb⟩:∃b,(⟨s.toArray⟩:ByteArray)[s.length-1]'(Nat.sub_lt y3 Nat.one_pos)=b:=⟨_,rfl⟩
   have hsb:s[s.length-1]?=some b:=by rw[zG (by omega)];exact congrArg some hb
   have hlast:s.getLast? = some b:=by rw[List.getLast?_eq_getElem?];exact hsb
   obtain⟨x,hx⟩:∃x,x=b.toNat:=⟨_,rfl⟩
   have hbx:b=10↔x=10:=by rw[hx,<-UInt8.toNat_inj];exact Iff.rfl
   have hx':=hx.symm
   have w1:IntKind.i64.wrap ((s.length:Int)-1)=((s.length-1:Nat):Int):=by
    have e:(s.length:Int)-1=((s.length-1:Nat):Int):=by omega
    rw[e];exact IntWalk.i64_in _ ⟨by omega,by omega⟩
   have hne:s≠[]:=fun e=>h0 (by rw[e];rfl);have y2:(0:Int)<(s.length:Int):=by omega
   clear hsb hx
   by_cases h10:¬x=10
   ·have d1:((x:Int) != 10)=true:=by rw[bne_iff_ne];omega
    have d2:((x:Int) == 10)=false:=by rw[zB];omega
    rw[if_pos ⟨hne,by rw[hlast];intro e;injection e with e;exact h10 (hbx.1 e)⟩]at hpr;subst hpr;clear hne hlast hbx h0;go_wp2_with fail;go_ret2;exact⟨rfl,zU HB⟩
   have h10:x=10:=Decidable.not_not.1 h10;have hcase:s=[]\/s.getLast? = some 10:=.inr (by rw[hlast,hbx.2 h10]);have hr:pr=((qiC qG [] [] s).2,0):=by rw[hpr,if_neg];rintro⟨_,h⟩;exact h (hcase.resolve_left hne)
   have HR:=zH hr;subst h10;clear hne hlast hbx h0 hpr hr hcase
   rotate_left
   have hnil:s=[]:=List.eq_nil_of_length_eq_zero h0;have hr:pr=((qiC qG [] [] s).2,0):=by rw[hpr,if_neg];rintro⟨h,_⟩;exact h hnil
   have HR:=zH hr;have y2:¬(0:Int)<(s.length:Int):=by omega
   have y3:¬0<s.length:=by omega
   clear hnil hr hpr h0
   all_goals
    go_upto_region 12 with fail
    obtain⟨H,hH⟩:∃H,H=wr.heap.size:=⟨_,rfl⟩
    obtain⟨W0,hW0⟩:∃W0,W0=wr.alloc (.cells #[.slice none 0 0,.slice none 0 0] 33):=⟨_,rfl⟩
    have P0:=zH (show PO wr H none 0 0 none 0 0 qG W0 from ⟨by rw[hW0,hH];exact heap_alloc_new wr _,OwnA.nil _ _,by rw[hW0,hH];exact (Below.refl _ _).alloc (Nat.le_refl _) _,qeb⟩);have HBW:=zH (show Below w.heap.size w wr from zU HB);have HLE:=zH (show w.heap.size<=H by rw[hH];exact (zU HB).size);rw[<-hW0,<-hH];clear hW0 hH HB;go_wp2_with fail;go_loopw [7,8,9] (fun ov fv iv wv=>∃ (t:Arc×qa) (f i:Nat) (A:Option Addr) (n cap:Nat) (A2:Option Addr) (n2 cap2:Nat),ov=S t.2/\fv=.int .i64 f/\iv=.int .i64 i/\f<=i/\i<=s.length/\(∀c∈slice s f i,c≠10)/\qJ qbt (qG,[]) [] s=qJ qbt t [] (s.drop f)/\PO wr H A n cap A2 n2 cap2 t.1 wv) (fun _ _ iv _=>s.length-(intOf iv).toNat)
    case atStart=>exact⟨(qG,[]),0,0,none,0,0,none,0,0,rfl,rfl,rfl,Nat.le_refl _,Nat.zero_le _,by simp[slice],by rw[List.drop_zero],zU P0⟩
    case round =>
     obtain⟨t,f,i,A,n,cap,A2,n2,cap2,rfl,rfl,rfl,hfi,his,hno,hz,hP⟩:=hrel;obtain⟨a,out⟩:=t;have HP:=zH hP;have HNO:=zH hno;have HZ:=zH hz;clear hP hno hz
     by_cases hil:i<s.length
     ·obtain⟨b,hb⟩:∃b,(⟨s.toArray⟩:ByteArray)[i]'hil=b:=⟨_,rfl⟩
      have hsb:s[i]?=some b:=by rw[zG hil];exact congrArg some hb
      have HSB:=zH hsb;obtain⟨x,hx⟩:∃x,x=b.toNat:=⟨_,rfl⟩
      have hb256:=b.toNat_lt;rw[<-hx]at hb256;have hx':=hx.symm;have hbx:b=10↔x=10:=by rw[hx,<-UInt8.toNat_inj];exact Iff.rfl
      have HBX:=zH hbx;have z5:(i:Int)<(s.length:Int):=by omega
      have wi:IntKind.i64.wrap ((i:Int)+1)=(i:Int)+1:=IntWalk.i64_in _ ⟨by omega,by omega⟩;clear hsb hx hbx
      by_cases h10:x=10
      ·subst h10;obtain⟨l,hl⟩:∃l,l=slice s f i:=⟨_,rfl⟩
       have hds:=qrG hfi (zU HSB);rw[<-hl,(zU HBX).2 rfl]at hds;have hno:=zU HNO;rw[<-hl]at hno;have hz:=zU HZ;rw[hds]at hz;have hroom:(out++((qaK a l).2++[10])).length<=10000000:=qm4 hs qeb hno hz;rw[qgI qbt l (a,out) [] _ hno]at hz;have hz:qJ qbt (qG,[]) [] s=qJ qbt ((qaK a l).1,out++((qaK a l).2++[10])) [] (s.drop (i+1)):=hz
       have hll:l.length<=16384:=by
        have h5:=congrArg List.length hds;rw[zL,List.length_drop]at h5;omega
       have hgo:=(qoY (zU HP).ra l).1;have hra:=(zU HP).ra;have CG:=fun (W:World) (ho:OwnA W (H+1) (.slice A n cap) (.slice A2 n2 cap2) a) (hlt:H<W.heap.size)=>qtl (H+1) A n cap A2 n2 cap2 a l W ho hra hll hlt;obtain⟨g,hg⟩:∃g,g=qaK a l:=⟨_,rfl⟩
       rw[<-hg]at CG hz hroom hgo;have HZ2:=zH hz;have HGO:=zH hgo;have CG:=zH CG;have HL:=zH hl;have q1:out.length+g.2.length<=9223372036854775807:=by simp only[zL]at hroom;omega
       have q2:out.length+g.2.length+1<=9223372036854775807:=by simp only[zL,List.length_cons,List.length_nil]at hroom;omega
       have q3:(out++g.2).length+1<=9223372036854775807:=by rw[zL];exact q2
       clear hds hno hz hgo hll hg hl hroom hra HNO HZ;go_upto_region 19 with fail
       refine AnyK.begin (fun W=>W.cell? ⟨H,0,none⟩=some (.slice A n cap)/\W.cell? ⟨H,1,none⟩=some (.slice A2 n2 cap2)) 7 11 (by kernel_rfl) rfl ?_;have G0:=zH ((zU HP).up (Below.refl _ _).drew);have hs0':=(zU G0).c;have b1:(f:Int)<=(i:Int):=by omega
       have b2:(i:Int)<=(s.length:Int):=by omega
       refine AnyK.t 0 11 ?_ hs0' ?_ ?_
       rotate_left
       ·rintro W ⟨hS1,hS2⟩;go_simp
        try with_reducible rfl
       refine AnyK.t 1 11 ?_ hs0' ?_ ?_
       rotate_left
       ·rintro W ⟨hS1,hS2⟩;go_simp
        try with_reducible rfl
       refine AnyK.t 2 11 ?_ hs0' ?_ ?_
       rotate_left
       ·rintro W ⟨hS1,hS2⟩;go_simp
        try with_reducible rfl
       refine AnyK.t 3 11 ?_ hs0' ?_ ?_
       rotate_left
       ·rintro W ⟨hS1,hS2⟩;go_simp
        try with_reducible rfl
       refine AnyK.t 4 11 ?_ hs0' ?_ ?_
       rotate_left
       ·rintro W ⟨hS1,hS2⟩;go_simp
        try with_reducible rfl
       rw[<-zU HL];refine AnyK.one 5 rfl (by kernel_rfl) (fun K hK=>?_);refine qC rfl 14 _ _ rfl #[qv A n cap A2 n2 cap2,S l] (by simp[Act.eval]) qoZ ((zU CG _ (zU G0).own (zU G0).lt).mono ?_);rintro e w5 ⟨⟨C1,m1,k1,C2',m2,k2,rfl,hown⟩,hb5⟩;refine .inl ⟨_,rfl,?_⟩;have G5:=zH ((zU G0).up hb5);have P6:=zH ((zU G5).set hown (zU HGO));have hs5:=(zU G5).c;clear hb5 hown hs0';refine AnyK.o hK (fun _=>hs5) ?_;clear hK K;refine AnyK.t 6 11 ?_ hs5 ?_ ?_
       rotate_left
       ·rintro W ⟨hS1,hS2⟩;go_simp
        try with_reducible rfl
       refine AnyK.two 7 8 rfl rfl (by kernel_rfl) (fun K hK=>?_) (fun K hK=>?_)
       rotate_left
       go_simp;refine AnyK.o hK (fun h=>absurd h (by decide)) ?_;clear hK K;refine AnyK.one 7 rfl (by kernel_rfl) (fun K hK=>?_);go_simp;refine AnyK.o hK (fun h=>absurd h (by decide)) ?_;clear hK K;refine AnyK.one 9 rfl (by kernel_rfl) (fun K hK=>?_);refine qaa rfl (.tmp 6) (.tmp 62) rfl H C1 m1 k1 C2' m2 k2 rfl rfl _ _ (zU G5).o ?_;refine AnyK.o hK (fun h=>absurd h (by decide)) ?_;clear hK K;refine AnyK.one 10 rfl (by kernel_rfl) (fun K hK=>?_);go_simp;refine AnyK.o hK (fun h=>absurd h (by decide)) ?_;clear hK K
       rotate_left
       go_simp;refine AnyK.o hK (fun h=>absurd h (by decide)) ?_;clear hK K;refine AnyK.two 8 9 rfl rfl (by kernel_rfl) (fun K hK=>?_) (fun K hK=>?_)
       rotate_left
       refine qaa rfl (.tmp 6) (.tmp 62) rfl H C1 m1 k1 C2' m2 k2 rfl rfl _ _ (zU G5).o ?_;refine AnyK.o hK (fun h=>absurd h (by decide)) ?_;clear hK K;refine AnyK.one 8 rfl (by kernel_rfl) (fun K hK=>?_);go_simp;refine AnyK.o hK (fun h=>absurd h (by decide)) ?_;clear hK K;refine AnyK.one 10 rfl (by kernel_rfl) (fun K hK=>?_);go_simp;refine AnyK.o hK (fun h=>absurd h (by decide)) ?_;clear hK K
       rotate_left 2
       go_simp;refine AnyK.o hK (fun h=>absurd h (by decide)) ?_;clear hK K;refine AnyK.one 9 rfl (by kernel_rfl) (fun K hK=>?_);refine qaa rfl (.tmp 6) (.tmp 62) rfl H C1 m1 k1 C2' m2 k2 rfl rfl _ _ (zU G5).o ?_;refine AnyK.o hK (fun h=>absurd h (by decide)) ?_;clear hK K;refine AnyK.one 10 rfl (by kernel_rfl) (fun K hK=>?_);go_simp;refine AnyK.o hK (fun h=>absurd h (by decide)) ?_;clear hK K
       all_goals
        refine AnyK.done (by kernel_rfl) ?_;clear hs5;go_wp2_with fail;go_roundw
        case rel=>exact⟨(g.1,out++(g.2++[10])),i+1,i+1,C1,m1,k1,C2',m2,k2,by simp,by simp,by simp,Nat.le_refl _,by omega,by simp[slice],zU HZ2,zU P6⟩
        case measure=>simp[intOf];omega
      ·have d1:((x:Int) == 10)=false:=by rw[zB];omega
       have hno:∀c∈slice s f (i+1),c≠10:=by
        rw[qqT hfi (zU HSB)];intro c hc
        rcases List.mem_append.1 hc with h|h
        ·exact zU HNO c h
        ·rw[List.mem_singleton]at h;exact fun e=>h10 ((zU HBX).1 (by rw[<-h];exact e))
       have HNO2:=zH hno;clear hno h10 HNO;go_wp2_with fail;go_roundw
       case rel=>exact⟨(a,out),f,i+1,A,n,cap,A2,n2,cap2,rfl,rfl,by simp,by omega,by omega,zU HNO2,zU HZ,zU HP⟩
       case measure=>simp[intOf];omega
     ·obtain rfl:i=s.length:=by omega
      have hz:=zU HZ;have hno:=zU HNO;unfold slice at hno;rw[List.take_length]at hno;rw[qm5 qbt _ _ _ hno]at hz;have hr:pr=(out,0):=by rw[zU HR,qmz,hz]
      have HRR:=zH hr;have z5:¬(s.length:Int)<(s.length:Int):=by omega
      clear hz hno hr;go_wp2_with fail;go_ret2;rw[zU HRR];exact⟨rfl,(zU HBW).trans ((zU HP).bel.mono (zU HLE))⟩
theorem qnH(w:World)(h:DW w) :
  Calls Tryz.prog 6 #[] w fun e w'=>e=.returned (.bool true)/\Below w.heap.size w w':=by
 have C:=qmJ qu6 w h;rw[qu5]at C;obtain⟨v,hv⟩:∃v,v=qwk:=⟨_,rfl⟩
 rw[<-hv]at C;unfold qu6 at C;have C:=zH C;have HV:=zH hv;clear hv;go_enter Tryz.func6,Tryz.ntmps6;go_wp2_with fail;refine (zU C).mono ?_;rintro e w1 ⟨rfl,hb1⟩;have HB:=zH hb1;clear hb1;go_wp2_with fail;go_ret;refine⟨?_,zU HB⟩;rw[zU HV];exact congrArg (fun b=>Ending.returned (.bool b)) (by decide +kernel)
theorem deskPlays_any(s:qa)(w:World)(h:DW w)(hs:s.length<=9223372036854775807) :
  Calls Tryz.prog 3 #[S s] w fun e w'=>e=.returned (.bool true)/\Below w.heap.size w w':=by
 have C1:=qmJ s w h;have C2:=fun (W:World)=>qpF s W hs;obtain⟨p,hp⟩:∃p,p=qeZ s:=⟨_,rfl⟩
 rw[<-hp]at C1 C2;have C1:=zH C1;have C2:=zH C2;have C3:=zH (fun (W:World) (hW:Below w.heap.size w W)=>qnH W (h.up hW));clear h hs hp;go_enter Tryz.func3,Tryz.ntmps3;go_wp2_with fail;refine (zU C1).mono ?_;rintro e w1 ⟨rfl,hb1⟩;have H1:=zH hb1;clear hb1;go_wp2_with fail;refine (zU C2 _).mono ?_;rintro e w2 ⟨rfl,hb2⟩;have H2:=zH ((zU H1).trans (hb2.mono (zU H1).size));clear hb2;go_wp2_with fail;refine (zU C3 _ (zU H2)).mono ?_;rintro e w3 ⟨rfl,hb3⟩;have H3:=zH ((zU H2).trans (hb3.mono (zU H2).size));clear hb3;go_wp2_with fail;go_ret;exact⟨rfl,zU H3⟩
end
section
open Go.ChangeShapes Go.WideShapes Go.Deep Go.RowKit Pl
section
variable {H : Type} {enc : TypeId × Value -> H} {P : Program} {w : World} {base : Nat} {spare : Nat -> Bool} {held : Bool}
end
theorem trodAll_pa{H:Type}{enc:TypeId×Value->H}{P:Program}{w:World}{base:Nat}{spare:Nat->Bool}{held:Bool}{ts:List TypeId}{vs:List Value}{ds:List (DataW H)}{p p':List MemPlace}(h:DataW.TrodAll enc P w base spare held ts vs ds p)(e:p=p'):DataW.TrodAll enc P w base spare held ts vs ds p':=e ▸ h
theorem maxLen_of_shape{w:World}(h:w.ShapedOpen Tryz.prog):MaxLenIs w :=
 Go.Proofs.cell_of_shapedOpen_int (zero:=#[.int .i64 0]) (t:=3) h (of_decide_eq_true (by kernel_rfl)) (by kernel_rfl) rfl (by kernel_rfl) (by kernel_rfl) Tryz.underlying3
end
end Go.Proofs.YtbnmfdlaabdlhaaGreatDoor
