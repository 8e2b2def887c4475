/- Parts of the proofs. -/
import Derived.Test.YtbnmfdlaabdlhaaGreatDoorDk13
set_option maxHeartbeats 16000000
set_option maxRecDepth 100000
namespace Go.Proofs.YtbnmfdlaabdlhaaGreatDoor
section
open Go.RowKit Go.Lib Pl
attribute [local go_sem] qf qe
theorem qd1(F:Fil)(dn:Bool)(g:Fil)(r:List Fil):qa5 F dn (g::r)=(if dn=false/\qs g.name F.name=false then [F]else [])++((if g.name=F.name then []else [g])++qa5 F (dn || !qs g.name F.name) r):=by
 rw[qa5]
attribute [local go_sem] World.cell?_alloc_some in
theorem qsJ(A:Option Addr)(n cap:Nat)(A2:Option Addr)(n2 cap2:Nat)(a:Arc)(file text:qa)(k:Int)(w:World)(h:ArcIn w A n A2 n2 a)(hz:ArcSz a)(hfl:file.length<=140737488355328)(htl:text.length<=9223372036854775807) :
  Calls Tryz.prog 70 #[qv A n cap A2 n2 cap2,S file,S text,I k] w fun e w'=>ArcRes w.heap.size (put a file text k) e w'/\Below w.heap.size w w':=by
 obtain⟨B,hB⟩:∃B,B=w.heap.size:=⟨_,rfl⟩
 obtain⟨w0,hw0⟩:∃w0,w0=(w.alloc (.cells #[.slice A n cap,.slice A2 n2 cap2] 33)).alloc (.cells #[.slice none 0 0,.slice none 0 0] 33):=⟨_,rfl⟩
 have H0:=zH (show AR A n cap A2 n2 cap2 a w w0 B by rw[hw0,hB];exact AR.new h cap cap2);have hl1:=h.s.1;have hl2:=h.f.1;have CK:∀W,AR A n cap A2 n2 cap2 a w W B->Calls Tryz.prog 67 #[qv A n cap A2 n2 cap2] W fun e w'=>e=.returned (I (qh a))/\Below W.heap.size W w':=fun W hW=>qbN A n cap A2 n2 cap2 a W hW.ab.i hz;have CN:=zH (fun (W:World)=>qlo file W hfl);have CW:=fun (W:World)=>(qb4 k 0 (n:Int) W).mono fun e w' ⟨h1,h2⟩=>(⟨h1,h2.symm⟩:e=Ending.returned (.bool (decide (0<=k/\k<=(n:Int))))/\w'=W)
 have hdi:=@qna a.ds k;rw[hl1]at hdi;rw[<-hdi]at CW;obtain⟨r,hr⟩:∃r,r=put a file text k:=⟨_,rfl⟩
 rw[<-hr,<-hB];have hput:r=if qh a≠0 then (qG,qh a)else if qbw file=false then (qG,4)else if qL a.ds k=none then (qG,3)else if 512<text.length then (qG,2)else if 12<(qb8 (qy a.ds file text k) a.fs).length then (qG,2)else (⟨a.ds,qb8 (qy a.ds file text k) a.fs⟩,0):=hr
 have HB:=zH hB;have HW0:=zH hw0;have HI:=zH h;clear hB hw0 h hr hz hdi
 by_cases hck:qh a≠0
 ·rw[if_pos hck]at hput;obtain⟨c,hc⟩:∃c,c=qh a:=⟨_,rfl⟩
  rw[<-hc]at CK hput hck;have CK:=zH CK;have d1:((c:Int) != 0)=true:=by rw[bne_iff_ne];omega
  have d2:((c:Int) == 0)=false:=by rw[zB];omega
  have d3:¬(c:Int)=0:=by omega
  subst hput;clear hck hc CW;go_enter Tryz.func70,Tryz.ntmps70;go_upto_region 1 with fail
  rw[<-zU HW0,<-zU HB];obtain⟨q0,q1⟩:=(zU H0).ab.c;go_wp2_with fail;refine (zU CK _ (zU H0)).mono ?_;rintro e w1 ⟨rfl,hb1⟩;have H1:=zH ((zU H0).below hb1);clear hb1 q0 q1;obtain⟨q0,q1⟩:=(zU H1).ab.c;go_wp2_with (refine wpList_store_row rfl 33 (.tmp 8) (.tmp 18) rfl (B+1) #[.slice none 0 0,.slice none 0 0] rfl rfl 33 _ (zU H1).z qd rfl qae ?_);refine bodyPost_ret (qc rfl _ _ (B+1) 33 #[.slice none 0 0,.slice none 0 0] (0,0) _ rfl ((zU H1).end_ _).1 Tryz.underlying33 rfl qd) rfl ⟨⟨_,_,rfl,?_⟩,((zU H1).end_ _).2⟩;exact OwnA.nil _ _
 have hck0:qh a=0:=Decidable.not_not.1 hck;have hra:=(qak a).1 hck0;rw[if_neg hck]at hput;rw[hck0]at CK;have CK:=zH CK;clear hck hck0;have h12:=hra.nf;have h4:=hra.nd
 by_cases hnm:qbw file=false
 ·rw[if_pos hnm]at hput;rw[hnm]at CN;subst hput;clear hnm hra CW;go_enter Tryz.func70,Tryz.ntmps70;go_upto_region 1 with fail
  rw[<-zU HW0,<-zU HB];obtain⟨q0,q1⟩:=(zU H0).ab.c;go_wp2_with fail;refine (zU CK _ (zU H0)).mono ?_;rintro e w1 ⟨rfl,hb1⟩;have H1:=zH ((zU H0).below hb1);clear hb1 q0 q1;obtain⟨q0,q1⟩:=(zU H1).ab.c;go_wp2_with fail;refine (zU CN _).mono ?_;rintro e w2 ⟨rfl,hw2⟩;rw[hw2];clear hw2;go_wp2_with (refine wpList_store_row rfl 33 (.tmp 8) (.tmp 24) rfl (B+1) #[.slice none 0 0,.slice none 0 0] rfl rfl 33 _ (zU H1).z qd rfl qae ?_);refine bodyPost_ret (qc rfl _ _ (B+1) 33 #[.slice none 0 0,.slice none 0 0] (0,0) _ rfl ((zU H1).end_ _).1 Tryz.underlying33 rfl qd) rfl ⟨⟨_,_,rfl,?_⟩,((zU H1).end_ _).2⟩;exact OwnA.nil _ _
 rw[if_neg hnm]at hput;have hnm:qbw file=true:=by simpa using hnm
 rw[hnm]at CN;cases hdo:qL a.ds k with
 | none =>
  rw[if_pos hdo]at hput;rw[hdo]at CW;have CW:=zH CW;subst hput;clear hnm hdo hra;go_enter Tryz.func70,Tryz.ntmps70;go_upto_region 1 with fail
  rw[<-zU HW0,<-zU HB];obtain⟨q0,q1⟩:=(zU H0).ab.c;go_wp2_with fail;refine (zU CK _ (zU H0)).mono ?_;rintro e w1 ⟨rfl,hb1⟩;have H1:=zH ((zU H0).below hb1);clear hb1 q0 q1;obtain⟨q0,q1⟩:=(zU H1).ab.c;go_wp2_with fail;refine (zU CN _).mono ?_;rintro e w2 ⟨rfl,hw2⟩;rw[hw2];clear hw2;go_wp2_with fail;refine (zU CW _).mono ?_;rintro e w3 ⟨rfl,hw3⟩;rw[hw3];clear hw3;go_wp2_with (refine wpList_store_row rfl 33 (.tmp 8) (.tmp 32) rfl (B+1) #[.slice none 0 0,.slice none 0 0] rfl rfl 33 _ (zU H1).z qd rfl qae ?_);refine bodyPost_ret (qc rfl _ _ (B+1) 33 #[.slice none 0 0,.slice none 0 0] (0,0) _ rfl ((zU H1).end_ _).1 Tryz.underlying33 rfl qd) rfl ⟨⟨_,_,rfl,?_⟩,((zU H1).end_ _).2⟩;exact OwnA.nil _ _
 | some d =>
  rw[if_neg (by rw[hdo];simp)]at hput;have hdl:=qdM hra.sd hdo;rw[hdo]at CW;have CW:=zH CW
  by_cases htx:512<text.length
  ·rw[if_pos htx]at hput;have d1:(512:Int)<(text.length:Int):=by omega
   subst hput;clear hnm hdo htx hra;go_enter Tryz.func70,Tryz.ntmps70;go_upto_region 1 with fail
   rw[<-zU HW0,<-zU HB];obtain⟨q0,q1⟩:=(zU H0).ab.c;go_wp2_with fail;refine (zU CK _ (zU H0)).mono ?_;rintro e w1 ⟨rfl,hb1⟩;have H1:=zH ((zU H0).below hb1);clear hb1 q0 q1;obtain⟨q0,q1⟩:=(zU H1).ab.c;go_wp2_with fail;refine (zU CN _).mono ?_;rintro e w2 ⟨rfl,hw2⟩;rw[hw2];clear hw2;go_wp2_with fail;refine (zU CW _).mono ?_;rintro e w3 ⟨rfl,hw3⟩;rw[hw3];clear hw3;go_wp2_with (refine wpList_store_row rfl 33 (.tmp 8) (.tmp 37) rfl (B+1) #[.slice none 0 0,.slice none 0 0] rfl rfl 33 _ (zU H1).z qd rfl qae ?_);refine bodyPost_ret (qc rfl _ _ (B+1) 33 #[.slice none 0 0,.slice none 0 0] (0,0) _ rfl ((zU H1).end_ _).1 Tryz.underlying33 rfl qd) rfl ⟨⟨_,_,rfl,?_⟩,((zU H1).end_ _).2⟩;exact OwnA.nil _ _
  rw[if_neg htx]at hput;have d1:¬(512:Int)<(text.length:Int):=by omega
  have KP:∀W,Below B w W->Calls Tryz.prog 116 #[qv A n cap A2 n2 cap2,S file,S text,I k] W fun e w'=>e=.returned (qfn (qy a.ds file text k))/\Below W.heap.size W w':=fun W hW=>qjJ A n cap A2 n2 cap2 a file text k d W ((zU HI).up (by rw[<-zU HB];exact hW)) (by omega) hdo hdl (by omega);obtain⟨F,hF⟩:∃F,F=qy a.ds file text k:=⟨_,rfl⟩
  rw[<-hF]at KP hput;have HFN:=zH (show F.name=file by rw[hF];rfl);have KP:=zH KP;rw[<-qmG hra.fr.asc]at hput;have HP:=zH hput;clear hnm hdo htx hra hput hF hdl;go_enter Tryz.func70,Tryz.ntmps70;go_upto_region 1 with fail
  rw[<-zU HW0,<-zU HB];obtain⟨q0,q1⟩:=(zU H0).ab.c;go_wp2_with fail;refine (zU CK _ (zU H0)).mono ?_;rintro e w1 ⟨rfl,hb1⟩;have H1:=zH ((zU H0).below hb1);clear hb1 q0 q1;obtain⟨q0,q1⟩:=(zU H1).ab.c;go_wp2_with fail;refine (zU CN _).mono ?_;rintro e w2 ⟨rfl,hw2⟩;rw[hw2];clear hw2;go_wp2_with fail;refine (zU CW _).mono ?_;rintro e w3 ⟨rfl,hw3⟩;rw[hw3];clear hw3;have HST:=zH (zU H1).ab.i.s;obtain⟨E,hE⟩:∃E,E=w1.heap.size:=⟨_,rfl⟩
  have hBE:B+1<E:=by rw[hE];exact (zU H1).lt
  have HE:=zH hE;have q2:(w1.alloc (.cells #[] 9)).cell? ⟨B,0,none⟩=some (.slice A n cap):=((zU H1).below ((Below.refl _ _).alloc (Nat.le_refl _) _)).ab.c.1;clear hE
  go_upto_region 11 with (first
   | (at_builtin;refine qdw rfl (.tmp 38) (.tmp 40) rfl A n cap a.ds (zU HST) (by omega) rfl rfl ?_;intro A' cap' w3 hown3 hb3;have HOWN3:=zH hown3;have HB3:=zH hb3;clear hown3 hb3)
   | (refine wpList_store_row rfl 33 (.tmp 11) (.tmp 42) rfl w3.heap.size #[.slice A' n cap',.slice none 0 0] rfl rfl 33 _ (heap_alloc_new _ _) qd rfl (qN _ _ _ _ _ _) ?_))
  obtain⟨w5,hw5⟩:∃w5,w5=(w3.alloc (.cells #[.slice none 0 0,.slice none 0 0] 33)).setRow w3.heap.size #[.slice A' n cap',.slice none 0 0]:=⟨_,rfl⟩
  obtain⟨P,hP⟩:∃P,P=w3.heap.size:=⟨_,rfl⟩
  have S5:=zH (show CompS w w5 B E P #[.slice A n cap,.slice A2 n2 cap2] (.slice A' n cap') (.slice none 0 0) ⟨a.ds,[]⟩by
   have h3:=(zU H1).below (zU HB3);have hb5:Below w3.heap.size w3 w5:=by rw[hw5];exact below_setRow ((Below.refl _ _).alloc (Nat.le_refl _) _) (Nat.le_refl _) _
   have h5:=h3.below hb5;refine⟨h5.ab.o,h5.z,by rw[hw5,hP];exact setRow_heap _ _ _ _ _ _ (heap_alloc_new _ _),⟨?_,World.ownsRow_nil _ _ _ _⟩,hBE,by rw[hP,zU HE];exact (zU HB3).size,h5.ab.bel⟩;show w5.ownsRow E 9 1 (.slice A' n cap') a.ds.length _;rw[hl1,zU HE];exact qo (zU HOWN3) hb5)
  rw[<-hw5,<-hP];clear hw5 hP q0 q1 q2;obtain⟨q0,q1,_,_⟩:=qk (zU S5).b;go_wp2_with fail;go_loopw [12,13] (fun dv iv wr=>∃ (i:Nat) (dn:Bool) (A3:Option Addr) (c3:Nat) (l:List Fil),i<=n2/\iv=.int .i64 i/\dv=.bool dn/\l.length<=i+1/\(dn=false->l.length<=i)/\CompS w wr B E P #[.slice A n cap,.slice A2 n2 cap2] (.slice A' n cap') (.slice A3 l.length c3) ⟨a.ds,l⟩/\qa5 F false a.fs=l++qa5 F dn (a.fs.drop i)) (fun _ iv _=>n2-(intOf iv).toNat)
  case atStart=>exact⟨0,false,none,0,[],Nat.zero_le _,rfl,rfl,by simp,fun _=>by simp,zU S5,by simp⟩
  case round =>
   clear q0 q1;obtain⟨i,dn,A3,c3,l,hi,rfl,rfl,hll,hlf,hS,hgo⟩:=hrel;have HS:=zH hS;obtain⟨q0,q1,_,_⟩:=qk hS.b;obtain⟨p0,p1,p2,p3⟩:=hS.cells;obtain⟨m,hm⟩:∃m,m=l.length:=⟨_,rfl⟩
   rw[<-hm]at p1 hll hlf;have hml:=hm.symm
   have hof:wr.ownsRow E 89 5 (.slice A3 m c3) m (qb l):=by
    have:=hS.o.f;rw[<-hm]at this;exact this
   have HOF:=zH hof;rw[hml]at HS;have HML:=zH hml;have hEs:E<=wr.heap.size:=by have:=hS.lt;have:=hS.ep;omega
   by_cases hin2:i<n2
   ·have hin:=(zU HI).up (by rw[<-zU HB];exact hS.bel);obtain⟨b,off,g,rfl,hb,hf,x0,x1,x2,x3,x4⟩:=hin.f.at_ (k:=i) hin2;rw[qgJ hf]at hgo;have z1:(i:Int)<(n2:Int):=by omega
    cases hls:qs g.name file with
    | true =>
     have hnm2:g.name≠file:=by intro e;rw[e,qaj]at hls;cases hls
     have s1:Op.bytesLess g.name file=true:=by rw[qbf];exact hls
     have d2:(g.name != file)=true:=by rw[bne_iff_ne];exact hnm2
     have d3:(g.name == file)=false:=by rw[zB];exact hnm2
     cases dn with
     | true =>
      have HGO2:=zH (show qa5 F false a.fs=(l++[g])++qa5 F true (a.fs.drop (i+1))by rw[hgo,qd1,zU HFN];first|(simp[hls,hnm2];done)|simp[hnm2,qaj]);clear hf hin hgo hS hof hm hml hls hnm2 hlf;go_wp2_with fail;go_region_law ((refine qbb rfl (.tmp 81) (.tmp 87) rfl E _ (m) (l) rfl (by first|exact ((zU HOF).alloc _)|exact ((zU HOF).alloc _).drew|exact (zU HOF).drew.alloc _) g wr.heap.size rfl (by first|exact heap_alloc_new _ _|exact heap_alloc_new wr.drew _) (by omega) (by simp;omega) ?_;intro A9 c9 w9 hown9 hg9;have hpush9:=CompS.pushF (v2':=.slice A9 (m+1) c9) (f:=g) ((zU HS).below (by first|exact (Below.refl _ _).alloc (Nat.le_refl _) _|exact ((Below.refl _ _).alloc (Nat.le_refl _) _).drew|exact (Below.refl _ _).drew.alloc (Nat.le_refl _) _)) hg9 (by have h9:=zU HML;show w9.ownsRow E 89 5 _ ((l).length+1) _;rw[h9];exact hown9);have HPUSH9:=zH hpush9;obtain⟨y0,y1,y2,y3⟩:=qk hpush9.2.1;clear hown9 hg9 hpush9))
      all_goals
       go_wp2_with fail;go_roundw
       case rel =>
        refine⟨i+1,true,A9,c9,l++[g],by omega,by go_num,rfl,by rw[zL,zU HML];simp;omega,fun h=>by first|(cases h;done)|(rw[zL,zU HML];simp;omega),?_,zU HGO2⟩;rw[show (l++[g]).length=m+1 from by rw[zL,zU HML];rfl];exact (zU HPUSH9).1
       case measure=>simp[intOf];omega
     | false =>
      have hlf2:=hlf rfl;have HGO2:=zH (show qa5 F false a.fs=(l++[g])++qa5 F false (a.fs.drop (i+1))by rw[hgo,qd1,zU HFN];first|(simp[hls,hnm2];done)|simp[hnm2,qaj]);clear hf hin hgo hS hof hm hml hls hnm2 hlf;go_wp2_with fail;go_region_law ((refine qbb rfl (.tmp 81) (.tmp 87) rfl E _ (m) (l) rfl (by first|exact ((zU HOF).alloc _)|exact ((zU HOF).alloc _).drew|exact (zU HOF).drew.alloc _) g wr.heap.size rfl (by first|exact heap_alloc_new _ _|exact heap_alloc_new wr.drew _) (by omega) (by simp;omega) ?_;intro A9 c9 w9 hown9 hg9;have hpush9:=CompS.pushF (v2':=.slice A9 (m+1) c9) (f:=g) ((zU HS).below (by first|exact (Below.refl _ _).alloc (Nat.le_refl _) _|exact ((Below.refl _ _).alloc (Nat.le_refl _) _).drew|exact (Below.refl _ _).drew.alloc (Nat.le_refl _) _)) hg9 (by have h9:=zU HML;show w9.ownsRow E 89 5 _ ((l).length+1) _;rw[h9];exact hown9);have HPUSH9:=zH hpush9;obtain⟨y0,y1,y2,y3⟩:=qk hpush9.2.1;clear hown9 hg9 hpush9))
      all_goals
       go_wp2_with fail;go_roundw
       case rel =>
        refine⟨i+1,false,A9,c9,l++[g],by omega,by go_num,rfl,by rw[zL,zU HML];simp;omega,fun h=>by first|(cases h;done)|(rw[zL,zU HML];simp;omega),?_,zU HGO2⟩;rw[show (l++[g]).length=m+1 from by rw[zL,zU HML];rfl];exact (zU HPUSH9).1
       case measure=>simp[intOf];omega
    | false =>
     have s1:Op.bytesLess g.name file=false:=by rw[qbf];exact hls
     cases dn with
     | true =>
      by_cases hnm2:g.name=file
      ·have d2:(g.name != file)=false:=by rw[bne_eq_false_iff_eq];exact hnm2
       have d3:(g.name == file)=true:=by rw[beq_iff_eq];exact hnm2
       have HGO2:=zH (show qa5 F false a.fs=(l)++qa5 F true (a.fs.drop (i+1))by rw[hgo,qd1,zU HFN];first|(simp[hnm2];done)|simp[hnm2,qaj]);clear hf hin hgo hS hof hm hml hls hnm2 hlf;go_wp2_with fail;go_roundw
       case rel =>
        refine⟨i+1,true,A3,c3,l,by omega,by go_num,rfl,by rw[zU HML];omega,fun h=>by first|(cases h;done)|(rw[zU HML];omega),?_,zU HGO2⟩;rw[zU HML];exact zU HS
       case measure=>simp[intOf];omega
      ·have d2:(g.name != file)=true:=by rw[bne_iff_ne];exact hnm2
       have d3:(g.name == file)=false:=by rw[zB];exact hnm2
       have HGO2:=zH (show qa5 F false a.fs=(l++[g])++qa5 F true (a.fs.drop (i+1))by rw[hgo,qd1,zU HFN];first|(simp[hls,hnm2];done)|simp[hnm2,qaj]);clear hf hin hgo hS hof hm hml hls hnm2 hlf;go_wp2_with fail;go_region_law ((refine qbb rfl (.tmp 81) (.tmp 87) rfl E _ (m) (l) rfl (by first|exact ((zU HOF).alloc _)|exact ((zU HOF).alloc _).drew|exact (zU HOF).drew.alloc _) g wr.heap.size rfl (by first|exact heap_alloc_new _ _|exact heap_alloc_new wr.drew _) (by omega) (by simp;omega) ?_;intro A9 c9 w9 hown9 hg9;have hpush9:=CompS.pushF (v2':=.slice A9 (m+1) c9) (f:=g) ((zU HS).below (by first|exact (Below.refl _ _).alloc (Nat.le_refl _) _|exact ((Below.refl _ _).alloc (Nat.le_refl _) _).drew|exact (Below.refl _ _).drew.alloc (Nat.le_refl _) _)) hg9 (by have h9:=zU HML;show w9.ownsRow E 89 5 _ ((l).length+1) _;rw[h9];exact hown9);have HPUSH9:=zH hpush9;obtain⟨y0,y1,y2,y3⟩:=qk hpush9.2.1;clear hown9 hg9 hpush9))
       all_goals
        go_wp2_with fail;go_roundw
        case rel =>
         refine⟨i+1,true,A9,c9,l++[g],by omega,by go_num,rfl,by rw[zL,zU HML];simp;omega,fun h=>by first|(cases h;done)|(rw[zL,zU HML];simp;omega),?_,zU HGO2⟩;rw[show (l++[g]).length=m+1 from by rw[zL,zU HML];rfl];exact (zU HPUSH9).1
        case measure=>simp[intOf];omega
     | false =>
      have hlf2:=hlf rfl;have HFG:=zH hf
      by_cases hnm2:g.name=file
      ·have d2:(g.name != file)=false:=by rw[bne_eq_false_iff_eq];exact hnm2
       have d3:(g.name == file)=true:=by rw[beq_iff_eq];exact hnm2
       have HGO2:=zH (show qa5 F false a.fs=(l++[F])++qa5 F true (a.fs.drop (i+1))by rw[hgo,qd1,zU HFN];first|(simp[hnm2];done)|simp[hnm2,qaj]);clear hf hin hgo hS hof hm hml hls hnm2 hlf;go_wp2_with fail
       go_region_law ((first
         | (refine qfU rfl 116 64 65 66 67 _ rfl (.agg #[.slice A n cap,.slice (some ⟨b,off,none⟩) n2 cap2]) (S file) (S text) (I k) (by simp) (by simp) (by simp) (by simp) qd2 ((zU KP _ (by first | exact ((zU HS).below (Below.refl _ _).drew).bel | exact (zU HS).bel)).mono ?_);rintro e w4 ⟨rfl,hb4⟩;refine⟨_,rfl,?_⟩;have hbw4:Below wr.heap.size wr w4:=(by first | exact (Below.refl _ _).drew.trans hb4 | exact hb4);have hs4:=(zU HS).below hbw4;have HS4:=zH hs4;have HOF4:=zH (qo (zU HOF) hbw4);have p1':=hs4.cells.2.1;have HZ4:=zH hbw4.size;clear hbw4 hs4)
         | (refine qbb rfl (.tmp 63) (.tmp 69) rfl E _ m l rfl (by first | exact ((zU HOF4).alloc _) | exact ((zU HOF4).alloc _).drew | exact (zU HOF4).drew.alloc _) F w4.heap.size rfl (by first | exact heap_alloc_new _ _ | exact heap_alloc_new w4.drew _) (by omega) (by have h9:=zU HZ4;simp;omega) ?_;intro A7 c7 w7 hown7 hg7;have hpush:=CompS.pushF (v2':=.slice A7 (m+1) c7) (f:=F) ((zU HS4).below (by first | exact (Below.refl _ _).alloc (Nat.le_refl _) _ | exact ((Below.refl _ _).alloc (Nat.le_refl _) _).drew | exact (Below.refl _ _).drew.alloc (Nat.le_refl _) _)) hg7 (by have h9:=zU HML;show w7.ownsRow E 89 5 _ (l.length+1) _;rw[h9];exact hown7);have HPUSH:=zH hpush;obtain⟨u0,u1,u2,u3⟩:=qk hpush.2.1;clear hown7 hg7 hpush)))
       all_goals
        obtain⟨w8,hw8⟩:∃w8,w8=w7.setCell ⟨P,1,none⟩ (.slice A7 (m+1) c7):=⟨_,rfl⟩
        have hS8:CompS w w8 B E P #[.slice A n cap,.slice (some ⟨b,off,none⟩) n2 cap2] (.slice A' n cap') (.slice A7 (m+1) c7) ⟨a.ds,l++[F]⟩:=by rw[hw8];exact (zU HPUSH).1
        have HML8:=zH (show (l++[F]).length=m+1 from by rw[zL,zU HML];rfl);have HOF8:=zH (show w8.ownsRow E 89 5 (.slice A7 (m+1) c7) (m+1) (qb (l++[F]))by have:=hS8.o.f;rw[show (⟨a.ds,l++[F]⟩:Arc).fs.length=m+1 from zU HML8]at this;exact this);have HS8:=zH hS8;have hEs8:E<=w8.heap.size:=by have:=hS8.lt;have:=hS8.ep;omega
        rw[<-hw8];clear q0 q1 p0 p1 p2 p3 x0 x1 x2 x3 x4 u0 u1 u2 u3;obtain⟨q0,q1,_,_⟩:=qk hS8.b;obtain⟨p0,p1,p2,p3⟩:=hS8.cells;have hin8:=(zU HI).up (by rw[<-zU HB];exact hS8.bel);obtain⟨b9,off9,g9,he9,_,hf9,x0,x1,x2,x3,x4⟩:=hin8.f.at_ (k:=i) hin2;injection he9 with he9;injection he9 with he9a he9b _
        subst he9a;subst he9b;obtain rfl:g=g9:=by have:=(zU HFG).symm.trans hf9;injection this with e
        clear hf9 hin8 hw8 hS8;go_wp2_with fail;go_roundw
        case rel =>
         refine⟨i+1,true,A7,c7,(l++[F]),by omega,by go_num,rfl,by rw[zU HML8];omega,fun h=>by first|(cases h;done)|(rw[zU HML8];omega),?_,zU HGO2⟩;rw[zU HML8];exact zU HS8
        case measure=>simp[intOf];omega
      ·have d2:(g.name != file)=true:=by rw[bne_iff_ne];exact hnm2
       have d3:(g.name == file)=false:=by rw[zB];exact hnm2
       have HGO2:=zH (show qa5 F false a.fs=((l++[F])++[g])++qa5 F true (a.fs.drop (i+1))by rw[hgo,qd1,zU HFN];first|(simp[hls,hnm2];done)|simp[hnm2,qaj]);clear hf hin hgo hS hof hm hml hls hnm2 hlf;go_wp2_with fail
       go_region_law ((first
         | (refine qfU rfl 116 64 65 66 67 _ rfl (.agg #[.slice A n cap,.slice (some ⟨b,off,none⟩) n2 cap2]) (S file) (S text) (I k) (by simp) (by simp) (by simp) (by simp) qd2 ((zU KP _ (by first | exact ((zU HS).below (Below.refl _ _).drew).bel | exact (zU HS).bel)).mono ?_);rintro e w4 ⟨rfl,hb4⟩;refine⟨_,rfl,?_⟩;have hbw4:Below wr.heap.size wr w4:=(by first | exact (Below.refl _ _).drew.trans hb4 | exact hb4);have hs4:=(zU HS).below hbw4;have HS4:=zH hs4;have HOF4:=zH (qo (zU HOF) hbw4);have p1':=hs4.cells.2.1;have HZ4:=zH hbw4.size;clear hbw4 hs4)
         | (refine qbb rfl (.tmp 63) (.tmp 69) rfl E _ m l rfl (by first | exact ((zU HOF4).alloc _) | exact ((zU HOF4).alloc _).drew | exact (zU HOF4).drew.alloc _) F w4.heap.size rfl (by first | exact heap_alloc_new _ _ | exact heap_alloc_new w4.drew _) (by omega) (by have h9:=zU HZ4;simp;omega) ?_;intro A7 c7 w7 hown7 hg7;have hpush:=CompS.pushF (v2':=.slice A7 (m+1) c7) (f:=F) ((zU HS4).below (by first | exact (Below.refl _ _).alloc (Nat.le_refl _) _ | exact ((Below.refl _ _).alloc (Nat.le_refl _) _).drew | exact (Below.refl _ _).drew.alloc (Nat.le_refl _) _)) hg7 (by have h9:=zU HML;show w7.ownsRow E 89 5 _ (l.length+1) _;rw[h9];exact hown7);have HPUSH:=zH hpush;obtain⟨u0,u1,u2,u3⟩:=qk hpush.2.1;clear hown7 hg7 hpush)))
       all_goals
        obtain⟨w8,hw8⟩:∃w8,w8=w7.setCell ⟨P,1,none⟩ (.slice A7 (m+1) c7):=⟨_,rfl⟩
        have hS8:CompS w w8 B E P #[.slice A n cap,.slice (some ⟨b,off,none⟩) n2 cap2] (.slice A' n cap') (.slice A7 (m+1) c7) ⟨a.ds,l++[F]⟩:=by rw[hw8];exact (zU HPUSH).1
        have HML8:=zH (show (l++[F]).length=m+1 from by rw[zL,zU HML];rfl);have HOF8:=zH (show w8.ownsRow E 89 5 (.slice A7 (m+1) c7) (m+1) (qb (l++[F]))by have:=hS8.o.f;rw[show (⟨a.ds,l++[F]⟩:Arc).fs.length=m+1 from zU HML8]at this;exact this);have HS8:=zH hS8;have hEs8:E<=w8.heap.size:=by have:=hS8.lt;have:=hS8.ep;omega
        rw[<-hw8];clear q0 q1 p0 p1 p2 p3 x0 x1 x2 x3 x4 u0 u1 u2 u3;obtain⟨q0,q1,_,_⟩:=qk hS8.b;obtain⟨p0,p1,p2,p3⟩:=hS8.cells;have hin8:=(zU HI).up (by rw[<-zU HB];exact hS8.bel);obtain⟨b9,off9,g9,he9,_,hf9,x0,x1,x2,x3,x4⟩:=hin8.f.at_ (k:=i) hin2;injection he9 with he9;injection he9 with he9a he9b _
        subst he9a;subst he9b;obtain rfl:g=g9:=by have:=(zU HFG).symm.trans hf9;injection this with e
        clear hf9 hin8 hw8 hS8;go_wp2_with fail;go_region_law ((refine qbb rfl (.tmp 81) (.tmp 87) rfl E _ ((m+1)) ((l++[F])) rfl (by first|exact ((zU HOF8).alloc _)|exact ((zU HOF8).alloc _).drew|exact (zU HOF8).drew.alloc _) g w8.heap.size rfl (by first|exact heap_alloc_new _ _|exact heap_alloc_new w8.drew _) (by omega) (by simp;omega) ?_;intro A9 c9 w9 hown9 hg9;have hpush9:=CompS.pushF (v2':=.slice A9 ((m+1)+1) c9) (f:=g) ((zU HS8).below (by first|exact (Below.refl _ _).alloc (Nat.le_refl _) _|exact ((Below.refl _ _).alloc (Nat.le_refl _) _).drew|exact (Below.refl _ _).drew.alloc (Nat.le_refl _) _)) hg9 (by have h9:=zU HML8;show w9.ownsRow E 89 5 _ (((l++[F])).length+1) _;rw[h9];exact hown9);have HPUSH9:=zH hpush9;obtain⟨y0,y1,y2,y3⟩:=qk hpush9.2.1;clear hown9 hg9 hpush9))
        all_goals
         go_wp2_with fail;go_roundw
         case rel =>
          refine⟨i+1,true,A9,c9,(l++[F])++[g],by omega,by go_num,rfl,by rw[zL,zU HML8];simp;omega,fun h=>by first|(cases h;done)|(rw[zL,zU HML8];simp;omega),?_,zU HGO2⟩;rw[show ((l++[F])++[g]).length=(m+1)+1 from by rw[zL,zU HML8];rfl];exact (zU HPUSH9).1
         case measure=>simp[intOf];omega
   ·have hdr:a.fs.drop i=[]:=List.drop_of_length_le (by omega);rw[hdr]at hgo;have z1:¬(i:Int)<(n2:Int):=by omega
    have z2:decide ((i:Int)<(n2:Int))=false:=by simp;omega
    cases dn with
    | true =>
     have HGO3:=zH (show qa5 F false a.fs=l by rw[hgo];simp[qa5]);clear hdr hgo hS hof hm hml hlf;have hSf:=zU HS
     by_cases h13:12<m
     ·have HR:=zH (show r=(qG,2)by rw[zU HP,if_pos (by rw[zU HGO3,zU HML];exact h13)]);have c1:(12:Int)<((m:Nat):Int):=by omega
      have e1:=setRow_heap _ (B+1) _ #[.slice none 0 0,.slice none 0 0] _ _ hSf.z;have e3:=below_setRow hSf.bel (show B<=B+1 by omega) #[.slice none 0 0,.slice none 0 0];have E1:=zH e1;have E3:=zH e3;have HZR:=zH hSf.z;clear hSf e1 e3;go_wp2_with (refine wpList_store_row rfl 33 (.tmp 8) (.tmp 106) rfl (B+1) #[.slice none 0 0,.slice none 0 0] rfl rfl 33 _ (zU HZR) qd rfl qae ?_);refine bodyPost_ret (qc rfl _ _ (B+1) 33 #[.slice none 0 0,.slice none 0 0] (0,0) _ rfl (zU E1) Tryz.underlying33 rfl qd) rfl ?_;rw[zU HR];exact⟨⟨_,_,rfl,OwnA.nil _ _⟩,zU E3⟩
     ·have HR:=zH (show r=(⟨a.ds,l⟩,0)by rw[zU HP,if_neg (by rw[zU HGO3,zU HML];exact h13),zU HGO3]);have c1:¬(12:Int)<((m:Nat):Int):=by omega
      obtain⟨e1,e2,e3⟩:=qdm hSf.z hSf.be hSf.o hSf.bel;have E1:=zH e1;have E2:=zH e2;have E3:=zH e3;have HZR:=zH hSf.z;clear hSf e1 e2 e3;go_wp2_with (refine wpList_store_row rfl 33 (.tmp 8) (.tmp 107) rfl (B+1) #[.slice A' n cap',.slice A3 (m) c3] rfl rfl 33 _ (zU HZR) qd rfl (qN _ _ _ _ _ _) ?_);refine bodyPost_ret (qc rfl _ _ (B+1) 33 #[.slice A' n cap',.slice A3 (m) c3] (0,0) _ rfl (zU E1) Tryz.underlying33 rfl qd) rfl ?_;rw[zU HR];exact⟨⟨_,_,rfl,zU E2⟩,zU E3⟩
    | false =>
     have hlf2:=hlf rfl;have HGO3:=zH (show qa5 F false a.fs=l++[F]by rw[hgo];simp[qa5]);clear hdr hgo hS hof hm hml hlf;go_wp2_with fail
     go_region_law ((first
       | (refine qfU rfl 116 94 95 96 97 _ rfl (.agg #[.slice A n cap,.slice A2 n2 cap2]) (S file) (S text) (I k) (by simp) (by simp) (by simp) (by simp) qd2 ((zU KP _ (by first | exact ((zU HS).below (Below.refl _ _).drew).bel | exact (zU HS).bel)).mono ?_);rintro e w4 ⟨rfl,hb4⟩;refine⟨_,rfl,?_⟩;have hbw4:Below wr.heap.size wr w4:=(by first | exact (Below.refl _ _).drew.trans hb4 | exact hb4);have hs4:=(zU HS).below hbw4;have HS4:=zH hs4;have HOF4:=zH (qo (zU HOF) hbw4);have p1':=hs4.cells.2.1;have HZ4:=zH hbw4.size;clear hbw4 hs4)
       | (refine qbb rfl (.tmp 93) (.tmp 99) rfl E _ m l rfl (by first | exact ((zU HOF4).alloc _) | exact ((zU HOF4).alloc _).drew | exact (zU HOF4).drew.alloc _) F w4.heap.size rfl (by first | exact heap_alloc_new _ _ | exact heap_alloc_new w4.drew _) (by omega) (by have h9:=zU HZ4;simp;omega) ?_;intro A7 c7 w7 hown7 hg7;have hpush:=CompS.pushF (v2':=.slice A7 (m+1) c7) (f:=F) ((zU HS4).below (by first | exact (Below.refl _ _).alloc (Nat.le_refl _) _ | exact ((Below.refl _ _).alloc (Nat.le_refl _) _).drew | exact (Below.refl _ _).drew.alloc (Nat.le_refl _) _)) hg7 (by have h9:=zU HML;show w7.ownsRow E 89 5 _ (l.length+1) _;rw[h9];exact hown7);have HPUSH:=zH hpush;obtain⟨u0,u1,u2,u3⟩:=qk hpush.2.1;clear hown7 hg7 hpush)))
     all_goals
      obtain⟨w8,hw8⟩:∃w8,w8=w7.setCell ⟨P,1,none⟩ (.slice A7 (m+1) c7):=⟨_,rfl⟩
      have hS8:CompS w w8 B E P #[.slice A n cap,.slice A2 n2 cap2] (.slice A' n cap') (.slice A7 (m+1) c7) ⟨a.ds,l++[F]⟩:=by rw[hw8];exact (zU HPUSH).1
      have HML8:=zH (show (l++[F]).length=m+1 from by rw[zL,zU HML];rfl);have HS8:=zH hS8;rw[<-hw8];clear q0 q1 p0 p1 p2 p3 u0 u1 u2 u3;obtain⟨q0,q1,_,_⟩:=qk hS8.b;obtain⟨p0,p1,p2,p3⟩:=hS8.cells;clear hw8 hS8;have hSf:=zU HS8
      by_cases h13:12<(m+1)
      ·have HR:=zH (show r=(qG,2)by rw[zU HP,if_pos (by rw[zU HGO3,zU HML8];exact h13)]);have c1:(12:Int)<(((m+1):Nat):Int):=by omega
       have e1:=setRow_heap _ (B+1) _ #[.slice none 0 0,.slice none 0 0] _ _ hSf.z;have e3:=below_setRow hSf.bel (show B<=B+1 by omega) #[.slice none 0 0,.slice none 0 0];have E1:=zH e1;have E3:=zH e3;have HZR:=zH hSf.z;clear hSf e1 e3;go_wp2_with (refine wpList_store_row rfl 33 (.tmp 8) (.tmp 106) rfl (B+1) #[.slice none 0 0,.slice none 0 0] rfl rfl 33 _ (zU HZR) qd rfl qae ?_);refine bodyPost_ret (qc rfl _ _ (B+1) 33 #[.slice none 0 0,.slice none 0 0] (0,0) _ rfl (zU E1) Tryz.underlying33 rfl qd) rfl ?_;rw[zU HR];exact⟨⟨_,_,rfl,OwnA.nil _ _⟩,zU E3⟩
      ·have HR:=zH (show r=(⟨a.ds,l++[F]⟩,0)by rw[zU HP,if_neg (by rw[zU HGO3,zU HML8];exact h13),zU HGO3]);have c1:¬(12:Int)<(((m+1):Nat):Int):=by omega
       obtain⟨e1,e2,e3⟩:=qdm hSf.z hSf.be hSf.o hSf.bel;have E1:=zH e1;have E2:=zH e2;have E3:=zH e3;have HZR:=zH hSf.z;clear hSf e1 e2 e3;go_wp2_with (refine wpList_store_row rfl 33 (.tmp 8) (.tmp 107) rfl (B+1) #[.slice A' n cap',.slice A7 ((m+1)) c7] rfl rfl 33 _ (zU HZR) qd rfl (qN _ _ _ _ _ _) ?_);refine bodyPost_ret (qc rfl _ _ (B+1) 33 #[.slice A' n cap',.slice A7 ((m+1)) c7] (0,0) _ rfl (zU E1) Tryz.underlying33 rfl qd) rfl ?_;rw[zU HR];exact⟨⟨_,_,rfl,zU E2⟩,zU E3⟩
attribute [local go_sem] World.cell?_alloc_some in
theorem qrJ(A:Option Addr)(n cap:Nat)(A2:Option Addr)(n2 cap2:Nat)(a:Arc)(file:qa)(w:World)(h:ArcIn w A n A2 n2 a)(hz:ArcSz a) :
  Calls Tryz.prog 71 #[qv A n cap A2 n2 cap2,S file] w fun e w'=>ArcRes w.heap.size (drop a file) e w'/\Below w.heap.size w w':=by
 obtain⟨B,hB⟩:∃B,B=w.heap.size:=⟨_,rfl⟩
 obtain⟨w0,hw0⟩:∃w0,w0=(w.alloc (.cells #[.slice A n cap,.slice A2 n2 cap2] 33)).alloc (.cells #[.slice none 0 0,.slice none 0 0] 33):=⟨_,rfl⟩
 have H0:=zH (show AR A n cap A2 n2 cap2 a w w0 B by rw[hw0,hB];exact AR.new h cap cap2);have hl1:=h.s.1;have hl2:=h.f.1;have CK:∀W,AR A n cap A2 n2 cap2 a w W B->Calls Tryz.prog 67 #[qv A n cap A2 n2 cap2] W fun e w'=>e=.returned (I (qh a))/\Below W.heap.size W w':=fun W hW=>qbN A n cap A2 n2 cap2 a W hW.ab.i hz;obtain⟨r,hr⟩:∃r,r=drop a file:=⟨_,rfl⟩
 rw[<-hr,<-hB];have hput:r=if qh a≠0 then (qG,qh a)else if qbB file a.fs=none then (qG,5)else (⟨a.ds,a.fs.filter fun f=>decide (f.name≠file)⟩,0):=hr
 have HB:=zH hB;have HW0:=zH hw0;have HI:=zH h;clear hB hw0 h hr hz
 by_cases hck:qh a≠0
 ·rw[if_pos hck]at hput;obtain⟨c,hc⟩:∃c,c=qh a:=⟨_,rfl⟩
  rw[<-hc]at CK hput hck;have CK:=zH CK;have d1:((c:Int) != 0)=true:=by rw[bne_iff_ne];omega
  have d2:((c:Int) == 0)=false:=by rw[zB];omega
  have d3:¬(c:Int)=0:=by omega
  subst hput;clear hck hc;go_enter Tryz.func71,Tryz.ntmps71;go_upto_region 1 with fail
  rw[<-zU HW0,<-zU HB];obtain⟨q0,q1⟩:=(zU H0).ab.c;go_wp2_with fail;refine (zU CK _ (zU H0)).mono ?_;rintro e w1 ⟨rfl,hb1⟩;have H1:=zH ((zU H0).below hb1);clear hb1 q0 q1;go_wp2_with (refine wpList_store_row rfl 33 (.tmp 4) (.tmp 13) rfl (B+1) #[.slice none 0 0,.slice none 0 0] rfl rfl 33 _ (zU H1).z qd rfl qae ?_);refine bodyPost_ret (qc rfl _ _ (B+1) 33 #[.slice none 0 0,.slice none 0 0] (0,0) _ rfl ((zU H1).end_ _).1 Tryz.underlying33 rfl qd) rfl ⟨⟨_,_,rfl,?_⟩,((zU H1).end_ _).2⟩;exact OwnA.nil _ _
 have hck0:qh a=0:=Decidable.not_not.1 hck;have hra:=(qak a).1 hck0;rw[if_neg hck]at hput;rw[hck0]at CK;have CK:=zH CK;have h12:=hra.nf;have h4:=hra.nd;have CF:∀W,AR A n cap A2 n2 cap2 a w W B->Calls Tryz.prog 117 #[qv A n cap A2 n2 cap2,S file] W fun e w'=>((qbB file a.fs=none/\e=.returned (I (-1)))\/(∃i f,a.fs[i]?=some f/\qbB file a.fs=some f/\e=.returned (I (i:Nat))))/\Below W.heap.size W w':=fun W hW=>qlv A n cap A2 n2 cap2 a file W hW.ab.i (by omega);have CF:=zH CF;clear hck hck0 hra;have HPUT:=zH hput;clear hput;go_enter Tryz.func71,Tryz.ntmps71;go_upto_region 1 with fail
 rw[<-zU HW0,<-zU HB];obtain⟨q0,q1⟩:=(zU H0).ab.c;go_wp2_with fail;refine (zU CK _ (zU H0)).mono ?_;rintro e w1 ⟨rfl,hb1⟩;have H1:=zH ((zU H0).below hb1);clear hb1 q0 q1;obtain⟨q0,q1⟩:=(zU H1).ab.c;go_wp2_with fail;refine (zU CF _ (zU H1)).mono ?_;rintro e w2 ⟨hres,hb2⟩;have H2:=zH ((zU H1).below hb2);clear hb2 q0 q1;obtain⟨q0,q1⟩:=(zU H2).ab.c
 rcases hres with⟨hnone,rfl⟩|⟨i0,f0,_,hsome,rfl⟩
 ·have HR:=zH (show r=(qG,5)by rw[zU HPUT,if_pos hnone]);clear hnone;go_wp2_with (refine wpList_store_row rfl 33 (.tmp 4) (.tmp 19) rfl (B+1) #[.slice none 0 0,.slice none 0 0] rfl rfl 33 _ (zU H2).z qd rfl qae ?_);refine bodyPost_ret (qc rfl _ _ (B+1) 33 #[.slice none 0 0,.slice none 0 0] (0,0) _ rfl ((zU H2).end_ _).1 Tryz.underlying33 rfl qd) rfl ?_;rw[zU HR];exact⟨⟨_,_,rfl,OwnA.nil _ _⟩,((zU H2).end_ _).2⟩
 have HR:=zH (show r=(⟨a.ds,a.fs.filter fun f=>decide (f.name≠file)⟩,0)by rw[zU HPUT,if_neg (by rw[hsome];simp)]);have d1:¬(i0:Int)<0:=by omega
 have hst:=(zU H2).ab.i.s;have HST:=zH hst;obtain⟨E,hE⟩:∃E,E=w2.heap.size:=⟨_,rfl⟩
 have hBE:B+1<E:=by rw[hE];exact (zU H2).lt
 have q2:(w2.alloc (.cells #[] 9)).cell? ⟨B,0,none⟩=some (.slice A n cap):=((zU H2).below ((Below.refl _ _).alloc (Nat.le_refl _) _)).ab.c.1;have HE:=zH hE;clear hsome HPUT hst hE
 go_upto_region 7 with (first
  | (at_builtin;refine qdw rfl (.tmp 20) (.tmp 22) rfl A n cap a.ds (zU HST) (by omega) rfl rfl ?_;intro A' cap' w3 hown3 hb3;have HOWN3:=zH hown3;have HB3:=zH hb3;clear hown3 hb3)
  | (refine wpList_store_row rfl 33 (.tmp 7) (.tmp 24) rfl w3.heap.size #[.slice A' n cap',.slice none 0 0] rfl rfl 33 _ (heap_alloc_new _ _) qd rfl (qN _ _ _ _ _ _) ?_))
 obtain⟨w5,hw5⟩:∃w5,w5=(w3.alloc (.cells #[.slice none 0 0,.slice none 0 0] 33)).setRow w3.heap.size #[.slice A' n cap',.slice none 0 0]:=⟨_,rfl⟩
 obtain⟨P,hP⟩:∃P,P=w3.heap.size:=⟨_,rfl⟩
 have S5:=zH (show CompS w w5 B E P #[.slice A n cap,.slice A2 n2 cap2] (.slice A' n cap') (.slice none 0 0) ⟨a.ds,[]⟩by
  have h3:=(zU H2).below (zU HB3);have hb5:Below w3.heap.size w3 w5:=by rw[hw5];exact below_setRow ((Below.refl _ _).alloc (Nat.le_refl _) _) (Nat.le_refl _) _
  have h5:=h3.below hb5;refine⟨h5.ab.o,h5.z,by rw[hw5,hP];exact setRow_heap _ _ _ _ _ _ (heap_alloc_new _ _),⟨?_,World.ownsRow_nil _ _ _ _⟩,hBE,by rw[hP,zU HE];exact (zU HB3).size,h5.ab.bel⟩;show w5.ownsRow E 9 1 (.slice A' n cap') a.ds.length _;rw[hl1,zU HE];exact qo (zU HOWN3) hb5)
 rw[<-hw5,<-hP];clear hw5 hP q0 q1 q2;obtain⟨q0,q1,_,_⟩:=qk (zU S5).b;go_wp2_with fail;go_loopw [8] (fun iv wr=>∃ (k:Nat) (A3:Option Addr) (c3:Nat),k<=n2/\iv=.int .i64 k/\CompS w wr B E P #[.slice A n cap,.slice A2 n2 cap2] (.slice A' n cap') (.slice A3 ((a.fs.take k).filter fun f=>decide (f.name≠file)).length c3) ⟨a.ds,(a.fs.take k).filter fun f=>decide (f.name≠file)⟩) (fun iv _=>n2-(intOf iv).toNat)
 case atStart=>exact⟨0,none,0,Nat.zero_le _,rfl,zU S5⟩
 case round =>
  clear q0 q1;obtain⟨k,A3,c3,hk,rfl,hS⟩:=hrel;have HS:=zH hS;obtain⟨q0,q1,_,_⟩:=qk hS.b;obtain⟨p0,p1,p2,p3⟩:=hS.cells
  by_cases hkn:k<n2
  ·have hin:=(zU HI).up (by rw[<-zU HB];exact hS.bel);obtain⟨b,off,f,rfl,hb,hf,x0,x1,x2,x3,x4⟩:=hin.f.at_ (k:=k) hkn
   have hft:(a.fs.take (k+1)).filter (fun f=>decide (f.name≠file))=(a.fs.take k).filter (fun f=>decide (f.name≠file))++if f.name=file then []else [f]:=by
    rw[List.take_add_one,hf,List.filter_append]
    by_cases e:f.name=file
    ·simp[e]
    ·simp[e]
   have z1:(k:Int)<(n2:Int):=by omega
   by_cases hnm:f.name=file
   ·rw[if_pos hnm,List.append_nil]at hft;have HFT:=zH hft;have d2:(f.name != file)=false:=by rw[bne_eq_false_iff_eq];exact hnm
    have d3:(f.name == file)=true:=by rw[beq_iff_eq];exact hnm
    clear hft hnm hin hf hS;go_wp2_with fail;go_roundw
    case rel=>exact⟨k+1,A3,c3,by omega,by go_num,by rw[zU HFT];exact zU HS⟩
    case measure=>simp[intOf];omega
   ·rw[if_neg hnm]at hft;have HFT:=zH hft;have d2:(f.name != file)=true:=by rw[bne_iff_ne];exact hnm
    have d3:(f.name == file)=false:=by rw[zB];exact hnm
    obtain⟨m,hm⟩:∃m,m=((a.fs.take k).filter fun f=>decide (f.name≠file)).length:=⟨_,rfl⟩
    have hm12:m<=12:=by
     rw[hm];have:=List.length_filter_le (fun f:Fil=>decide (f.name≠file)) (a.fs.take k);rw[List.length_take]at this;omega
    obtain⟨l,hl⟩:∃l,l=(a.fs.take k).filter fun f=>decide (f.name≠file):=⟨_,rfl⟩
    rw[<-hl]at hm HFT HS hS;rw[<-hl,<-hm]at p1;have hml:=hm.symm
    have hof:wr.ownsRow E 89 5 (.slice A3 m c3) m (qb l):=by
     have:=hS.o.f;rw[<-hm]at this;exact this
    have HOF:=zH hof;rw[hml]at HS;have HML:=zH hml;have hEs:E<=wr.heap.size:=by have:=hS.lt;have:=hS.ep;omega
    clear hft hnm hin hf hS hof hl hm hml;go_wp2_with fail;go_region_law ((refine qbb rfl (.tmp 41) (.tmp 47) rfl E _ m l rfl (by first|exact ((zU HOF).alloc _)|exact ((zU HOF).alloc _).drew|exact (zU HOF).drew.alloc _) f wr.heap.size rfl (by first|exact heap_alloc_new _ _|exact heap_alloc_new wr.drew _) (by omega) (by simp;omega) ?_;intro A7 c7 w7 hown7 hg7;have hpush:=CompS.pushF (v2':=.slice A7 (m+1) c7) (f:=f) ((zU HS).below (by first|exact (Below.refl _ _).alloc (Nat.le_refl _) _|exact ((Below.refl _ _).alloc (Nat.le_refl _) _).drew|exact (Below.refl _ _).drew.alloc (Nat.le_refl _) _)) hg7 (by have h9:=zU HML;show w7.ownsRow E 89 5 _ (l.length+1) _;rw[h9];exact hown7);have HPUSH:=zH hpush;obtain⟨u0,u1,u2,u3⟩:=qk hpush.2.1;clear hown7 hg7 hpush))
    all_goals
     go_wp2_with fail;go_roundw
     case rel =>
      refine⟨k+1,A7,c7,by omega,by go_num,?_⟩;rw[zU HFT,show (l++[f]).length=m+1 from by rw[zL,zU HML];rfl];exact (zU HPUSH).1
     case measure=>simp[intOf];omega
  ·have hall:a.fs.take k=a.fs:=List.take_of_length_le (by omega);rw[hall]at hS p1;obtain⟨m,hm⟩:∃m,m=(a.fs.filter fun f=>decide (f.name≠file)).length:=⟨_,rfl⟩
   rw[<-hm]at p1;have hend:=qdm hS.z hS.be hS.o hS.bel;rw[<-hm]at hend;obtain⟨e1,e2,e3⟩:=hend;have E1:=zH e1;have E2:=zH e2;have E3:=zH e3;have HZR:=zH hS.z;have z1:¬(k:Int)<(n2:Int):=by omega
   have z2:decide ((k:Int)<(n2:Int))=false:=by simp;omega
   clear hall hS HS e1 e2 e3 hm;go_wp2_with (refine wpList_store_row rfl 33 (.tmp 4) (.tmp 50) rfl (B+1) #[.slice A' n cap',.slice A3 m c3] rfl rfl 33 _ (zU HZR) qd rfl (qN _ _ _ _ _ _) ?_);refine bodyPost_ret (qc rfl _ _ (B+1) 33 #[.slice A' n cap',.slice A3 m c3] (0,0) _ rfl (zU E1) Tryz.underlying33 rfl qd) rfl ?_;rw[zU HR];exact⟨⟨_,_,rfl,zU E2⟩,zU E3⟩
theorem qpk{l:List qa}{dict p:qa}{b:qa×Nat}(h:(b.2<cnt l p)\/(cnt l p=b.2/\1<cnt l p/\qs p b.1=true))(he:qK p dict=false):qbO l dict b p=(p,cnt l p):=if_pos ⟨h,he⟩
theorem qqb{l:List qa}{dict p:qa}{b:qa×Nat}(h:¬(((b.2<cnt l p)\/(cnt l p=b.2/\1<cnt l p/\qs p b.1=true))/\qK p dict=false)):qbO l dict b p=b:=if_neg h
theorem qmm{l:List qa}{k:Nat}{t:qa}(h:l[k]?=some t):qag (l.take (k+1))=qag (l.take k)++qu t:=by
 unfold qag;rw[List.take_add_one,h,List.flatMap_append];simp
theorem qgB{t:qa}{q:Nat}(h:q<t.length-3):(qu t).take (q+1)=(qu t).take q++[qft t q]:=by
 rw[List.take_add_one,qgn h];rfl
def qjn(b:qa×Nat):Prop:=b.1.length<=4/\b.2<=12
theorem qqW{l:List qa}{dict p:qa}{b:qa×Nat}(h12:l.length<=12)(h:qjn b)(hp:p.length=4):qjn (qbO l dict b p):=by
 unfold qbO
 split
 ·have:=qo8 l p;exact⟨by simp[hp],by simp only;omega⟩
 ·exact h
def qvf:Value->Nat
 | .string b=>b.data.toList.length
 | _=>0
theorem qpv(A:Option Addr)(n cap:Nat)(l:List qa)(size:Nat)(w:World)(hl:StrsAt w w.heap.size A n l)(hb:qc8 l=false)(hsz:size<=256) :
  Calls Tryz.prog 119 #[.slice A n cap,I size] w fun e w'=>e=.returned (S (qcf l size))/\Below w.heap.size w w':=by
 obtain⟨h12,hs⟩:=qoI hb;have hn12:n<=12:=by have:=hl.1;omega
 have HS:=zH hs;have H12:=zH h12;clear hs hb h12;have hmm:∀(w:World),(Instr.makeMap 163 none).run Tryz.prog w=.ok (.map (some w.heap.size)) (w.alloc (.map #[] 0)):=fun _=>rfl;go_enter Tryz.func119,Tryz.ntmps119;go_wp2_with fail;obtain⟨B,hB⟩:∃B,B=w.heap.size:=⟨_,rfl⟩
 have M1:NatMap (w.alloc (.map #[] 0)) B 0 fun _=>0:=by rw[hB];exact NatMap.made w
 rw[<-hB];have HB:=zH hB;clear hB;go_loopw [6] (fun i wr=>∃ (k m1:Nat),k<=n/\i=.int .i64 k/\m1<=k*512/\NatMap wr B m1 (qaN (l.take k))/\Below B w wr) (fun i _=>n-(intOf i).toNat)
 case atStart =>
  refine⟨0,0,Nat.zero_le _,rfl,by omega,M1,?_⟩;rw[zU HB];exact (Below.refl _ _).alloc (Nat.le_refl _) _
 case round =>
  obtain⟨k,m1,hk,rfl,h1,hM1,hbel⟩:=hrel;have HM1:=zH hM1;have hl2:=hl;rw[<-zU HB]at hl2;have hl3:=hl2.below hbel;clear hM1 M1
  by_cases hkn:k<n
  ·obtain⟨b,off,t,rfl,hb,ht,q0⟩:=hl3.at_ hkn;have ht5:=zU HS t (List.mem_of_getElem? ht);have HT:=zH ht;clear ht;obtain⟨r,hr⟩:∃r,r=wr.heap.size:=⟨_,rfl⟩
   have hBr:B<r:=by rw[hr];exact (zU HM1).lt
   have M2:NatMap (wr.alloc (.map #[] 0)) r 0 fun _=>0:=by rw[hr];exact NatMap.made wr
   have HM2:=zH M2;have HRR:=zH hr;have q0':(wr.alloc (.map #[] 0)).cell? ⟨b,off+k,none⟩=some (S t):=(((Below.refl _ _).alloc (Nat.le_refl _) (.map #[] 0):Below wr.heap.size wr _).cell (p:=⟨b,off+k,none⟩) (by show b<wr.heap.size;omega)).trans q0;have HQ0:=zH q0;clear M2 q0 hr;go_wp2_with fail;rw[<-zU HRR];go_loopw [8] (fun i wx=>∃ (q m3 m4:Nat),q<=t.length-3/\i=.int .i64 q/\m3<=q/\m4<=k*512+q/\NatMap wx r m3 (fun p=>((qu t).take q).count p)/\NatMap wx B m4 (fC l k t q)/\Below B w wx) (fun i _=>t.length-3-(intOf i).toNat)
   case atStart =>
    refine⟨0,0,m1,Nat.zero_le _,rfl,Nat.le_refl _,by omega,zU HM2,?_,hbel.alloc (by have:=zU HRR;omega) _⟩;have e:fC l k t 0=qaN (l.take k):=by funext p;simp[fC]
    rw[e];exact (zU HM1).alloc _
   case round =>
    obtain⟨q,m3,m4,hq,rfl,h3,h4,hM3,hM4,hbel2⟩:=hrel
    have q0x:wr.cell? ⟨b,off+k,none⟩=some (S t):=((hl2.below hbel2).2 (by omega)).elim fun b' ⟨off',e,hb',hc⟩=>by
     injection e with e;injection e with e1 e2 _
     subst e1;subst e2;exact hc k t (zU HT)
    have HM3:=zH hM3;have HM4:=zH hM4;clear hM3 hM4
    by_cases hqc:q<t.length-3
    ·obtain⟨p,hp⟩:∃p,p=slice t q (q+4):=⟨_,rfl⟩
     have hp4:p.length=4:=by rw[hp];exact qgF hqc
     have e1:(q:Int)+4<=(t.length:Int):=by omega
     have e2:((q:Int)+4).toNat=q+4:=by omega
     have hsl:=hp.symm;have hmt:=qh9 hqc;have hnx:=qgB hqc;rw[show qft t q=p from hp.symm]at hmt hnx;have HMT:=zH hmt;have HNX:=zH hnx
     have hcl:((qu t).take q).count p<=q:=by
      have:=List.count_le_length (a:=p) (l:=(qu t).take q);rw[List.length_take]at this;omega
     have hfl:fC l k t q p<=13:=by
      unfold fC;have:=qmf (l.take k) p;rw[List.length_take]at this
      split <;> omega
     have hcnt:(fun p2=>if p2=p then ((qu t).take q).count p+1 else ((qu t).take q).count p2)=fun p2=>((qu t).take (q+1)).count p2:=by
      funext p2
      rw[hnx,List.count_append]
      by_cases h:p2=p
      ·subst h;simp
      ·rw[if_neg h,List.count_singleton,if_neg (by simp;exact fun e=>h e.symm)];rfl
     have HCNT:=zH hcnt;obtain⟨c,hc⟩:∃c,c=((qu t).take q).count p:=⟨_,rfl⟩
     have HCC:=zH hc;rw[<-hc]at hcl;clear hp hmt hnx hcnt hc
     by_cases hsee:c=0
     ·have q1:((c:Int) == 0)=true:=by rw[beq_iff_eq];omega
      have hin:p∉(qu t).take q:=List.count_eq_zero.1 (by rw[<-zU HCC];exact hsee);have HIN:=zH hin;clear hsee hin
      go_wp2_with (first
       | (at_lookup;refine qa8 rfl (.tmp 43) (.tmp 44) rfl r m3 _ rfl (zU HM3) p rfl (by omega) ?_;rw[<-zU HCC])
       | (at_lookup;refine qa8 rfl (.tmp 47) (.tmp 48) rfl B m4 (fC l k t q) rfl (zU HM4) p rfl (by omega) ?_)
       | (at_mapUpdate;refine qeO rfl (.tmp 47) (.tmp 48) (.tmp 50) rfl B m4 (fC l k t q) rfl (zU HM4) p rfl (by omega) (fC l k t q p+1) _ rfl (by omega) (by omega) (by omega) ?_;intro w5 hM5 hg5;have HM5:=zH hM5;have HM6:=zH ((zU HM3).kept hg5 (by simp;omega));clear hM5)
       | (at_lookup;refine qa8 rfl (.tmp 51) (.tmp 52) rfl r m3 _ rfl (zU HM6) p rfl (by omega) ?_;rw[<-zU HCC])
       | (at_mapUpdate;refine qeO rfl (.tmp 51) (.tmp 52) (.tmp 54) rfl r m3 _ rfl (zU HM6) p rfl (by omega) (c+1) _ rfl (by omega) (by omega) (by omega) ?_;intro w7 hM7 hg7;have HM7:=zH hM7;have HM8:=zH ((zU HM5).kept hg7 (by simp;omega));clear hM7))
      go_roundw
      case rel =>
       refine⟨q+1,m3+1,m4+1,by omega,by go_num,by omega,by omega,?_,?_,(hbel2.grown hg5 (by have:=(zU HM4).lt;omega) (fun j hj=>by simp at hj;omega)).grown hg7 (by have:=(zU HM5).lt;omega) (fun j hj=>by simp at hj;omega)⟩
       ·rw[<-zU HCNT,<-zU HCC];exact zU HM7
       ·have e:(fun x=>if x=p then fC l k t q p+1 else fC l k t q x)=fC l k t (q+1):=by
         funext p2
         by_cases h:p2=p
         ·subst h;rw[if_pos rfl];unfold fC;rw[if_neg (zU HIN),if_pos ((zU HMT _).2 (.inr rfl))]
         ·rw[if_neg h];unfold fC
          congr 1
          by_cases h2:p2∈(qu t).take q
          ·rw[if_pos h2,if_pos ((zU HMT p2).2 (.inl h2))]
          ·rw[if_neg h2,if_neg];intro h3
           rcases (zU HMT p2).1 h3 with h3|h3
           ·exact h2 h3
           ·exact h h3
        rw[<-e];exact zU HM8
      case measure=>simp[intOf];omega
     ·have q1:((c:Int) == 0)=false:=by rw[zB];omega
      have hin:p∈(qu t).take q:=by
       have:=zU HCC;exact List.count_pos_iff.1 (by omega)
      have HIN:=zH hin;clear hsee hin
      go_wp2_with (first
       | (at_lookup;refine qa8 rfl (.tmp 43) (.tmp 44) rfl r m3 _ rfl (zU HM3) p rfl (by omega) ?_;rw[<-zU HCC])
       | (at_lookup;refine qa8 rfl (.tmp 51) (.tmp 52) rfl r m3 _ rfl (zU HM3) p rfl (by omega) ?_;rw[<-zU HCC])
       | (at_mapUpdate;refine qeO rfl (.tmp 51) (.tmp 52) (.tmp 54) rfl r m3 _ rfl (zU HM3) p rfl (by omega) (c+1) _ rfl (by omega) (by omega) (by omega) ?_;intro w7 hM7 hg7;have HM7:=zH hM7;have HM8:=zH ((zU HM4).kept hg7 (by simp;omega));clear hM7))
      go_roundw
      case rel =>
       refine⟨q+1,m3+1,m4,by omega,by go_num,by omega,by omega,?_,?_,hbel2.grown hg7 (by have:=(zU HM4).lt;omega) (fun j hj=>by simp at hj;omega)⟩
       ·rw[<-zU HCNT,<-zU HCC];exact zU HM7
       ·have e:fC l k t (q+1)=fC l k t q:=by
         funext p2
         unfold fC
         congr 1
         by_cases h:p2∈(qu t).take q
         ·rw[if_pos h,if_pos ((zU HMT p2).2 (.inl h))]
         ·rw[if_neg h,if_neg];intro h2
          rcases (zU HMT p2).1 h2 with h2|rfl
          ·exact h h2
          ·exact h (zU HIN)
        rw[e];exact zU HM8
      case measure=>simp[intOf];omega
    ·have e1:¬(q:Int)+4<=(t.length:Int):=by omega
     go_wp2_with fail;go_roundw
     case rel =>
      have hall:(qu t).take q=qu t:=List.take_of_length_le (by rw[qgm];omega);refine⟨k+1,m4,by omega,by go_num,by omega,?_,hbel2⟩
      have e:fC l k t q=qaN (l.take (k+1)):=by
       funext p
       unfold fC;rw[hall,qnb (zU HT)]
      rw[<-e];exact zU HM4
     case measure=>simp[intOf];omega
  ·have hfin:qaN (l.take k)=qaN l:=by rw[List.take_of_length_le (by have:=hl.1;omega)]
   have hM:=zU HM1;rw[hfin]at hM;have HM:=zH hM;have HL3:=zH hl3;have hk2:decide ((k:Int)<(n:Int))=false:=by simp;omega
   obtain⟨wo,hwo⟩:∃wo:World,wo=wr:=⟨_,rfl⟩
   clear hfin hM HM1 hl2 hwo hl3;go_wp2_with fail;go_loop [10] (fun d=>∃ (f:Nat) (dict:qa),d=S dict/\qcw l size f dict=qcf l size/\dict.length+4*f=256) (fun d=>256-qvf d)
   case atStart=>exact⟨64,[],rfl,rfl,rfl⟩
   case round =>
    obtain⟨f,dict,rfl,htr,hdf⟩:=hrel;have HTR:=zH htr;clear htr
    by_cases hz:dict.length+4<=size
    ·have z1:(dict.length:Int)+4<=(size:Int):=by omega
     go_wp2_with fail;go_loop [11,12,13] (fun s c i=>∃ (j:Nat) (b:qa×Nat),j<=n/\i=.int .i64 j/\s=S b.1/\c=I b.2/\b=qep l dict (qag (l.take j))/\qjn b) (fun _ _ i=>n-(intOf i).toNat)
     case atStart=>exact⟨0,([],1),Nat.zero_le _,rfl,rfl,rfl,rfl,by simp[qjn]⟩
     case round =>
      obtain⟨j,⟨b1,b2⟩,hj,rfl,rfl,rfl,hbb,hbs⟩:=hrel;have HBB:=zH hbb;have HBS:=zH hbs;clear hbb hbs
      by_cases hjn:j<n
      ·obtain⟨bk,off,t,rfl,hbk,ht,q0⟩:=(zU HL3).at_ hjn;have ht5:=zU HS t (List.mem_of_getElem? ht);have hal:=qmm ht;have HAL:=zH hal;clear ht hal;go_wp2_with fail;go_loop [11,12,14,15,16] (fun s c i _ _=>∃ (q:Nat) (b:qa×Nat),q<=t.length-3/\i=.int .i64 q/\s=S b.1/\c=I b.2/\b=((qu t).take q).foldl (qbO l dict) (b1,b2)/\qjn b) (fun _ _ i _ _=>t.length-3-(intOf i).toNat)
       case atStart=>exact⟨0,(b1,b2),Nat.zero_le _,rfl,rfl,rfl,rfl,zU HBS⟩
       case round =>
        obtain⟨q,⟨d1,d2⟩,hq,rfl,rfl,rfl,hdd,hds⟩:=hrel;obtain⟨hd1,hd2⟩:d1.length<=4/\d2<=12:=hds;have HDD:=zH hdd;clear hdd
        by_cases hqc:q<t.length-3
        ·obtain⟨p,hp⟩:∃p,p=slice t q (q+4):=⟨_,rfl⟩
         have hp4:p.length=4:=by rw[hp];exact qgF hqc
         have e1:(q:Int)+4<=(t.length:Int):=by omega
         have e2:((q:Int)+4).toNat=q+4:=by omega
         have hsl:=hp.symm;have hnx:=qgB hqc;rw[show qft t q=p from hp.symm]at hnx;have hst:=qqW (dict:=dict) (zU H12) (b:=(d1,d2)) ⟨hd1,hd2⟩ hp4
         have hrel1:qbO l dict (d1,d2) p=((qu t).take (q+1)).foldl (qbO l dict) (b1,b2):=by
          rw[hnx,List.foldl_append,<-zU HDD];rfl
         obtain⟨c,hc⟩:∃c,c=qaN l p:=⟨_,rfl⟩
         have hcc:cnt l p=c:=by rw[hc];exact (qmg hp4).symm
         have hc12:c<=12:=by rw[<-hcc];exact Nat.le_trans (qo8 l p) (zU H12)
         have HR1:=zH hrel1;have HST:=zH hst;have HCC:=zH hcc;have HC:=zH hc;have CS:=fun (W:World)=>qpA p dict W (by omega) (by omega);clear hp hnx hst hrel1 hcc hc
         have yes:(d2<c\/(c=d2/\1<c/\qs p d1=true))->qK p dict=false->(p,c)=((qu t).take (q+1)).foldl (qbO l dict) (b1,b2)/\qjn (p,c):=fun h1 h2=>by
          have h3:=qpk (l:=l) (dict:=dict) (p:=p) (b:=(d1,d2)) (by rw[zU HCC];exact h1) h2;rw[zU HCC]at h3;exact⟨by rw[<-h3];exact zU HR1,by rw[<-h3];exact zU HST⟩
         have no:¬((d2<c\/(c=d2/\1<c/\qs p d1=true))/\qK p dict=false)->(d1,d2)=((qu t).take (q+1)).foldl (qbO l dict) (b1,b2):=fun h1=>by
          have h3:=qqb (l:=l) (dict:=dict) (p:=p) (b:=(d1,d2)) (by rw[zU HCC];exact h1);rw[<-h3];exact zU HR1
         have YES:=zH yes;have NO:=zH no;clear yes no
         by_cases hA:d2<c\/(c=d2/\1<c/\qs p d1=true)
         ·have hfacts:(decide (d2<c)=true)\/(decide (d2<c)=false/\(((c:Int) == (d2:Int))=true/\(c == d2)=true/\decide (c=d2)=true)/\decide (1<c)=true/\Op.bytesLess p d1=true):=by
           rcases hA with hA|⟨h1,h2,h3⟩
           ·exact .inl (by simpa using hA)
           ·exact .inr ⟨by simp;omega,⟨by rw[beq_iff_eq];omega,by rw[beq_iff_eq];exact h1,by simpa using h1⟩,by simpa using h2,by rw[qbf];exact h3⟩
          have HA:=zH hA;clear hA;cases hst:qK p dict with
          | true =>
           rw[hst]at CS;have CS:=zH CS;have HST2:=zH hst;clear hst
           rcases hfacts with f1|⟨f1,⟨f2,f2',f2''⟩,f3,f4⟩
           all_goals
            first|(have f6:(1:Int)<(c:Int):=by have:=of_decide_eq_true f3;omega)|skip
            first|(have f7:decide ((1:Int)<(c:Int))=true:=by have:=of_decide_eq_true f3;simp;omega)|skip
            go_wp2_with (first
             | (at_lookup;refine qa8 rfl (.tmp 84) (.tmp 85) rfl B m1 (qaN l) rfl (zU HM) p rfl (by omega) ?_;rw[<-zU HC])
             | (go_at_call 152;refine (zU CS _).mono ?_;rintro e w1 ⟨rfl,rfl⟩))
            go_round
            case rel=>exact⟨q+1,(d1,d2),by omega,by go_num,rfl,rfl,zU NO (by rw[zU HST2];simp),hd1,hd2⟩
            case measure=>simp[intOf];omega
          | false =>
           rw[hst]at CS;have CS:=zH CS;have HST2:=zH hst;clear hst
           rcases hfacts with f1|⟨f1,⟨f2,f2',f2''⟩,f3,f4⟩
           all_goals
            first|(have f6:(1:Int)<(c:Int):=by have:=of_decide_eq_true f3;omega)|skip
            first|(have f7:decide ((1:Int)<(c:Int))=true:=by have:=of_decide_eq_true f3;simp;omega)|skip
            go_wp2_with (first
             | (at_lookup;refine qa8 rfl (.tmp 84) (.tmp 85) rfl B m1 (qaN l) rfl (zU HM) p rfl (by omega) ?_;rw[<-zU HC])
             | (go_at_call 152;refine (zU CS _).mono ?_;rintro e w1 ⟨rfl,rfl⟩))
            go_round
            case rel =>
             obtain⟨y1,y2⟩:=zU YES (zU HA) (zU HST2);exact⟨q+1,(p,c),by omega,by go_num,rfl,rfl,y1,y2⟩
            case measure=>simp[intOf];omega
         ·have g1:decide (d2<c)=false:=by simp;omega
          have hfacts:(((c:Int) == (d2:Int))=false/\(c == d2)=false/\decide (c=d2)=false)\/((((c:Int) == (d2:Int))=true/\(c == d2)=true/\decide (c=d2)=true)/\decide (1<c)=false)\/((((c:Int) == (d2:Int))=true/\(c == d2)=true/\decide (c=d2)=true)/\decide (1<c)=true/\Op.bytesLess p d1=false):=by
           by_cases h1:c=d2
           ·right;have h1':((c:Int) == (d2:Int))=true/\(c == d2)=true/\decide (c=d2)=true:=⟨by rw[beq_iff_eq];omega,by rw[beq_iff_eq];exact h1,by simpa using h1⟩
            by_cases h2:1<c
            ·right;refine⟨h1',by simpa using h2,?_⟩;rw[qbf,Bool.eq_false_iff];exact fun h3=>hA (.inr ⟨h1,h2,h3⟩)
            ·exact .inl ⟨h1',by simpa using h2⟩
           ·left;exact⟨by rw[zB];omega,by rw[zB];exact h1,by simpa using h1⟩
          have HA:=zH hA;clear hA CS
          rcases hfacts with⟨f1,f1',f1''⟩|⟨⟨f1,f1',f1''⟩,f2⟩|⟨⟨f1,f1',f1''⟩,f2,f3⟩
          all_goals
           first|(have f6:decide ((1:Int)<(c:Int))=true:=by have:=of_decide_eq_true f2;simp;omega)|(have f6:decide ((1:Int)<(c:Int))=false:=by have:=of_decide_eq_false f2;simp;omega)|skip
           go_wp2_with (at_lookup;refine qa8 rfl (.tmp 84) (.tmp 85) rfl B m1 (qaN l) rfl (zU HM) p rfl (by omega) ?_;rw[<-zU HC]);go_round
           case rel=>exact⟨q+1,(d1,d2),by omega,by go_num,rfl,rfl,zU NO (fun h=>zU HA h.1),hd1,hd2⟩
           case measure=>simp[intOf];omega
        ·have e1:¬(q:Int)+4<=(t.length:Int):=by omega
         go_wp2_with fail;go_round
         case rel =>
          have hall:(qu t).take q=qu t:=List.take_of_length_le (by rw[qgm];omega);refine⟨j+1,(d1,d2),by omega,by go_num,rfl,rfl,?_,hd1,hd2⟩;rw[zU HDD,hall,zU HBB,zU HAL];unfold qep;rw[List.foldl_append]
         case measure=>simp[intOf];omega
      ·have hfin:qag (l.take j)=qag l:=by rw[List.take_of_length_le (by have:=hl.1;omega)]
       have hk3:decide ((j:Int)<(n:Int))=false:=by simp;omega
       have hbb:=zU HBB;rw[hfin]at hbb;obtain⟨g,rfl⟩:∃g,f=g+1:=⟨f-1,by omega⟩
       have htr:=zU HTR;rw[qcw,if_pos hz,<-hbb]at htr;obtain⟨hb1,hb2⟩:b1.length<=4/\b2<=12:=zU HBS
       by_cases hbe:b1=[]
       ·rw[if_pos hbe]at htr;subst hbe;have HT2:=zH htr;clear hfin hbb htr;go_wp2_with fail;go_ret;exact⟨by rw[<-zU HT2];rfl,by rw[<-zU HB];exact hbel⟩
       ·rw[if_neg hbe]at htr;have f1:b1.isEmpty=false:=by simpa using hbe
        have f2:(b1 == [])=false:=by simpa using hbe
        have HT2:=zH htr
        have hb4:b1.length=4:=by
         have hbi:=qgL l dict (qag l) (fun p hp e=>by have:=qbi hp;rw[e]at this;simp at this);rw[<-hbb]at hbi
         rcases hbi with⟨h1,_⟩|⟨h1,_⟩
         ·injection h1 with h1 _;exact absurd h1 hbe
         ·exact qbi h1
        have HB4:=zH hb4;clear hfin hbb htr hbe hb4;go_wp2_with fail;go_round
        case rel=>exact⟨g,b1++dict,rfl,zU HT2,by have:=zU HB4;rw[zL];omega⟩
        case measure=>have:=zU HB4;simp[qvf];omega
    ·have z1:¬(dict.length:Int)+4<=(size:Int):=by omega
     have hres:qcf l size=dict:=by
      rw[<-zU HTR];cases f with
      | zero=>rfl
      | succ f=>rw[qcw,if_neg hz]
     have HRES:=zH hres;clear hres;go_wp2_with fail;go_ret;exact⟨by rw[zU HRES];rfl,by rw[<-zU HB];exact hbel⟩
theorem qsU{W:World}{base e size n P:Nat}{v:Value}{xs:List Value}{c0:Array Value}(h:W.ownsRow base e size v n xs)(hP:W.heap[P]?=some (.cells c0 33 (0,0)))(hne:e≠33)(i:Nat)(u:Value):(W.setCell ⟨P,i,none⟩ u).ownsRow base e size v n xs:=by
 refine⟨h.1,?_⟩
 rcases h.2 with hn|⟨g,cap,cur,hv,hb,hg,rest⟩
 ·exact .inl hn
 ·refine .inr ⟨g,cap,cur,hv,hb,?_,rest⟩
  rw[Below.heap_setCell W ⟨P,i,none⟩ u g (fun e2=>by
   subst e2;rw[hP]at hg;injection hg with hg
   injection hg with _ hg _
   exact hne hg.symm)]
  exact hg
structure RQ(W:World)(P B b tb i o:Nat)(v1 v2 q:Value)(name t:qa):Prop where
 p0:W.cell? ⟨P,0,none⟩=some v1
 p1:W.cell? ⟨P,1,none⟩=some v2
 q1:W.cell? ⟨B,1,none⟩=some q
 n0:W.cell? ⟨b,i,none⟩=some (S name)
 t0:W.cell? ⟨tb,o,none⟩=some (S t)
section
variable {W W1 : World} {P B b tb i o : Nat} {v1 v2 q : Value} {name t : qa}
theorem RQ.below(h:RQ W P B b tb i o v1 v2 q name t)(hb:Below W.heap.size W W1):RQ W1 P B b tb i o v1 v2 q name t :=
 ⟨(hb.cell (block_lt_of_cell h.p0)).trans h.p0,(hb.cell (block_lt_of_cell h.p1)).trans h.p1,(hb.cell (block_lt_of_cell h.q1)).trans h.q1,(hb.cell (block_lt_of_cell h.n0)).trans h.n0,(hb.cell (block_lt_of_cell h.t0)).trans h.t0⟩
theorem RQ.drew(h:RQ W P B b tb i o v1 v2 q name t):RQ W.drew P B b tb i o v1 v2 q name t:=h.below (Below.refl _ _).drew
theorem RQ.alloc(h:RQ W P B b tb i o v1 v2 q name t)(ob:Obj):RQ (W.alloc ob) P B b tb i o v1 v2 q name t:=h.below ((Below.refl _ _).alloc (Nat.le_refl _) _)
theorem RQ.grown(h:RQ W P B b tb i o v1 v2 q name t){row:Option Nat}(hg:W.grownBy W1 row)(h1:some P≠row)(h2:some B≠row)(h3:some b≠row)(h4:some tb≠row):RQ W1 P B b tb i o v1 v2 q name t :=
 ⟨(World.cell?_of_block (w:=W) (hg.block P (block_lt_of_cell h.p0) h1)).trans h.p0,(World.cell?_of_block (w:=W) (hg.block P (block_lt_of_cell h.p1) h1)).trans h.p1,(World.cell?_of_block (w:=W) (hg.block B (block_lt_of_cell h.q1) h2)).trans h.q1,
  (World.cell?_of_block (w:=W) (hg.block b (block_lt_of_cell h.n0) h3)).trans h.n0,(World.cell?_of_block (w:=W) (hg.block tb (block_lt_of_cell h.t0) h4)).trans h.t0⟩
end
attribute [local go_sem] World.cell?_alloc_some in
theorem qnt(A:Option Addr)(n cap:Nat)(A2:Option Addr)(n2 cap2:Nat)(a:Arc)(size:Int)(w:World)(h:ArcIn w A n A2 n2 a)(hz:ArcSz a) :
  Calls Tryz.prog 72 #[qv A n cap A2 n2 cap2,I size] w fun e w'=>ArcRes w.heap.size (qaO a size) e w'/\Below w.heap.size w w':=by
 obtain⟨B,hB⟩:∃B,B=w.heap.size:=⟨_,rfl⟩
 obtain⟨w0,hw0⟩:∃w0,w0=(w.alloc (.cells #[.slice A n cap,.slice A2 n2 cap2] 33)).alloc (.cells #[.slice none 0 0,.slice none 0 0] 33):=⟨_,rfl⟩
 have H0:=zH (show AR A n cap A2 n2 cap2 a w w0 B by rw[hw0,hB];exact AR.new h cap cap2);have hl1:=h.s.1;have hl2:=h.f.1;have CK:∀W,AR A n cap A2 n2 cap2 a w W B->Calls Tryz.prog 67 #[qv A n cap A2 n2 cap2] W fun e w'=>e=.returned (I (qh a))/\Below W.heap.size W w':=fun W hW=>qbN A n cap A2 n2 cap2 a W hW.ab.i hz;have CW:=fun (W:World)=>(qb4 size 0 256 W).mono fun e w' ⟨h1,h2⟩=>(⟨h1,h2.symm⟩:e=Ending.returned (.bool (decide (0<=size/\size<=256)))/\w'=W)
 obtain⟨r,hr⟩:∃r,r=qaO a size:=⟨_,rfl⟩
 rw[<-hr,<-hB];have hput:r=if qh a≠0 then (qG,qh a)else if qbs (qE a) size≠0 then (qG,qbs (qE a) size)else if 4<=a.ds.length then (qG,2)else (⟨a.ds++[qax (qE a) size],a.fs.map fun f=>qy (a.ds++[qax (qE a) size]) f.name (qH a.ds f) (a.ds.length+1:Nat)⟩,0):=hr
 have HB:=zH hB;have HW0:=zH hw0;have HI:=zH h;clear hB hw0 h hr
 by_cases hck:qh a≠0
 ·rw[if_pos hck]at hput;obtain⟨c,hc⟩:∃c,c=qh a:=⟨_,rfl⟩
  rw[<-hc]at CK hput hck;have CK:=zH CK;have d1:((c:Int) != 0)=true:=by rw[bne_iff_ne];omega
  have d2:((c:Int) == 0)=false:=by rw[zB];omega
  have d3:¬(c:Int)=0:=by omega
  subst hput;clear hck hc hz CW;go_enter Tryz.func72,Tryz.ntmps72;go_upto_region 1 with fail
  rw[<-zU HW0,<-zU HB];obtain⟨q0,q1⟩:=(zU H0).ab.c;go_wp2_with fail;refine (zU CK _ (zU H0)).mono ?_;rintro e w1 ⟨rfl,hb1⟩;have H1:=zH ((zU H0).below hb1);clear hb1 q0 q1;go_wp2_with (refine wpList_store_row rfl 33 (.tmp 4) (.tmp 15) rfl (B+1) #[.slice none 0 0,.slice none 0 0] rfl rfl 33 _ (zU H1).z qd rfl qae ?_);refine bodyPost_ret (qc rfl _ _ (B+1) 33 #[.slice none 0 0,.slice none 0 0] (0,0) _ rfl ((zU H1).end_ _).1 Tryz.underlying33 rfl qd) rfl ⟨⟨_,_,rfl,?_⟩,((zU H1).end_ _).2⟩;exact OwnA.nil _ _
 have hck0:qh a=0:=Decidable.not_not.1 hck;have hra:=(qak a).1 hck0;rw[if_neg hck]at hput;rw[hck0]at CK;have CK:=zH CK;have HRA:=zH hra;have h12:=hra.nf;have h4:=hra.nd;have HZ:=zH hz
 have hte:qbs (qE a) size=if size<0\/256<size then 3 else 0:=by
  unfold qbs;rw[qiw hra,if_neg (by simp)]
 have htd:¬(size<0\/256<size)->qax (qE a) size=qcf (qE a) size.toNat:=fun hs=>by
  unfold qax;rw[qiw hra,if_neg (by simp),if_neg hs]
 have HFEW:=zH (qiw hra);rw[hte]at hput;clear hck hck0 hz hte
 by_cases hs:size<0\/256<size
 ·rw[if_pos hs,if_pos (by decide)]at hput;rw[decide_eq_false (by omega)]at CW;have CW:=zH CW;subst hput;clear hs htd hra;go_enter Tryz.func72,Tryz.ntmps72;go_upto_region 1 with fail
  rw[<-zU HW0,<-zU HB];obtain⟨q0,q1⟩:=(zU H0).ab.c;go_wp2_with fail;refine (zU CK _ (zU H0)).mono ?_;rintro e w1 ⟨rfl,hb1⟩;have H1:=zH ((zU H0).below hb1);clear hb1 q0 q1;obtain⟨q0,q1⟩:=(zU H1).ab.c;go_wp2_with fail;refine (zU CW _).mono ?_;rintro e w3 ⟨rfl,hw3⟩;rw[hw3];clear hw3;go_wp2_with (refine wpList_store_row rfl 33 (.tmp 4) (.tmp 20) rfl (B+1) #[.slice none 0 0,.slice none 0 0] rfl rfl 33 _ (zU H1).z qd rfl qae ?_);refine bodyPost_ret (qc rfl _ _ (B+1) 33 #[.slice none 0 0,.slice none 0 0] (0,0) _ rfl ((zU H1).end_ _).1 Tryz.underlying33 rfl qd) rfl ⟨⟨_,_,rfl,?_⟩,((zU H1).end_ _).2⟩;exact OwnA.nil _ _
 rw[if_neg hs,if_neg (by decide),htd hs]at hput;rw[decide_eq_true (by omega)]at CW;have CW:=zH CW;obtain⟨sz,rfl⟩:∃sz:Nat,size=(sz:Int):=⟨size.toNat,by omega⟩
 rw[Int.toNat_natCast]at hput;have hsz:sz<=256:=by omega
 have htl:(qcf (qE a) sz).length<=256:=by
  have:=qhe (qE a) (sz:Int);rw[htd hs,Int.toNat_natCast]at this;exact this
 clear hs htd
 by_cases h44:4<=a.ds.length
 ·rw[if_pos h44]at hput;have d1:(4:Int)<=(n:Int):=by omega
  subst hput;clear hra h44 htl;go_enter Tryz.func72,Tryz.ntmps72;go_upto_region 1 with fail
  rw[<-zU HW0,<-zU HB];obtain⟨q0,q1⟩:=(zU H0).ab.c;go_wp2_with fail;refine (zU CK _ (zU H0)).mono ?_;rintro e w1 ⟨rfl,hb1⟩;have H1:=zH ((zU H0).below hb1);clear hb1 q0 q1;obtain⟨q0,q1⟩:=(zU H1).ab.c;go_wp2_with fail;refine (zU CW _).mono ?_;rintro e w3 ⟨rfl,hw3⟩;rw[hw3];clear hw3;go_wp2_with (refine wpList_store_row rfl 33 (.tmp 4) (.tmp 25) rfl (B+1) #[.slice none 0 0,.slice none 0 0] rfl rfl 33 _ (zU H1).z qd rfl qae ?_);refine bodyPost_ret (qc rfl _ _ (B+1) 33 #[.slice none 0 0,.slice none 0 0] (0,0) _ rfl ((zU H1).end_ _).1 Tryz.underlying33 rfl qd) rfl ⟨⟨_,_,rfl,?_⟩,((zU H1).end_ _).2⟩;exact OwnA.nil _ _
 rw[if_neg h44]at hput;have d1:¬(4:Int)<=(n:Int):=by omega
 obtain⟨td,htd⟩:∃td,td=qcf (qE a) sz:=⟨_,rfl⟩
 rw[<-htd]at hput htl;have HTD:=zH htd;have HP:=zH hput;have CT:∀(i:Nat) (f:Fil),a.fs[i]?=some f->∀W,AR A n cap A2 n2 cap2 a w W B->Calls Tryz.prog 118 #[qv A n cap A2 n2 cap2,I i] W fun e w'=>e=.returned (S (qH a.ds f))/\Below W.heap.size W w':=fun i f hf W hW=>qkT A n cap A2 n2 cap2 a i f W hW.ab.i hra ((zU HZ).fs f (List.mem_of_getElem? hf)) hf;have CT:=zH CT;clear hra h44 hput htd;go_enter Tryz.func72,Tryz.ntmps72;go_upto_region 1 with fail
 rw[<-zU HW0,<-zU HB];obtain⟨q0,q1⟩:=(zU H0).ab.c;go_wp2_with fail;refine (zU CK _ (zU H0)).mono ?_;rintro e w1 ⟨rfl,hb1⟩;have H1:=zH ((zU H0).below hb1);clear hb1 q0 q1;obtain⟨q0,q1⟩:=(zU H1).ab.c;go_wp2_with fail;refine (zU CW _).mono ?_;rintro e w3 ⟨rfl,hw3⟩;rw[hw3];clear hw3;go_wp2_with fail;go_loopw [7,8] (fun lv iv wr=>∃ (k:Nat) (A1:Option Addr) (c1:Nat),k<=n2/\iv=.int .i64 k/\lv=.slice A1 k c1/\wr.ownsRow (B+2) 9 1 (.slice A1 k c1) k (((a.fs.take k).map (qH a.ds)).map qaE)/\AR A n cap A2 n2 cap2 a w wr B) (fun _ iv _=>n2-(intOf iv).toNat)
 case atStart=>exact⟨0,none,0,Nat.zero_le _,rfl,rfl,World.ownsRow_nil _ _ _ _,zU H1⟩
 case round =>
  clear q0 q1 d1;obtain⟨k,A1,c1,hk,rfl,rfl,hown,hAR⟩:=hrel;have HOWN:=zH hown;have HAR:=zH hAR;obtain⟨q0,q1⟩:=hAR.ab.c
  by_cases hkn:k<n2
  ·obtain⟨f,hf⟩:∃f,a.fs[k]?=some f:=⟨a.fs[k],zG (by omega)⟩
   have htt:=qkU hf;have HTT:=zH htt;have C1:=zH (zU CT k f hf);obtain⟨t,ht⟩:∃t,t=qH a.ds f:=⟨_,rfl⟩
   rw[<-ht]at C1 HTT;have z1:(k:Int)<(n2:Int):=by omega
   clear hown hAR hf htt ht;go_wp2_with fail;refine (zU C1 _ (zU HAR)).mono ?_;rintro e w3 ⟨rfl,hb3⟩;have H3:=zH ((zU HAR).below hb3);have HO3:=zH (qo (zU HOWN) hb3);have hB3:B+2<=w3.heap.size:=(zU H3).lt;clear hb3 q0 q1;go_wp2_with (at_builtin;refine qcv rfl (.tmp 33) (.tmp 37) rfl (B+2) _ k _ rfl (zU HO3) t w3.heap.size rfl rfl (by omega) hB3 ?_;intro A' cap' w5 hown5 hb5 hg5;have HOWN5:=zH hown5;have HG5:=zH hg5;clear hown5 hb5 hg5);go_roundw
   case rel =>
    refine⟨k+1,A',cap',by omega,by go_num,rfl,by rw[zU HTT];exact zU HOWN5,AR.grownO (zU HI) (zU HB) ((zU H3).below ((Below.refl _ _).alloc (Nat.le_refl _) _)) (zU HG5) (fun j hj=>?_)⟩;have:=(zU HO3).lt j hj;omega
   case measure=>simp[intOf];omega
  ·have hall:(a.fs.take k).map (qH a.ds)=qE a:=by rw[List.take_of_length_le (by omega)];rfl
   rw[hall]at HOWN hown;have hk3:¬(k:Int)<(n2:Int):=by omega
   have hk4:decide ((k:Int)<(n2:Int))=false:=by simp;omega
   have CTR:∀W,Below wr.heap.size wr W->Calls Tryz.prog 119 #[.slice A1 k c1,I sz] W fun e w'=>e=.returned (S td)/\Below W.heap.size W w':=fun W hW=>by
    obtain⟨A9,c9,he9,hat9,hl9⟩:=qat (qo hown hW);injection he9 with e9a _ e9b
    subst e9a;subst e9b;rw[zU HTD];exact qpv A1 k c1 (qE a) sz W hat9 (zU HFEW) hsz
   have CTR:=zH CTR;have HST:=zH hAR.ab.i.s;obtain⟨E,hE⟩:∃E,E=wr.heap.size:=⟨_,rfl⟩
   have hBE:B+1<E:=by rw[hE];exact hAR.lt
   have q2:(wr.alloc (.cells #[] 9)).cell? ⟨B,0,none⟩=some (.slice A n cap):=(hAR.below ((Below.refl _ _).alloc (Nat.le_refl _) _)).ab.c.1;have HE:=zH hE;clear hall hown hAR hE;go_wp2_with (at_builtin;refine qdw rfl (.tmp 39) (.tmp 41) rfl A n cap a.ds (zU HST) (by omega) rfl rfl ?_;intro A' cap' w3 hown3 hb3;have HOWN3:=zH hown3;have HB3:=zH hb3;clear hown3 hb3);refine (zU CTR _ (zU HB3)).mono ?_;rintro e w4 ⟨rfl,hb4⟩;have HB4:=zH ((zU HB3).trans (hb4.mono (zU HB3).size));have HOD:=zH (show w4.ownsRow E 9 1 (.slice A' n cap') n (a.ds.map qaE)by rw[zU HE];exact qo (zU HOWN3) hb4);have hE4:E<=w4.heap.size:=by rw[zU HE];exact (zU HB4).size
   clear hb4 q0 q1 q2 HB3 HOWN3
   go_upto_region 14 with (first
    | (at_builtin;refine qcv rfl (.tmp 42) (.tmp 46) rfl E _ n _ rfl (zU HOD) td w4.heap.size rfl rfl (by omega) hE4 ?_;intro A8 cap8 w8 hown8 hb8 hg8;have HOWN8:=zH hown8;have HB8:=zH hb8;clear hown8 hb8 hg8)
    | (refine wpList_store_row rfl 33 (.tmp 9) (.tmp 48) rfl w8.heap.size #[.slice A8 (n+1) cap8,.slice none 0 0] rfl rfl 33 _ (heap_alloc_new _ _) qd rfl (qN _ _ _ _ _ _) ?_))
   obtain⟨w9,hw9⟩:∃w9,w9=(w8.alloc (.cells #[.slice none 0 0,.slice none 0 0] 33)).setRow w8.heap.size #[.slice A8 (n+1) cap8,.slice none 0 0]:=⟨_,rfl⟩
   obtain⟨P,hP⟩:∃P,P=w8.heap.size:=⟨_,rfl⟩
   have hb9:Below w8.heap.size w8 w9:=by rw[hw9];exact below_setRow ((Below.refl _ _).alloc (Nat.le_refl _) _) (Nat.le_refl _) _
   have hba:Below wr.heap.size wr w9:=by
    have h1:=zU HB8;rw[zU HE]at h1;have h2:=(zU HB4).trans h1;exact h2.trans (hb9.mono h2.size)
   have S9:=zH (show CompS w w9 B E P #[.slice A n cap,.slice A2 n2 cap2] (.slice A8 (n+1) cap8) (.slice none 0 0) ⟨a.ds++[td],[]⟩by
    have h5:=(zU HAR).below hba;refine⟨h5.ab.o,h5.z,by rw[hw9,hP];exact setRow_heap _ _ _ _ _ _ (heap_alloc_new _ _),⟨?_,World.ownsRow_nil _ _ _ _⟩,hBE,by rw[hP];exact Nat.le_trans hE4 (zU HB8).size,h5.ab.bel⟩;show w9.ownsRow E 9 1 (.slice A8 (n+1) cap8) (a.ds++[td]).length _;rw[show (a.ds++[td]).length=n+1 from by simp;omega];exact qo (zU HOWN8) hb9)
   have HT9:=zH (qo (zU HOWN) hba);rw[<-hw9,<-hP];clear hw9 hP hb9 hba HB8 HOWN8 HB4 HOD HOWN HAR;go_wp2_with fail;go_loopw [10] (fun iv wr=>∃ (j:Nat) (A3:Option Addr) (c3:Nat),j<=n2/\iv=.int .i64 j/\CompS w wr B E P #[.slice A n cap,.slice A2 n2 cap2] (.slice A8 (n+1) cap8) (.slice A3 j c3) ⟨a.ds++[td],(a.fs.take j).map (fun f=>qy (a.ds++[td]) f.name (qH a.ds f) ((a.ds.length+1:Nat):Int))⟩/\wr.ownsRow (B+2) 9 1 (.slice A1 k c1) k ((qE a).map qaE)) (fun iv _=>n2-(intOf iv).toNat)
   case atStart=>exact⟨0,none,0,Nat.zero_le _,rfl,by simpa using zU S9,zU HT9⟩
   case round =>
    have hkk:n2<=k:=by omega
    clear hk hkn hk3 hk4;obtain⟨j,A3,c3,hj,rfl,hS,hT⟩:=hrel;have HSX:=zH hS;have HTX:=zH hT;obtain⟨q0,q1,_,_⟩:=qk hS.b;obtain⟨p0,p1,p2,p3⟩:=hS.cells
    by_cases hjn:j<n2
    ·have hin:=(zU HI).up (by rw[<-zU HB];exact hS.bel);obtain⟨b,off,f,rfl,hb,hf,x0,x1,x2,x3,x4⟩:=hin.f.at_ (k:=j) hjn;obtain⟨l,hl⟩:∃l,l=(a.fs.take j).map (fun f=>qy (a.ds++[td]) f.name (qH a.ds f) ((a.ds.length+1:Nat):Int)):=⟨_,rfl⟩
     obtain⟨F,hF⟩:∃F,F=qy (a.ds++[td]) f.name (qH a.ds f) ((a.ds.length+1:Nat):Int):=⟨_,rfl⟩
     have hnext:(a.fs.take (j+1)).map (fun f=>qy (a.ds++[td]) f.name (qH a.ds f) ((a.ds.length+1:Nat):Int))=l++[F]:=by
      rw[List.take_add_one,hf,List.map_append,hl,hF];rfl
     have HNEXT:=zH hnext;have hll:l.length=j:=by rw[hl];simp;omega
     rw[<-hl]at hS HSX
     have hof:wr.ownsRow E 89 5 (.slice A3 j c3) j (qb l):=by
      have:=hS.o.f;rw[show (⟨a.ds++[td],l⟩:Arc).fs.length=j from hll]at this;exact this
     have HOF:=zH hof;have HML:=zH hll;obtain⟨A9,c9,he9,hat9,hl9⟩:=qat hT;injection he9 with e9a _ e9b
     subst e9a;subst e9b;obtain⟨tb,tof,t,rfl,htb,htx,ht0⟩:=hat9.at_ (k:=j) (by omega)
     have htf:t=qH a.ds f:=by
      have:(qE a)[j]?=some (qH a.ds f):=by unfold qE;rw[List.getElem?_map,hf];rfl
      rw[this]at htx;injection htx with htx;exact htx.symm
     have htl5:t.length<=512:=by rw[htf];exact qeC
     have harc:ArcIn wr A8 (n+1) A3 j ⟨a.ds++[td],l⟩:=by
      obtain⟨Aa,ca,ea,ha,_⟩:=qat hS.o.s;obtain⟨Ab,cb,eb,hb,_⟩:=qbg hof;injection ea with ea1 ea2 _
      injection eb with eb1 _ _
      subst ea1;subst eb1;rw[<-ea2]at ha;exact⟨ha,hb⟩
     have hdo:qL (a.ds++[td]) ((a.ds.length+1:Nat):Int)=some td:=by
      have:=qhM (ds:=a.ds++[td]) (j:=a.ds.length) (t:=td) (by simp);rw[show ((a.ds.length+1:Nat):Int)=(a.ds.length:Int)+1 from by omega];exact this
     have KP:∀W,Below wr.heap.size wr W->Calls Tryz.prog 116 #[.agg #[.slice A8 (n+1) cap8,.slice A3 j c3],S f.name,S t,I ((n:Int)+1)] W fun e w'=>e=.returned (qfn F)/\Below W.heap.size W w':=fun W hW=>by
      have:=qjJ A8 (n+1) cap8 A3 j c3 ⟨a.ds++[td],l⟩ f.name t ((a.ds.length+1:Nat):Int) td W (harc.up hW) (by omega) hdo htl htl5;rw[show (n:Int)+1=((a.ds.length+1:Nat):Int)from by omega,hF,<-htf];exact this
     have KP:=zH KP;have hEs:E<=wr.heap.size:=by have:=hS.lt;have:=hS.ep;omega
     have z1:(j:Int)<(n2:Int):=by omega
     have z2:(j:Int)<(k:Int):=by omega
     clear harc hof hl hll hf hin hat9 hl9 htx htf hF hS hT hnext hdo
     have hbB:b<B:=by
      obtain⟨b5,off5,_,e5,hb5,_⟩:=(zU HI).f.at_ (k:=j) hjn;injection e5 with e5
      injection e5 with e5 _ _
      rw[e5,zU HB];exact hb5
     have hbP:P≠b:=by have:=(zU HSX).ep;omega
     have hrq:RQ wr P B b tb (off+j*5) (tof+j) (.slice A8 (n+1) cap8) (.slice A3 j c3) (.slice (some ⟨b,off,none⟩) n2 cap2) f.name t:=⟨p0,p1,q1,x0,ht0⟩
     have HRQ:=zH hrq;have R:=zH (show (∀W:World,RQ W P B b tb (off+j*5) (tof+j) (.slice A8 (n+1) cap8) (.slice A3 j c3) (.slice (some ⟨b,off,none⟩) n2 cap2) f.name t->W.cell? ⟨P,0,none⟩=some (.slice A8 (n+1) cap8))/\(∀W:World,RQ W P B b tb (off+j*5) (tof+j) (.slice A8 (n+1) cap8) (.slice A3 j c3) (.slice (some ⟨b,off,none⟩) n2 cap2) f.name t->W.cell? ⟨P,1,none⟩=some (.slice A3 j c3))/\(∀W:World,RQ W P B b tb (off+j*5) (tof+j) (.slice A8 (n+1) cap8) (.slice A3 j c3) (.slice (some ⟨b,off,none⟩) n2 cap2) f.name t->W.cell? ⟨B,1,none⟩=some (.slice (some ⟨b,off,none⟩) n2 cap2))/\(∀W:World,RQ W P B b tb (off+j*5) (tof+j) (.slice A8 (n+1) cap8) (.slice A3 j c3) (.slice (some ⟨b,off,none⟩) n2 cap2) f.name t->W.cell? ⟨b,off+j*5,none⟩=some (S f.name))/\(∀W:World,RQ W P B b tb (off+j*5) (tof+j) (.slice A8 (n+1) cap8) (.slice A3 j c3) (.slice (some ⟨b,off,none⟩) n2 cap2) f.name t->W.cell? ⟨tb,tof+j,none⟩=some (S t))from ⟨fun W h=>h.p0,fun W h=>h.p1,fun W h=>h.q1,fun W h=>h.n0,fun W h=>h.t0⟩);have hown3:∀(W:World) (c:Nat),W.ownsRow E 89 5 (.slice A3 j c) j (qb l)->∀q,q<E->some q≠(Value.slice A3 j c).ownBlock:=fun _ _ ho q hq e=>by have:=(ho.lt q e.symm).1;omega
     have hPE:E<=P:=(zU HSX).ep
     have htP:tb≠P:=by
      have h1:=(zU HSX).p;intro e;subst e
      rcases (zU HTX).2 with⟨hv,_⟩|⟨g,cp,cur,hv,_,hg,_⟩
      ·cases hv
      ·injection hv with hv _ _;injection hv with hv;injection hv with hv _ _;subst hv
       rw[h1]at hg;injection hg with hg;injection hg with _ hg _;exact absurd hg (by decide)
     have HOWN3:=zH hown3;clear hrq hown3;obtain⟨r1,r1',r2,r3,r4⟩:=zU R;go_wp2_with fail;clear q0 q1 x0 x1 x2 x3 x4 ht0 p0 p1;refine AnyK.begin (fun W=>RQ W P B b tb (off+j*5) (tof+j) (.slice A8 (n+1) cap8) (.slice A3 j c3) (.slice (some ⟨b,off,none⟩) n2 cap2) f.name t) 20 21 (by kernel_rfl) rfl ?_;have hsd:=(zU HRQ).drew;refine AnyK.t 0 10 ?_ hsd ?_ ?_
     rotate_left
     ·intro W hSw
      try dsimp only at hSw
      go_simp
      try with_reducible rfl
     refine AnyK.t 1 10 ?_ hsd ?_ ?_
     rotate_left
     ·intro W hSw
      try dsimp only at hSw
      go_simp
      try with_reducible rfl
     refine AnyK.t 2 10 ?_ hsd ?_ ?_
     rotate_left
     ·intro W hSw
      try dsimp only at hSw
      go_simp
      try with_reducible rfl
     refine AnyK.t 3 10 ?_ hsd ?_ ?_
     rotate_left
     ·intro W hSw
      try dsimp only at hSw
      go_simp
      try with_reducible rfl
     refine AnyK.t 4 10 ?_ hsd ?_ ?_
     rotate_left
     ·intro W hSw
      try dsimp only at hSw
      go_simp
      try with_reducible rfl
     refine AnyK.t 5 10 ?_ hsd ?_ ?_
     rotate_left
     ·intro W hSw
      try dsimp only at hSw
      go_simp
      try with_reducible rfl
     refine AnyK.t 6 10 ?_ hsd ?_ ?_
     rotate_left
     ·intro W hSw
      try dsimp only at hSw
      go_simp
      try with_reducible rfl
     refine AnyK.t 7 10 ?_ hsd ?_ ?_
     rotate_left
     ·intro W hSw
      try dsimp only at hSw
      go_simp
      try with_reducible rfl
     refine AnyK.t 8 10 ?_ hsd ?_ ?_
     rotate_left
     ·intro W hSw
      try dsimp only at hSw
      go_simp
      try with_reducible rfl
     refine AnyK.t 9 10 ?_ hsd ?_ ?_
     rotate_left
     ·intro W hSw
      try dsimp only at hSw
      go_simp
      try with_reducible rfl
     refine AnyK.t 10 10 ?_ hsd ?_ ?_
     rotate_left
     ·intro W hSw
      try dsimp only at hSw
      go_simp
      try with_reducible rfl
     refine AnyK.t 11 10 ?_ hsd ?_ ?_
     rotate_left
     ·intro W hSw
      try dsimp only at hSw
      go_simp
      try with_reducible rfl
     refine AnyK.t 12 10 ?_ hsd ?_ ?_
     rotate_left
     ·intro W hSw
      try dsimp only at hSw
      go_simp
      try with_reducible rfl
     refine AnyK.t 13 10 ?_ hsd ?_ ?_
     rotate_left
     ·intro W hSw
      try dsimp only at hSw
      go_simp
      try with_reducible rfl
     refine AnyK.t 14 10 ?_ hsd ?_ ?_
     rotate_left
     ·intro W hSw
      try dsimp only at hSw
      go_simp
      try with_reducible rfl
     refine AnyK.t 15 10 ?_ hsd ?_ ?_
     rotate_left
     ·intro W hSw
      try dsimp only at hSw
      go_simp
      try with_reducible rfl
     refine AnyK.one 16 rfl (by kernel_rfl) (fun K hK=>?_);refine qfU rfl 116 58 64 68 71 _ rfl (.agg #[.slice A8 (n+1) cap8,.slice A3 j c3]) (S f.name) (S t) (I ((n:Int)+1)) rfl rfl rfl rfl qd2 ((zU KP _ (Below.refl _ _).drew).mono ?_);rintro e w4 ⟨rfl,hb4⟩;refine⟨_,rfl,?_⟩;have hbw4:Below wr.heap.size wr w4:=(Below.refl _ _).drew.trans hb4;have hs4:=(zU HSX).below hbw4;have HS4:=zH hs4;have HOF4:=zH (qo (zU HOF) hbw4);have HT4:=zH (qo (zU HTX) hbw4);have hrq4:=(zU HRQ).below hbw4;have HRQ4:=zH hrq4;have HZ4:=zH hbw4.size;clear hbw4 hs4 hb4;refine AnyK.o hK (fun _=>hrq4) ?_;clear hK K hsd;refine AnyK.one 17 rfl (by kernel_rfl) (fun K hK=>?_);go_simp;refine AnyK.o hK (fun _=>hrq4.alloc _) ?_;clear hK K;refine AnyK.one 18 rfl (by kernel_rfl) (fun K hK=>?_);refine qbb rfl (.tmp 57) (.tmp 73) rfl E _ j l rfl ((zU HOF4).alloc _) F w4.heap.size rfl (heap_alloc_new _ _) (by omega) (by have h9:=zU HZ4;simp;omega) ?_;intro A7 c7 w7 hown7 hg7;have hpush:=CompS.pushF (v2':=.slice A7 (j+1) c7) (f:=F) ((zU HS4).below ((Below.refl _ _).alloc (Nat.le_refl _) _)) hg7 (by have h9:=zU HML;show w7.ownsRow E 89 5 _ (l.length+1) _;rw[h9];exact hown7)
     have hrq7:=RQ.grown ((zU HRQ4).alloc _) hg7 (CompS.ownP2 (zU HS4)) (zU HOWN3 _ _ (zU HOF4) B (by omega)) (zU HOWN3 _ _ (zU HOF4) b (by omega)) (by
      rcases qcx (zU HT4) (zU HOF4) (by decide)with h0|h0
      ·simp[Value.ownBlock]at h0
      ·exact h0)
     have HPUSH:=zH hpush;have HG7:=zH hg7;obtain⟨u0,u1,u2,u3⟩:=qk hpush.2.1;clear hown7 hg7 hpush;refine AnyK.o hK (fun _=>hrq7) ?_;clear hK K hrq4;have hsd7:=hrq7;refine AnyK.t 19 10 ?_ hsd7 ?_ ?_
     rotate_left
     ·intro W hSw
      try dsimp only at hSw
      go_simp
      try with_reducible rfl
     refine AnyK.one 20 rfl (by kernel_rfl) (fun K hK=>?_);go_simp;refine AnyK.o hK (fun h=>absurd h (by decide)) ?_;clear hK K hsd7 hrq7;refine AnyK.done (by kernel_rfl) ?_
     all_goals
      go_wp2_with fail;go_roundw
      case rel =>
       refine⟨j+1,A7,c7,by omega,by go_num,by rw[zU HNEXT];exact (zU HPUSH).1,?_⟩;exact qsU (((zU HT4).alloc _).kept (zU HG7) (qcx (zU HT4) (zU HOF4) (by decide))) (zU HPUSH).2.1 (by decide) _ _
      case measure=>simp[intOf];omega
    ·have hall:(a.fs.take j).map (fun f=>qy (a.ds++[td]) f.name (qH a.ds f) ((a.ds.length+1:Nat):Int))=a.fs.map (fun f=>qy (a.ds++[td]) f.name (qH a.ds f) ((a.ds.length+1:Nat):Int)):=by
      rw[List.take_of_length_le (by omega)]
     rw[hall]at hS;obtain⟨e1,e2,e3⟩:=qdm hS.z hS.be hS.o hS.bel;have E1:=zH e1;have E2:=zH e2;have E3:=zH e3;have HZR:=zH hS.z;have z1:¬(j:Int)<(n2:Int):=by omega
     have z2:decide ((j:Int)<(n2:Int))=false:=by simp;omega
     clear hall hS hT e1 e2 e3;go_wp2_with (refine wpList_store_row rfl 33 (.tmp 4) (.tmp 76) rfl (B+1) #[.slice A8 (n+1) cap8,.slice A3 j c3] rfl rfl 33 _ (zU HZR) qd rfl (qN _ _ _ _ _ _) ?_);refine bodyPost_ret (qc rfl _ _ (B+1) 33 #[.slice A8 (n+1) cap8,.slice A3 j c3] (0,0) _ rfl (zU E1) Tryz.underlying33 rfl qd) rfl ?_;rw[zU HP];exact⟨⟨_,_,rfl,zU E2⟩,zU E3⟩
theorem qdW{w:World}{ops:Array Oper}{o:Oper}{a:Act}{K:Act->World->Prop}{Q:Exit->Act->World->Prop}{E:Prop}(hgd:o.guard=none)(f:Nat)(xs:Array Operand)(ts:Array TypeId)(t:Tmp)
  (ho:o.op=.call { callee:=.value (.tmp t),args:=xs,argTypes:=ts }) (hf:a.tmps[t]?.getD undef=.func (.func f) #[] #[]) (vs:Array Value) (hv:xs.map a.eval=vs)
  (hcall:∀vals w,(callFunc f vals).run Tryz.prog w=.ok (.enter f vals) w) (h:Calls Tryz.prog f vs w fun e w'=>(∃v,e=.returned v/\K (a.put o.dst v) w')\/(∃c,e=.panicked c/\Q (.panic c) a w')) :
  if Region.wanted o (yielded ops a.tmps)=true then Oper.wp Tryz.prog o a w K Q else E:=by
 have hw:Region.wanted o (yielded ops a.tmps)=true:=by simp[Region.wanted,hgd]
 rw[if_pos hw]
 have hm:=h.mono (R':=fun e w'=>match e,w' with
  | .returned v,w''=>K (a.put o.dst v) w''
  | .panicked chain,w''=>Q (.panic chain) a w''
  | .outgrown,_=>LetsOut Q) (fun e w' hh=>by
   rcases hh with⟨v,he,hk⟩|⟨c,he,hk⟩
   ·subst he;exact hk
   ·subst he;exact hk)
 unfold Oper.wp execOp;simp only[ho,resolve,invoke,go_sem];simp[go_sem,hf,hv];rw[hcall];exact hm
theorem qaa{w:World}{ops:Array Oper}{o:Oper}{a:Act}{K:Act->World->Prop}{Q:Exit->Act->World->Prop}{E:Prop}(hgd:o.guard=none)(x y:Operand)(ho:o.op=.store 33 x y)
  (g:Nat) (A:Option Addr) (n cap:Nat) (A2:Option Addr) (n2 cap2:Nat) (hx:a.eval x=.pointer (some ⟨g,0,none⟩)) (hy:a.eval y=qv A n cap A2 n2 cap2)
  (v1 v2:Value) (hg:w.heap[g]?=some (.cells #[v1,v2] 33 (0,0))) (h:K (a.put o.dst undef) (w.setRow g #[.slice A n cap,.slice A2 n2 cap2])) :
  if Region.wanted o (yielded ops a.tmps)=true then Oper.wp Tryz.prog o a w K Q else E:=by
 have hw:Region.wanted o (yielded ops a.tmps)=true:=by simp[Region.wanted,hgd]
 rw[if_pos hw];exact wp_store_row _ x y ho g #[.slice A n cap,.slice A2 n2 cap2] hx hy 33 #[v1,v2] hg qd rfl (qN _ _ _ _ _ _) h
theorem qfv(args:Array Value)(w:World):(callFunc 69 args).run Tryz.prog w=.ok (.enter 69 args) w :=
 qbn Tryz.func69 (by kernel_rfl) (by kernel_rfl) args w
theorem qox(args:Array Value)(w:World):(callFunc 70 args).run Tryz.prog w=.ok (.enter 70 args) w :=
 qbn Tryz.func70 (by kernel_rfl) (by kernel_rfl) args w
theorem qkd(args:Array Value)(w:World):(callFunc 72 args).run Tryz.prog w=.ok (.enter 72 args) w :=
 qbn Tryz.func72 (by kernel_rfl) (by kernel_rfl) args w
theorem ql0(args:Array Value)(w:World):(callFunc 74 args).run Tryz.prog w=.ok (.enter 74 args) w :=
 qbn Tryz.func74 (by kernel_rfl) (by kernel_rfl) args w
def qwq(base:Nat)(r:Arc×Nat)(e:Ending)(w':World):Prop:=∃C m k C2 m2 k2,e=.returned (.tuple #[qv C m k C2 m2 k2,I r.2])/\(r.2=0->OwnA w' base (.slice C m k) (.slice C2 m2 k2) r.1)
section
variable {w W W' : World} {B : Nat} {A A2 : Option Addr} {n cap n2 cap2 : Nat} {a : Arc}
theorem AR.drew(h:AR A n cap A2 n2 cap2 a w W B):AR A n cap A2 n2 cap2 a w W.drew B:=h.drewN 1
theorem AR.kept(h:AR A n cap A2 n2 cap2 a w W B)(c:Array Value):(W.setRow (B+1) c).cell? ⟨B,0,none⟩=some (.slice A n cap)/\(W.setRow (B+1) c).cell? ⟨B,1,none⟩=some (.slice A2 n2 cap2):=by
 have h1:=(setRow_other W (B+1) B c (by omega)).trans h.ab.o;exact⟨(qk h1).1,(qk h1).2.1⟩
end
theorem qpb(A:Option Addr)(n cap:Nat)(A2:Option Addr)(n2 cap2:Nat)(a:Arc)(op rest:qa)(w:World)(h:ArcIn w A n A2 n2 a)(hra:RightA a)(hrest:rest.length<=16384) :
  Calls Tryz.prog 44 #[qv A n cap A2 n2 cap2,S op,S rest] w fun e w'=>qwq w.heap.size (qa7 a op rest) e w'/\Below w.heap.size w w':=by
 obtain⟨B,hB⟩:∃B,B=w.heap.size:=⟨_,rfl⟩
 obtain⟨w0,hw0⟩:∃w0,w0=(w.alloc (.cells #[.slice A n cap,.slice A2 n2 cap2] 33)).alloc (.cells #[.slice none 0 0,.slice none 0 0] 33):=⟨_,rfl⟩
 have H0:=zH (show AR A n cap A2 n2 cap2 a w w0 B by rw[hw0,hB];exact AR.new h cap cap2);have HI:=zH h;have HZ:=zH (qgj hra);have HRA:=zH hra;have HB:=zH hB;have HW0:=zH hw0;rw[<-hB];obtain⟨r,hr⟩:∃r,r=qa7 a op rest:=⟨_,rfl⟩
 rw[<-hr];unfold qa7 at hr;have hwl:=qcE rest;have CW:=qeP rest w0 hrest;obtain⟨nm,hnm⟩:∃x,x=(qi rest).1:=⟨_,rfl⟩
 obtain⟨r2,hr2⟩:∃x,x=(qi rest).2.1:=⟨_,rfl⟩
 obtain⟨q1,hq1⟩:∃x,x=(qi rest).2.2:=⟨_,rfl⟩
 rw[<-hnm,<-hr2,<-hq1]at CW;have CW:=zH CW;rw[<-hnm,<-hr2]at hwl;rw[<-hnm,<-hr2,<-hq1]at hr;have HR:=zH hr;have HNM:=zH hnm;have HQ1:=zH hq1;have HWL:=zH (show nm.length<=16384/\r2.length<=16384/\rest.length<=16384 by omega);clear hB hw0 h hra hr hwl hnm hr2 hq1 hrest;go_enter Tryz.func44,Tryz.ntmps44;go_upto_region 1 with fail
 rw[<-zU HW0,<-zU HB];go_wp2_with fail;refine (zU CW).mono ?_;rintro e w1 ⟨rfl,hb1⟩;have H1:=zH ((zU H0).below hb1);clear hb1
 by_cases h1:op=qfg
 ·have d1:(op == qfg)=true:=by simpa using h1
  unfold qfg at d1;have hr:=zU HR;rw[if_pos h1]at hr;have CX:=qeP r2 w1 (zU HWL).2.1;obtain⟨dc,hdc⟩:∃x,x=(qi r2).1:=⟨_,rfl⟩
  obtain⟨tx,htx⟩:∃x,x=(qi r2).2.1:=⟨_,rfl⟩
  obtain⟨q2,hq2⟩:∃x,x=(qi r2).2.2:=⟨_,rfl⟩
  rw[<-hdc,<-htx,<-hq2]at CX;have CX:=zH CX;have hl3:=qcE r2;rw[<-hdc,<-htx]at hl3;rw[<-hdc,<-htx,<-hq2]at hr;have HLL:=zH (show dc.length<=16384/\tx.length<=16384 by have:=(zU HWL).2.1;omega);have HR1:=zH hr;clear h1 hr hl3 hdc htx hq2;go_wp2_with fail;refine (zU CX).mono ?_;rintro e w2 ⟨rfl,hb2⟩;have H2:=zH ((zU H1).below hb2);obtain⟨y0,y1⟩:=(zU H2).ab.c;clear hb2
  by_cases hq:q1=false\/q2=false
  ·have HRR:=zH (show r=(a,1)by rw[zU HR1,if_pos (hq.elim .inl fun h=>.inr (.inl h))]);cases q1 <;> cases q2
   case true.true=>exact absurd hq (by decide)
   all_goals
    go_wp2_with (refine wpList_store_row rfl 33 (.tmp 6) (.tmp 40) rfl (B+1) #[.slice A n cap,.slice A2 n2 cap2] rfl rfl 33 _ (zU H2).z qd rfl (qN _ _ _ _ _ _) ?_);refine bodyPost_ret (qc rfl _ _ (B+1) 33 #[.slice A n cap,.slice A2 n2 cap2] (0,0) _ rfl ((zU H2).end_ _).1 Tryz.underlying33 rfl qd) rfl ⟨?_,((zU H2).end_ _).2⟩;rw[zU HRR];exact⟨_,_,_,_,_,_,rfl,fun h=>absurd h Nat.one_ne_zero⟩
  obtain⟨rfl,rfl⟩:q1=true/\q2=true:=by cases q1 <;> cases q2 <;> simp_all
  have CN:=qgq dc w2 (zU HLL).1;have CN2:=fun (W:World)=>qgq dc W (zU HLL).1;obtain⟨N,hN⟩:∃N,N=qz dc:=⟨_,rfl⟩
  rw[<-hN]at CN;rw[<-hN]at CN2
  have hNb : -1<=N/\N<=1000000:=by
   rw[hN]
   by_cases hn:0<=qz dc
   ·have:=(qgp hn).2.2.2;omega
   ·rw[ql8 hn];decide
  have hr:=zU HR1;rw[<-hN]at hr;have CN:=zH CN;have CN2:=zH CN2;clear hN hq
  by_cases hneg:N<0
  ·have HRR:=zH (show r=(a,1)by rw[hr,if_pos (.inr (.inr hneg))]);clear hr;have g1:decide (N<0)=true:=by simpa using hneg
   clear hneg;go_wp2_with fail;refine (zU CN).mono ?_;rintro e w3 ⟨rfl,hb3⟩;have H3:=zH ((zU H2).below hb3);clear y0 y1 hb3;obtain⟨y0,y1⟩:=(zU H3).ab.c;go_wp2_with (refine wpList_store_row rfl 33 (.tmp 6) (.tmp 40) rfl (B+1) #[.slice A n cap,.slice A2 n2 cap2] rfl rfl 33 _ (zU H3).z qd rfl (qN _ _ _ _ _ _) ?_);refine bodyPost_ret (qc rfl _ _ (B+1) 33 #[.slice A n cap,.slice A2 n2 cap2] (0,0) _ rfl ((zU H3).end_ _).1 Tryz.underlying33 rfl qd) rfl ⟨?_,((zU H3).end_ _).2⟩;rw[zU HRR];exact⟨_,_,_,_,_,_,rfl,fun h=>absurd h Nat.one_ne_zero⟩
  have CP:=zH (fun (W:World) (hW:ArcIn W A n A2 n2 a)=>qsJ A n cap A2 n2 cap2 a nm tx N W hW (zU HZ) (by have:=(zU HWL).1;omega) (by have:=(zU HLL).2;omega));obtain⟨u,hu⟩:∃u,u=put a nm tx N:=⟨_,rfl⟩
  have HRR:=zH (show r=u by rw[hr,hu,if_neg (by simp;omega)]);rw[<-hu]at CP;have g1:decide (N<0)=false:=by simpa using hneg
  clear hr hu hneg;go_wp2_with fail;refine (zU CN).mono ?_;rintro e w3 ⟨rfl,hb3⟩;have H3:=zH ((zU H2).below hb3);clear y0 y1 hb3;go_upto_region 7 with fail
  refine AnyK.begin (fun W=>W.cell? ⟨B,0,none⟩=some (.slice A n cap)/\W.cell? ⟨B,1,none⟩=some (.slice A2 n2 cap2)) 10 10 (by kernel_rfl) rfl ?_;have hs3:=(zU H3).drew.ab.c;refine AnyK.t 0 10 ?_ hs3 ?_ ?_
  rotate_left
  ·rintro W ⟨hS1,hS2⟩;go_simp
   try with_reducible rfl
  refine AnyK.t 1 10 ?_ hs3 ?_ ?_
  rotate_left
  ·rintro W ⟨hS1,hS2⟩;go_simp
   try with_reducible rfl
  refine AnyK.t 2 10 ?_ hs3 ?_ ?_
  rotate_left
  ·rintro W ⟨hS1,hS2⟩;go_simp
   try with_reducible rfl
  refine AnyK.t 3 10 ?_ hs3 ?_ ?_
  rotate_left
  ·rintro W ⟨hS1,hS2⟩;go_simp
   try with_reducible rfl
  refine AnyK.one 4 rfl (by kernel_rfl) (fun K hK=>?_);refine qC rfl 69 _ _ rfl #[S dc] (by simp[Act.eval]) qfv ((zU CN2 _).mono ?_);rintro e w4 ⟨rfl,hb4⟩;refine .inl ⟨_,rfl,?_⟩;have H4:=zH ((zU H3).drew.below hb4);have hs4:=(zU H4).ab.c;clear hb4 hs3;refine AnyK.o hK (fun _=>hs4) ?_;clear hK K;refine AnyK.one 5 rfl (by kernel_rfl) (fun K hK=>?_);refine qC rfl 70 _ _ rfl #[qv A n cap A2 n2 cap2,S nm,S tx,I N] (by simp[Act.eval]) qox ((zU CP _ (zU H4).ab.i).mono ?_);rintro e w5 ⟨hres,hb5⟩;obtain⟨C1,m1,k1,C2',m2,k2,rfl,hin,hmk,hown⟩:=hres.open;refine .inl ⟨_,rfl,?_⟩;have H5:=zH ((zU H4).below hb5);have HO:=zH (hown.setRow (zU H4).lt #[.slice C1 m1 k1,.slice C2' m2 k2]);have HBL:=zH (Nat.le_of_lt (Nat.lt_of_succ_lt (zU H4).lt));have hs5:=(zU H5).ab.c;clear hb5 hs4 hres hin hmk hown;refine AnyK.o hK (fun _=>hs5) ?_;clear hK K;refine AnyK.t 6 10 ?_ hs5 ?_ ?_
  rotate_left
  ·rintro W ⟨hS1,hS2⟩;go_simp
   try with_reducible rfl
  refine AnyK.t 7 10 ?_ hs5 ?_ ?_
  rotate_left
  ·rintro W ⟨hS1,hS2⟩;go_simp
   try with_reducible rfl
  refine AnyK.one 8 rfl (by kernel_rfl) (fun K hK=>?_);refine qaa rfl (.tmp 6) (.tmp 47) rfl (B+1) C1 m1 k1 C2' m2 k2 rfl rfl _ _ (zU H5).z ?_;refine AnyK.o hK (fun _=>(zU H5).kept _) ?_;clear hK K;refine AnyK.one 9 rfl (by kernel_rfl) (fun K hK=>?_);go_simp;refine AnyK.o hK (fun _=>(zU H5).kept _) ?_;clear hK K;refine AnyK.done (by kernel_rfl) ?_;go_wp2_with fail;refine bodyPost_ret (qc rfl _ _ (B+1) 33 #[.slice C1 m1 k1,.slice C2' m2 k2] (0,0) _ rfl ((zU H5).end_ _).1 Tryz.underlying33 rfl qd) rfl ⟨?_,((zU H5).end_ _).2⟩;rw[zU HRR];exact⟨_,_,_,_,_,_,rfl,fun _=>(zU HO).mono (zU HBL)⟩
 have d1:(op == qfg)=false:=qaD h1;unfold qfg at d1
 by_cases h2:op=qdS
 ·have d2:(op == qdS)=true:=by simpa using h2
  unfold qdS at d2;have hr:=zU HR;rw[if_neg h1,if_pos h2]at hr;clear h1 h2;cases q1 with
  | true =>
   have HRR:=zH (show r=(a,1)by rw[hr,if_pos rfl]);clear hr;obtain⟨y0,y1⟩:=(zU H1).ab.c;go_wp2_with (refine wpList_store_row rfl 33 (.tmp 6) (.tmp 52) rfl (B+1) #[.slice A n cap,.slice A2 n2 cap2] rfl rfl 33 _ (zU H1).z qd rfl (qN _ _ _ _ _ _) ?_);refine bodyPost_ret (qc rfl _ _ (B+1) 33 #[.slice A n cap,.slice A2 n2 cap2] (0,0) _ rfl ((zU H1).end_ _).1 Tryz.underlying33 rfl qd) rfl ⟨?_,((zU H1).end_ _).2⟩;rw[zU HRR];exact⟨_,_,_,_,_,_,rfl,fun h=>absurd h Nat.one_ne_zero⟩
  | false =>
   rw[if_neg (by decide)]at hr;have hnr:nm=rest:=by rw[zU HNM];exact qip (zU HQ1).symm
   rw[<-hnr]at hr;have CP:=zH (fun (W:World) (hW:ArcIn W A n A2 n2 a)=>qrJ A n cap A2 n2 cap2 a nm W hW (zU HZ));obtain⟨u,hu⟩:∃u,u=drop a nm:=⟨_,rfl⟩
   rw[<-hu]at CP hr;have HRR:=zH hr;clear hr hu hnr;obtain⟨y0,y1⟩:=(zU H1).ab.c;go_wp2_with fail;refine (zU CP _ (zU H1).ab.i).mono ?_;rintro e w5 ⟨hres,hb5⟩;obtain⟨C1,m1,k1,C2',m2,k2,rfl,hin,hmk,hown⟩:=hres.open;have H5:=zH ((zU H1).below hb5);have HO:=zH (hown.setRow (zU H1).lt #[.slice C1 m1 k1,.slice C2' m2 k2]);have HBL:=zH (Nat.le_of_lt (Nat.lt_of_succ_lt (zU H1).lt));clear hb5 hres hin hmk hown y0 y1;go_wp2_with (refine wpList_store_row rfl 33 (.tmp 6) (.tmp 56) rfl (B+1) #[.slice C1 m1 k1,.slice C2' m2 k2] rfl rfl 33 _ (zU H5).z qd rfl (qN _ _ _ _ _ _) ?_);refine bodyPost_ret (qc rfl _ _ (B+1) 33 #[.slice C1 m1 k1,.slice C2' m2 k2] (0,0) _ rfl ((zU H5).end_ _).1 Tryz.underlying33 rfl qd) rfl ⟨?_,((zU H5).end_ _).2⟩;rw[zU HRR];exact⟨_,_,_,_,_,_,rfl,fun _=>(zU HO).mono (zU HBL)⟩
 have d2:(op == qdS)=false:=qaD h2;unfold qdS at d2;have hr:=zU HR;rw[if_neg h1,if_neg h2]at hr;have CN2:=fun (W:World)=>qgq rest W (zU HWL).2.2;obtain⟨N,hN⟩:∃N,N=qz rest:=⟨_,rfl⟩
 rw[<-hN]at CN2 hr;have CN2:=zH CN2;clear h1 h2 hN
 by_cases hneg:N<0
 ·have HRR:=zH (show r=(a,1)by rw[hr,if_pos hneg]);clear hr;have g1:decide (N<0)=true:=by simpa using hneg
  clear hneg;go_wp2_with fail;refine (zU CN2 _).mono ?_;rintro e w3 ⟨rfl,hb3⟩;have H3:=zH ((zU H1).below hb3);clear hb3;obtain⟨y0,y1⟩:=(zU H3).ab.c;go_wp2_with (refine wpList_store_row rfl 33 (.tmp 6) (.tmp 61) rfl (B+1) #[.slice A n cap,.slice A2 n2 cap2] rfl rfl 33 _ (zU H3).z qd rfl (qN _ _ _ _ _ _) ?_);refine bodyPost_ret (qc rfl _ _ (B+1) 33 #[.slice A n cap,.slice A2 n2 cap2] (0,0) _ rfl ((zU H3).end_ _).1 Tryz.underlying33 rfl qd) rfl ⟨?_,((zU H3).end_ _).2⟩;rw[zU HRR];exact⟨_,_,_,_,_,_,rfl,fun h=>absurd h Nat.one_ne_zero⟩
 have CP:=zH (fun (W:World) (hW:ArcIn W A n A2 n2 a)=>qnt A n cap A2 n2 cap2 a N W hW (zU HZ));obtain⟨u,hu⟩:∃u,u=qaO a N:=⟨_,rfl⟩
 have HRR:=zH (show r=u by rw[hr,hu,if_neg hneg]);rw[<-hu]at CP;have g1:decide (N<0)=false:=by simpa using hneg
 clear hr hu hneg;go_wp2_with fail;refine (zU CN2 _).mono ?_;rintro e w3 ⟨rfl,hb3⟩;have H3:=zH ((zU H1).below hb3);clear hb3;go_upto_region 14 with fail
 refine AnyK.begin (fun W=>W.cell? ⟨B,0,none⟩=some (.slice A n cap)/\W.cell? ⟨B,1,none⟩=some (.slice A2 n2 cap2)) 8 8 (by kernel_rfl) rfl ?_;have hs3:=(zU H3).drew.ab.c;refine AnyK.t 0 8 ?_ hs3 ?_ ?_
 rotate_left
 ·rintro W ⟨hS1,hS2⟩;go_simp
  try with_reducible rfl
 refine AnyK.t 1 8 ?_ hs3 ?_ ?_
 rotate_left
 ·rintro W ⟨hS1,hS2⟩;go_simp
  try with_reducible rfl
 refine AnyK.one 2 rfl (by kernel_rfl) (fun K hK=>?_);refine qC rfl 69 _ _ rfl #[S rest] (by simp[Act.eval]) qfv ((zU CN2 _).mono ?_);rintro e w4 ⟨rfl,hb4⟩;refine .inl ⟨_,rfl,?_⟩;have H4:=zH ((zU H3).drew.below hb4);have hs4:=(zU H4).ab.c;clear hb4 hs3;refine AnyK.o hK (fun _=>hs4) ?_;clear hK K;refine AnyK.one 3 rfl (by kernel_rfl) (fun K hK=>?_);refine qC rfl 72 _ _ rfl #[qv A n cap A2 n2 cap2,I N] (by simp[Act.eval]) qkd ((zU CP _ (zU H4).ab.i).mono ?_);rintro e w5 ⟨hres,hb5⟩;obtain⟨C1,m1,k1,C2',m2,k2,rfl,hin,hmk,hown⟩:=hres.open;refine .inl ⟨_,rfl,?_⟩;have H5:=zH ((zU H4).below hb5);have HO:=zH (hown.setRow (zU H4).lt #[.slice C1 m1 k1,.slice C2' m2 k2]);have HBL:=zH (Nat.le_of_lt (Nat.lt_of_succ_lt (zU H4).lt));have hs5:=(zU H5).ab.c;clear hb5 hs4 hres hin hmk hown;refine AnyK.o hK (fun _=>hs5) ?_;clear hK K;refine AnyK.t 4 8 ?_ hs5 ?_ ?_
 rotate_left
 ·rintro W ⟨hS1,hS2⟩;go_simp
  try with_reducible rfl
 refine AnyK.t 5 8 ?_ hs5 ?_ ?_
 rotate_left
 ·rintro W ⟨hS1,hS2⟩;go_simp
  try with_reducible rfl
 refine AnyK.one 6 rfl (by kernel_rfl) (fun K hK=>?_);refine qaa rfl (.tmp 6) (.tmp 66) rfl (B+1) C1 m1 k1 C2' m2 k2 rfl rfl _ _ (zU H5).z ?_;refine AnyK.o hK (fun _=>(zU H5).kept _) ?_;clear hK K;refine AnyK.one 7 rfl (by kernel_rfl) (fun K hK=>?_);go_simp;refine AnyK.o hK (fun _=>(zU H5).kept _) ?_;clear hK K;refine AnyK.done (by kernel_rfl) ?_;go_wp2_with fail;refine bodyPost_ret (qc rfl _ _ (B+1) 33 #[.slice C1 m1 k1,.slice C2' m2 k2] (0,0) _ rfl ((zU H5).end_ _).1 Tryz.underlying33 rfl qd) rfl ⟨?_,((zU H5).end_ _).2⟩;rw[zU HRR];exact⟨_,_,_,_,_,_,rfl,fun _=>(zU HO).mono (zU HBL)⟩
theorem qqc(A:Option Addr)(n cap:Nat)(A2:Option Addr)(n2 cap2:Nat)(a:Arc)(op rest:qa)(w:World)(h:ArcIn w A n A2 n2 a)(hra:RightA a)(hrest:rest.length<=16384) :
  Calls Tryz.prog 45 #[qv A n cap A2 n2 cap2,S op,S rest] w fun e w'=>e=.returned (.tuple #[S (qb3 a op rest).1,I (qb3 a op rest).2])/\Below w.heap.size w w':=by
 obtain⟨B,hB⟩:∃B,B=w.heap.size:=⟨_,rfl⟩
 obtain⟨w0,hw0⟩:∃w0,w0=w.alloc (.cells #[.slice A n cap,.slice A2 n2 cap2] 33):=⟨_,rfl⟩
 have H0:=zH (show ABox A n cap A2 n2 cap2 a w w0 B by rw[hw0,hB];exact ABox.new h cap cap2);have HZ:=zH (qgj hra);have HB:=zH hB;have HW0:=zH hw0;rw[<-hB];obtain⟨r,hr⟩:∃r,r=qb3 a op rest:=⟨_,rfl⟩
 rw[<-hr];unfold qb3 at hr;have hwl:=qcE rest;have CW:=qeP rest w0 hrest;obtain⟨nm,hnm⟩:∃x,x=(qi rest).1:=⟨_,rfl⟩
 obtain⟨r2,hr2⟩:∃x,x=(qi rest).2.1:=⟨_,rfl⟩
 obtain⟨q1,hq1⟩:∃x,x=(qi rest).2.2:=⟨_,rfl⟩
 rw[<-hnm,<-hr2,<-hq1]at CW;have CW:=zH CW;rw[<-hnm,<-hr2]at hwl;rw[<-hnm,<-hr2,<-hq1]at hr;have HR:=zH hr;have HNM:=zH hnm;have HQ1:=zH hq1;have HWL:=zH (show nm.length<=16384/\r2.length<=16384/\rest.length<=16384 by omega);clear hB hw0 h hra hr hwl hnm hr2 hq1 hrest;go_enter Tryz.func45,Tryz.ntmps45;go_upto_region 1 with fail
 rw[<-zU HW0,<-zU HB];go_wp2_with fail;refine (zU CW).mono ?_;rintro e w1 ⟨rfl,hb1⟩;have H1:=zH ((zU H0).below hb1);clear hb1
 by_cases h1:op=qfh
 ·have d1:(op == qfh)=true:=by simpa using h1
  unfold qfh at d1;have hr:=zU HR;rw[if_pos h1]at hr;clear h1;cases q1 with
  | true =>
   rw[if_pos rfl]at hr;subst hr;go_wp2_with fail;go_ret2;exact⟨rfl,(zU H1).bel⟩
  | false =>
   rw[if_neg (by decide)]at hr;have hnr:nm=rest:=by rw[zU HNM];exact qip (zU HQ1).symm
   rw[<-hnr]at hr;have CP:=zH (fun (W:World) (hW:ArcIn W A n A2 n2 a)=>qm1 A n cap A2 n2 cap2 a nm W hW (zU HZ));rw[<-hr]at CP;have CP:=zH (zU CP);clear hr hnr;obtain⟨y0,y1⟩:=(zU H1).c;go_wp2_with fail;refine (zU CP _ (zU H1).i).mono ?_;rintro e w5 ⟨rfl,hb5⟩;have H5:=zH ((zU H1).below hb5);clear hb5 y0 y1;go_wp2_with fail;go_ret2;exact⟨rfl,(zU H5).bel⟩
 have d1:(op == qfh)=false:=qaD h1;unfold qfh at d1;have hr:=zU HR;rw[if_neg h1]at hr;have CX:=qeP r2 w1 (zU HWL).2.1;obtain⟨fr,hfr⟩:∃x,x=(qi r2).1:=⟨_,rfl⟩
 obtain⟨nn,hnn⟩:∃x,x=(qi r2).2.1:=⟨_,rfl⟩
 obtain⟨q2,hq2⟩:∃x,x=(qi r2).2.2:=⟨_,rfl⟩
 rw[<-hfr,<-hnn,<-hq2]at CX;have CX:=zH CX;have hl3:=qcE r2;rw[<-hfr,<-hnn]at hl3;rw[<-hfr,<-hnn,<-hq2]at hr;have HLL:=zH (show fr.length<=16384/\nn.length<=16384 by have:=(zU HWL).2.1;omega);have HR1:=zH hr;clear h1 hr hl3 hfr hnn hq2;go_wp2_with fail;refine (zU CX).mono ?_;rintro e w2 ⟨rfl,hb2⟩;have H2:=zH ((zU H1).below hb2);clear hb2
 by_cases hq:q1=false\/q2=false
 ·have hr:=zU HR1;rw[if_pos (hq.elim .inl fun h=>.inr (.inl h))]at hr;subst hr;cases q1 <;> cases q2
  case true.true=>exact absurd hq (by decide)
  all_goals
   go_wp2_with fail;go_ret2;exact⟨rfl,(zU H2).bel⟩
 obtain⟨rfl,rfl⟩:q1=true/\q2=true:=by cases q1 <;> cases q2 <;> simp_all
 have hr:=zU HR1;have CNN:=fun (W:World)=>qgq fr W (zU HLL).1
 have hbN : -1<=qz fr/\qz fr<=1000000:=by
  by_cases hn:0<=qz fr
  ·have:=(qgp hn).2.2.2;omega
  ·rw[ql8 hn];decide
 obtain⟨N,hN⟩:∃x,x=qz fr:=⟨_,rfl⟩
 rw[<-hN]at CNN hr hbN;have CNN:=zH CNN;have CNM:=fun (W:World)=>qgq nn W (zU HLL).2
 have hbM : -1<=qz nn/\qz nn<=1000000:=by
  by_cases hn:0<=qz nn
  ·have:=(qgp hn).2.2.2;omega
  ·rw[ql8 hn];decide
 obtain⟨M,hM⟩:∃x,x=qz nn:=⟨_,rfl⟩
 rw[<-hM]at CNM hr hbM;have CNM:=zH CNM;clear hq hN hM
 by_cases hneg:N<0
 ·rw[if_pos (.inr (.inr (.inl hneg)))]at hr;subst hr;have g1:decide (N<0)=true:=by simpa using hneg
  clear hneg hbN hbM;go_wp2_with fail;refine (zU CNN _).mono ?_;rintro e w3 ⟨rfl,hb3⟩;have H3:=zH ((zU H2).below hb3);clear hb3;go_wp2_with fail;go_ret2;exact⟨rfl,(zU H3).bel⟩
 have g1:decide (N<0)=false:=by simpa using hneg
 by_cases hneg2:M<0
 ·rw[if_pos (.inr (.inr (.inr hneg2)))]at hr;subst hr;have g2:decide (M<0)=true:=by simpa using hneg2
  clear hneg hneg2 hbN hbM;go_wp2_with fail;refine (zU CNN _).mono ?_;rintro e w3 ⟨rfl,hb3⟩;have H3:=zH ((zU H2).below hb3);clear hb3;go_wp2_with fail;refine (zU CNM _).mono ?_;rintro e w4 ⟨rfl,hb4⟩;have H4:=zH ((zU H3).below hb4);clear hb4;go_wp2_with fail;go_ret2;exact⟨rfl,(zU H4).bel⟩
 have g2:decide (M<0)=false:=by simpa using hneg2
 rw[if_neg (by simp;omega)]at hr;have CP:=zH (fun (W:World) (hW:ArcIn W A n A2 n2 a)=>qpD A n cap A2 n2 cap2 a nm N M W hW (zU HZ) (by omega) (by omega) (by omega) (by omega));rw[<-hr]at CP;have CP:=zH (zU CP);clear hneg hneg2 hbN hbM hr;go_wp2_with fail;refine (zU CNN _).mono ?_;rintro e w3 ⟨rfl,hb3⟩;have H3:=zH ((zU H2).below hb3);clear hb3;go_wp2_with fail;refine (zU CNM _).mono ?_;rintro e w4 ⟨rfl,hb4⟩;have H4:=zH ((zU H3).below hb4);clear hb4;go_upto_region 9 with fail
 refine AnyK.begin (fun W=>W.cell? ⟨B,0,none⟩=some (.slice A n cap)/\W.cell? ⟨B,1,none⟩=some (.slice A2 n2 cap2)) 11 11 (by kernel_rfl) rfl ?_;have H5:=zH ((zU H4).below (Below.refl _ _).drew);have hs5:=(zU H5).c;refine AnyK.t 0 11 ?_ hs5 ?_ ?_
 rotate_left
 ·rintro W ⟨hS1,hS2⟩;go_simp
  try with_reducible rfl
 refine AnyK.t 1 11 ?_ hs5 ?_ ?_
 rotate_left
 ·rintro W ⟨hS1,hS2⟩;go_simp
  try with_reducible rfl
 refine AnyK.t 2 11 ?_ hs5 ?_ ?_
 rotate_left
 ·rintro W ⟨hS1,hS2⟩;go_simp
  try with_reducible rfl
 refine AnyK.t 4 11 ?_ hs5 ?_ ?_
 rotate_left
 ·rintro W ⟨hS1,hS2⟩;go_simp
  try with_reducible rfl
 refine AnyK.one 3 rfl (by kernel_rfl) (fun K hK=>?_);refine qC rfl 69 _ _ rfl #[S fr] (by simp[Act.eval]) qfv ((zU CNN _).mono ?_);rintro e w6 ⟨rfl,hb⟩;refine .inl ⟨_,rfl,?_⟩;have H6:=zH ((zU H5).below hb);have hs6:=(zU H6).c;clear hb hs5;refine AnyK.o hK (fun _=>hs6) ?_;clear hK K;refine AnyK.one 5 rfl (by kernel_rfl) (fun K hK=>?_);refine qC rfl 69 _ _ rfl #[S nn] (by simp[Act.eval]) qfv ((zU CNM _).mono ?_);rintro e w7 ⟨rfl,hb⟩;refine .inl ⟨_,rfl,?_⟩;have H7:=zH ((zU H6).below hb);have hs7:=(zU H7).c;clear hb hs6;refine AnyK.o hK (fun _=>hs7) ?_;clear hK K;refine AnyK.one 6 rfl (by kernel_rfl) (fun K hK=>?_);refine qC rfl 74 _ _ rfl #[qv A n cap A2 n2 cap2,S nm,I N,I M] (by simp[Act.eval]) ql0 ((zU CP _ (zU H7).i).mono ?_);rintro e w8 ⟨rfl,hb⟩;refine .inl ⟨_,rfl,?_⟩;have H8:=zH ((zU H7).below hb);have hs8:=(zU H8).c;clear hb hs7;refine AnyK.o hK (fun _=>hs8) ?_;clear hK K;refine AnyK.t 7 11 ?_ hs8 ?_ ?_
 rotate_left
 ·rintro W ⟨hS1,hS2⟩;go_simp
  try with_reducible rfl
 refine AnyK.t 8 11 ?_ hs8 ?_ ?_
 rotate_left
 ·rintro W ⟨hS1,hS2⟩;go_simp
  try with_reducible rfl
 refine AnyK.t 9 11 ?_ hs8 ?_ ?_
 rotate_left
 ·rintro W ⟨hS1,hS2⟩;go_simp
  try with_reducible rfl
 refine AnyK.t 10 11 ?_ hs8 ?_ ?_
 rotate_left
 ·rintro W ⟨hS1,hS2⟩;go_simp
  try with_reducible rfl
 refine AnyK.done (by kernel_rfl) ?_;clear hs8;go_wp2_with fail;go_ret2;exact⟨rfl,(zU H8).bel⟩
end
end Go.Proofs.YtbnmfdlaabdlhaaGreatDoor
