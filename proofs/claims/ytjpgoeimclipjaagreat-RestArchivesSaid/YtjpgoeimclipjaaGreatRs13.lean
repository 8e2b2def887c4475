/- Parts of the proofs. -/
import Derived.Test.YtjpgoeimclipjaaGreatRs12
import Derived.Deep.DeepCutAuto
import Derived.Deep.QuietTactic
import Derived.BigQuiet
import Derived.Deep.RegionLaw
import Derived.BigRegion
import Derived.Deep.Slices
import Derived.Deep.Fields
import Derived.ChangeSame
import Derived.Carry
import Derived.OpenVars
import Derived.HandedShaped
import Derived.Shelf.Vars
import Derived.Lib.SmallJoins
namespace Go.Proofs.YtjpgoeimclipjaaGreat
open Go.RowKit Go.Lib Pl
attribute [local go_sem] ext_list app_list
theorem putGo_step (F:Fil) (dn:Bool) (g:Fil) (r:List Fil):putGo F dn (g::r)=(if dn=false∧lessB g.name F.name=false then [F] else [])++((if g.name=F.name then [] else [g])++putGo F (dn || !lessB g.name F.name) r):=by
 rw [putGo]
attribute [local go_sem] World.cell?_alloc_some in
set_option maxHeartbeats 8000000 in
set_option maxRecDepth 100000 in
theorem putOf_any (A:Option Addr) (n cap:Nat) (A2:Option Addr) (n2 cap2:Nat) (a:Arc) (file text:Bytes) (k:Int) (w:World) (h:ArcIn w A n A2 n2 a) (hz:ArcSz a) (hfl:file.length≤140737488355328) (htl:text.length≤9223372036854775807) :
  Calls Tryz.prog 28 #[arcV A n cap A2 n2 cap2,S file,S text,I k] w fun e w'=>ArcRes w.heap.size (put a file text k) e w'∧Below w.heap.size w w':=by
 obtain ⟨B,hB⟩:∃ B,B=w.heap.size:=⟨_,rfl⟩
 obtain ⟨w0,hw0⟩:∃ w0,w0=(w.alloc (.cells #[.slice A n cap,.slice A2 n2 cap2] 33)).alloc (.cells #[.slice none 0 0,.slice none 0 0] 33):=⟨_,rfl⟩
 have H0:=zH (show AR A n cap A2 n2 cap2 a w w0 B by rw [hw0,hB];exact AR.new h cap cap2);have hl1:=h.s.1;have hl2:=h.f.1;have CK:∀ W,AR A n cap A2 n2 cap2 a w W B→Calls Tryz.prog 32 #[arcV A n cap A2 n2 cap2] W fun e w'=>e = .returned (I (checkA a))∧Below W.heap.size W w':=fun W hW=>checkArchive_any A n cap A2 n2 cap2 a W hW.ab.i hz;have CN:=zH (fun (W:World)=>isName_any file W hfl);have CW:=fun (W:World)=>(within_any k 0 (n:Int) W).mono fun e w' ⟨h1,h2⟩=>(⟨h1,h2.symm⟩:e=Ending.returned (.bool (decide (0≤k∧k≤(n:Int))))∧w'=W)
 have hdi:=@dictO_iff a.ds k;rw [hl1] at hdi;rw [←hdi] at CW;obtain ⟨r,hr⟩:∃ r,r=put a file text k:=⟨_,rfl⟩
 rw [←hr,←hB];have hput:r=if checkA a≠0 then (arc0,checkA a) else if nameB file=false then (arc0,4) else if dictO a.ds k=none then (arc0,3) else if 512<text.length then (arc0,2) else if 12<(insF (packedF a.ds file text k) a.fs).length then (arc0,2) else (⟨a.ds,insF (packedF a.ds file text k) a.fs⟩,0):=hr
 have HB:=zH hB;have HW0:=zH hw0;have HI:=zH h;clear hB hw0 h hr hz hdi
 by_cases hck:checkA a≠0
 ·rw [if_pos hck] at hput;obtain ⟨c,hc⟩:∃ c,c=checkA a:=⟨_,rfl⟩
  rw [←hc] at CK hput hck;have CK:=zH CK;have d1:((c:Int) != 0)=true:=by rw [bne_iff_ne];omega
  have d2:((c:Int) == 0)=false:=by rw [beq_eq_false_iff_ne];omega
  have d3:¬ (c:Int)=0:=by omega
  subst hput;clear hck hc CW;go_enter Tryz.func28,Tryz.ntmps28;go_upto_region 1 with fail
  rw [←zU HW0,←zU HB];obtain ⟨q0,q1⟩:=(zU H0).ab.c;go_wp2_with fail;refine (zU CK _ (zU H0)).mono ?_;rintro e w1 ⟨rfl,hb1⟩;have H1:=zH ((zU H0).below hb1);clear hb1 q0 q1;obtain ⟨q0,q1⟩:=(zU H1).ab.c;go_wp2_with (refine wpList_store_row rfl 33 (.tmp 8) (.tmp 18) rfl (B+1) #[.slice none 0 0,.slice none 0 0] rfl rfl 33 _ (zU H1).z sizeArc rfl all_nil2 ?_);refine bodyPost_ret (results_row_tmp rfl _ _ (B+1) 33 #[.slice none 0 0,.slice none 0 0] (0,0) _ rfl ((zU H1).end_ _).1 Tryz.underlying33 rfl sizeArc) rfl ⟨⟨_,_,rfl,?_⟩,((zU H1).end_ _).2⟩;exact OwnA.nil _ _
 have hck0:checkA a=0:=Decidable.not_not.1 hck;have hra:=(check_iff a).1 hck0;rw [if_neg hck] at hput;rw [hck0] at CK;have CK:=zH CK;clear hck hck0;have h12:=hra.nf;have h4:=hra.nd
 by_cases hnm:nameB file=false
 ·rw [if_pos hnm] at hput;rw [hnm] at CN;subst hput;clear hnm hra CW;go_enter Tryz.func28,Tryz.ntmps28;go_upto_region 1 with fail
  rw [←zU HW0,←zU HB];obtain ⟨q0,q1⟩:=(zU H0).ab.c;go_wp2_with fail;refine (zU CK _ (zU H0)).mono ?_;rintro e w1 ⟨rfl,hb1⟩;have H1:=zH ((zU H0).below hb1);clear hb1 q0 q1;obtain ⟨q0,q1⟩:=(zU H1).ab.c;go_wp2_with fail;refine (zU CN _).mono ?_;rintro e w2 ⟨rfl,hw2⟩;rw [hw2];clear hw2;go_wp2_with (refine wpList_store_row rfl 33 (.tmp 8) (.tmp 24) rfl (B+1) #[.slice none 0 0,.slice none 0 0] rfl rfl 33 _ (zU H1).z sizeArc rfl all_nil2 ?_);refine bodyPost_ret (results_row_tmp rfl _ _ (B+1) 33 #[.slice none 0 0,.slice none 0 0] (0,0) _ rfl ((zU H1).end_ _).1 Tryz.underlying33 rfl sizeArc) rfl ⟨⟨_,_,rfl,?_⟩,((zU H1).end_ _).2⟩;exact OwnA.nil _ _
 rw [if_neg hnm] at hput;have hnm:nameB file=true:=by simpa using hnm
 rw [hnm] at CN;cases hdo:dictO a.ds k with
 | none =>
  rw [if_pos hdo] at hput;rw [hdo] at CW;have CW:=zH CW;subst hput;clear hnm hdo hra;go_enter Tryz.func28,Tryz.ntmps28;go_upto_region 1 with fail
  rw [←zU HW0,←zU HB];obtain ⟨q0,q1⟩:=(zU H0).ab.c;go_wp2_with fail;refine (zU CK _ (zU H0)).mono ?_;rintro e w1 ⟨rfl,hb1⟩;have H1:=zH ((zU H0).below hb1);clear hb1 q0 q1;obtain ⟨q0,q1⟩:=(zU H1).ab.c;go_wp2_with fail;refine (zU CN _).mono ?_;rintro e w2 ⟨rfl,hw2⟩;rw [hw2];clear hw2;go_wp2_with fail;refine (zU CW _).mono ?_;rintro e w3 ⟨rfl,hw3⟩;rw [hw3];clear hw3;go_wp2_with (refine wpList_store_row rfl 33 (.tmp 8) (.tmp 32) rfl (B+1) #[.slice none 0 0,.slice none 0 0] rfl rfl 33 _ (zU H1).z sizeArc rfl all_nil2 ?_);refine bodyPost_ret (results_row_tmp rfl _ _ (B+1) 33 #[.slice none 0 0,.slice none 0 0] (0,0) _ rfl ((zU H1).end_ _).1 Tryz.underlying33 rfl sizeArc) rfl ⟨⟨_,_,rfl,?_⟩,((zU H1).end_ _).2⟩;exact OwnA.nil _ _
 | some d =>
  rw [if_neg (by rw [hdo];simp)] at hput;have hdl:=dictO_len hra.sd hdo;rw [hdo] at CW;have CW:=zH CW
  by_cases htx:512<text.length
  ·rw [if_pos htx] at hput;have d1:(512:Int)<(text.length:Int):=by omega
   subst hput;clear hnm hdo htx hra;go_enter Tryz.func28,Tryz.ntmps28;go_upto_region 1 with fail
   rw [←zU HW0,←zU HB];obtain ⟨q0,q1⟩:=(zU H0).ab.c;go_wp2_with fail;refine (zU CK _ (zU H0)).mono ?_;rintro e w1 ⟨rfl,hb1⟩;have H1:=zH ((zU H0).below hb1);clear hb1 q0 q1;obtain ⟨q0,q1⟩:=(zU H1).ab.c;go_wp2_with fail;refine (zU CN _).mono ?_;rintro e w2 ⟨rfl,hw2⟩;rw [hw2];clear hw2;go_wp2_with fail;refine (zU CW _).mono ?_;rintro e w3 ⟨rfl,hw3⟩;rw [hw3];clear hw3;go_wp2_with (refine wpList_store_row rfl 33 (.tmp 8) (.tmp 37) rfl (B+1) #[.slice none 0 0,.slice none 0 0] rfl rfl 33 _ (zU H1).z sizeArc rfl all_nil2 ?_);refine bodyPost_ret (results_row_tmp rfl _ _ (B+1) 33 #[.slice none 0 0,.slice none 0 0] (0,0) _ rfl ((zU H1).end_ _).1 Tryz.underlying33 rfl sizeArc) rfl ⟨⟨_,_,rfl,?_⟩,((zU H1).end_ _).2⟩;exact OwnA.nil _ _
  rw [if_neg htx] at hput;have d1:¬ (512:Int)<(text.length:Int):=by omega
  have KP:∀ W,Below B w W→Calls Tryz.prog 79 #[arcV A n cap A2 n2 cap2,S file,S text,I k] W fun e w'=>e = .returned (filV (packedF a.ds file text k))∧Below W.heap.size W w':=fun W hW=>packedR_any A n cap A2 n2 cap2 a file text k d W ((zU HI).up (by rw [←zU HB];exact hW)) (by omega) hdo hdl (by omega);obtain ⟨F,hF⟩:∃ F,F=packedF a.ds file text k:=⟨_,rfl⟩
  rw [←hF] at KP hput;have HFN:=zH (show F.name=file by rw [hF];rfl);have KP:=zH KP;rw [←putGo_ins hra.fr.asc] at hput;have HP:=zH hput;clear hnm hdo htx hra hput hF hdl;go_enter Tryz.func28,Tryz.ntmps28;go_upto_region 1 with fail
  rw [←zU HW0,←zU HB];obtain ⟨q0,q1⟩:=(zU H0).ab.c;go_wp2_with fail;refine (zU CK _ (zU H0)).mono ?_;rintro e w1 ⟨rfl,hb1⟩;have H1:=zH ((zU H0).below hb1);clear hb1 q0 q1;obtain ⟨q0,q1⟩:=(zU H1).ab.c;go_wp2_with fail;refine (zU CN _).mono ?_;rintro e w2 ⟨rfl,hw2⟩;rw [hw2];clear hw2;go_wp2_with fail;refine (zU CW _).mono ?_;rintro e w3 ⟨rfl,hw3⟩;rw [hw3];clear hw3;have HST:=zH (zU H1).ab.i.s;obtain ⟨E,hE⟩:∃ E,E=w1.heap.size:=⟨_,rfl⟩
  have hBE:B+1<E:=by rw [hE];exact (zU H1).lt
  have HE:=zH hE;have q2:(w1.alloc (.cells #[] 9)).cell? ⟨B,0,none⟩=some (.slice A n cap):=((zU H1).below ((Below.refl _ _).alloc (Nat.le_refl _) _)).ab.c.1;clear hE
  go_upto_region 11 with (first
   | (at_builtin;refine wpList_append_strs rfl (.tmp 38) (.tmp 40) rfl A n cap a.ds (zU HST) (by omega) rfl rfl ?_;intro A' cap' w3 hown3 hb3;have HOWN3:=zH hown3;have HB3:=zH hb3;clear hown3 hb3)
   | (refine wpList_store_row rfl 33 (.tmp 11) (.tmp 42) rfl w3.heap.size #[.slice A' n cap',.slice none 0 0] rfl rfl 33 _ (heap_alloc_new _ _) sizeArc rfl (one_two _ _ _ _ _ _) ?_))
  obtain ⟨w5,hw5⟩:∃ w5,w5=(w3.alloc (.cells #[.slice none 0 0,.slice none 0 0] 33)).setRow w3.heap.size #[.slice A' n cap',.slice none 0 0]:=⟨_,rfl⟩
  obtain ⟨P,hP⟩:∃ P,P=w3.heap.size:=⟨_,rfl⟩
  have S5:=zH (show CompS w w5 B E P #[.slice A n cap,.slice A2 n2 cap2] (.slice A' n cap') (.slice none 0 0) ⟨a.ds,[]⟩ by
   have h3:=(zU H1).below (zU HB3);have hb5:Below w3.heap.size w3 w5:=by rw [hw5];exact below_setRow ((Below.refl _ _).alloc (Nat.le_refl _) _) (Nat.le_refl _) _
   have h5:=h3.below hb5;refine ⟨h5.ab.o,h5.z,by rw [hw5,hP];exact setRow_heap _ _ _ _ _ _ (heap_alloc_new _ _),⟨?_,World.ownsRow_nil _ _ _ _⟩,hBE,by rw [hP,zU HE];exact (zU HB3).size,h5.ab.bel⟩;show w5.ownsRow E 9 1 (.slice A' n cap') a.ds.length _;rw [hl1,zU HE];exact own_below (zU HOWN3) hb5)
  rw [←hw5,←hP];clear hw5 hP q0 q1 q2;obtain ⟨q0,q1,_,_⟩:=two_cells (zU S5).b;go_wp2_with fail;go_loopw [12,13] (fun dv iv wr=>∃ (i:Nat) (dn:Bool) (A3:Option Addr) (c3:Nat) (l:List Fil),i≤n2∧iv = .int .i64 i∧dv = .bool dn∧l.length≤i+1∧(dn=false→l.length≤i)∧CompS w wr B E P #[.slice A n cap,.slice A2 n2 cap2] (.slice A' n cap') (.slice A3 l.length c3) ⟨a.ds,l⟩∧putGo F false a.fs=l++putGo F dn (a.fs.drop i)) (fun _ iv _=>n2-(intOf iv).toNat)
  case atStart=>exact ⟨0,false,none,0,[],Nat.zero_le _,rfl,rfl,by simp,fun _=>by simp,zU S5,by simp⟩
  case round =>
   clear q0 q1;obtain ⟨i,dn,A3,c3,l,hi,rfl,rfl,hll,hlf,hS,hgo⟩:=hrel;have HS:=zH hS;obtain ⟨q0,q1,_,_⟩:=two_cells hS.b;obtain ⟨p0,p1,p2,p3⟩:=hS.cells;obtain ⟨m,hm⟩:∃ m,m=l.length:=⟨_,rfl⟩
   rw [←hm] at p1 hll hlf;have hml:=hm.symm
   have hof:wr.ownsRow E 61 5 (.slice A3 m c3) m (filsCells l):=by
    have:=hS.o.f;rw [←hm] at this;exact this
   have HOF:=zH hof;rw [hml] at HS;have HML:=zH hml;have hEs:E≤wr.heap.size:=by have:=hS.lt;have:=hS.ep;omega
   by_cases hin2:i<n2
   ·have hin:=(zU HI).up (by rw [←zU HB];exact hS.bel);obtain ⟨b,off,g,rfl,hb,hf,x0,x1,x2,x3,x4⟩:=hin.f.at_ (k:=i) hin2;rw [fils_drop hf] at hgo;have z1:(i:Int)<(n2:Int):=by omega
    cases hls:lessB g.name file with
    | true =>
     have hnm2:g.name≠file:=by intro e;rw [e,lessB_irrefl] at hls;cases hls
     have s1:Op.bytesLess g.name file=true:=by rw [less_model];exact hls
     have d2:(g.name != file)=true:=by rw [bne_iff_ne];exact hnm2
     have d3:(g.name == file)=false:=by rw [beq_eq_false_iff_ne];exact hnm2
     cases dn with
     | true =>
      have HGO2:=zH (show putGo F false a.fs=(l++[g])++putGo F true (a.fs.drop (i+1)) by rw [hgo,putGo_step,zU HFN];first | (simp [hls,hnm2];done) | simp [hnm2,lessB_irrefl]);clear hf hin hgo hS hof hm hml hls hnm2 hlf;go_wp2_with fail;go_region_law ((refine step_push_fil rfl (.tmp 81) (.tmp 87) rfl E _ (m) (l) rfl (by first | exact ((zU HOF).alloc _) | exact ((zU HOF).alloc _).drew | exact (zU HOF).drew.alloc _) g wr.heap.size rfl (by first | exact heap_alloc_new _ _ | exact heap_alloc_new wr.drew _) (by omega) (by simp;omega) ?_;intro A9 c9 w9 hown9 hg9;have hpush9:=CompS.pushF (v2':=.slice A9 (m+1) c9) (f:=g) ((zU HS).below (by first | exact (Below.refl _ _).alloc (Nat.le_refl _) _ | exact ((Below.refl _ _).alloc (Nat.le_refl _) _).drew | exact (Below.refl _ _).drew.alloc (Nat.le_refl _) _)) hg9 (by have h9:=zU HML;show w9.ownsRow E 61 5 _ ((l).length+1) _;rw [h9];exact hown9);have HPUSH9:=zH hpush9;obtain ⟨y0,y1,y2,y3⟩:=two_cells hpush9.2.1;clear hown9 hg9 hpush9))
      all_goals
       go_wp2_with fail;go_roundw
       case rel =>
        refine ⟨i+1,true,A9,c9,l++[g],by omega,by go_num,rfl,by rw [List.length_append,zU HML];simp;omega,fun h=>by first | (cases h;done) | (rw [List.length_append,zU HML];simp;omega),?_,zU HGO2⟩;rw [show (l++[g]).length=m+1 from by rw [List.length_append,zU HML];rfl];exact (zU HPUSH9).1
       case measure=>simp [intOf];omega
     | false =>
      have hlf2:=hlf rfl;have HGO2:=zH (show putGo F false a.fs=(l++[g])++putGo F false (a.fs.drop (i+1)) by rw [hgo,putGo_step,zU HFN];first | (simp [hls,hnm2];done) | simp [hnm2,lessB_irrefl]);clear hf hin hgo hS hof hm hml hls hnm2 hlf;go_wp2_with fail;go_region_law ((refine step_push_fil rfl (.tmp 81) (.tmp 87) rfl E _ (m) (l) rfl (by first | exact ((zU HOF).alloc _) | exact ((zU HOF).alloc _).drew | exact (zU HOF).drew.alloc _) g wr.heap.size rfl (by first | exact heap_alloc_new _ _ | exact heap_alloc_new wr.drew _) (by omega) (by simp;omega) ?_;intro A9 c9 w9 hown9 hg9;have hpush9:=CompS.pushF (v2':=.slice A9 (m+1) c9) (f:=g) ((zU HS).below (by first | exact (Below.refl _ _).alloc (Nat.le_refl _) _ | exact ((Below.refl _ _).alloc (Nat.le_refl _) _).drew | exact (Below.refl _ _).drew.alloc (Nat.le_refl _) _)) hg9 (by have h9:=zU HML;show w9.ownsRow E 61 5 _ ((l).length+1) _;rw [h9];exact hown9);have HPUSH9:=zH hpush9;obtain ⟨y0,y1,y2,y3⟩:=two_cells hpush9.2.1;clear hown9 hg9 hpush9))
      all_goals
       go_wp2_with fail;go_roundw
       case rel =>
        refine ⟨i+1,false,A9,c9,l++[g],by omega,by go_num,rfl,by rw [List.length_append,zU HML];simp;omega,fun h=>by first | (cases h;done) | (rw [List.length_append,zU HML];simp;omega),?_,zU HGO2⟩;rw [show (l++[g]).length=m+1 from by rw [List.length_append,zU HML];rfl];exact (zU HPUSH9).1
       case measure=>simp [intOf];omega
    | false =>
     have s1:Op.bytesLess g.name file=false:=by rw [less_model];exact hls
     cases dn with
     | true =>
      by_cases hnm2:g.name=file
      ·have d2:(g.name != file)=false:=by rw [bne_eq_false_iff_eq];exact hnm2
       have d3:(g.name == file)=true:=by rw [beq_iff_eq];exact hnm2
       have HGO2:=zH (show putGo F false a.fs=(l)++putGo F true (a.fs.drop (i+1)) by rw [hgo,putGo_step,zU HFN];first | (simp [hnm2];done) | simp [hnm2,lessB_irrefl]);clear hf hin hgo hS hof hm hml hls hnm2 hlf;go_wp2_with fail;go_roundw
       case rel =>
        refine ⟨i+1,true,A3,c3,l,by omega,by go_num,rfl,by rw [zU HML];omega,fun h=>by first | (cases h;done) | (rw [zU HML];omega),?_,zU HGO2⟩;rw [zU HML];exact zU HS
       case measure=>simp [intOf];omega
      ·have d2:(g.name != file)=true:=by rw [bne_iff_ne];exact hnm2
       have d3:(g.name == file)=false:=by rw [beq_eq_false_iff_ne];exact hnm2
       have HGO2:=zH (show putGo F false a.fs=(l++[g])++putGo F true (a.fs.drop (i+1)) by rw [hgo,putGo_step,zU HFN];first | (simp [hls,hnm2];done) | simp [hnm2,lessB_irrefl]);clear hf hin hgo hS hof hm hml hls hnm2 hlf;go_wp2_with fail;go_region_law ((refine step_push_fil rfl (.tmp 81) (.tmp 87) rfl E _ (m) (l) rfl (by first | exact ((zU HOF).alloc _) | exact ((zU HOF).alloc _).drew | exact (zU HOF).drew.alloc _) g wr.heap.size rfl (by first | exact heap_alloc_new _ _ | exact heap_alloc_new wr.drew _) (by omega) (by simp;omega) ?_;intro A9 c9 w9 hown9 hg9;have hpush9:=CompS.pushF (v2':=.slice A9 (m+1) c9) (f:=g) ((zU HS).below (by first | exact (Below.refl _ _).alloc (Nat.le_refl _) _ | exact ((Below.refl _ _).alloc (Nat.le_refl _) _).drew | exact (Below.refl _ _).drew.alloc (Nat.le_refl _) _)) hg9 (by have h9:=zU HML;show w9.ownsRow E 61 5 _ ((l).length+1) _;rw [h9];exact hown9);have HPUSH9:=zH hpush9;obtain ⟨y0,y1,y2,y3⟩:=two_cells hpush9.2.1;clear hown9 hg9 hpush9))
       all_goals
        go_wp2_with fail;go_roundw
        case rel =>
         refine ⟨i+1,true,A9,c9,l++[g],by omega,by go_num,rfl,by rw [List.length_append,zU HML];simp;omega,fun h=>by first | (cases h;done) | (rw [List.length_append,zU HML];simp;omega),?_,zU HGO2⟩;rw [show (l++[g]).length=m+1 from by rw [List.length_append,zU HML];rfl];exact (zU HPUSH9).1
        case measure=>simp [intOf];omega
     | false =>
      have hlf2:=hlf rfl;have HFG:=zH hf
      by_cases hnm2:g.name=file
      ·have d2:(g.name != file)=false:=by rw [bne_eq_false_iff_eq];exact hnm2
       have d3:(g.name == file)=true:=by rw [beq_iff_eq];exact hnm2
       have HGO2:=zH (show putGo F false a.fs=(l++[F])++putGo F true (a.fs.drop (i+1)) by rw [hgo,putGo_step,zU HFN];first | (simp [hnm2];done) | simp [hnm2,lessB_irrefl]);clear hf hin hgo hS hof hm hml hls hnm2 hlf;go_wp2_with fail
       go_region_law ((first
         | (refine step_call4 rfl 79 64 65 66 67 _ rfl (.agg #[.slice A n cap,.slice (some ⟨b,off,none⟩) n2 cap2]) (S file) (S text) (I k) (by simp) (by simp) (by simp) (by simp) packedR_enters ((zU KP _ (by first | exact ((zU HS).below (Below.refl _ _).drew).bel | exact (zU HS).bel)).mono ?_);rintro e w4 ⟨rfl,hb4⟩;refine ⟨_,rfl,?_⟩;have hbw4:Below wr.heap.size wr w4:=(by first | exact (Below.refl _ _).drew.trans hb4 | exact hb4);have hs4:=(zU HS).below hbw4;have HS4:=zH hs4;have HOF4:=zH (own_below (zU HOF) hbw4);have p1':=hs4.cells.2.1;have HZ4:=zH hbw4.size;clear hbw4 hs4)
         | (refine step_push_fil rfl (.tmp 63) (.tmp 69) rfl E _ m l rfl (by first | exact ((zU HOF4).alloc _) | exact ((zU HOF4).alloc _).drew | exact (zU HOF4).drew.alloc _) F w4.heap.size rfl (by first | exact heap_alloc_new _ _ | exact heap_alloc_new w4.drew _) (by omega) (by have h9:=zU HZ4;simp;omega) ?_;intro A7 c7 w7 hown7 hg7;have hpush:=CompS.pushF (v2':=.slice A7 (m+1) c7) (f:=F) ((zU HS4).below (by first | exact (Below.refl _ _).alloc (Nat.le_refl _) _ | exact ((Below.refl _ _).alloc (Nat.le_refl _) _).drew | exact (Below.refl _ _).drew.alloc (Nat.le_refl _) _)) hg7 (by have h9:=zU HML;show w7.ownsRow E 61 5 _ (l.length+1) _;rw [h9];exact hown7);have HPUSH:=zH hpush;obtain ⟨u0,u1,u2,u3⟩:=two_cells hpush.2.1;clear hown7 hg7 hpush)))
       all_goals
        obtain ⟨w8,hw8⟩:∃ w8,w8=w7.setCell ⟨P,1,none⟩ (.slice A7 (m+1) c7):=⟨_,rfl⟩
        have hS8:CompS w w8 B E P #[.slice A n cap,.slice (some ⟨b,off,none⟩) n2 cap2] (.slice A' n cap') (.slice A7 (m+1) c7) ⟨a.ds,l++[F]⟩:=by rw [hw8];exact (zU HPUSH).1
        have HML8:=zH (show (l++[F]).length=m+1 from by rw [List.length_append,zU HML];rfl);have HOF8:=zH (show w8.ownsRow E 61 5 (.slice A7 (m+1) c7) (m+1) (filsCells (l++[F])) by have:=hS8.o.f;rw [show (⟨a.ds,l++[F]⟩:Arc).fs.length=m+1 from zU HML8] at this;exact this);have HS8:=zH hS8;have hEs8:E≤w8.heap.size:=by have:=hS8.lt;have:=hS8.ep;omega
        rw [←hw8];clear q0 q1 p0 p1 p2 p3 x0 x1 x2 x3 x4 u0 u1 u2 u3;obtain ⟨q0,q1,_,_⟩:=two_cells hS8.b;obtain ⟨p0,p1,p2,p3⟩:=hS8.cells;have hin8:=(zU HI).up (by rw [←zU HB];exact hS8.bel);obtain ⟨b9,off9,g9,he9,_,hf9,x0,x1,x2,x3,x4⟩:=hin8.f.at_ (k:=i) hin2;injection he9 with he9;injection he9 with he9a he9b _
        subst he9a;subst he9b;obtain rfl:g=g9:=by have:=(zU HFG).symm.trans hf9;injection this with e
        clear hf9 hin8 hw8 hS8;go_wp2_with fail;go_roundw
        case rel =>
         refine ⟨i+1,true,A7,c7,(l++[F]),by omega,by go_num,rfl,by rw [zU HML8];omega,fun h=>by first | (cases h;done) | (rw [zU HML8];omega),?_,zU HGO2⟩;rw [zU HML8];exact zU HS8
        case measure=>simp [intOf];omega
      ·have d2:(g.name != file)=true:=by rw [bne_iff_ne];exact hnm2
       have d3:(g.name == file)=false:=by rw [beq_eq_false_iff_ne];exact hnm2
       have HGO2:=zH (show putGo F false a.fs=((l++[F])++[g])++putGo F true (a.fs.drop (i+1)) by rw [hgo,putGo_step,zU HFN];first | (simp [hls,hnm2];done) | simp [hnm2,lessB_irrefl]);clear hf hin hgo hS hof hm hml hls hnm2 hlf;go_wp2_with fail
       go_region_law ((first
         | (refine step_call4 rfl 79 64 65 66 67 _ rfl (.agg #[.slice A n cap,.slice (some ⟨b,off,none⟩) n2 cap2]) (S file) (S text) (I k) (by simp) (by simp) (by simp) (by simp) packedR_enters ((zU KP _ (by first | exact ((zU HS).below (Below.refl _ _).drew).bel | exact (zU HS).bel)).mono ?_);rintro e w4 ⟨rfl,hb4⟩;refine ⟨_,rfl,?_⟩;have hbw4:Below wr.heap.size wr w4:=(by first | exact (Below.refl _ _).drew.trans hb4 | exact hb4);have hs4:=(zU HS).below hbw4;have HS4:=zH hs4;have HOF4:=zH (own_below (zU HOF) hbw4);have p1':=hs4.cells.2.1;have HZ4:=zH hbw4.size;clear hbw4 hs4)
         | (refine step_push_fil rfl (.tmp 63) (.tmp 69) rfl E _ m l rfl (by first | exact ((zU HOF4).alloc _) | exact ((zU HOF4).alloc _).drew | exact (zU HOF4).drew.alloc _) F w4.heap.size rfl (by first | exact heap_alloc_new _ _ | exact heap_alloc_new w4.drew _) (by omega) (by have h9:=zU HZ4;simp;omega) ?_;intro A7 c7 w7 hown7 hg7;have hpush:=CompS.pushF (v2':=.slice A7 (m+1) c7) (f:=F) ((zU HS4).below (by first | exact (Below.refl _ _).alloc (Nat.le_refl _) _ | exact ((Below.refl _ _).alloc (Nat.le_refl _) _).drew | exact (Below.refl _ _).drew.alloc (Nat.le_refl _) _)) hg7 (by have h9:=zU HML;show w7.ownsRow E 61 5 _ (l.length+1) _;rw [h9];exact hown7);have HPUSH:=zH hpush;obtain ⟨u0,u1,u2,u3⟩:=two_cells hpush.2.1;clear hown7 hg7 hpush)))
       all_goals
        obtain ⟨w8,hw8⟩:∃ w8,w8=w7.setCell ⟨P,1,none⟩ (.slice A7 (m+1) c7):=⟨_,rfl⟩
        have hS8:CompS w w8 B E P #[.slice A n cap,.slice (some ⟨b,off,none⟩) n2 cap2] (.slice A' n cap') (.slice A7 (m+1) c7) ⟨a.ds,l++[F]⟩:=by rw [hw8];exact (zU HPUSH).1
        have HML8:=zH (show (l++[F]).length=m+1 from by rw [List.length_append,zU HML];rfl);have HOF8:=zH (show w8.ownsRow E 61 5 (.slice A7 (m+1) c7) (m+1) (filsCells (l++[F])) by have:=hS8.o.f;rw [show (⟨a.ds,l++[F]⟩:Arc).fs.length=m+1 from zU HML8] at this;exact this);have HS8:=zH hS8;have hEs8:E≤w8.heap.size:=by have:=hS8.lt;have:=hS8.ep;omega
        rw [←hw8];clear q0 q1 p0 p1 p2 p3 x0 x1 x2 x3 x4 u0 u1 u2 u3;obtain ⟨q0,q1,_,_⟩:=two_cells hS8.b;obtain ⟨p0,p1,p2,p3⟩:=hS8.cells;have hin8:=(zU HI).up (by rw [←zU HB];exact hS8.bel);obtain ⟨b9,off9,g9,he9,_,hf9,x0,x1,x2,x3,x4⟩:=hin8.f.at_ (k:=i) hin2;injection he9 with he9;injection he9 with he9a he9b _
        subst he9a;subst he9b;obtain rfl:g=g9:=by have:=(zU HFG).symm.trans hf9;injection this with e
        clear hf9 hin8 hw8 hS8;go_wp2_with fail;go_region_law ((refine step_push_fil rfl (.tmp 81) (.tmp 87) rfl E _ ((m+1)) ((l++[F])) rfl (by first | exact ((zU HOF8).alloc _) | exact ((zU HOF8).alloc _).drew | exact (zU HOF8).drew.alloc _) g w8.heap.size rfl (by first | exact heap_alloc_new _ _ | exact heap_alloc_new w8.drew _) (by omega) (by simp;omega) ?_;intro A9 c9 w9 hown9 hg9;have hpush9:=CompS.pushF (v2':=.slice A9 ((m+1)+1) c9) (f:=g) ((zU HS8).below (by first | exact (Below.refl _ _).alloc (Nat.le_refl _) _ | exact ((Below.refl _ _).alloc (Nat.le_refl _) _).drew | exact (Below.refl _ _).drew.alloc (Nat.le_refl _) _)) hg9 (by have h9:=zU HML8;show w9.ownsRow E 61 5 _ (((l++[F])).length+1) _;rw [h9];exact hown9);have HPUSH9:=zH hpush9;obtain ⟨y0,y1,y2,y3⟩:=two_cells hpush9.2.1;clear hown9 hg9 hpush9))
        all_goals
         go_wp2_with fail;go_roundw
         case rel =>
          refine ⟨i+1,true,A9,c9,(l++[F])++[g],by omega,by go_num,rfl,by rw [List.length_append,zU HML8];simp;omega,fun h=>by first | (cases h;done) | (rw [List.length_append,zU HML8];simp;omega),?_,zU HGO2⟩;rw [show ((l++[F])++[g]).length=(m+1)+1 from by rw [List.length_append,zU HML8];rfl];exact (zU HPUSH9).1
         case measure=>simp [intOf];omega
   ·have hdr:a.fs.drop i=[]:=List.drop_of_length_le (by omega);rw [hdr] at hgo;have z1:¬ (i:Int)<(n2:Int):=by omega
    have z2:decide ((i:Int)<(n2:Int))=false:=by simp;omega
    cases dn with
    | true =>
     have HGO3:=zH (show putGo F false a.fs=l by rw [hgo];simp [putGo]);clear hdr hgo hS hof hm hml hlf;have hSf:=zU HS
     by_cases h13:12<m
     ·have HR:=zH (show r=(arc0,2) by rw [zU HP,if_pos (by rw [zU HGO3,zU HML];exact h13)]);have c1:(12:Int)<((m:Nat):Int):=by omega
      have e1:=setRow_heap _ (B+1) _ #[.slice none 0 0,.slice none 0 0] _ _ hSf.z;have e3:=below_setRow hSf.bel (show B≤B+1 by omega) #[.slice none 0 0,.slice none 0 0];have E1:=zH e1;have E3:=zH e3;have HZR:=zH hSf.z;clear hSf e1 e3;go_wp2_with (refine wpList_store_row rfl 33 (.tmp 8) (.tmp 106) rfl (B+1) #[.slice none 0 0,.slice none 0 0] rfl rfl 33 _ (zU HZR) sizeArc rfl all_nil2 ?_);refine bodyPost_ret (results_row_tmp rfl _ _ (B+1) 33 #[.slice none 0 0,.slice none 0 0] (0,0) _ rfl (zU E1) Tryz.underlying33 rfl sizeArc) rfl ?_;rw [zU HR];exact ⟨⟨_,_,rfl,OwnA.nil _ _⟩,zU E3⟩
     ·have HR:=zH (show r=(⟨a.ds,l⟩,0) by rw [zU HP,if_neg (by rw [zU HGO3,zU HML];exact h13),zU HGO3]);have c1:¬ (12:Int)<((m:Nat):Int):=by omega
      obtain ⟨e1,e2,e3⟩:=put_end hSf.z hSf.be hSf.o hSf.bel;have E1:=zH e1;have E2:=zH e2;have E3:=zH e3;have HZR:=zH hSf.z;clear hSf e1 e2 e3;go_wp2_with (refine wpList_store_row rfl 33 (.tmp 8) (.tmp 107) rfl (B+1) #[.slice A' n cap',.slice A3 (m) c3] rfl rfl 33 _ (zU HZR) sizeArc rfl (one_two _ _ _ _ _ _) ?_);refine bodyPost_ret (results_row_tmp rfl _ _ (B+1) 33 #[.slice A' n cap',.slice A3 (m) c3] (0,0) _ rfl (zU E1) Tryz.underlying33 rfl sizeArc) rfl ?_;rw [zU HR];exact ⟨⟨_,_,rfl,zU E2⟩,zU E3⟩
    | false =>
     have hlf2:=hlf rfl;have HGO3:=zH (show putGo F false a.fs=l++[F] by rw [hgo];simp [putGo]);clear hdr hgo hS hof hm hml hlf;go_wp2_with fail
     go_region_law ((first
       | (refine step_call4 rfl 79 94 95 96 97 _ rfl (.agg #[.slice A n cap,.slice A2 n2 cap2]) (S file) (S text) (I k) (by simp) (by simp) (by simp) (by simp) packedR_enters ((zU KP _ (by first | exact ((zU HS).below (Below.refl _ _).drew).bel | exact (zU HS).bel)).mono ?_);rintro e w4 ⟨rfl,hb4⟩;refine ⟨_,rfl,?_⟩;have hbw4:Below wr.heap.size wr w4:=(by first | exact (Below.refl _ _).drew.trans hb4 | exact hb4);have hs4:=(zU HS).below hbw4;have HS4:=zH hs4;have HOF4:=zH (own_below (zU HOF) hbw4);have p1':=hs4.cells.2.1;have HZ4:=zH hbw4.size;clear hbw4 hs4)
       | (refine step_push_fil rfl (.tmp 93) (.tmp 99) rfl E _ m l rfl (by first | exact ((zU HOF4).alloc _) | exact ((zU HOF4).alloc _).drew | exact (zU HOF4).drew.alloc _) F w4.heap.size rfl (by first | exact heap_alloc_new _ _ | exact heap_alloc_new w4.drew _) (by omega) (by have h9:=zU HZ4;simp;omega) ?_;intro A7 c7 w7 hown7 hg7;have hpush:=CompS.pushF (v2':=.slice A7 (m+1) c7) (f:=F) ((zU HS4).below (by first | exact (Below.refl _ _).alloc (Nat.le_refl _) _ | exact ((Below.refl _ _).alloc (Nat.le_refl _) _).drew | exact (Below.refl _ _).drew.alloc (Nat.le_refl _) _)) hg7 (by have h9:=zU HML;show w7.ownsRow E 61 5 _ (l.length+1) _;rw [h9];exact hown7);have HPUSH:=zH hpush;obtain ⟨u0,u1,u2,u3⟩:=two_cells hpush.2.1;clear hown7 hg7 hpush)))
     all_goals
      obtain ⟨w8,hw8⟩:∃ w8,w8=w7.setCell ⟨P,1,none⟩ (.slice A7 (m+1) c7):=⟨_,rfl⟩
      have hS8:CompS w w8 B E P #[.slice A n cap,.slice A2 n2 cap2] (.slice A' n cap') (.slice A7 (m+1) c7) ⟨a.ds,l++[F]⟩:=by rw [hw8];exact (zU HPUSH).1
      have HML8:=zH (show (l++[F]).length=m+1 from by rw [List.length_append,zU HML];rfl);have HS8:=zH hS8;rw [←hw8];clear q0 q1 p0 p1 p2 p3 u0 u1 u2 u3;obtain ⟨q0,q1,_,_⟩:=two_cells hS8.b;obtain ⟨p0,p1,p2,p3⟩:=hS8.cells;clear hw8 hS8;have hSf:=zU HS8
      by_cases h13:12<(m+1)
      ·have HR:=zH (show r=(arc0,2) by rw [zU HP,if_pos (by rw [zU HGO3,zU HML8];exact h13)]);have c1:(12:Int)<(((m+1):Nat):Int):=by omega
       have e1:=setRow_heap _ (B+1) _ #[.slice none 0 0,.slice none 0 0] _ _ hSf.z;have e3:=below_setRow hSf.bel (show B≤B+1 by omega) #[.slice none 0 0,.slice none 0 0];have E1:=zH e1;have E3:=zH e3;have HZR:=zH hSf.z;clear hSf e1 e3;go_wp2_with (refine wpList_store_row rfl 33 (.tmp 8) (.tmp 106) rfl (B+1) #[.slice none 0 0,.slice none 0 0] rfl rfl 33 _ (zU HZR) sizeArc rfl all_nil2 ?_);refine bodyPost_ret (results_row_tmp rfl _ _ (B+1) 33 #[.slice none 0 0,.slice none 0 0] (0,0) _ rfl (zU E1) Tryz.underlying33 rfl sizeArc) rfl ?_;rw [zU HR];exact ⟨⟨_,_,rfl,OwnA.nil _ _⟩,zU E3⟩
      ·have HR:=zH (show r=(⟨a.ds,l++[F]⟩,0) by rw [zU HP,if_neg (by rw [zU HGO3,zU HML8];exact h13),zU HGO3]);have c1:¬ (12:Int)<(((m+1):Nat):Int):=by omega
       obtain ⟨e1,e2,e3⟩:=put_end hSf.z hSf.be hSf.o hSf.bel;have E1:=zH e1;have E2:=zH e2;have E3:=zH e3;have HZR:=zH hSf.z;clear hSf e1 e2 e3;go_wp2_with (refine wpList_store_row rfl 33 (.tmp 8) (.tmp 107) rfl (B+1) #[.slice A' n cap',.slice A7 ((m+1)) c7] rfl rfl 33 _ (zU HZR) sizeArc rfl (one_two _ _ _ _ _ _) ?_);refine bodyPost_ret (results_row_tmp rfl _ _ (B+1) 33 #[.slice A' n cap',.slice A7 ((m+1)) c7] (0,0) _ rfl (zU E1) Tryz.underlying33 rfl sizeArc) rfl ?_;rw [zU HR];exact ⟨⟨_,_,rfl,zU E2⟩,zU E3⟩
end Go.Proofs.YtjpgoeimclipjaaGreat
namespace Go.Proofs.YtjpgoeimclipjaaGreat
open Go.RowKit Go.Lib Pl
theorem S_eq (a b:Bytes):((⟨a.toArray⟩:ByteArray).toList == (⟨b.toArray⟩:ByteArray).toList)=decide (a=b):=by
 rw [ByteArray.toList_eq,ByteArray.toList_eq];simp [Bool.beq_eq_decide_eq]
end Go.Proofs.YtjpgoeimclipjaaGreat
namespace Go.Proofs.YtjpgoeimclipjaaGreat
open Go.RowKit Go.Lib Pl
attribute [local go_sem] ext_list app_list
theorem fil_fields:Tryz.prog.underlying 61=some (.struct (Tryz.prog.fieldsOf 61)):=by kernel_rfl
theorem fil_stood:Tryz.prog.stoodInHeld 61=false:=by kernel_rfl
theorem fil_guard:Tryz.prog.eqGuardType Tryz.prog.depth 61=false:=by kernel_rfl
theorem run_neq_fil (w:World) (f g:Fil):(binOp .neq 61 (filV f) (filV g)).run Tryz.prog w = .ok (.bool (!decide (f=g))) w:=by
 obtain ⟨a,b,c,d,e⟩:=f;obtain ⟨a',b',c',d',e'⟩:=g;rw [run_neq_struct,run_equalIn_agg _ _ _ _ _ fil_fields fil_stood];simp only [Program.fieldsOf,Tryz.underlying61]
 have e1:∀ (x y:Bytes) w,(Op.equalIn 9999 9 (S x) (S y)).run Tryz.prog w = .ok (decide (x=y)) w:=fun x y w=>by
  rw [run_equalIn_string w 9998 _ _ _ Tryz.underlying9,S_eq]
 have e2:∀ (x y:Int) w,(Op.equalIn 9999 3 (I x) (I y)).run Tryz.prog w = .ok (x == y) w:=fun x y w=>run_equalIn_int w 9998 _ _ _ x y Tryz.underlying3;simp [Op.eqFields,part,e1,e2]
 by_cases h1:a=a' <;> by_cases h2:b=b' <;> by_cases h3:c=c' <;> by_cases h4:d=d' <;> by_cases h5:e=e' <;> simp [h1,h2,h3,h4,h5]
structure AB2 (A:Option Addr) (n cap:Nat) (A2:Option Addr) (n2 cap2:Nat) (a:Arc) (C:Option Addr) (m cap3:Nat) (C2:Option Addr) (m2 cap4:Nat) (c:Arc) (w W:World) (B:Nat):Prop where
 o:W.heap[B]? = some (.cells #[.slice A n cap,.slice A2 n2 cap2] 33 (0,0))
 p:W.heap[B+1]? = some (.cells #[.slice C m cap3,.slice C2 m2 cap4] 33 (0,0))
 i:ArcIn W A n A2 n2 a
 j:ArcIn W C m C2 m2 c
 bel:Below B w W
theorem AB2.c {A A2 C C2:Option Addr} {n cap n2 cap2 m cap3 m2 cap4 B:Nat} {a c:Arc} {w W:World} (h:AB2 A n cap A2 n2 cap2 a C m cap3 C2 m2 cap4 c w W B) :
  W.cell? ⟨B,0,none⟩=some (.slice A n cap)∧W.cell? ⟨B,1,none⟩=some (.slice A2 n2 cap2)∧W.cell? ⟨B+1,0,none⟩=some (.slice C m cap3)∧W.cell? ⟨B+1,1,none⟩=some (.slice C2 m2 cap4):=by
 refine ⟨?_,?_,?_,?_⟩
 ·rw [cell_of_row _ _ _ _ _ _ h.o];rfl
 ·rw [cell_of_row _ _ _ _ _ _ h.o];rfl
 ·rw [cell_of_row _ _ _ _ _ _ h.p];rfl
 ·rw [cell_of_row _ _ _ _ _ _ h.p];rfl
theorem AB2.below {A A2 C C2:Option Addr} {n cap n2 cap2 m cap3 m2 cap4 B:Nat} {a c:Arc} {w W W':World} (h:AB2 A n cap A2 n2 cap2 a C m cap3 C2 m2 cap4 c w W B) (hb:Below W.heap.size W W'):AB2 A n cap A2 n2 cap2 a C m cap3 C2 m2 cap4 c w W' B:=by
 have h1:=(Array.getElem?_eq_some_iff.1 h.o).1;have h2:=(Array.getElem?_eq_some_iff.1 h.p).1;exact ⟨(hb.block _ h1).trans h.o,(hb.block _ h2).trans h.p,h.i.up hb,h.j.up hb,h.bel.trans (hb.mono (Nat.le_of_lt h1))⟩
theorem AB2.new {A A2 C C2:Option Addr} {n n2 m m2:Nat} {a c:Arc} {w:World} (h:ArcIn w A n A2 n2 a) (h':ArcIn w C m C2 m2 c) (cap cap2 cap3 cap4:Nat) :
  AB2 A n cap A2 n2 cap2 a C m cap3 C2 m2 cap4 c w ((w.alloc (.cells #[.slice A n cap,.slice A2 n2 cap2] 33)).alloc (.cells #[.slice C m cap3,.slice C2 m2 cap4] 33)) w.heap.size :=
 ⟨(Below.heap_alloc _ _ _ (by simp)).trans (heap_alloc_new _ _),by have:=heap_alloc_new (w.alloc (.cells #[.slice A n cap,.slice A2 n2 cap2] 33)) (.cells #[.slice C m cap3,.slice C2 m2 cap4] 33);simpa using this,(h.alloc _).alloc _,(h'.alloc _).alloc _,((Below.refl _ _).alloc (Nat.le_refl _) _).alloc (by simp) _⟩
set_option maxHeartbeats 4000000 in
set_option maxRecDepth 100000 in
theorem sameArchives_any (A:Option Addr) (n cap:Nat) (A2:Option Addr) (n2 cap2:Nat) (a:Arc) (C:Option Addr) (m cap3:Nat) (C2:Option Addr) (m2 cap4:Nat) (c:Arc) (w:World) (h:ArcIn w A n A2 n2 a) (h':ArcIn w C m C2 m2 c) (hn:n≤4611686018427387904) (hn2:n2≤4611686018427387904) :
  Calls Tryz.prog 18 #[arcV A n cap A2 n2 cap2,arcV C m cap3 C2 m2 cap4] w fun e w'=>e = .returned (.bool (decide (a=c)))∧Below w.heap.size w w':=by
 obtain ⟨B,hB⟩:∃ B,B=w.heap.size:=⟨_,rfl⟩
 obtain ⟨w0,hw0⟩:∃ w0,w0=(w.alloc (.cells #[.slice A n cap,.slice A2 n2 cap2] 33)).alloc (.cells #[.slice C m cap3,.slice C2 m2 cap4] 33):=⟨_,rfl⟩
 have H0:=zH (show AB2 A n cap A2 n2 cap2 a C m cap3 C2 m2 cap4 c w w0 B by rw [hw0,hB];exact AB2.new h h' cap cap2 cap3 cap4);have hl1:=h.s.1;have hl2:=h.f.1;have hm1:=h'.s.1;have hm2:=h'.f.1;obtain ⟨ds,fs⟩:=a;obtain ⟨es,gs⟩:=c;simp only at hl1 hl2 hm1 hm2;obtain ⟨rs,hrs⟩:∃ rs,rs=decide ((⟨ds,fs⟩:Arc)=⟨es,gs⟩):=⟨_,rfl⟩
 rw [←hrs,←hB];have HB:=zH hB;have HW0:=zH hw0;have HRS:=zH hrs;clear hB hw0 h h' hrs
 by_cases hlen:¬ (n=m∧n2=m2)
 ·have hne:rs=false:=by
   rw [zU HRS,decide_eq_false];intro e;injection e with e1 e2
   subst e1;subst e2;exact hlen ⟨by omega,by omega⟩
  rw [hne]
  have hc:(((n:Int) == (m:Int))=false∧((n:Int) != (m:Int))=true)∨(((n:Int) == (m:Int))=true∧((n:Int) != (m:Int))=false∧((n2:Int) == (m2:Int))=false∧((n2:Int) != (m2:Int))=true):=by
   by_cases e:n=m
   ·right;have:n2≠m2:=fun e2=>hlen ⟨e,e2⟩;refine ⟨by rw [beq_iff_eq];omega,by rw [bne_eq_false_iff_eq];omega,by rw [beq_eq_false_iff_ne];omega,by rw [bne_iff_ne];omega⟩
   ·left;exact ⟨by rw [beq_eq_false_iff_ne];omega,by rw [bne_iff_ne];omega⟩
  clear hlen hne
  rcases hc with ⟨d1,d2⟩ | ⟨d1,d2,d3,d4⟩
  all_goals
   go_enter Tryz.func18,Tryz.ntmps18;go_upto_region 1 with fail
   rw [←zU HW0,←zU HB];obtain ⟨q0,q1,q2,q3⟩:=(zU H0).c;go_wp2_with fail;go_ret;exact ⟨rfl,(zU H0).bel⟩
 obtain ⟨e1,e2⟩:=Decidable.not_not.1 hlen;subst e1;subst e2;clear hlen;have d1:((n:Int) == (n:Int))=true:=by simp
 have d2:((n:Int) != (n:Int))=false:=by simp
 have d3:((n2:Int) == (n2:Int))=true:=by simp
 have d4:((n2:Int) != (n2:Int))=false:=by simp
 go_enter Tryz.func18,Tryz.ntmps18;go_upto_region 1 with fail
 rw [←zU HW0,←zU HB];obtain ⟨q0,q1,q2,q3⟩:=(zU H0).c;go_wp2_with fail;clear q0 q1 q2 q3 d1 d2 d3 d4;go_loopw [5] (fun iv wr=>∃ k:Nat,k≤n∧iv = .int .i64 k∧ds.take k=es.take k∧AB2 A n cap A2 n2 cap2 ⟨ds,fs⟩ C n cap3 C2 n2 cap4 ⟨es,gs⟩ w wr B) (fun iv _=>n-(intOf iv).toNat)
 case atStart=>exact ⟨0,Nat.zero_le _,rfl,rfl,zU H0⟩
 case round =>
  obtain ⟨k,hk,rfl,hs,hAB⟩:=hrel;have HAB:=zH hAB;obtain ⟨q0,q1,q2,q3⟩:=hAB.c
  by_cases hkn:k<n
  ·obtain ⟨b,off,t,rfl,hb,ht,hc⟩:=hAB.i.s.at_ (k:=k) hkn;obtain ⟨b',off',t',rfl,hb',ht',hc'⟩:=hAB.j.s.at_ (k:=k) hkn;have z0:(0:Int)≤(k:Int):=by omega
   have z1:(k:Int)<(n:Int):=by omega
   by_cases he:t=t'
   ·subst he
    have HS:=zH (show ds.take (k+1)=es.take (k+1) by
     have h1:ds[k]? = some t:=ht;have h2:es[k]? = some t:=ht';rw [List.take_add_one,List.take_add_one,hs,h1,h2])
    clear ht ht' hs hAB;go_wp2_with fail;go_quiet (fail);go_wp2_with fail;go_roundw
    case rel=>exact ⟨k+1,by omega,by go_num,zU HS,(zU HAB).below (_root_.Go.below_drewN (Below.refl _ _) _)⟩
    case measure=>simp [intOf];omega
   ·have hne:rs=false:=by
     rw [zU HRS,decide_eq_false];intro e;injection e with e1 e2
     have h1:ds[k]? = some t:=ht;have h2:es[k]? = some t':=ht';rw [e1,h2] at h1;injection h1 with h1
     exact he h1.symm
    have HN:=zH hne;have d2:(t != t')=true:=by rw [bne_iff_ne];exact he
    have d3:(t == t')=false:=by rw [beq_eq_false_iff_ne];exact he
    clear ht ht' hs hAB hne he;go_wp2_with fail;go_quiet (fail);go_wp2_with fail;go_ret;rw [zU HN];exact ⟨rfl,((zU HAB).below (_root_.Go.below_drewN (Below.refl _ _) _)).bel⟩
  ·have hds:ds=es:=by
    rw [List.take_of_length_le (by omega),List.take_of_length_le (by omega)] at hs;exact hs
   have HDS:=zH hds;have z1:¬ (k:Int)<(n:Int):=by omega
   have z2:decide ((k:Int)<(n:Int))=false:=by simp;omega
   clear hds hs hAB;go_wp2_with fail;clear q0 q1 q2 q3;go_loopw [6] (fun iv wr=>∃ k:Nat,k≤n2∧iv = .int .i64 k∧fs.take k=gs.take k∧AB2 A n cap A2 n2 cap2 ⟨ds,fs⟩ C n cap3 C2 n2 cap4 ⟨es,gs⟩ w wr B) (fun iv _=>n2-(intOf iv).toNat)
   case atStart=>exact ⟨0,Nat.zero_le _,rfl,rfl,zU HAB⟩
   case round =>
    clear HAB z1 z2 hk hkn;obtain ⟨j,hj,rfl,hs,hAB⟩:=hrel;have HAB:=zH hAB;obtain ⟨q0,q1,q2,q3⟩:=hAB.c
    by_cases hjn:j<n2
    ·obtain ⟨b,off,f,rfl,hb,hf,x0,x1,x2,x3,x4⟩:=hAB.i.f.at_ (k:=j) hjn;obtain ⟨b',off',g,rfl,hb',hg,y0,y1,y2,y3,y4⟩:=hAB.j.f.at_ (k:=j) hjn;have z0:(0:Int)≤(j:Int):=by omega
     have z1:(j:Int)<(n2:Int):=by omega
     have hgd:=fil_guard;have hq:=fun W=>run_neq_fil W f g;obtain ⟨f1,f2,f3,f4,f5⟩:=f;obtain ⟨g1,g2,g3,g4,g5⟩:=g
     by_cases he:(⟨f1,f2,f3,f4,f5⟩:Fil)=⟨g1,g2,g3,g4,g5⟩
     ·rw [decide_eq_true he] at hq
      have HS:=zH (show fs.take (j+1)=gs.take (j+1) by
       have h1:fs[j]? = some _:=hf;have h2:gs[j]? = some _:=hg;rw [List.take_add_one,List.take_add_one,hs,h1,h2,he])
      clear hf hg hs hAB he;go_wp2_with fail;go_quiet (fail);go_wp2_with fail;go_roundw
      case rel=>exact ⟨j+1,by omega,by go_num,zU HS,(zU HAB).below (_root_.Go.below_drewN (Below.refl _ _) _)⟩
      case measure=>simp [intOf];omega
     ·rw [decide_eq_false he] at hq
      have hne:rs=false:=by
       rw [zU HRS,decide_eq_false];intro e;injection e with e1 e2
       have h1:fs[j]? = some _:=hf;have h2:gs[j]? = some _:=hg;rw [e2,h2] at h1;injection h1 with h1
       exact he h1.symm
      have HN:=zH hne;clear hf hg hs hAB hne he;go_wp2_with fail;go_quiet (fail);go_wp2_with fail;go_ret;rw [zU HN];exact ⟨rfl,((zU HAB).below (_root_.Go.below_drewN (Below.refl _ _) _)).bel⟩
    ·have hfs:fs=gs:=by
      rw [List.take_of_length_le (by omega),List.take_of_length_le (by omega)] at hs;exact hs
     have hy:rs=true:=by rw [zU HRS,decide_eq_true];rw [hfs,zU HDS]
     have HY:=zH hy;have z1:¬ (j:Int)<(n2:Int):=by omega
     have z2:decide ((j:Int)<(n2:Int))=false:=by simp;omega
     clear hfs hs hAB hy;go_wp2_with fail;go_ret;rw [zU HY];exact ⟨rfl,(zU HAB).bel⟩
theorem sameArc (A:Option Addr) (n cap:Nat) (A2:Option Addr) (n2 cap2:Nat) (C:Option Addr) (m cap3:Nat) (C2:Option Addr) (m2 cap4:Nat) (a:Arc) (w:World) (h:ArcIn w A n A2 n2 a) (h':ArcIn w C m C2 m2 a) (hd:a.ds.length≤4) (hf:a.fs.length≤12) :
  Calls Tryz.prog 18 #[arcV A n cap A2 n2 cap2,arcV C m cap3 C2 m2 cap4] w fun e w'=>e = .returned (.bool true)∧Below w.heap.size w w':=by
 have h1:=h.s.1;have h2:=h.f.1;have:=sameArchives_any A n cap A2 n2 cap2 a C m cap3 C2 m2 cap4 a w h h' (by omega) (by omega);rw [decide_eq_true rfl] at this;exact this
end Go.Proofs.YtjpgoeimclipjaaGreat
namespace Go.Proofs.YtjpgoeimclipjaaGreat
open Go.RowKit Go.Lib Pl
attribute [local go_sem] ext_list app_list
theorem OwnA.last {w:World} {base p b:Nat} {v1 v2:Value} {a:Arc} (h:OwnA w base v1 v2 a) (hp:p<base) (hb:b≤base) (c:Array Value):OwnA (w.setRow p c) b v1 v2 a:=(h.setRow hp c).mono hb
end Go.Proofs.YtjpgoeimclipjaaGreat
namespace Go.Proofs.YtjpgoeimclipjaaGreat
open Go.RowKit Go.Lib Pl
attribute [local go_sem] ext_list app_list
section
variable {w W W' : World} {B : Nat} {C : Option Addr} {m kc : Nat} {C2 : Option Addr} {m2 kc2 : Nat} {a : Arc}
end
def ArcOut (base:Nat) (a:Arc) (e:Ending) (w':World):Prop:=∃ A n cap A2 n2 cap2,e = .returned (arcV A n cap A2 n2 cap2)∧OwnA w' base (.slice A n cap) (.slice A2 n2 cap2) a
theorem new_arc {W:World} {D:Option Addr} {n k:Nat} {D2:Option Addr} {n2 k2:Nat} : ((W.alloc (.cells #[.slice none 0 0,.slice none 0 0] 33)).setRow W.heap.size #[.slice D n k,.slice D2 n2 k2]).heap[W.heap.size]? = some (.cells #[.slice D n k,.slice D2 n2 k2] 33 (0,0))∧Below W.heap.size W ((W.alloc (.cells #[.slice none 0 0,.slice none 0 0] 33)).setRow W.heap.size #[.slice D n k,.slice D2 n2 k2]) :=
 ⟨setRow_heap _ _ _ _ _ _ (heap_alloc_new _ _),below_setRow ((Below.refl _ _).alloc (Nat.le_refl _) _) (Nat.le_refl _) _⟩
theorem bl_alloc {wr W:World} (h:Below wr.heap.size wr W) (o:Obj):Below wr.heap.size wr (W.alloc o):=h.alloc h.size _
theorem bl_drew {wr W:World} (h:Below wr.heap.size wr W):Below wr.heap.size wr W.drew:=h.drew
end Go.Proofs.YtjpgoeimclipjaaGreat
namespace Go.Proofs.YtjpgoeimclipjaaGreat
open Go.RowKit Go.Lib Pl
attribute [local go_sem] ext_list app_list
set_option maxRecDepth 100000 in
theorem step_own_strs {W w0:World} {ops:Array Oper} {o:Oper} {a:Act} {K:Act→World→Prop} {Q:Exit→Act→World→Prop} {E:Prop} (hgd:o.guard=none) (s x:Operand)
  (ho:o.op = .call { callee:=.builtin .append,args:=#[s,x],argTypes:=#[30,30] })
  (hB:Below w0.heap.size w0 W) (H:Nat) (hN:w0.heap.size≤H) (hrow:W.heap[H]? = some (.cells #[] 9 (0,0))) (A:Option Addr) (n cap:Nat) (l:List Bytes) (hl:StrsAt w0 w0.heap.size A n l) (hn:n*16≤140737488355328) (hs:a.eval s = .slice (some ⟨H,0,none⟩) 0 0) (hx:a.eval x = .slice A n cap)
  (h:∀ A' cap' w',w'.ownsRow w0.heap.size 9 1 (.slice A' n cap') n (l.map strS)→Below w0.heap.size w0 w'→W.grownBy w' (some H)→K (a.put o.dst (.slice A' n cap')) w') :
  if Region.wanted o (yielded ops a.tmps)=true then Oper.wp Tryz.prog o a W K Q else E:=by
 have hw:Region.wanted o (yielded ops a.tmps)=true:=by simp [Region.wanted,hgd]
 rw [if_pos hw];obtain ⟨i0,hi,hz0,hz1,hz2⟩:=info_parts info_str;have hHl:H<W.heap.size:=(Array.getElem?_eq_some_iff.1 hrow).1;have hmade:W.ownsRow w0.heap.size 9 1 (.slice (some ⟨H,0,none⟩) 0 0) 0 []:=⟨rfl,.inr ⟨H,0,#[],rfl,hN,hrow,Nat.le_refl _,Nat.zero_le _,rfl,rfl⟩⟩
 have hl':=hl.below hB;have hln:=hl.1
 have key:∃ A' cap' w',(Builtin.append_ #[30,30] o.type #[.slice (some ⟨H,0,none⟩) 0 0,.slice A n cap]).run Tryz.prog W = .ok (.slice A' n cap') w'∧w'.ownsRow w0.heap.size 9 1 (.slice A' n cap') n (l.map strS)∧W.grownBy w' (some H):=by
  cases A with
  | none =>
   have h0:n=0:=by
    rcases Nat.eq_zero_or_pos n with h | h
    ·exact h
    ·obtain ⟨b,off,e,_⟩:=hl.2 h;cases e
   subst h0;obtain rfl:l=[]:=List.eq_nil_of_length_eq_zero hln;refine ⟨some ⟨H,0,none⟩,0,W,?_,hmade,⟨rfl,rfl,rfl,Nat.le_refl _,fun _ _ _=>rfl⟩⟩;simp [Builtin.append_,run_underlying Tryz.underlying30,sizeOf,typeInfo,hi,Builtin.lenOf,Builtin.firstCells,storeCells]
  | some ad =>
   have hc:∀ j u,(l.map strS)[j]? = some u→W.cell? (ad.add j)=some u:=fun j u hj=>by
    rw [List.getElem?_map] at hj;cases hlj:l[j]? with
    | none=>rw [hlj] at hj;cases hj
    | some t =>
     rw [hlj] at hj;have hjl:=(List.getElem?_eq_some_iff.1 hlj).1;obtain ⟨b,off,e,hb,hcc⟩:=hl'.2 (by omega);cases e;simp only [Option.map_some,Option.some.injEq] at hj;subst hj;rw [Addr.add_lit];exact hcc j t hlj
   obtain ⟨v',w',h1,h2,h3,_⟩:=run_append_own (P:=Tryz.prog) W w0.heap.size 30 o.type 9 i0 _ 1 16 Tryz.underlying30 hi hz0 hz1 hz2 rfl (by decide) _ 0 [] hmade ad n cap (l.map strS) (by simp;omega) hc (strS_one l) (by unfold maxLen;omega) (by omega) (Nat.le_trans hN (Nat.le_of_lt hHl));rw [Nat.zero_add,List.nil_append] at h2;obtain ⟨A',cap',rfl,_⟩:=strsAt_of_own h2;exact ⟨A',cap',w',h1,h2,h3⟩
 obtain ⟨A',cap',w',h1,h2,h3⟩:=key;unfold Oper.wp execOp;simp only [ho,resolve,invoke,builtin,Sem.run_bind,Sem.run_pure,Result.andThen_ok,List.map_toArray,List.map_cons,List.map_nil,hs,hx,h1];exact h A' cap' w' h2 (hB.grown h3 (by have:=hB.size;omega) (fun k hk=>by injection hk with hk;omega)) h3
set_option maxRecDepth 100000 in
theorem step_own_fils {W w0:World} {ops:Array Oper} {o:Oper} {a:Act} {K:Act→World→Prop} {Q:Exit→Act→World→Prop} {E:Prop} (hgd:o.guard=none) (s x:Operand)
  (ho:o.op = .call { callee:=.builtin .append,args:=#[s,x],argTypes:=#[31,31] })
  (hB:Below w0.heap.size w0 W) (H:Nat) (hN:w0.heap.size≤H) (hrow:W.heap[H]? = some (.cells #[] 61 (0,0))) (A:Option Addr) (n cap:Nat) (l:List Fil) (hl:filsAt w0 w0.heap.size A n l) (hn:n*56≤140737488355328) (hs:a.eval s = .slice (some ⟨H,0,none⟩) 0 0) (hx:a.eval x = .slice A n cap)
  (h:∀ A' cap' w',w'.ownsRow w0.heap.size 61 5 (.slice A' n cap') n (filsCells l)→Below w0.heap.size w0 w'→W.grownBy w' (some H)→K (a.put o.dst (.slice A' n cap')) w') :
  if Region.wanted o (yielded ops a.tmps)=true then Oper.wp Tryz.prog o a W K Q else E:=by
 have hw:Region.wanted o (yielded ops a.tmps)=true:=by simp [Region.wanted,hgd]
 rw [if_pos hw];obtain ⟨i0,hi,hz0,hz1,hz2⟩:=info_parts info_fil;have hHl:H<W.heap.size:=(Array.getElem?_eq_some_iff.1 hrow).1;have hmade:W.ownsRow w0.heap.size 61 5 (.slice (some ⟨H,0,none⟩) 0 0) 0 []:=⟨rfl,.inr ⟨H,0,#[],rfl,hN,hrow,Nat.le_refl _,Nat.zero_le _,rfl,rfl⟩⟩
 have hl':=hl.below hB;have hln:=hl.1
 have key:∃ A' cap' w',(Builtin.append_ #[31,31] o.type #[.slice (some ⟨H,0,none⟩) 0 0,.slice A n cap]).run Tryz.prog W = .ok (.slice A' n cap') w'∧w'.ownsRow w0.heap.size 61 5 (.slice A' n cap') n (filsCells l)∧W.grownBy w' (some H):=by
  cases A with
  | none =>
   have h0:n=0:=by
    rcases Nat.eq_zero_or_pos n with h | h
    ·exact h
    ·obtain ⟨b,off,e,_⟩:=hl.2 h;cases e
   subst h0;obtain rfl:l=[]:=List.eq_nil_of_length_eq_zero hln;refine ⟨some ⟨H,0,none⟩,0,W,?_,hmade,⟨rfl,rfl,rfl,Nat.le_refl _,fun _ _ _=>rfl⟩⟩;simp [Builtin.append_,run_underlying Tryz.underlying31,sizeOf,typeInfo,hi,Builtin.lenOf,Builtin.firstCells,storeCells]
  | some ad =>
   by_cases h0:n=0
   ·subst h0;obtain rfl:l=[]:=List.eq_nil_of_length_eq_zero hln;obtain ⟨v',w',h1,h2,h3,_⟩:=run_append_own (P:=Tryz.prog) W w0.heap.size 31 o.type 61 i0 _ 5 56 Tryz.underlying31 hi hz0 hz1 hz2 rfl (by decide) _ 0 [] hmade ad 0 cap [] rfl (fun j u hj=>by simp at hj) (by simp) (by unfold maxLen;omega) (by omega) (Nat.le_trans hN (Nat.le_of_lt hHl));have h2':w'.ownsRow w0.heap.size 61 5 v' 0 (filsCells []):=h2;obtain ⟨A',cap',rfl,_⟩:=filsAt_of_own h2';exact ⟨A',cap',w',h1,h2',h3⟩
   ·obtain ⟨b,off,e,hb,hcc⟩:=hl'.2 (by omega);cases e
    have hcells:∀ j u,(filsCells l)[j]? = some u→W.cell? ((⟨b,off,none⟩:Addr).add j)=some u:=fun j u hj=>by
     have hj2:=(List.getElem?_eq_some_iff.1 hj).1;rw [filsCells_len] at hj2;have e:(⟨b,off,none⟩:Addr).add j=⟨b,off+j,none⟩:=by unfold Addr.add;split <;> simp_all
     rw [e];obtain ⟨q,r,hq,hr⟩:∃ q r,j=q*5+r∧r<5:=⟨j / 5,j % 5,by omega,by omega⟩
     have hql:q<l.length:=by omega
     obtain ⟨c0,c1,c2,c3,c4⟩:=hcc q _ (List.getElem?_eq_getElem hql);obtain ⟨d0,d1,d2,d3,d4⟩:=filsCells_get l q _ (List.getElem?_eq_getElem hql)
     rcases (show r=0∨r=1∨r=2∨r=3∨r=4 by omega) with h | h | h | h | h
     all_goals
      subst h;rw [hq] at hj ⊢
     ·rw [Nat.add_zero] at hj ⊢;rw [c0,←hj,d0]
     ·rw [←Nat.add_assoc,c1,←hj,d1]
     ·rw [←Nat.add_assoc,c2,←hj,d2]
     ·rw [←Nat.add_assoc,c3,←hj,d3]
     ·rw [←Nat.add_assoc,c4,←hj,d4]
    obtain ⟨v',w',h1,h2,h3,_⟩:=run_append_own (P:=Tryz.prog) W w0.heap.size 31 o.type 61 i0 _ 5 56 Tryz.underlying31 hi hz0 hz1 hz2 rfl (by decide) _ 0 [] hmade ⟨b,off,none⟩ n cap (filsCells l) (by rw [filsCells_len];omega) hcells (filsCells_one l) (by unfold maxLen;omega) (by omega) (Nat.le_trans hN (Nat.le_of_lt hHl));rw [Nat.zero_add,List.nil_append] at h2;obtain ⟨A',cap',rfl,_⟩:=filsAt_of_own h2;exact ⟨A',cap',w',h1,h2,h3⟩
 obtain ⟨A',cap',w',h1,h2,h3⟩:=key;unfold Oper.wp execOp;simp only [ho,resolve,invoke,builtin,Sem.run_bind,Sem.run_pure,Result.andThen_ok,List.map_toArray,List.map_cons,List.map_nil,hs,hx,h1];exact h A' cap' w' h2 (hB.grown h3 (by have:=hB.size;omega) (fun k hk=>by injection hk with hk;omega)) h3
theorem two_new (W:World) (a b:Obj):((W.alloc a).alloc b).heap[W.heap.size+1]? = some b:=by
 have:=heap_alloc_new (W.alloc a) b
 rwa [show (W.alloc a).heap.size=W.heap.size+1 from by simp] at this
theorem two_old (W:World) (a b:Obj):((W.alloc a).alloc b).heap[W.heap.size]? = some a:=(Below.heap_alloc _ _ _ (by simp)).trans (heap_alloc_new W a)
theorem two_oldD (W:World) (a b:Obj):((W.alloc a).alloc b).drew.heap[W.heap.size]? = some a:=two_old W a b
theorem two_newD (W:World) (a b:Obj):((W.alloc a).alloc b).drew.heap[W.heap.size+1]? = some b:=two_new W a b
theorem two_lt0 (W:World) (a b:Obj):W.heap.size<((W.alloc a).alloc b).drew.heap.size:=by show W.heap.size<((W.alloc a).alloc b).heap.size;simp;omega
theorem two_lt1 (W:World) (a b:Obj):W.heap.size+1<((W.alloc a).alloc b).drew.heap.size:=by show W.heap.size+1<((W.alloc a).alloc b).heap.size;simp
theorem two_ne0 (k:Nat):some k≠some (k+1):=by simp
theorem two_ne1 (k:Nat):some (k+1)≠some k:=by simp
theorem own_step {w3 W w5:World} {H base e size n:Nat} {v:Value} {xs:List Value} {c:Array Value} {T:TypeId} (h:w3.ownsRow base e size v n xs) (hb:Below w3.heap.size w3 W) (hg:W.grownBy w5 (some H)) (hr:W.heap[H]? = some (.cells c T (0,0))) (hne:e≠T):w5.ownsRow base e size v n xs:=by
 have h1:=own_below h hb;refine h1.kept hg (.inr fun e2=>?_);obtain ⟨c2,g2⟩:=own_obj h1 e2;rw [hr] at g2;injection g2 with g2
 injection g2 with _ g2 _
 exact hne g2.symm
theorem own_z {A A2:Option Addr} {n cap n2 cap2:Nat} {a:Arc} {w w0 W:World} {B:Nat} (h:AR A n cap A2 n2 cap2 a w w0 B) (hb:Below w0.heap.size w0 W):W.heap[B+1]? = some (.cells #[.slice none 0 0,.slice none 0 0] 33 (0,0)):=(hb.block _ h.lt).trans h.z
theorem own_fin {A A2 A3 A5:Option Addr} {n cap n2 cap2 c3 c5:Nat} {a:Arc} {w w0 W:World} {B:Nat} (h:AR A n cap A2 n2 cap2 a w w0 B) (hb:Below w0.heap.size w0 W) (h3:W.ownsRow w0.heap.size 9 1 (.slice A3 n c3) n (a.ds.map strS)) (h5:W.ownsRow w0.heap.size 61 5 (.slice A5 n2 c5) n2 (filsCells a.fs)) :
  (W.setRow (B+1) #[.slice A3 n c3,.slice A5 n2 c5]).heap[B+1]? = some (.cells #[.slice A3 n c3,.slice A5 n2 c5] 33 (0,0))∧OwnA (W.setRow (B+1) #[.slice A3 n c3,.slice A5 n2 c5]) B (.slice A3 n c3) (.slice A5 n2 c5) a∧Below B w (W.setRow (B+1) #[.slice A3 n c3,.slice A5 n2 c5]):=by
 have hlt:=h.lt;have e1:=h.ab.i.s.1;have e2:=h.ab.i.f.1;have ho:OwnA W w0.heap.size (.slice A3 n c3) (.slice A5 n2 c5) a:=⟨by rw [e1];exact h3,by rw [e2];exact h5⟩
 exact ⟨setRow_heap _ _ _ _ _ _ (own_z h hb),ho.last hlt (by omega) _,below_setRow (h.ab.bel.trans (hb.mono (by omega))) (by omega) _⟩
attribute [local go_sem] World.cell?_alloc_some in
set_option maxHeartbeats 4000000 in
set_option maxRecDepth 100000 in
theorem ownArchive_any (A:Option Addr) (n cap:Nat) (A2:Option Addr) (n2 cap2:Nat) (a:Arc) (w:World) (h:ArcIn w A n A2 n2 a) (hz1:n*16≤140737488355328) (hz2:n2*56≤140737488355328) :
  Calls Tryz.prog 43 #[arcV A n cap A2 n2 cap2] w fun e w'=>ArcOut w.heap.size a e w'∧Below w.heap.size w w':=by
 obtain ⟨B,hB⟩:∃ B,B=w.heap.size:=⟨_,rfl⟩
 obtain ⟨w0,hw0⟩:∃ w0,w0=(w.alloc (.cells #[.slice A n cap,.slice A2 n2 cap2] 33)).alloc (.cells #[.slice none 0 0,.slice none 0 0] 33):=⟨_,rfl⟩
 have H0:=zH (show AR A n cap A2 n2 cap2 a w w0 B by rw [hw0,hB];exact AR.new h cap cap2);have hl1:=h.s.1;have hl2:=h.f.1;have hst:=(zU H0).ab.i.s;have hfl:=(zU H0).ab.i.f;have HST:=zH hst;have HFL:=zH hfl;have HB:=zH hB;have HW0:=zH hw0;rw [←hB];clear hB hw0 h hst hfl;go_enter Tryz.func43,Tryz.ntmps43;go_upto_region 1 with fail
 rw [←zU HW0,←zU HB];obtain ⟨q0,q1⟩:=(zU H0).ab.c;have hBlt:B<w0.heap.size:=by have:=(zU H0).lt;omega
 have hB1:B+1<w0.heap.size:=(zU H0).lt;obtain ⟨z00,z01,g00,g01⟩:=two_cells (zU H0).z
 go_region_law (first
  | (refine step_own_strs rfl (.tmp 3) (.tmp 5) rfl (w0:=w0) (by first | exact bl_drew (bl_alloc (Below.refl _ _) _) | exact bl_drew (bl_alloc (bl_alloc (Below.refl _ _) _) _) | exact bl_drew (bl_alloc (by assumption) _) | exact bl_drew (by assumption) | assumption | exact bl_alloc (by assumption) _) _ (by first | exact Nat.le_refl _ | exact Nat.le_succ _ | assumption | (simp;done)) (by first | exact heap_alloc_new _ _ | exact two_newD _ _ _ | exact two_oldD _ _ _ | exact two_new _ _ _ | exact two_old _ _ _ | exact (Below.heap_alloc _ _ _ (by simp)).trans (heap_alloc_new _ _) | assumption | (simp;done)) A n cap a.ds (zU HST) hz1 rfl rfl ?_;intro A3 c3 w3 hown3 hb3 hg3;have HO3:=zH hown3;have HB3:=zH hb3;have hle3:w0.heap.size≤w3.heap.size:=hb3.size;have hbw3:Below w0.heap.size w0 w3:=hb3;have s30:=(hb3.cell (p:=⟨B,0,none⟩) hBlt).trans q0;have s31:=(hb3.cell (p:=⟨B,1,none⟩) hBlt).trans q1;obtain ⟨z30,z31,g30,g31⟩:=two_cells ((hb3.block (B+1) hB1).trans (zU H0).z);(try (have e3:w3.heap[w0.heap.size]? = some (.cells #[] 61 (0,0)):=(hg3.block w0.heap.size (two_lt0 _ _ _) (two_ne0 _)).trans (by first | exact heap_alloc_new _ _ | exact two_newD _ _ _ | exact two_oldD _ _ _ | exact two_new _ _ _ | exact two_old _ _ _ | exact (Below.heap_alloc _ _ _ (by simp)).trans (heap_alloc_new _ _) | assumption | (simp;done))));(try (have e3':w3.heap[w0.heap.size+1]? = some (.cells #[] 61 (0,0)):=(hg3.block (w0.heap.size+1) (two_lt1 _ _ _) (two_ne1 _)).trans (by first | exact heap_alloc_new _ _ | exact two_newD _ _ _ | exact two_oldD _ _ _ | exact two_new _ _ _ | exact two_old _ _ _ | exact (Below.heap_alloc _ _ _ (by simp)).trans (heap_alloc_new _ _) | assumption | (simp;done))));(try (have hot3:=own_step (zU HO5) (by first | exact bl_drew (bl_alloc (Below.refl _ _) _) | exact bl_alloc (Below.refl _ _) _ | exact bl_drew (Below.refl _ _) | exact Below.refl _ _) hg3 (by first | exact heap_alloc_new _ _ | exact two_newD _ _ _ | exact two_oldD _ _ _ | exact two_new _ _ _ | exact two_old _ _ _ | exact (Below.heap_alloc _ _ _ (by simp)).trans (heap_alloc_new _ _) | assumption | (simp;done)) (by decide);have HOT3:=zH hot3;clear hot3));clear hown3 hb3 hg3)
  | (refine step_own_fils rfl (.tmp 7) (.tmp 9) rfl (w0:=w0) (by first | exact bl_drew (bl_alloc (Below.refl _ _) _) | exact bl_drew (bl_alloc (bl_alloc (Below.refl _ _) _) _) | exact bl_drew (bl_alloc (by assumption) _) | exact bl_drew (by assumption) | assumption | exact bl_alloc (by assumption) _) _ (by first | exact Nat.le_refl _ | exact Nat.le_succ _ | assumption | (simp;done)) (by first | exact heap_alloc_new _ _ | exact two_newD _ _ _ | exact two_oldD _ _ _ | exact two_new _ _ _ | exact two_old _ _ _ | exact (Below.heap_alloc _ _ _ (by simp)).trans (heap_alloc_new _ _) | assumption | (simp;done)) A2 n2 cap2 a.fs (zU HFL) hz2 rfl rfl ?_;intro A5 c5 w5 hown5 hb5 hg5;have HO5:=zH hown5;have HB5:=zH hb5;have hle5:w0.heap.size≤w5.heap.size:=hb5.size;have hbw5:Below w0.heap.size w0 w5:=hb5;have s50:=(hb5.cell (p:=⟨B,0,none⟩) hBlt).trans q0;have s51:=(hb5.cell (p:=⟨B,1,none⟩) hBlt).trans q1;obtain ⟨z50,z51,g50,g51⟩:=two_cells ((hb5.block (B+1) hB1).trans (zU H0).z);(try (have e5:w5.heap[w0.heap.size]? = some (.cells #[] 9 (0,0)):=(hg5.block w0.heap.size (two_lt0 _ _ _) (two_ne0 _)).trans (by first | exact heap_alloc_new _ _ | exact two_newD _ _ _ | exact two_oldD _ _ _ | exact two_new _ _ _ | exact two_old _ _ _ | exact (Below.heap_alloc _ _ _ (by simp)).trans (heap_alloc_new _ _) | assumption | (simp;done))));(try (have e5':w5.heap[w0.heap.size+1]? = some (.cells #[] 9 (0,0)):=(hg5.block (w0.heap.size+1) (two_lt1 _ _ _) (two_ne1 _)).trans (by first | exact heap_alloc_new _ _ | exact two_newD _ _ _ | exact two_oldD _ _ _ | exact two_new _ _ _ | exact two_old _ _ _ | exact (Below.heap_alloc _ _ _ (by simp)).trans (heap_alloc_new _ _) | assumption | (simp;done))));(try (have hot5:=own_step (zU HO3) (by first | exact bl_drew (bl_alloc (Below.refl _ _) _) | exact bl_alloc (Below.refl _ _) _ | exact bl_drew (Below.refl _ _) | exact Below.refl _ _) hg5 (by first | exact heap_alloc_new _ _ | exact two_newD _ _ _ | exact two_oldD _ _ _ | exact two_new _ _ _ | exact two_old _ _ _ | exact (Below.heap_alloc _ _ _ (by simp)).trans (heap_alloc_new _ _) | assumption | (simp;done)) (by decide);have HOT5:=zH hot5;clear hot5));clear hown5 hb5 hg5))
 all_goals
  first
   | (rw [set_two (own_z (zU H0) hbw5)];have HF:=zH (own_fin (zU H0) hbw5 (zU HOT5) (zU HO5)))
   | (rw [set_two (own_z (zU H0) hbw3)];have HF:=zH (own_fin (zU H0) hbw3 (zU HO3) (zU HOT3)))
  go_wp2_with fail;refine bodyPost_ret (results_cell_row rfl _ _ (B+1) 33 _ (0,0) _ rfl (zU HF).1 Tryz.underlying33 rfl sizeArc) rfl ?_;exact ⟨⟨_,_,_,_,_,_,rfl,(zU HF).2.1⟩,(zU HF).2.2⟩
end Go.Proofs.YtjpgoeimclipjaaGreat
namespace Go.Proofs.YtjpgoeimclipjaaGreat
open Go.RowKit Go.Lib Pl
def spB:Bytes:=[115,112,111,105,108,116]
def spF:Fil:=⟨spB,0,0,0,[]⟩
def RowS (W:World) (E:Nat) (v:Value):Prop:=∃ A n cap,∃ l:List Bytes,v = .slice A n cap∧W.ownsRow E 9 1 v n (l.map strS)
def RowF (W:World) (E:Nat) (v:Value):Prop:=∃ A n cap,∃ l:List Fil,v = .slice A n cap∧W.ownsRow E 61 5 v n (filsCells l)
section
variable {W W' : World} {E : Nat} {v : Value}
theorem RowS.kept {row:Option Nat} (h:RowS W E v) (hg:W.grownBy W' row) (hne:v.ownBlock=none∨v.ownBlock≠row):RowS W' E v:=by
 obtain ⟨A,n,cap,l,e,ho⟩:=h;exact ⟨A,n,cap,l,e,ho.kept hg hne⟩
theorem RowF.kept {row:Option Nat} (h:RowF W E v) (hg:W.grownBy W' row) (hne:v.ownBlock=none∨v.ownBlock≠row):RowF W' E v:=by
 obtain ⟨A,n,cap,l,e,ho⟩:=h;exact ⟨A,n,cap,l,e,ho.kept hg hne⟩
theorem grown_setCell {g k:Nat} {cs:Array Value} {T:TypeId} {fz:Nat×Nat} (hg:W.heap[g]? = some (.cells cs T fz)) (u:Value):W.grownBy (W.setCell ⟨g,k,none⟩ u) (some g):=by
 rw [setCell_eq_setRow W g k _ _ _ _ hg];exact ⟨rfl,rfl,rfl,by simp [World.setRow],fun q hq hne=>setRow_other W g q _ (fun e=>hne (by rw [e]))⟩
theorem RowS.far {g:Nat} {cs:Array Value} {T:TypeId} {fz:Nat×Nat} (h:RowS W E v) (hg:W.heap[g]? = some (.cells cs T fz)) (hT:T≠9):v.ownBlock=none∨v.ownBlock≠some g:=by
 obtain ⟨A,n,cap,l,e,ho⟩:=h;refine .inr fun e2=>?_;obtain ⟨c2,g2⟩:=own_obj ho e2;rw [hg] at g2;injection g2 with g2;injection g2 with _ g2 _;exact hT g2
theorem RowF.far {g:Nat} {cs:Array Value} {T:TypeId} {fz:Nat×Nat} (h:RowF W E v) (hg:W.heap[g]? = some (.cells cs T fz)) (hT:T≠61):v.ownBlock=none∨v.ownBlock≠some g:=by
 obtain ⟨A,n,cap,l,e,ho⟩:=h;refine .inr fun e2=>?_;obtain ⟨c2,g2⟩:=own_obj ho e2;rw [hg] at g2;injection g2 with g2;injection g2 with _ g2 _;exact hT g2
theorem RowS.set (h:RowS W E v) {g k:Nat} {cur:Array Value} (hg:W.heap[g]? = some (.cells cur 9 (0,0))) (x:Bytes):RowS (W.setCell ⟨g,k,none⟩ (S x)) E v:=by
 obtain ⟨A,n,cap,l,e,ho⟩:=h
 by_cases hb:v.ownBlock=some g
 ·rw [setCell_eq_setRow W g k _ _ _ _ hg]
  rcases ho.2 with ⟨hv,_⟩ | ⟨g',cap',cur',hv,hbb,hgg,hn,hc,hs,ht⟩
  ·rw [hv] at hb;simp [Value.ownBlock] at hb
  ·have:g'=g:=by rw [hv] at hb;simpa [Value.ownBlock] using hb
   subst this;rw [hg] at hgg;injection hgg with hgg
   injection hgg with hcur
   subst hcur;refine ⟨A,n,cap,l.set k x,e,⟨?_,.inr ⟨g',cap',_,hv,hbb,setRow_heap _ _ _ _ _ _ hg,hn,hc,by simpa using hs,?_⟩⟩⟩
   ·rw [List.length_map,List.length_set];simpa using ho.1
   ·rw [Array.toList_setIfInBounds,List.take_set,ht,List.map_set];rfl
 ·exact ⟨A,n,cap,l,e,ho.kept (grown_setCell hg _) (.inr hb)⟩
theorem RowF.set (h:RowF W E v) {g n0 cap0 k:Nat} {l0:List Fil} (h0:W.ownsRow E 61 5 (.slice (some ⟨g,0,none⟩) n0 cap0) n0 (filsCells l0)) (hk:k<n0) (f:Fil):RowF (W.setCells g (k*5) (filCells f)) E v:=by
 obtain ⟨A,n,cap,l,e,ho⟩:=h;obtain ⟨_,s2,s3,_⟩:=ownFil_set h0 hk f
 by_cases hb:v.ownBlock=some g
 ·rcases ownsFil_form ho with ⟨hv,_⟩ | ⟨g',cap',hv⟩
  ·rw [hv] at hb;simp [Value.ownBlock] at hb
  ·have:g'=g:=by rw [hv] at hb;simpa [Value.ownBlock] using hb
   subst this;rw [hv] at ho e
   by_cases hkn:k<n
   ·rw [hv];exact ⟨A,n,cap,_,e,(ownFil_set ho hkn f).2.1⟩
   ·obtain ⟨cur,hbb,hgg,hn,hc,hs,ht⟩:=ownsFil_row ho;obtain ⟨cur0,_,hg0,hn0,_,hs0,_⟩:=ownsFil_row h0;rw [hgg] at hg0;injection hg0 with hg0
    injection hg0 with hcur
    subst hcur;obtain ⟨cur2,_,hg2,hn2,_,hs2,ht2⟩:=ownsFil_row s2;have hl0:=ownsFil_len s2;have hcc:cap'=cap0:=by omega
    rw [hv];refine ⟨A,n,cap,(l0.set k f).take n,e,ownsFil_mk hbb hg2 hn hc (by omega) (by rw [List.length_take,hl0];omega) ?_⟩;rw [←filsCells_take (by rw [hl0];omega),←ht2,List.take_take,Nat.min_eq_left (by omega)]
 ·exact ⟨A,n,cap,l,e,ho.kept s3 (.inr hb)⟩
end
structure Sp (w1 W:World) (E L:Nat) (b1 b2 c1 c2 d1 d2:Value):Prop where
 bel:Below E w1 W
 le:E≤W.heap.size
 l:W.heap[L]? = some (.cells #[b1,b2,c1,c2,d1,d2] 33 (0,0))
 s1:RowS W E b1
 f1:RowF W E b2
 s2:RowS W E c1
 f2:RowF W E c2
 s3:RowS W E d1
 f3:RowF W E d2
section
variable {w1 W W' : World} {E L : Nat} {b1 b2 c1 c2 d1 d2 : Value}
theorem Sp.setS (h:Sp w1 W E L b1 b2 c1 c2 d1 d2) {g k:Nat} {cur:Array Value} (hg:W.heap[g]? = some (.cells cur 9 (0,0))) (hE:E≤g) (x:Bytes):Sp w1 (W.setCell ⟨g,k,none⟩ (S x)) E L b1 b2 c1 c2 d1 d2:=by
 have hgr:=grown_setCell (k:=k) hg (S x)
 have hL:some L≠some g:=fun e=>by
  injection e with e;subst e
  have:=h.l;rw [hg] at this;injection this with this;injection this with _ this _;exact absurd this (by decide)
 exact ⟨h.bel.grown hgr h.le (fun q hq=>by injection hq with hq;omega),Nat.le_trans h.le hgr.size,(hgr.block L (Array.getElem?_eq_some_iff.1 h.l).1 hL).trans h.l,
  h.s1.set hg x,h.f1.kept hgr (h.f1.far hg (by decide)),h.s2.set hg x,h.f2.kept hgr (h.f2.far hg (by decide)),h.s3.set hg x,h.f3.kept hgr (h.f3.far hg (by decide))⟩
theorem Sp.setF (h:Sp w1 W E L b1 b2 c1 c2 d1 d2) {g n0 cap0 k:Nat} {l0:List Fil} (h0:W.ownsRow E 61 5 (.slice (some ⟨g,0,none⟩) n0 cap0) n0 (filsCells l0)) (hk:k<n0) (f:Fil):Sp w1 (W.setCells g (k*5) (filCells f)) E L b1 b2 c1 c2 d1 d2:=by
 obtain ⟨_,_,hgr,hE⟩:=ownFil_set h0 hk f;obtain ⟨cur,_,hg,_⟩:=ownsFil_row h0
 have hL:some L≠some g:=fun e=>by
  injection e with e;subst e
  have:=h.l;rw [hg] at this;injection this with this;injection this with _ this _;exact absurd this (by decide)
 exact ⟨h.bel.grown hgr h.le (fun q hq=>by injection hq with hq;omega),Nat.le_trans h.le hgr.size,(hgr.block L (Array.getElem?_eq_some_iff.1 h.l).1 hL).trans h.l,
  h.s1.kept hgr (h.s1.far hg (by decide)),h.f1.set h0 hk f,h.s2.kept hgr (h.s2.far hg (by decide)),h.f2.set h0 hk f,h.s3.kept hgr (h.s3.far hg (by decide)),h.f3.set h0 hk f⟩
theorem Sp.at_ (h:Sp w1 W E L b1 b2 c1 c2 d1 d2) {i:Nat} (hi:i<3):∃ A n cap A2 n2 cap2,∃ (l:List Bytes) (l2:List Fil),W.cell? ⟨L,i*2,none⟩=some (.slice A n cap)∧W.cell? ⟨L,i*2+1,none⟩=some (.slice A2 n2 cap2) ∧
  W.ownsRow E 9 1 (.slice A n cap) n (l.map strS)∧W.ownsRow E 61 5 (.slice A2 n2 cap2) n2 (filsCells l2):=by
 have hc:=fun j=>cell_of_row W L j _ _ _ h.l
 rcases (show i=0∨i=1∨i=2 by omega) with e | e | e <;> subst e
 ·obtain ⟨A,n,cap,l,e1,o1⟩:=h.s1;obtain ⟨A2,n2,cap2,l2,e2,o2⟩:=h.f1;subst e1;subst e2;exact ⟨A,n,cap,A2,n2,cap2,l,l2,by rw [hc];rfl,by rw [hc];rfl,o1,o2⟩
 ·obtain ⟨A,n,cap,l,e1,o1⟩:=h.s2;obtain ⟨A2,n2,cap2,l2,e2,o2⟩:=h.f2;subst e1;subst e2;exact ⟨A,n,cap,A2,n2,cap2,l,l2,by rw [hc];rfl,by rw [hc];rfl,o1,o2⟩
 ·obtain ⟨A,n,cap,l,e1,o1⟩:=h.s3;obtain ⟨A2,n2,cap2,l2,e2,o2⟩:=h.f3;subst e1;subst e2;exact ⟨A,n,cap,A2,n2,cap2,l,l2,by rw [hc];rfl,by rw [hc];rfl,o1,o2⟩
end
theorem ownStr_at {w:World} {E n cap k:Nat} {A:Option Addr} {l:List Bytes} (h:w.ownsRow E 9 1 (.slice A n cap) n (l.map strS)) (hk:k<n):∃ g cur t,A=some ⟨g,0,none⟩∧E≤g∧w.heap[g]? = some (.cells cur 9 (0,0))∧w.cell? ⟨g,k,none⟩=some (S t)∧w.frozen? ⟨g,k,none⟩=false:=by
 rcases h.2 with ⟨hv,h0⟩ | ⟨g,cap',cur,hv,hb,hg,hn,hc,hs,ht⟩
 ·omega
 ·injection hv with hA _ _
  have hl:k<l.length:=by have:=h.1;simp at this;omega
  have hc:=h.cells (g:=g) (by rw [hA];rfl) k (S l[k]) (by rw [List.getElem?_map,List.getElem?_eq_getElem hl];rfl);rw [Addr.add_lit,Nat.zero_add] at hc;exact ⟨g,cur,_,hA,hb,hg,hc,by simp [World.frozen?,hg]⟩
end Go.Proofs.YtjpgoeimclipjaaGreat
namespace Go.Proofs.YtjpgoeimclipjaaGreat
open Go.RowKit Go.Lib Pl
attribute [local go_sem] ext_list app_list
theorem ArcOut.open {base:Nat} {a:Arc} {e:Ending} {w:World} (h:ArcOut base a e w):∃ A n cap A2 n2 cap2,e = .returned (arcV A n cap A2 n2 cap2)∧ArcIn w A n A2 n2 a∧n≤cap∧OwnA w base (.slice A n cap) (.slice A2 n2 cap2) a:=by
 obtain ⟨A,n,cap,A2,n2,cap2,he,ho⟩:=h;exact ⟨A,n,cap,A2,n2,cap2,he,ho.inn,by have h1:=ho.s;rw [ho.inn.s.1] at h1;exact own_cap h1,ho⟩
theorem rowS_of {W:World} {E:Nat} {v1 v2:Value} {a:Arc} (h:OwnA W E v1 v2 a):RowS W E v1:=by
 obtain ⟨A,cap,A2,cap2,e1,e2,_⟩:=h.form;exact ⟨A,_,cap,a.ds,e1,h.s⟩
theorem rowF_of {W:World} {E:Nat} {v1 v2:Value} {a:Arc} (h:OwnA W E v1 v2 a):RowF W E v2:=by
 obtain ⟨A,cap,A2,cap2,e1,e2,_⟩:=h.form;exact ⟨A2,_,cap2,a.fs,e2,h.f⟩
theorem sameBig (A:Option Addr) (n cap:Nat) (A2:Option Addr) (n2 cap2:Nat) (C:Option Addr) (m cap3:Nat) (C2:Option Addr) (m2 cap4:Nat) (a:Arc) (w:World) (h:ArcIn w A n A2 n2 a) (h':ArcIn w C m C2 m2 a) (hz:ArcSz a) :
  Calls Tryz.prog 18 #[arcV A n cap A2 n2 cap2,arcV C m cap3 C2 m2 cap4] w fun e w'=>e = .returned (.bool true)∧Below w.heap.size w w':=by
 have h1:=h.s.1;have h2:=h.f.1;have:=sameArchives_any A n cap A2 n2 cap2 a C m cap3 C2 m2 cap4 a w h h' (by have:=hz.nd;omega) (by have:=hz.nf;omega);rw [decide_eq_true rfl] at this;exact this
theorem own_max {w:World} {base e size n cap:Nat} {A:Option Addr} {xs:List Value} (h:w.ownsRow base e size (.slice A n cap) n xs):n≤9223372036854775807:=by
 rcases h.2 with ⟨hv,h0⟩ | ⟨g,cap',cur,hv,_,_,hn,hc,_⟩
 ·omega
 ·unfold maxLen at hc;omega
set_option maxHeartbeats 8000000 in
set_option maxRecDepth 100000 in
theorem restArchives_any (A:Option Addr) (n cap:Nat) (A2:Option Addr) (n2 cap2:Nat) (a:Arc) (name text:Bytes) (size:Int) (w:World) (h:ArcIn w A n A2 n2 a) (hz:ArcSz a) (hb1:n*16≤140737488355328) (hb2:n2*56≤140737488355328) (hnl:name.length≤140737488355328) (htl:text.length≤140737488355328) (hm:MaxLenIs w) :
  Calls Tryz.prog 11 #[arcV A n cap A2 n2 cap2,S name,S text,I size] w fun e w'=>e = .returned (.bool true)∧Below w.heap.size w w':=by
 obtain ⟨r1,hr1⟩:∃ r,r=put a name text 0:=⟨_,rfl⟩
 obtain ⟨r2,hr2⟩:∃ r,r=retrain a size:=⟨_,rfl⟩
 obtain ⟨r3,hr3⟩:∃ r,r=compact a:=⟨_,rfl⟩
 have CO:=fun (W:World) (hi:ArcIn W A n A2 n2 a)=>ownArchive_any A n cap A2 n2 cap2 a W hi hb1 hb2;have C1:=fun (W:World) (hi:ArcIn W A n A2 n2 a)=>put_any A n cap A2 n2 cap2 a name text 0 W hi hz hnl (by omega) (by decide) (by decide);have C2:=fun (W:World) (hi:ArcIn W A n A2 n2 a) (hM:MaxLenIs W)=>retrain_any A n cap A2 n2 cap2 a size W hi hz hM;have C3:=fun (W:World) (hi:ArcIn W A n A2 n2 a)=>compact_any A n cap A2 n2 cap2 a W hi hz;have D1:=fun (W:World) (hi:ArcIn W A n A2 n2 a)=>putOf_any A n cap A2 n2 cap2 a name text 0 W hi hz hnl (by omega);have D2:=fun (W:World) (hi:ArcIn W A n A2 n2 a)=>retrainOf_any A n cap A2 n2 cap2 a size W hi hz;have D3:=fun (W:World) (hi:ArcIn W A n A2 n2 a)=>compactOf_any A n cap A2 n2 cap2 a W hi hz;have hra1:=put_ra a name text 0;have hra2:=retrain_ra a size;have hra3:=compact_ra a;rw [←hr1] at C1 D1 hra1;rw [←hr2] at C2 D2 hra2;rw [←hr3] at C3 D3 hra3;have hnd1:=hra1.nd;have hnf1:=hra1.nf;have hnd2:=hra2.nd;have hnf2:=hra2.nf;have hnd3:=hra3.nd;have hnf3:=hra3.nf;have HZ:=zH hz;have CO:=zH CO;have C1:=zH C1;have C2:=zH C2;have C3:=zH C3;have D1:=zH D1;have D2:=zH D2;have D3:=zH D3;clear hr1 hr2 hr3 hra1 hra2 hra3 hz hb1 hb2 hnl htl;obtain ⟨B,hB⟩:∃ B,B=w.heap.size:=⟨_,rfl⟩
 obtain ⟨w0,hw0⟩:∃ w0,w0=w.alloc (.cells #[.slice A n cap,.slice A2 n2 cap2] 33):=⟨_,rfl⟩
 have H0:=zH (show St w w0 B [⟨B,A,n,cap,A2,n2,cap2,a⟩] by rw [hw0,hB];exact St.box h cap cap2);have HB:=zH hB;have HW0:=zH hw0;have HM:=zH hm;rw [←hB];clear hB hw0 hm;go_enter Tryz.func11,Tryz.ntmps11;go_upto_region 1 with fail
 rw [←zU HW0,←zU HB];have u0x0:w0.cell? ⟨B,0,none⟩=some (.slice A n cap):=(zU H0).c0 0 rfl;have v0x0:w0.cell? ⟨B,1,none⟩=some (.slice A2 n2 cap2):=(zU H0).c1 0 rfl;go_wp2_with fail;refine (zU CO _ ((zU H0).at_ 0 rfl).i).mono ?_;rintro e w1 ⟨hr1,hb1⟩;obtain ⟨Ra1,na1,ca1,Rb1,nb1,cb1,rfl,hi1,hc1,ho1⟩:=hr1.open;have H1:=zH ((zU H0).below hb1);have HI1:=zH hi1;have HC1:=zH hc1;have HO1:=zH ho1;clear hb1 hi1 hc1 hr1 ho1;go_upto_region 2 with (refine wpList_store_row rfl 33 (.tmp 9) (.tmp 33) rfl w1.heap.size #[.slice Ra1 na1 ca1,.slice Rb1 nb1 cb1] rfl rfl 33 _ (heap_alloc_new _ _) sizeArc rfl (one_two _ _ _ _ _ _) ?_)
 obtain ⟨x1,hx1⟩:∃ x,x=(w1.alloc (.cells #[.slice none 0 0,.slice none 0 0] 33)).setRow w1.heap.size #[.slice Ra1 na1 ca1,.slice Rb1 nb1 cb1]:=⟨_,rfl⟩
 obtain ⟨P1,hP1⟩:∃ P,P=w1.heap.size:=⟨_,rfl⟩
 have G1:=zH (show St w x1 B [⟨P1,Ra1,na1,ca1,Rb1,nb1,cb1,a⟩,⟨B,A,n,cap,A2,n2,cap2,a⟩] by rw [hx1,hP1];exact (zU H1).new (zU HI1) ca1 cb1);rw [←hx1,←hP1];clear hx1 hP1;clear u0x0 v0x0;have u1x0:x1.cell? ⟨P1,0,none⟩=some (.slice Ra1 na1 ca1):=(zU G1).c0 0 rfl;have v1x0:x1.cell? ⟨P1,1,none⟩=some (.slice Rb1 nb1 cb1):=(zU G1).c1 0 rfl;have u1x1:x1.cell? ⟨B,0,none⟩=some (.slice A n cap):=(zU G1).c0 1 rfl;have v1x1:x1.cell? ⟨B,1,none⟩=some (.slice A2 n2 cap2):=(zU G1).c1 1 rfl;obtain ⟨E,hE⟩:∃ E,E=x1.heap.size:=⟨_,rfl⟩
 have J1:=zH (show St x1 x1 E [⟨P1,Ra1,na1,ca1,Rb1,nb1,cb1,a⟩,⟨B,A,n,cap,A2,n2,cap2,a⟩] from ⟨(zU G1).v,Below.refl _ _,by rw [hE];exact Nat.le_refl _⟩);have HBW:=zH (zU G1).bel;have HLE:=zH (show B≤E by rw [hE];exact (zU G1).le);have HMX:=zH (show MaxLenIs x1 from ((zU HM).up (by have:=(zU G1).bel;rw [zU HB] at this;exact this)));have HE:=zH hE;clear hE;go_wp2_with fail;refine (zU C1 _ ((zU J1).at_ 1 rfl).i).mono ?_;rintro e w2 ⟨hr2,hb2⟩;obtain ⟨Ra2,na2,ca2,Rb2,nb2,cb2,rfl,hi2,hc2,ho2⟩:=hr2.open;have H2:=zH ((zU J1).below hb2);have HI2:=zH hi2;have HC2:=zH hc2;have HO2:=zH ho2;clear hb2 hi2 hc2 hr2 ho2;go_upto_region 3 with (refine wpList_store_row rfl 33 (.tmp 10) (.tmp 39) rfl w2.heap.size #[.slice Ra2 na2 ca2,.slice Rb2 nb2 cb2] rfl rfl 33 _ (heap_alloc_new _ _) sizeArc rfl (one_two _ _ _ _ _ _) ?_)
 obtain ⟨x2,hx2⟩:∃ x,x=(w2.alloc (.cells #[.slice none 0 0,.slice none 0 0] 33)).setRow w2.heap.size #[.slice Ra2 na2 ca2,.slice Rb2 nb2 cb2]:=⟨_,rfl⟩
 have hbn2:Below w2.heap.size w2 x2:=by rw [hx2];exact (new_arc (W:=w2)).2
 have HO2:=zH ((zU HO2).mono (show E≤x1.heap.size from Nat.le_of_eq (zU HE)));have HO2:=zH ((zU HO2).below hbn2);clear hbn2;obtain ⟨P2,hP2⟩:∃ P,P=w2.heap.size:=⟨_,rfl⟩
 have G2:=zH (show St x1 x2 E [⟨P2,Ra2,na2,ca2,Rb2,nb2,cb2,r1.1⟩,⟨P1,Ra1,na1,ca1,Rb1,nb1,cb1,a⟩,⟨B,A,n,cap,A2,n2,cap2,a⟩] by rw [hx2,hP2];exact (zU H2).new (zU HI2) ca2 cb2);rw [←hx2,←hP2];clear hx2 hP2;clear u1x0 v1x0 u1x1 v1x1;have u2x0:x2.cell? ⟨P2,0,none⟩=some (.slice Ra2 na2 ca2):=(zU G2).c0 0 rfl;have v2x0:x2.cell? ⟨P2,1,none⟩=some (.slice Rb2 nb2 cb2):=(zU G2).c1 0 rfl;have u2x1:x2.cell? ⟨P1,0,none⟩=some (.slice Ra1 na1 ca1):=(zU G2).c0 1 rfl;have v2x1:x2.cell? ⟨P1,1,none⟩=some (.slice Rb1 nb1 cb1):=(zU G2).c1 1 rfl;have u2x2:x2.cell? ⟨B,0,none⟩=some (.slice A n cap):=(zU G2).c0 2 rfl;have v2x2:x2.cell? ⟨B,1,none⟩=some (.slice A2 n2 cap2):=(zU G2).c1 2 rfl;go_wp2_with fail;refine (zU C2 _ ((zU G2).at_ 2 rfl).i ((zU HMX).up (by have:=(zU G2).bel;rw [zU HE] at this;exact this))).mono ?_;rintro e w3 ⟨hr3,hb3⟩;obtain ⟨Ra3,na3,ca3,Rb3,nb3,cb3,rfl,hi3,hc3,ho3⟩:=hr3.open;have HO2:=zH ((zU HO2).below hb3);have H3:=zH ((zU G2).below hb3);have HI3:=zH hi3;have HC3:=zH hc3;have HO3:=zH ho3;clear hb3 hi3 hc3 hr3 ho3;go_upto_region 4 with (refine wpList_store_row rfl 33 (.tmp 12) (.tmp 45) rfl w3.heap.size #[.slice Ra3 na3 ca3,.slice Rb3 nb3 cb3] rfl rfl 33 _ (heap_alloc_new _ _) sizeArc rfl (one_two _ _ _ _ _ _) ?_)
 obtain ⟨x3,hx3⟩:∃ x,x=(w3.alloc (.cells #[.slice none 0 0,.slice none 0 0] 33)).setRow w3.heap.size #[.slice Ra3 na3 ca3,.slice Rb3 nb3 cb3]:=⟨_,rfl⟩
 have hbn3:Below w3.heap.size w3 x3:=by rw [hx3];exact (new_arc (W:=w3)).2
 have HO3:=zH ((zU HO3).mono (zU G2).le);have HO2:=zH ((zU HO2).below hbn3);have HO3:=zH ((zU HO3).below hbn3);clear hbn3;obtain ⟨P3,hP3⟩:∃ P,P=w3.heap.size:=⟨_,rfl⟩
 have G3:=zH (show St x1 x3 E [⟨P3,Ra3,na3,ca3,Rb3,nb3,cb3,r2.1⟩,⟨P2,Ra2,na2,ca2,Rb2,nb2,cb2,r1.1⟩,⟨P1,Ra1,na1,ca1,Rb1,nb1,cb1,a⟩,⟨B,A,n,cap,A2,n2,cap2,a⟩] by rw [hx3,hP3];exact (zU H3).new (zU HI3) ca3 cb3);rw [←hx3,←hP3];clear hx3 hP3;clear u2x0 v2x0 u2x1 v2x1 u2x2 v2x2;have u3x0:x3.cell? ⟨P3,0,none⟩=some (.slice Ra3 na3 ca3):=(zU G3).c0 0 rfl;have v3x0:x3.cell? ⟨P3,1,none⟩=some (.slice Rb3 nb3 cb3):=(zU G3).c1 0 rfl;have u3x1:x3.cell? ⟨P2,0,none⟩=some (.slice Ra2 na2 ca2):=(zU G3).c0 1 rfl;have v3x1:x3.cell? ⟨P2,1,none⟩=some (.slice Rb2 nb2 cb2):=(zU G3).c1 1 rfl;have u3x2:x3.cell? ⟨P1,0,none⟩=some (.slice Ra1 na1 ca1):=(zU G3).c0 2 rfl;have v3x2:x3.cell? ⟨P1,1,none⟩=some (.slice Rb1 nb1 cb1):=(zU G3).c1 2 rfl;have u3x3:x3.cell? ⟨B,0,none⟩=some (.slice A n cap):=(zU G3).c0 3 rfl;have v3x3:x3.cell? ⟨B,1,none⟩=some (.slice A2 n2 cap2):=(zU G3).c1 3 rfl;go_wp2_with fail;refine (zU C3 _ ((zU G3).at_ 3 rfl).i).mono ?_;rintro e w4 ⟨hr4,hb4⟩;obtain ⟨Ra4,na4,ca4,Rb4,nb4,cb4,rfl,hi4,hc4,ho4⟩:=hr4.open;have HO2:=zH ((zU HO2).below hb4);have HO3:=zH ((zU HO3).below hb4);have H4:=zH ((zU G3).below hb4);have HI4:=zH hi4;have HC4:=zH hc4;have HO4:=zH ho4;clear hb4 hi4 hc4 hr4 ho4;go_upto_region 5 with (refine wpList_store_row rfl 33 (.tmp 14) (.tmp 50) rfl w4.heap.size #[.slice Ra4 na4 ca4,.slice Rb4 nb4 cb4] rfl rfl 33 _ (heap_alloc_new _ _) sizeArc rfl (one_two _ _ _ _ _ _) ?_)
 obtain ⟨x4,hx4⟩:∃ x,x=(w4.alloc (.cells #[.slice none 0 0,.slice none 0 0] 33)).setRow w4.heap.size #[.slice Ra4 na4 ca4,.slice Rb4 nb4 cb4]:=⟨_,rfl⟩
 have hbn4:Below w4.heap.size w4 x4:=by rw [hx4];exact (new_arc (W:=w4)).2
 have HO4:=zH ((zU HO4).mono (zU G3).le);have HO2:=zH ((zU HO2).below hbn4);have HO3:=zH ((zU HO3).below hbn4);have HO4:=zH ((zU HO4).below hbn4);clear hbn4;obtain ⟨P4,hP4⟩:∃ P,P=w4.heap.size:=⟨_,rfl⟩
 have G4:=zH (show St x1 x4 E [⟨P4,Ra4,na4,ca4,Rb4,nb4,cb4,r3.1⟩,⟨P3,Ra3,na3,ca3,Rb3,nb3,cb3,r2.1⟩,⟨P2,Ra2,na2,ca2,Rb2,nb2,cb2,r1.1⟩,⟨P1,Ra1,na1,ca1,Rb1,nb1,cb1,a⟩,⟨B,A,n,cap,A2,n2,cap2,a⟩] by rw [hx4,hP4];exact (zU H4).new (zU HI4) ca4 cb4);rw [←hx4,←hP4];clear hx4 hP4;clear u3x0 v3x0 u3x1 v3x1 u3x2 v3x2 u3x3 v3x3;have u4x0:x4.cell? ⟨P4,0,none⟩=some (.slice Ra4 na4 ca4):=(zU G4).c0 0 rfl;have v4x0:x4.cell? ⟨P4,1,none⟩=some (.slice Rb4 nb4 cb4):=(zU G4).c1 0 rfl;have u4x1:x4.cell? ⟨P3,0,none⟩=some (.slice Ra3 na3 ca3):=(zU G4).c0 1 rfl;have v4x1:x4.cell? ⟨P3,1,none⟩=some (.slice Rb3 nb3 cb3):=(zU G4).c1 1 rfl;have u4x2:x4.cell? ⟨P2,0,none⟩=some (.slice Ra2 na2 ca2):=(zU G4).c0 2 rfl;have v4x2:x4.cell? ⟨P2,1,none⟩=some (.slice Rb2 nb2 cb2):=(zU G4).c1 2 rfl;have u4x3:x4.cell? ⟨P1,0,none⟩=some (.slice Ra1 na1 ca1):=(zU G4).c0 3 rfl;have v4x3:x4.cell? ⟨P1,1,none⟩=some (.slice Rb1 nb1 cb1):=(zU G4).c1 3 rfl;have u4x4:x4.cell? ⟨B,0,none⟩=some (.slice A n cap):=(zU G4).c0 4 rfl;have v4x4:x4.cell? ⟨B,1,none⟩=some (.slice A2 n2 cap2):=(zU G4).c1 4 rfl;go_upto_region 6 with fail
 obtain ⟨y5,hy5⟩:∃ y,y=x4.alloc (.cells #[.slice Ra2 na2 ca2,.slice Rb2 nb2 cb2,.slice Ra3 na3 ca3,.slice Rb3 nb3 cb3,.slice Ra4 na4 ca4,.slice Rb4 nb4 cb4] 33):=⟨_,rfl⟩
 obtain ⟨L,hL⟩:∃ L,L=x4.heap.size:=⟨_,rfl⟩
 have HSP:=zH (show Sp x1 y5 E L (.slice Ra2 na2 ca2) (.slice Rb2 nb2 cb2) (.slice Ra3 na3 ca3) (.slice Rb3 nb3 cb3) (.slice Ra4 na4 ca4) (.slice Rb4 nb4 cb4) from by
  have hb:Below x4.heap.size x4 y5:=by rw [hy5];exact (Below.refl _ _).alloc (Nat.le_refl _) _
  have o2:=(zU HO2).below hb;have o3:=(zU HO3).below hb;have o4:=(zU HO4).below hb;exact ⟨(zU G4).bel.trans (hb.mono (zU G4).le),Nat.le_trans (zU G4).le hb.size,by rw [hy5,hL];exact heap_alloc_new _ _,rowS_of o2,rowF_of o2,rowS_of o3,rowF_of o3,rowS_of o4,rowF_of o4⟩)
 rw [←hy5,←hL];clear hy5 hL u4x0 v4x0 u4x1 v4x1 u4x2 v4x2 u4x3 v4x3 u4x4 v4x4;go_wp2_with fail;go_loopw [17,18,19] (fun iv _ _ wr=>∃ i:Nat,i≤3∧iv = .int .i64 i∧Sp x1 wr E L (.slice Ra2 na2 ca2) (.slice Rb2 nb2 cb2) (.slice Ra3 na3 ca3) (.slice Rb3 nb3 cb3) (.slice Ra4 na4 ca4) (.slice Rb4 nb4 cb4)) (fun iv _ _ _=>3-(intOf iv).toNat)
 case atStart=>exact ⟨0,by omega,rfl,zU HSP⟩
 case round =>
  obtain ⟨i,hi,rfl,hsp⟩:=hrel;clear HSP;have HSP:=zH hsp
  by_cases hi3:i<3
  ·have z0:(0:Int)≤(i:Int):=by omega
   have z1:(i:Int)<3:=by omega
   obtain ⟨As,ns,cs,Af,nf,cf,_,_,v0,v1,_,_⟩:=(zU HSP).at_ hi3;clear hsp;go_wp2_with fail;go_loopw [18] (fun kv wr=>∃ k:Nat,k≤ns∧kv = .int .i64 k∧Sp x1 wr E L (.slice Ra2 na2 ca2) (.slice Rb2 nb2 cb2) (.slice Ra3 na3 ca3) (.slice Rb3 nb3 cb3) (.slice Ra4 na4 ca4) (.slice Rb4 nb4 cb4)∧wr.cell? ⟨L,i*2,none⟩=some (.slice As ns cs)∧wr.cell? ⟨L,i*2+1,none⟩=some (.slice Af nf cf)) (fun kv _=>ns-(intOf kv).toNat)
   case atStart=>exact ⟨0,by omega,rfl,zU HSP,v0,v1⟩
   case round =>
    obtain ⟨k,hk,rfl,hsp,v0,v1⟩:=hrel;clear HSP;have HSP:=zH hsp
    by_cases hkn:k<ns
    ·obtain ⟨As',ns',cs',Af',nf',cf',ls,lf,u0,u1,o1,o2⟩:=hsp.at_ hi3;rw [u0] at v0;rw [u1] at v1;injection v0 with v0
     injection v1 with v1
     injection v0 with e1 e2 e3
     injection v1 with e4 e5 e6
     subst e1;subst e2;subst e3;subst e4;subst e5;subst e6;have hmx:=own_max o1;obtain ⟨g,cur,t,rfl,hEg,hg,hc,hf⟩:=ownStr_at o1 hkn;have HN:=zH (hsp.setS (k:=k) hg hEg spB)
     have HL:=zH (show (∀ j,(wr.setCell ⟨g,k,none⟩ (S spB)).cell? ⟨L,j,none⟩=wr.cell? ⟨L,j,none⟩) from fun j=>by
      rw [cell_of_row _ _ _ _ _ _ (zU HN).l,cell_of_row _ _ _ _ _ _ hsp.l])
     have z2:(0:Int)≤(k:Int):=by omega
     have z3:(k:Int)<(ns':Int):=by omega
     clear o1 o2 hg hsp;go_wp2_with fail;go_roundw
     case rel=>exact ⟨k+1,by omega,by go_num,zU HN,by rw [show (Value.string ⟨#[115,112,111,105,108,116]⟩)=S spB from rfl,zU HL];exact u0,by rw [show (Value.string ⟨#[115,112,111,105,108,116]⟩)=S spB from rfl,zU HL];exact u1⟩
     case measure=>simp [intOf];omega
    ·have z2:¬ (k:Int)<(ns:Int):=by omega
     have z3:decide ((k:Int)<(ns:Int))=false:=by simp;omega
     have z4:decide (k<ns)=false:=by simp;omega
     clear hsp;go_wp2_with fail;go_loopw [19] (fun kv wr=>∃ k:Nat,k≤nf∧kv = .int .i64 k∧Sp x1 wr E L (.slice Ra2 na2 ca2) (.slice Rb2 nb2 cb2) (.slice Ra3 na3 ca3) (.slice Rb3 nb3 cb3) (.slice Ra4 na4 ca4) (.slice Rb4 nb4 cb4)∧wr.cell? ⟨L,i*2,none⟩=some (.slice As ns cs)∧wr.cell? ⟨L,i*2+1,none⟩=some (.slice Af nf cf)) (fun kv _=>nf-(intOf kv).toNat)
     case atStart=>exact ⟨0,by omega,rfl,zU HSP,v0,v1⟩
     case round =>
      clear v0 v1 z2 z3 z4 hk hkn;obtain ⟨k,hk,rfl,hsp,v0,v1⟩:=hrel;clear HSP;have HSP:=zH hsp
      by_cases hkn:k<nf
      ·obtain ⟨As',ns',cs',Af',nf',cf',ls,lf,u0,u1,o1,o2⟩:=hsp.at_ hi3;rw [u0] at v0;rw [u1] at v1;injection v0 with v0
       injection v1 with v1
       injection v0 with e1 e2 e3
       injection v1 with e4 e5 e6
       subst e1;subst e2;subst e3;subst e4;subst e5;subst e6
       obtain ⟨g,rfl⟩:∃ g,Af'=some ⟨g,0,none⟩:=by
        rcases o2.2 with ⟨hv,h0⟩ | ⟨g,cap',cur,hv,_⟩
        ·omega
        ·injection hv with hA _ _;exact ⟨g,hA⟩
       have hmx:=own_max o2;have hset:=(ownFil_set o2 hkn spF).1;have HN:=zH (hsp.setF o2 hkn spF)
       have HL:=zH (show (∀ j,(wr.setCells g (k*5) (filCells spF)).cell? ⟨L,j,none⟩=wr.cell? ⟨L,j,none⟩) from fun j=>by
        rw [cell_of_row _ _ _ _ _ _ (zU HN).l,cell_of_row _ _ _ _ _ _ hsp.l])
       have z2:(0:Int)≤(k:Int):=by omega
       have z3:(k:Int)<(nf':Int):=by omega
       clear o1 o2 hsp;go_upto_region 15 with (refine wpList_store_mid rfl 61 (.tmp 96) (.tmp 95) rfl g (k*5) (filA spF) rfl rfl hset sizeFil (filA_one spF) ?_)
       obtain ⟨wn,hwn⟩:∃ wn,wn=wr.setCells g (k*5) [S spF.name,I spF.dict,I spF.size,I spF.sum,S spF.block]:=⟨_,rfl⟩
       have hn:Sp x1 wn E L (.slice Ra2 na2 ca2) (.slice Rb2 nb2 cb2) (.slice Ra3 na3 ca3) (.slice Rb3 nb3 cb3) (.slice Ra4 na4 ca4) (.slice Rb4 nb4 cb4):=by rw [hwn];exact zU HN
       have hl:∀ j,wn.cell? ⟨L,j,none⟩=wr.cell? ⟨L,j,none⟩:=by rw [hwn];exact zU HL
       rw [←hwn];have HN:=zH hn;have U0:=zH ((hl _).trans u0);have U1:=zH ((hl _).trans u1);clear hn hl hwn hset u0 u1 HL;go_wp2_with fail;go_roundw
       case rel=>exact ⟨k+1,by omega,by go_num,zU HN,zU U0,zU U1⟩
       case measure=>simp [intOf];omega
      ·have z2:¬ (k:Int)<(nf:Int):=by omega
       have z3:decide ((k:Int)<(nf:Int))=false:=by simp;omega
       have z4:decide (k<nf)=false:=by simp;omega
       clear hsp;go_wp2_with fail;go_roundw
       case rel=>exact ⟨i+1,by omega,by go_num,zU HSP⟩
       case measure=>simp [intOf];omega
  ·have z1:¬ (i:Int)<3:=by omega
   have z2:decide ((i:Int)<3)=false:=by simp;omega
   have z3:decide (i<3)=false:=by simp;omega
   have J5:=zH (show St x1 wr E [⟨P1,Ra1,na1,ca1,Rb1,nb1,cb1,a⟩,⟨B,A,n,cap,A2,n2,cap2,a⟩] from by
    have hb:=hsp.bel;rw [zU HE] at hb;exact (zU J1).below hb)
   clear hsp HSP;have u5x0:wr.cell? ⟨P1,0,none⟩=some (.slice Ra1 na1 ca1):=(zU J5).c0 0 rfl;have v5x0:wr.cell? ⟨P1,1,none⟩=some (.slice Rb1 nb1 cb1):=(zU J5).c1 0 rfl;have u5x1:wr.cell? ⟨B,0,none⟩=some (.slice A n cap):=(zU J5).c0 1 rfl;have v5x1:wr.cell? ⟨B,1,none⟩=some (.slice A2 n2 cap2):=(zU J5).c1 1 rfl;go_wp2_with fail;refine (zU C1 _ ((zU J5).at_ 1 rfl).i).mono ?_;rintro e w6 ⟨hr6,hb6⟩;obtain ⟨Ra6,na6,ca6,Rb6,nb6,cb6,rfl,hi6,hc6,ho6⟩:=hr6.open;have H6:=zH ((zU J5).below hb6);have HI6:=zH hi6;have HC6:=zH hc6;have HO6:=zH ho6;clear hb6 hi6 hc6 hr6 ho6;go_upto_region 18 with (refine wpList_store_row rfl 33 (.tmp 20) (.tmp 102) rfl w6.heap.size #[.slice Ra6 na6 ca6,.slice Rb6 nb6 cb6] rfl rfl 33 _ (heap_alloc_new _ _) sizeArc rfl (one_two _ _ _ _ _ _) ?_)
   obtain ⟨x6,hx6⟩:∃ x,x=(w6.alloc (.cells #[.slice none 0 0,.slice none 0 0] 33)).setRow w6.heap.size #[.slice Ra6 na6 ca6,.slice Rb6 nb6 cb6]:=⟨_,rfl⟩
   obtain ⟨P6,hP6⟩:∃ P,P=w6.heap.size:=⟨_,rfl⟩
   have G6:=zH (show St x1 x6 E [⟨P6,Ra6,na6,ca6,Rb6,nb6,cb6,r1.1⟩,⟨P1,Ra1,na1,ca1,Rb1,nb1,cb1,a⟩,⟨B,A,n,cap,A2,n2,cap2,a⟩] by rw [hx6,hP6];exact (zU H6).new (zU HI6) ca6 cb6);rw [←hx6,←hP6];clear hx6 hP6;clear u5x0 v5x0 u5x1 v5x1;have u6x0:x6.cell? ⟨P6,0,none⟩=some (.slice Ra6 na6 ca6):=(zU G6).c0 0 rfl;have v6x0:x6.cell? ⟨P6,1,none⟩=some (.slice Rb6 nb6 cb6):=(zU G6).c1 0 rfl;have u6x1:x6.cell? ⟨P1,0,none⟩=some (.slice Ra1 na1 ca1):=(zU G6).c0 1 rfl;have v6x1:x6.cell? ⟨P1,1,none⟩=some (.slice Rb1 nb1 cb1):=(zU G6).c1 1 rfl;have u6x2:x6.cell? ⟨B,0,none⟩=some (.slice A n cap):=(zU G6).c0 2 rfl;have v6x2:x6.cell? ⟨B,1,none⟩=some (.slice A2 n2 cap2):=(zU G6).c1 2 rfl;go_wp2_with fail;refine (zU C2 _ ((zU G6).at_ 2 rfl).i ((zU HMX).up (by have:=(zU G6).bel;rw [zU HE] at this;exact this))).mono ?_;rintro e w7 ⟨hr7,hb7⟩;obtain ⟨Ra7,na7,ca7,Rb7,nb7,cb7,rfl,hi7,hc7,ho7⟩:=hr7.open;have H7:=zH ((zU G6).below hb7);have HI7:=zH hi7;have HC7:=zH hc7;have HO7:=zH ho7;clear hb7 hi7 hc7 hr7 ho7;go_upto_region 19 with (refine wpList_store_row rfl 33 (.tmp 22) (.tmp 108) rfl w7.heap.size #[.slice Ra7 na7 ca7,.slice Rb7 nb7 cb7] rfl rfl 33 _ (heap_alloc_new _ _) sizeArc rfl (one_two _ _ _ _ _ _) ?_)
   obtain ⟨x7,hx7⟩:∃ x,x=(w7.alloc (.cells #[.slice none 0 0,.slice none 0 0] 33)).setRow w7.heap.size #[.slice Ra7 na7 ca7,.slice Rb7 nb7 cb7]:=⟨_,rfl⟩
   obtain ⟨P7,hP7⟩:∃ P,P=w7.heap.size:=⟨_,rfl⟩
   have G7:=zH (show St x1 x7 E [⟨P7,Ra7,na7,ca7,Rb7,nb7,cb7,r2.1⟩,⟨P6,Ra6,na6,ca6,Rb6,nb6,cb6,r1.1⟩,⟨P1,Ra1,na1,ca1,Rb1,nb1,cb1,a⟩,⟨B,A,n,cap,A2,n2,cap2,a⟩] by rw [hx7,hP7];exact (zU H7).new (zU HI7) ca7 cb7);rw [←hx7,←hP7];clear hx7 hP7;clear u6x0 v6x0 u6x1 v6x1 u6x2 v6x2;have u7x0:x7.cell? ⟨P7,0,none⟩=some (.slice Ra7 na7 ca7):=(zU G7).c0 0 rfl;have v7x0:x7.cell? ⟨P7,1,none⟩=some (.slice Rb7 nb7 cb7):=(zU G7).c1 0 rfl;have u7x1:x7.cell? ⟨P6,0,none⟩=some (.slice Ra6 na6 ca6):=(zU G7).c0 1 rfl;have v7x1:x7.cell? ⟨P6,1,none⟩=some (.slice Rb6 nb6 cb6):=(zU G7).c1 1 rfl;have u7x2:x7.cell? ⟨P1,0,none⟩=some (.slice Ra1 na1 ca1):=(zU G7).c0 2 rfl;have v7x2:x7.cell? ⟨P1,1,none⟩=some (.slice Rb1 nb1 cb1):=(zU G7).c1 2 rfl;have u7x3:x7.cell? ⟨B,0,none⟩=some (.slice A n cap):=(zU G7).c0 3 rfl;have v7x3:x7.cell? ⟨B,1,none⟩=some (.slice A2 n2 cap2):=(zU G7).c1 3 rfl;go_wp2_with fail;refine (zU C3 _ ((zU G7).at_ 3 rfl).i).mono ?_;rintro e w8 ⟨hr8,hb8⟩;obtain ⟨Ra8,na8,ca8,Rb8,nb8,cb8,rfl,hi8,hc8,ho8⟩:=hr8.open;have H8:=zH ((zU G7).below hb8);have HI8:=zH hi8;have HC8:=zH hc8;have HO8:=zH ho8;clear hb8 hi8 hc8 hr8 ho8;go_upto_region 20 with (refine wpList_store_row rfl 33 (.tmp 24) (.tmp 113) rfl w8.heap.size #[.slice Ra8 na8 ca8,.slice Rb8 nb8 cb8] rfl rfl 33 _ (heap_alloc_new _ _) sizeArc rfl (one_two _ _ _ _ _ _) ?_)
   obtain ⟨x8,hx8⟩:∃ x,x=(w8.alloc (.cells #[.slice none 0 0,.slice none 0 0] 33)).setRow w8.heap.size #[.slice Ra8 na8 ca8,.slice Rb8 nb8 cb8]:=⟨_,rfl⟩
   obtain ⟨P8,hP8⟩:∃ P,P=w8.heap.size:=⟨_,rfl⟩
   have G8:=zH (show St x1 x8 E [⟨P8,Ra8,na8,ca8,Rb8,nb8,cb8,r3.1⟩,⟨P7,Ra7,na7,ca7,Rb7,nb7,cb7,r2.1⟩,⟨P6,Ra6,na6,ca6,Rb6,nb6,cb6,r1.1⟩,⟨P1,Ra1,na1,ca1,Rb1,nb1,cb1,a⟩,⟨B,A,n,cap,A2,n2,cap2,a⟩] by rw [hx8,hP8];exact (zU H8).new (zU HI8) ca8 cb8);rw [←hx8,←hP8];clear hx8 hP8;clear u7x0 v7x0 u7x1 v7x1 u7x2 v7x2 u7x3 v7x3;have u8x0:x8.cell? ⟨P8,0,none⟩=some (.slice Ra8 na8 ca8):=(zU G8).c0 0 rfl;have v8x0:x8.cell? ⟨P8,1,none⟩=some (.slice Rb8 nb8 cb8):=(zU G8).c1 0 rfl;have u8x1:x8.cell? ⟨P7,0,none⟩=some (.slice Ra7 na7 ca7):=(zU G8).c0 1 rfl;have v8x1:x8.cell? ⟨P7,1,none⟩=some (.slice Rb7 nb7 cb7):=(zU G8).c1 1 rfl;have u8x2:x8.cell? ⟨P6,0,none⟩=some (.slice Ra6 na6 ca6):=(zU G8).c0 2 rfl;have v8x2:x8.cell? ⟨P6,1,none⟩=some (.slice Rb6 nb6 cb6):=(zU G8).c1 2 rfl;have u8x3:x8.cell? ⟨P1,0,none⟩=some (.slice Ra1 na1 ca1):=(zU G8).c0 3 rfl;have v8x3:x8.cell? ⟨P1,1,none⟩=some (.slice Rb1 nb1 cb1):=(zU G8).c1 3 rfl;have u8x4:x8.cell? ⟨B,0,none⟩=some (.slice A n cap):=(zU G8).c0 4 rfl;have v8x4:x8.cell? ⟨B,1,none⟩=some (.slice A2 n2 cap2):=(zU G8).c1 4 rfl;go_wp2_with fail;refine (zU D1 _ ((zU G8).at_ 4 rfl).i).mono ?_;rintro e w9 ⟨hr9,hb9⟩;obtain ⟨Ra9,na9,ca9,Rb9,nb9,cb9,rfl,hi9,hc9,ho9⟩:=hr9.open;have H9:=zH ((zU G8).below hb9);have HI9:=zH hi9;have HC9:=zH hc9;have HO9:=zH ho9;clear hb9 hi9 hc9 hr9 ho9;go_upto_region 21 with (refine wpList_store_row rfl 33 (.tmp 26) (.tmp 120) rfl w9.heap.size #[.slice Ra9 na9 ca9,.slice Rb9 nb9 cb9] rfl rfl 33 _ (heap_alloc_new _ _) sizeArc rfl (one_two _ _ _ _ _ _) ?_)
   obtain ⟨x9,hx9⟩:∃ x,x=(w9.alloc (.cells #[.slice none 0 0,.slice none 0 0] 33)).setRow w9.heap.size #[.slice Ra9 na9 ca9,.slice Rb9 nb9 cb9]:=⟨_,rfl⟩
   obtain ⟨P9,hP9⟩:∃ P,P=w9.heap.size:=⟨_,rfl⟩
   have G9:=zH (show St x1 x9 E [⟨P9,Ra9,na9,ca9,Rb9,nb9,cb9,r1.1⟩,⟨P8,Ra8,na8,ca8,Rb8,nb8,cb8,r3.1⟩,⟨P7,Ra7,na7,ca7,Rb7,nb7,cb7,r2.1⟩,⟨P6,Ra6,na6,ca6,Rb6,nb6,cb6,r1.1⟩,⟨P1,Ra1,na1,ca1,Rb1,nb1,cb1,a⟩,⟨B,A,n,cap,A2,n2,cap2,a⟩] by rw [hx9,hP9];exact (zU H9).new (zU HI9) ca9 cb9);rw [←hx9,←hP9];clear hx9 hP9;clear u8x0 v8x0 u8x1 v8x1 u8x2 v8x2 u8x3 v8x3 u8x4 v8x4;have u9x0:x9.cell? ⟨P9,0,none⟩=some (.slice Ra9 na9 ca9):=(zU G9).c0 0 rfl;have v9x0:x9.cell? ⟨P9,1,none⟩=some (.slice Rb9 nb9 cb9):=(zU G9).c1 0 rfl;have u9x1:x9.cell? ⟨P8,0,none⟩=some (.slice Ra8 na8 ca8):=(zU G9).c0 1 rfl;have v9x1:x9.cell? ⟨P8,1,none⟩=some (.slice Rb8 nb8 cb8):=(zU G9).c1 1 rfl;have u9x2:x9.cell? ⟨P7,0,none⟩=some (.slice Ra7 na7 ca7):=(zU G9).c0 2 rfl;have v9x2:x9.cell? ⟨P7,1,none⟩=some (.slice Rb7 nb7 cb7):=(zU G9).c1 2 rfl;have u9x3:x9.cell? ⟨P6,0,none⟩=some (.slice Ra6 na6 ca6):=(zU G9).c0 3 rfl;have v9x3:x9.cell? ⟨P6,1,none⟩=some (.slice Rb6 nb6 cb6):=(zU G9).c1 3 rfl;have u9x4:x9.cell? ⟨P1,0,none⟩=some (.slice Ra1 na1 ca1):=(zU G9).c0 4 rfl;have v9x4:x9.cell? ⟨P1,1,none⟩=some (.slice Rb1 nb1 cb1):=(zU G9).c1 4 rfl;have u9x5:x9.cell? ⟨B,0,none⟩=some (.slice A n cap):=(zU G9).c0 5 rfl;have v9x5:x9.cell? ⟨B,1,none⟩=some (.slice A2 n2 cap2):=(zU G9).c1 5 rfl;go_wp2_with fail;refine (zU D2 _ ((zU G9).at_ 5 rfl).i).mono ?_;rintro e w10 ⟨hr10,hb10⟩;obtain ⟨Ra10,na10,ca10,Rb10,nb10,cb10,rfl,hi10,hc10,ho10⟩:=hr10.open;have H10:=zH ((zU G9).below hb10);have HI10:=zH hi10;have HC10:=zH hc10;have HO10:=zH ho10;clear hb10 hi10 hc10 hr10 ho10;go_upto_region 22 with (refine wpList_store_row rfl 33 (.tmp 28) (.tmp 126) rfl w10.heap.size #[.slice Ra10 na10 ca10,.slice Rb10 nb10 cb10] rfl rfl 33 _ (heap_alloc_new _ _) sizeArc rfl (one_two _ _ _ _ _ _) ?_)
   obtain ⟨x10,hx10⟩:∃ x,x=(w10.alloc (.cells #[.slice none 0 0,.slice none 0 0] 33)).setRow w10.heap.size #[.slice Ra10 na10 ca10,.slice Rb10 nb10 cb10]:=⟨_,rfl⟩
   obtain ⟨P10,hP10⟩:∃ P,P=w10.heap.size:=⟨_,rfl⟩
   have G10:=zH (show St x1 x10 E [⟨P10,Ra10,na10,ca10,Rb10,nb10,cb10,r2.1⟩,⟨P9,Ra9,na9,ca9,Rb9,nb9,cb9,r1.1⟩,⟨P8,Ra8,na8,ca8,Rb8,nb8,cb8,r3.1⟩,⟨P7,Ra7,na7,ca7,Rb7,nb7,cb7,r2.1⟩,⟨P6,Ra6,na6,ca6,Rb6,nb6,cb6,r1.1⟩,⟨P1,Ra1,na1,ca1,Rb1,nb1,cb1,a⟩,⟨B,A,n,cap,A2,n2,cap2,a⟩] by rw [hx10,hP10];exact (zU H10).new (zU HI10) ca10 cb10);rw [←hx10,←hP10];clear hx10 hP10;clear u9x0 v9x0 u9x1 v9x1 u9x2 v9x2 u9x3 v9x3 u9x4 v9x4 u9x5 v9x5;have u10x0:x10.cell? ⟨P10,0,none⟩=some (.slice Ra10 na10 ca10):=(zU G10).c0 0 rfl;have v10x0:x10.cell? ⟨P10,1,none⟩=some (.slice Rb10 nb10 cb10):=(zU G10).c1 0 rfl;have u10x1:x10.cell? ⟨P9,0,none⟩=some (.slice Ra9 na9 ca9):=(zU G10).c0 1 rfl;have v10x1:x10.cell? ⟨P9,1,none⟩=some (.slice Rb9 nb9 cb9):=(zU G10).c1 1 rfl;have u10x2:x10.cell? ⟨P8,0,none⟩=some (.slice Ra8 na8 ca8):=(zU G10).c0 2 rfl;have v10x2:x10.cell? ⟨P8,1,none⟩=some (.slice Rb8 nb8 cb8):=(zU G10).c1 2 rfl;have u10x3:x10.cell? ⟨P7,0,none⟩=some (.slice Ra7 na7 ca7):=(zU G10).c0 3 rfl;have v10x3:x10.cell? ⟨P7,1,none⟩=some (.slice Rb7 nb7 cb7):=(zU G10).c1 3 rfl;have u10x4:x10.cell? ⟨P6,0,none⟩=some (.slice Ra6 na6 ca6):=(zU G10).c0 4 rfl;have v10x4:x10.cell? ⟨P6,1,none⟩=some (.slice Rb6 nb6 cb6):=(zU G10).c1 4 rfl;have u10x5:x10.cell? ⟨P1,0,none⟩=some (.slice Ra1 na1 ca1):=(zU G10).c0 5 rfl;have v10x5:x10.cell? ⟨P1,1,none⟩=some (.slice Rb1 nb1 cb1):=(zU G10).c1 5 rfl;have u10x6:x10.cell? ⟨B,0,none⟩=some (.slice A n cap):=(zU G10).c0 6 rfl;have v10x6:x10.cell? ⟨B,1,none⟩=some (.slice A2 n2 cap2):=(zU G10).c1 6 rfl;go_wp2_with fail;refine (zU D3 _ ((zU G10).at_ 6 rfl).i).mono ?_;rintro e w11 ⟨hr11,hb11⟩;obtain ⟨Ra11,na11,ca11,Rb11,nb11,cb11,rfl,hi11,hc11,ho11⟩:=hr11.open;have H11:=zH ((zU G10).below hb11);have HI11:=zH hi11;have HC11:=zH hc11;have HO11:=zH ho11;clear hb11 hi11 hc11 hr11 ho11;go_upto_region 23 with (refine wpList_store_row rfl 33 (.tmp 30) (.tmp 131) rfl w11.heap.size #[.slice Ra11 na11 ca11,.slice Rb11 nb11 cb11] rfl rfl 33 _ (heap_alloc_new _ _) sizeArc rfl (one_two _ _ _ _ _ _) ?_)
   obtain ⟨x11,hx11⟩:∃ x,x=(w11.alloc (.cells #[.slice none 0 0,.slice none 0 0] 33)).setRow w11.heap.size #[.slice Ra11 na11 ca11,.slice Rb11 nb11 cb11]:=⟨_,rfl⟩
   obtain ⟨P11,hP11⟩:∃ P,P=w11.heap.size:=⟨_,rfl⟩
   have G11:=zH (show St x1 x11 E [⟨P11,Ra11,na11,ca11,Rb11,nb11,cb11,r3.1⟩,⟨P10,Ra10,na10,ca10,Rb10,nb10,cb10,r2.1⟩,⟨P9,Ra9,na9,ca9,Rb9,nb9,cb9,r1.1⟩,⟨P8,Ra8,na8,ca8,Rb8,nb8,cb8,r3.1⟩,⟨P7,Ra7,na7,ca7,Rb7,nb7,cb7,r2.1⟩,⟨P6,Ra6,na6,ca6,Rb6,nb6,cb6,r1.1⟩,⟨P1,Ra1,na1,ca1,Rb1,nb1,cb1,a⟩,⟨B,A,n,cap,A2,n2,cap2,a⟩] by rw [hx11,hP11];exact (zU H11).new (zU HI11) ca11 cb11);rw [←hx11,←hP11];clear hx11 hP11;clear u10x0 v10x0 u10x1 v10x1 u10x2 v10x2 u10x3 v10x3 u10x4 v10x4 u10x5 v10x5 u10x6 v10x6;have u11x0:x11.cell? ⟨P11,0,none⟩=some (.slice Ra11 na11 ca11):=(zU G11).c0 0 rfl;have v11x0:x11.cell? ⟨P11,1,none⟩=some (.slice Rb11 nb11 cb11):=(zU G11).c1 0 rfl;have u11x1:x11.cell? ⟨P10,0,none⟩=some (.slice Ra10 na10 ca10):=(zU G11).c0 1 rfl;have v11x1:x11.cell? ⟨P10,1,none⟩=some (.slice Rb10 nb10 cb10):=(zU G11).c1 1 rfl;have u11x2:x11.cell? ⟨P9,0,none⟩=some (.slice Ra9 na9 ca9):=(zU G11).c0 2 rfl;have v11x2:x11.cell? ⟨P9,1,none⟩=some (.slice Rb9 nb9 cb9):=(zU G11).c1 2 rfl;have u11x3:x11.cell? ⟨P8,0,none⟩=some (.slice Ra8 na8 ca8):=(zU G11).c0 3 rfl;have v11x3:x11.cell? ⟨P8,1,none⟩=some (.slice Rb8 nb8 cb8):=(zU G11).c1 3 rfl;have u11x4:x11.cell? ⟨P7,0,none⟩=some (.slice Ra7 na7 ca7):=(zU G11).c0 4 rfl;have v11x4:x11.cell? ⟨P7,1,none⟩=some (.slice Rb7 nb7 cb7):=(zU G11).c1 4 rfl;have u11x5:x11.cell? ⟨P6,0,none⟩=some (.slice Ra6 na6 ca6):=(zU G11).c0 5 rfl;have v11x5:x11.cell? ⟨P6,1,none⟩=some (.slice Rb6 nb6 cb6):=(zU G11).c1 5 rfl;have u11x6:x11.cell? ⟨P1,0,none⟩=some (.slice Ra1 na1 ca1):=(zU G11).c0 6 rfl;have v11x6:x11.cell? ⟨P1,1,none⟩=some (.slice Rb1 nb1 cb1):=(zU G11).c1 6 rfl;have u11x7:x11.cell? ⟨B,0,none⟩=some (.slice A n cap):=(zU G11).c0 7 rfl;have v11x7:x11.cell? ⟨B,1,none⟩=some (.slice A2 n2 cap2):=(zU G11).c1 7 rfl;go_wp2_with fail;refine (archBegun_any _ ((zU HMX).up (by have:=(zU G11).bel;rw [zU HE] at this;exact this))).mono ?_;rintro e w12 ⟨rfl,hb12⟩;have H12:=zH ((zU G11).below hb12);clear hb12;clear u11x0 v11x0 u11x1 v11x1 u11x2 v11x2 u11x3 v11x3 u11x4 v11x4 u11x5 v11x5 u11x6 v11x6 u11x7 v11x7;have u12x0:w12.cell? ⟨P11,0,none⟩=some (.slice Ra11 na11 ca11):=(zU H12).c0 0 rfl;have v12x0:w12.cell? ⟨P11,1,none⟩=some (.slice Rb11 nb11 cb11):=(zU H12).c1 0 rfl;have u12x1:w12.cell? ⟨P10,0,none⟩=some (.slice Ra10 na10 ca10):=(zU H12).c0 1 rfl;have v12x1:w12.cell? ⟨P10,1,none⟩=some (.slice Rb10 nb10 cb10):=(zU H12).c1 1 rfl;have u12x2:w12.cell? ⟨P9,0,none⟩=some (.slice Ra9 na9 ca9):=(zU H12).c0 2 rfl;have v12x2:w12.cell? ⟨P9,1,none⟩=some (.slice Rb9 nb9 cb9):=(zU H12).c1 2 rfl;have u12x3:w12.cell? ⟨P8,0,none⟩=some (.slice Ra8 na8 ca8):=(zU H12).c0 3 rfl;have v12x3:w12.cell? ⟨P8,1,none⟩=some (.slice Rb8 nb8 cb8):=(zU H12).c1 3 rfl;have u12x4:w12.cell? ⟨P7,0,none⟩=some (.slice Ra7 na7 ca7):=(zU H12).c0 4 rfl;have v12x4:w12.cell? ⟨P7,1,none⟩=some (.slice Rb7 nb7 cb7):=(zU H12).c1 4 rfl;have u12x5:w12.cell? ⟨P6,0,none⟩=some (.slice Ra6 na6 ca6):=(zU H12).c0 5 rfl;have v12x5:w12.cell? ⟨P6,1,none⟩=some (.slice Rb6 nb6 cb6):=(zU H12).c1 5 rfl;have u12x6:w12.cell? ⟨P1,0,none⟩=some (.slice Ra1 na1 ca1):=(zU H12).c0 6 rfl;have v12x6:w12.cell? ⟨P1,1,none⟩=some (.slice Rb1 nb1 cb1):=(zU H12).c1 6 rfl;have u12x7:w12.cell? ⟨B,0,none⟩=some (.slice A n cap):=(zU H12).c0 7 rfl;have v12x7:w12.cell? ⟨B,1,none⟩=some (.slice A2 n2 cap2):=(zU H12).c1 7 rfl;go_wp2_with fail;refine (sameBig _ _ _ _ _ _ _ _ _ _ _ _ _ _ ((zU H12).at_ 7 rfl).i ((zU H12).at_ 6 rfl).i (zU HZ)).mono ?_;rintro e w13 ⟨rfl,hb13⟩;have H13:=zH ((zU H12).below hb13);clear hb13;clear u12x0 v12x0 u12x1 v12x1 u12x2 v12x2 u12x3 v12x3 u12x4 v12x4 u12x5 v12x5 u12x6 v12x6 u12x7 v12x7;have u13x0:w13.cell? ⟨P11,0,none⟩=some (.slice Ra11 na11 ca11):=(zU H13).c0 0 rfl;have v13x0:w13.cell? ⟨P11,1,none⟩=some (.slice Rb11 nb11 cb11):=(zU H13).c1 0 rfl;have u13x1:w13.cell? ⟨P10,0,none⟩=some (.slice Ra10 na10 ca10):=(zU H13).c0 1 rfl;have v13x1:w13.cell? ⟨P10,1,none⟩=some (.slice Rb10 nb10 cb10):=(zU H13).c1 1 rfl;have u13x2:w13.cell? ⟨P9,0,none⟩=some (.slice Ra9 na9 ca9):=(zU H13).c0 2 rfl;have v13x2:w13.cell? ⟨P9,1,none⟩=some (.slice Rb9 nb9 cb9):=(zU H13).c1 2 rfl
   have u13x3:w13.cell? ⟨P8,0,none⟩=some (.slice Ra8 na8 ca8):=(zU H13).c0 3 rfl;have v13x3:w13.cell? ⟨P8,1,none⟩=some (.slice Rb8 nb8 cb8):=(zU H13).c1 3 rfl;have u13x4:w13.cell? ⟨P7,0,none⟩=some (.slice Ra7 na7 ca7):=(zU H13).c0 4 rfl;have v13x4:w13.cell? ⟨P7,1,none⟩=some (.slice Rb7 nb7 cb7):=(zU H13).c1 4 rfl;have u13x5:w13.cell? ⟨P6,0,none⟩=some (.slice Ra6 na6 ca6):=(zU H13).c0 5 rfl;have v13x5:w13.cell? ⟨P6,1,none⟩=some (.slice Rb6 nb6 cb6):=(zU H13).c1 5 rfl;have u13x6:w13.cell? ⟨P1,0,none⟩=some (.slice Ra1 na1 ca1):=(zU H13).c0 6 rfl;have v13x6:w13.cell? ⟨P1,1,none⟩=some (.slice Rb1 nb1 cb1):=(zU H13).c1 6 rfl;have u13x7:w13.cell? ⟨B,0,none⟩=some (.slice A n cap):=(zU H13).c0 7 rfl;have v13x7:w13.cell? ⟨B,1,none⟩=some (.slice A2 n2 cap2):=(zU H13).c1 7 rfl;go_wp2_with fail;refine (sameArc _ _ _ _ _ _ _ _ _ _ _ _ _ _ ((zU H13).at_ 5 rfl).i ((zU H13).at_ 2 rfl).i hnd1 hnf1).mono ?_;rintro e w14 ⟨rfl,hb14⟩;have H14:=zH ((zU H13).below hb14);clear hb14;clear u13x0 v13x0 u13x1 v13x1 u13x2 v13x2 u13x3 v13x3 u13x4 v13x4 u13x5 v13x5 u13x6 v13x6 u13x7 v13x7;have u14x0:w14.cell? ⟨P11,0,none⟩=some (.slice Ra11 na11 ca11):=(zU H14).c0 0 rfl;have v14x0:w14.cell? ⟨P11,1,none⟩=some (.slice Rb11 nb11 cb11):=(zU H14).c1 0 rfl;have u14x1:w14.cell? ⟨P10,0,none⟩=some (.slice Ra10 na10 ca10):=(zU H14).c0 1 rfl;have v14x1:w14.cell? ⟨P10,1,none⟩=some (.slice Rb10 nb10 cb10):=(zU H14).c1 1 rfl;have u14x2:w14.cell? ⟨P9,0,none⟩=some (.slice Ra9 na9 ca9):=(zU H14).c0 2 rfl;have v14x2:w14.cell? ⟨P9,1,none⟩=some (.slice Rb9 nb9 cb9):=(zU H14).c1 2 rfl;have u14x3:w14.cell? ⟨P8,0,none⟩=some (.slice Ra8 na8 ca8):=(zU H14).c0 3 rfl;have v14x3:w14.cell? ⟨P8,1,none⟩=some (.slice Rb8 nb8 cb8):=(zU H14).c1 3 rfl;have u14x4:w14.cell? ⟨P7,0,none⟩=some (.slice Ra7 na7 ca7):=(zU H14).c0 4 rfl;have v14x4:w14.cell? ⟨P7,1,none⟩=some (.slice Rb7 nb7 cb7):=(zU H14).c1 4 rfl;have u14x5:w14.cell? ⟨P6,0,none⟩=some (.slice Ra6 na6 ca6):=(zU H14).c0 5 rfl;have v14x5:w14.cell? ⟨P6,1,none⟩=some (.slice Rb6 nb6 cb6):=(zU H14).c1 5 rfl;have u14x6:w14.cell? ⟨P1,0,none⟩=some (.slice Ra1 na1 ca1):=(zU H14).c0 6 rfl;have v14x6:w14.cell? ⟨P1,1,none⟩=some (.slice Rb1 nb1 cb1):=(zU H14).c1 6 rfl;have u14x7:w14.cell? ⟨B,0,none⟩=some (.slice A n cap):=(zU H14).c0 7 rfl;have v14x7:w14.cell? ⟨B,1,none⟩=some (.slice A2 n2 cap2):=(zU H14).c1 7 rfl;go_wp2_with fail;refine (sameArc _ _ _ _ _ _ _ _ _ _ _ _ _ _ ((zU H14).at_ 4 rfl).i ((zU H14).at_ 1 rfl).i hnd2 hnf2).mono ?_;rintro e w15 ⟨rfl,hb15⟩;have H15:=zH ((zU H14).below hb15);clear hb15;clear u14x0 v14x0 u14x1 v14x1 u14x2 v14x2 u14x3 v14x3 u14x4 v14x4 u14x5 v14x5 u14x6 v14x6 u14x7 v14x7;have u15x0:w15.cell? ⟨P11,0,none⟩=some (.slice Ra11 na11 ca11):=(zU H15).c0 0 rfl;have v15x0:w15.cell? ⟨P11,1,none⟩=some (.slice Rb11 nb11 cb11):=(zU H15).c1 0 rfl;have u15x1:w15.cell? ⟨P10,0,none⟩=some (.slice Ra10 na10 ca10):=(zU H15).c0 1 rfl;have v15x1:w15.cell? ⟨P10,1,none⟩=some (.slice Rb10 nb10 cb10):=(zU H15).c1 1 rfl;have u15x2:w15.cell? ⟨P9,0,none⟩=some (.slice Ra9 na9 ca9):=(zU H15).c0 2 rfl;have v15x2:w15.cell? ⟨P9,1,none⟩=some (.slice Rb9 nb9 cb9):=(zU H15).c1 2 rfl;have u15x3:w15.cell? ⟨P8,0,none⟩=some (.slice Ra8 na8 ca8):=(zU H15).c0 3 rfl;have v15x3:w15.cell? ⟨P8,1,none⟩=some (.slice Rb8 nb8 cb8):=(zU H15).c1 3 rfl;have u15x4:w15.cell? ⟨P7,0,none⟩=some (.slice Ra7 na7 ca7):=(zU H15).c0 4 rfl;have v15x4:w15.cell? ⟨P7,1,none⟩=some (.slice Rb7 nb7 cb7):=(zU H15).c1 4 rfl;have u15x5:w15.cell? ⟨P6,0,none⟩=some (.slice Ra6 na6 ca6):=(zU H15).c0 5 rfl;have v15x5:w15.cell? ⟨P6,1,none⟩=some (.slice Rb6 nb6 cb6):=(zU H15).c1 5 rfl;have u15x6:w15.cell? ⟨P1,0,none⟩=some (.slice Ra1 na1 ca1):=(zU H15).c0 6 rfl;have v15x6:w15.cell? ⟨P1,1,none⟩=some (.slice Rb1 nb1 cb1):=(zU H15).c1 6 rfl;have u15x7:w15.cell? ⟨B,0,none⟩=some (.slice A n cap):=(zU H15).c0 7 rfl;have v15x7:w15.cell? ⟨B,1,none⟩=some (.slice A2 n2 cap2):=(zU H15).c1 7 rfl;go_wp2_with fail;refine (sameArc _ _ _ _ _ _ _ _ _ _ _ _ _ _ ((zU H15).at_ 3 rfl).i ((zU H15).at_ 0 rfl).i hnd3 hnf3).mono ?_
   rintro e w16 ⟨rfl,hb16⟩;have H16:=zH ((zU H15).below hb16);clear hb16;clear u15x0 v15x0 u15x1 v15x1 u15x2 v15x2 u15x3 v15x3 u15x4 v15x4 u15x5 v15x5 u15x6 v15x6 u15x7 v15x7;have u16x0:w16.cell? ⟨P11,0,none⟩=some (.slice Ra11 na11 ca11):=(zU H16).c0 0 rfl;have v16x0:w16.cell? ⟨P11,1,none⟩=some (.slice Rb11 nb11 cb11):=(zU H16).c1 0 rfl;have u16x1:w16.cell? ⟨P10,0,none⟩=some (.slice Ra10 na10 ca10):=(zU H16).c0 1 rfl;have v16x1:w16.cell? ⟨P10,1,none⟩=some (.slice Rb10 nb10 cb10):=(zU H16).c1 1 rfl;have u16x2:w16.cell? ⟨P9,0,none⟩=some (.slice Ra9 na9 ca9):=(zU H16).c0 2 rfl;have v16x2:w16.cell? ⟨P9,1,none⟩=some (.slice Rb9 nb9 cb9):=(zU H16).c1 2 rfl;have u16x3:w16.cell? ⟨P8,0,none⟩=some (.slice Ra8 na8 ca8):=(zU H16).c0 3 rfl;have v16x3:w16.cell? ⟨P8,1,none⟩=some (.slice Rb8 nb8 cb8):=(zU H16).c1 3 rfl;have u16x4:w16.cell? ⟨P7,0,none⟩=some (.slice Ra7 na7 ca7):=(zU H16).c0 4 rfl;have v16x4:w16.cell? ⟨P7,1,none⟩=some (.slice Rb7 nb7 cb7):=(zU H16).c1 4 rfl;have u16x5:w16.cell? ⟨P6,0,none⟩=some (.slice Ra6 na6 ca6):=(zU H16).c0 5 rfl;have v16x5:w16.cell? ⟨P6,1,none⟩=some (.slice Rb6 nb6 cb6):=(zU H16).c1 5 rfl;have u16x6:w16.cell? ⟨P1,0,none⟩=some (.slice Ra1 na1 ca1):=(zU H16).c0 6 rfl;have v16x6:w16.cell? ⟨P1,1,none⟩=some (.slice Rb1 nb1 cb1):=(zU H16).c1 6 rfl;have u16x7:w16.cell? ⟨B,0,none⟩=some (.slice A n cap):=(zU H16).c0 7 rfl;have v16x7:w16.cell? ⟨B,1,none⟩=some (.slice A2 n2 cap2):=(zU H16).c1 7 rfl;go_wp2_with fail;go_ret;exact ⟨rfl,(zU HBW).trans ((zU H16).bel.mono (zU HLE))⟩
end Go.Proofs.YtjpgoeimclipjaaGreat
namespace Go.Proofs.YtjpgoeimclipjaaGreat
open Go.ChangeShapes Go.WideShapes Go.Deep Go.RowKit Pl
section
variable {H : Type} {enc : TypeId × Value → H} {P : Program} {w : World} {base : Nat} {spare : Nat → Bool} {held : Bool}
theorem open_slice_fields {t e:TypeId} {fs:Array Field} {fuel:Nat} {cs:List Value} {x:DataW H×List MemPlace} (ht:P.underlying t=some (.slice e)) (he:P.underlying e=some (.struct fs))
  (hone:oneCellFields P fs=true) (hC:P.cellsOf e=fs.size) (h:DataW.trod enc P w base spare held fuel t cs=some x) :
  (cs=[.slice none 0 0]∧x=(.nil,[])) ∨
  ∃ (a:Addr) (len cap m:Nat) (D:Nat→DataW H) (Pl:Nat→List MemPlace),cs=[.slice (some a) len cap]∧base≤a.block∧len≤cap∧cap≤maxLen∧m=(if spare a.block then cap else len) ∧
   x=(.slice ((List.range len).map D) ((List.range (m-len)).map fun j=>D (len+j)),MemPlace.row a (m*fs.size)++(List.range m).flatMap Pl) ∧
   ∀ i,i<m→∃ (ys:List (DataW H×List MemPlace)) (n:Nat),D i = .agg (ys.map (·.1))∧Pl i=ys.flatMap (·.2)∧ys.length=fs.size ∧
    ∀ (j:Nat) (f:Field),fs[j]? = some f→∃ (v:Value) (y:DataW H×List MemPlace),w.cell? (a.add (i*fs.size+j))=some v∧ys[j]? = some y∧DataW.trod enc P w base spare held n f.type [v]=some y:=by
 rcases open_slice ht h with h0 | ⟨a,len,cap,m,n,D,Pl,hcs,hb,hl,hm,hmm,hx,hi⟩
 ·exact .inl h0
 ·refine .inr ⟨a,len,cap,m,D,Pl,hcs,hb,hl,hm,hmm,by rw [hC] at hx;exact hx,fun i him=>?_⟩;obtain ⟨cs',hc,ht'⟩:=hi i him;rw [hC] at hc;obtain ⟨ys,n',hn',hy,hlen,hyl,hf⟩:=DataW.trod_struct he ht';obtain ⟨_,hcl,hat⟩:=World.cells?_some hc;simp only [Prod.mk.injEq] at hy;refine ⟨ys,n',hy.1,hy.2,hyl,fun j f hj=>?_⟩;obtain ⟨ho,hk⟩:=hone_of hone j f hj;have hjl:j<fs.size:=(Array.getElem?_eq_some_iff.1 hj).1;have hcell:=hat j hjl;have hv:cs'[j]? = some (cs'[j]'(by omega)):=List.getElem?_eq_getElem (by omega);have h1:=hf j f hj;rw [ho,hk] at h1
  have hone':(cs'.drop j).take 1=[cs'[j]'(by omega)]:=by
   rw [List.drop_eq_getElem_cons (by omega)];rfl
  rw [hone'] at h1;have hys:ys[j]? = some (ys[j]'(by omega)):=List.getElem?_eq_getElem (by omega);refine ⟨_,_,?_,hys,h1.trans hys⟩;rw [←Go.Deep.add_add,hcell,hv]
end
theorem trodAll_pa {H:Type} {enc:TypeId×Value→H} {P:Program} {w:World} {base:Nat} {spare:Nat→Bool} {held:Bool} {ts:List TypeId} {vs:List Value} {ds:List (DataW H)} {p p':List MemPlace} (h:DataW.TrodAll enc P w base spare held ts vs ds p) (e:p=p'):DataW.TrodAll enc P w base spare held ts vs ds p':=e ▸ h
theorem list_of {α:Type} (n:Nat) (p:Nat→α→Prop) (h:∀ i,i<n→∃ a,p i a):∃ l:List α,l.length=n∧∀ i a,l[i]? = some a→p i a:=by
 induction n with
 | zero=>exact ⟨[],rfl,by simp⟩
 | succ n ih =>
  obtain ⟨l,hl,hp⟩:=ih fun i hi=>h i (by omega);obtain ⟨a,ha⟩:=h n (by omega);refine ⟨l++[a],by simp [hl],fun i b hb=>?_⟩
  by_cases hi:i<n
  ·rw [List.getElem?_append_left (by omega)] at hb;exact hp i b hb
  ·rw [List.getElem?_append_right (by omega)] at hb
   have h0:i-l.length=0:=by
    rcases Nat.eq_zero_or_pos (i-l.length) with h0 | h0
    ·exact h0
    ·rw [List.getElem?_eq_none (by simp;omega)] at hb;cases hb
   rw [h0] at hb;simp at hb;subst hb;have:i=n:=by omega
   subst this;exact ha
end Go.Proofs.YtjpgoeimclipjaaGreat
namespace Go.Proofs.YtjpgoeimclipjaaGreat
open Go.ChangeShapes Go.WideShapes Go.Deep Go.RowKit Pl
theorem maxLen_of_shape {w:World} (h:w.ShapedOpen Tryz.prog):MaxLenIs w :=
 Go.Proofs.cell_of_shapedOpen_int (zero:=#[.int .i64 0]) (t:=3) h (of_decide_eq_true (by kernel_rfl)) (by kernel_rfl) rfl (by kernel_rfl) (by kernel_rfl) Tryz.underlying3
end Go.Proofs.YtjpgoeimclipjaaGreat
namespace Go.Proofs.YtjpgoeimclipjaaGreat
open Go.ChangeShapes Go.WideShapes Go.Deep Go.RowKit Pl
theorem weights_all_mem {H:Type} {P:Program} {e:TypeId} : ∀ {l:List (DataW H)} {x:DataW H},x∈l→∀ n∈x.weights P e,n∈DataW.weightsAll P e l
 | y::l,x,hx,n,hn=>by
  simp only [DataW.weightsAll,List.mem_append]
  rcases List.mem_cons.1 hx with rfl | hx
  ·exact .inl hn
  ·exact .inr (weights_all_mem hx n hn)
theorem lit_range {a:Int} (h:(Lit.int .i64 a).wf=true) : -9223372036854775808≤a∧a≤9223372036854775807:=by
 have hmin:IntKind.i64.min = -9223372036854775808:=rfl;have hmax:IntKind.i64.max=9223372036854775807:=rfl;simp only [Lit.wf,Bool.and_eq_true,decide_eq_true_eq] at h;rw [hmin,hmax] at h;exact h
end Go.Proofs.YtjpgoeimclipjaaGreat
