/- Parts of the proofs. -/
import Derived.Test.YtjpgoeimclipjaaGreatIm10
namespace Go.Proofs.YtjpgoeimclipjaaGreat
namespace Pl
theorem save_open {s:Bytes} (h:(openA s).2=0):save (openA s).1=(s,0):=by
 unfold openA at h ⊢
 split at h
 ·cases h
 ·rename_i h2
  rw [if_neg h2];cases h1:arcFrom s with
  | none=>rw [h1] at h;cases h
  | some a =>
   obtain ⟨h3,h4⟩:=(arcFrom_iff s a).1 h1;simp only;unfold save;rw [if_neg (by omega),←h4,if_neg h2]
end Pl
end Go.Proofs.YtjpgoeimclipjaaGreat
namespace Go.Proofs.YtjpgoeimclipjaaGreat
open Go.RowKit Go.Lib Pl
attribute [local go_sem] ext_list app_list
set_option maxHeartbeats 8000000 in
set_option maxRecDepth 100000 in
theorem imageBack_11 (A:Option Addr) (n cap:Nat) (A2:Option Addr) (n2 cap2:Nat) (a:Arc) (s:Bytes) (w:World) (h:ArcIn w A n A2 n2 a) (hz:ArcSz a) (hsl:s.length≤140737488355328) (hm:MaxLenIs w) (hs:(save a).2=0) (ho:(openA s).2=0) :
  Calls Tryz.prog 5 #[arcV A n cap A2 n2 cap2,S s] w fun e w'=>e = .returned (.bool true)∧Below w.heap.size w w':=by
 have CS:=fun (W:World) (hi:ArcIn W A n A2 n2 a)=>save_any A n cap A2 n2 cap2 a W hi hz;obtain ⟨t1,ht1⟩:∃ t,t=(save a).1:=⟨_,rfl⟩
 have CO:=fun (W:World)=>open_any s W hsl;obtain ⟨c,hc⟩:∃ c,c=(openA s).1:=⟨_,rfl⟩
 rw [show save a=(t1,0) from Prod.ext ht1.symm hs] at CS
 have hck:checkA a=0:=by
  apply Decidable.byContradiction;intro h0;unfold save at hs;rw [if_pos h0] at hs;exact h0 hs
 have hlen:t1.length≤16384:=by
  unfold save at hs ht1;rw [if_neg (by simp [hck])] at hs ht1
  split at hs
  ·cases hs
  ·rename_i h1
   rw [if_neg h1] at ht1;rw [ht1];show (imageOf a).length≤16384;omega
 have hra:=(check_iff a).1 hck;have hrd:=hra.nd;have hrf:=hra.nf;have CT:=fun (W:World)=>open_any t1 W (by omega);rw [show openA t1=(a,0) from by rw [ht1];exact open_save hs] at CT;rw [show openA s=(c,0) from Prod.ext hc.symm ho] at CO
 have hrc:RightA c:=by
  have ho2:=ho;unfold openA at ho2 hc
  split at ho2
  ·cases ho2
  ·rename_i h1
   rw [if_neg h1] at hc;cases hq:arcFrom s with
   | none=>rw [hq] at ho2;cases ho2
   | some x =>
    rw [hq] at hc;rw [hc];exact (check_iff x).1 ((arcFrom_iff s x).1 hq).1
 have CV:=fun (W:World) (A:Option Addr) (n cap:Nat) (A2:Option Addr) (n2 cap2:Nat) (hi:ArcIn W A n A2 n2 c)=>save_any A n cap A2 n2 cap2 c W hi (right_sz hrc);rw [show save c=(s,0) from by rw [hc];exact save_open ho] at CV;clear hrc;have CS:=zH CS;have CO:=zH CO;have CT:=zH CT;have CV:=zH CV;clear ht1 hc hz hs ho hsl hck hlen hra;obtain ⟨B,hB⟩:∃ B,B=w.heap.size:=⟨_,rfl⟩
 obtain ⟨w0,hw0⟩:∃ w0,w0=w.alloc (.cells #[.slice A n cap,.slice A2 n2 cap2] 33):=⟨_,rfl⟩
 have H0:=zH (show St w w0 B [⟨B,A,n,cap,A2,n2,cap2,a⟩] by rw [hw0,hB];exact St.box h cap cap2);have HB:=zH hB;have HW0:=zH hw0;have HM:=zH hm;rw [←hB];clear hB hw0 hm;go_enter Tryz.func5,Tryz.ntmps5;go_upto_region 1 with fail
 rw [←zU HW0,←zU HB];have u0x0:w0.cell? ⟨B,0,none⟩=some (.slice A n cap):=(zU H0).c0 0 rfl;have v0x0:w0.cell? ⟨B,1,none⟩=some (.slice A2 n2 cap2):=(zU H0).c1 0 rfl;go_wp2_with fail;refine (zU CS _ ((zU H0).at_ 0 rfl).i).mono ?_;rintro e w1 ⟨rfl,hb1⟩;have H1:=zH ((zU H0).below hb1);clear hb1;clear u0x0 v0x0;have u1x0:w1.cell? ⟨B,0,none⟩=some (.slice A n cap):=(zU H1).c0 0 rfl;have v1x0:w1.cell? ⟨B,1,none⟩=some (.slice A2 n2 cap2):=(zU H1).c1 0 rfl;go_wp2_with fail;refine (zU CT _).mono ?_;rintro e w2 ⟨hr2,hb2⟩;obtain ⟨Ra2,na2,ca2,Rb2,nb2,cb2,rfl,hi2,hc2,ho2⟩:=hr2.open2;have H2:=zH ((zU H1).below hb2);have HI2:=zH hi2;have HC2:=zH hc2;have HO2:=zH ho2;clear hb2 hi2 hc2 hr2 ho2;go_upto_region 4 with (refine wpList_store_row rfl 33 (.tmp 7) (.tmp 23) rfl w2.heap.size #[.slice Ra2 na2 ca2,.slice Rb2 nb2 cb2] rfl rfl 33 _ (heap_alloc_new _ _) sizeArc rfl (one_two _ _ _ _ _ _) ?_)
 obtain ⟨x2,hx2⟩:∃ x,x=(w2.alloc (.cells #[.slice none 0 0,.slice none 0 0] 33)).setRow w2.heap.size #[.slice Ra2 na2 ca2,.slice Rb2 nb2 cb2]:=⟨_,rfl⟩
 obtain ⟨P2,hP2⟩:∃ P,P=w2.heap.size:=⟨_,rfl⟩
 have G2:=zH (show St w x2 B [⟨P2,Ra2,na2,ca2,Rb2,nb2,cb2,a⟩,⟨B,A,n,cap,A2,n2,cap2,a⟩] by rw [hx2,hP2];exact (zU H2).new (zU HI2) ca2 cb2);rw [←hx2,←hP2];clear hx2 hP2;clear u1x0 v1x0;have u2x0:x2.cell? ⟨P2,0,none⟩=some (.slice Ra2 na2 ca2):=(zU G2).c0 0 rfl;have v2x0:x2.cell? ⟨P2,1,none⟩=some (.slice Rb2 nb2 cb2):=(zU G2).c1 0 rfl;have u2x1:x2.cell? ⟨B,0,none⟩=some (.slice A n cap):=(zU G2).c0 1 rfl;have v2x1:x2.cell? ⟨B,1,none⟩=some (.slice A2 n2 cap2):=(zU G2).c1 1 rfl;go_wp2_with fail;refine (sameArc Ra2 na2 ca2 Rb2 nb2 cb2 A n cap A2 n2 cap2 a _ ((zU G2).at_ 0 rfl).i ((zU G2).at_ 1 rfl).i hrd hrf).mono ?_;rintro e w3 ⟨rfl,hb3⟩;have H3:=zH ((zU G2).below hb3);clear hb3;clear u2x0 v2x0 u2x1 v2x1;have u3x0:w3.cell? ⟨P2,0,none⟩=some (.slice Ra2 na2 ca2):=(zU H3).c0 0 rfl;have v3x0:w3.cell? ⟨P2,1,none⟩=some (.slice Rb2 nb2 cb2):=(zU H3).c1 0 rfl;have u3x1:w3.cell? ⟨B,0,none⟩=some (.slice A n cap):=(zU H3).c0 1 rfl;have v3x1:w3.cell? ⟨B,1,none⟩=some (.slice A2 n2 cap2):=(zU H3).c1 1 rfl;go_wp2_with fail;refine (zU CO _).mono ?_;rintro e w4 ⟨hr4,hb4⟩;obtain ⟨Ra4,na4,ca4,Rb4,nb4,cb4,rfl,hi4,hc4,ho4⟩:=hr4.open2;have H4:=zH ((zU H3).below hb4);have HI4:=zH hi4;have HC4:=zH hc4;have HO4:=zH ho4;clear hb4 hi4 hc4 hr4 ho4;go_upto_region 7 with (refine wpList_store_row rfl 33 (.tmp 9) (.tmp 36) rfl w4.heap.size #[.slice Ra4 na4 ca4,.slice Rb4 nb4 cb4] rfl rfl 33 _ (heap_alloc_new _ _) sizeArc rfl (one_two _ _ _ _ _ _) ?_)
 obtain ⟨x4,hx4⟩:∃ x,x=(w4.alloc (.cells #[.slice none 0 0,.slice none 0 0] 33)).setRow w4.heap.size #[.slice Ra4 na4 ca4,.slice Rb4 nb4 cb4]:=⟨_,rfl⟩
 obtain ⟨P4,hP4⟩:∃ P,P=w4.heap.size:=⟨_,rfl⟩
 have G4:=zH (show St w x4 B [⟨P4,Ra4,na4,ca4,Rb4,nb4,cb4,c⟩,⟨P2,Ra2,na2,ca2,Rb2,nb2,cb2,a⟩,⟨B,A,n,cap,A2,n2,cap2,a⟩] by rw [hx4,hP4];exact (zU H4).new (zU HI4) ca4 cb4);rw [←hx4,←hP4];clear hx4 hP4;clear u3x0 v3x0 u3x1 v3x1;have u4x0:x4.cell? ⟨P4,0,none⟩=some (.slice Ra4 na4 ca4):=(zU G4).c0 0 rfl;have v4x0:x4.cell? ⟨P4,1,none⟩=some (.slice Rb4 nb4 cb4):=(zU G4).c1 0 rfl;have u4x1:x4.cell? ⟨P2,0,none⟩=some (.slice Ra2 na2 ca2):=(zU G4).c0 1 rfl;have v4x1:x4.cell? ⟨P2,1,none⟩=some (.slice Rb2 nb2 cb2):=(zU G4).c1 1 rfl;have u4x2:x4.cell? ⟨B,0,none⟩=some (.slice A n cap):=(zU G4).c0 2 rfl;have v4x2:x4.cell? ⟨B,1,none⟩=some (.slice A2 n2 cap2):=(zU G4).c1 2 rfl;go_wp2_with fail;refine (zU CV _ _ _ _ _ _ _ ((zU G4).at_ 0 rfl).i).mono ?_;rintro e w5 ⟨rfl,hb5⟩;have H5:=zH ((zU G4).below hb5);clear hb5;clear u4x0 v4x0 u4x1 v4x1 u4x2 v4x2;have u5x0:w5.cell? ⟨P4,0,none⟩=some (.slice Ra4 na4 ca4):=(zU H5).c0 0 rfl;have v5x0:w5.cell? ⟨P4,1,none⟩=some (.slice Rb4 nb4 cb4):=(zU H5).c1 0 rfl;have u5x1:w5.cell? ⟨P2,0,none⟩=some (.slice Ra2 na2 ca2):=(zU H5).c0 1 rfl;have v5x1:w5.cell? ⟨P2,1,none⟩=some (.slice Rb2 nb2 cb2):=(zU H5).c1 1 rfl;have u5x2:w5.cell? ⟨B,0,none⟩=some (.slice A n cap):=(zU H5).c0 2 rfl;have v5x2:w5.cell? ⟨B,1,none⟩=some (.slice A2 n2 cap2):=(zU H5).c1 2 rfl;go_wp2_with fail;refine (imageBegun_any _ ((zU HM).up (by have:=(zU H5).bel;rw [zU HB] at this;exact this))).mono ?_;rintro e w6 ⟨rfl,hb6⟩;have H6:=zH ((zU H5).below hb6);clear hb6;clear u5x0 v5x0 u5x1 v5x1 u5x2 v5x2;have u6x0:w6.cell? ⟨P4,0,none⟩=some (.slice Ra4 na4 ca4):=(zU H6).c0 0 rfl;have v6x0:w6.cell? ⟨P4,1,none⟩=some (.slice Rb4 nb4 cb4):=(zU H6).c1 0 rfl;have u6x1:w6.cell? ⟨P2,0,none⟩=some (.slice Ra2 na2 ca2):=(zU H6).c0 1 rfl;have v6x1:w6.cell? ⟨P2,1,none⟩=some (.slice Rb2 nb2 cb2):=(zU H6).c1 1 rfl;have u6x2:w6.cell? ⟨B,0,none⟩=some (.slice A n cap):=(zU H6).c0 2 rfl;have v6x2:w6.cell? ⟨B,1,none⟩=some (.slice A2 n2 cap2):=(zU H6).c1 2 rfl;go_wp2_with fail;go_ret;exact ⟨rfl,(zU H6).bel⟩
set_option maxHeartbeats 8000000 in
set_option maxRecDepth 100000 in
theorem imageBack_10 (A:Option Addr) (n cap:Nat) (A2:Option Addr) (n2 cap2:Nat) (a:Arc) (s:Bytes) (w:World) (h:ArcIn w A n A2 n2 a) (hz:ArcSz a) (hsl:s.length≤140737488355328) (hm:MaxLenIs w) (hs:(save a).2=0) (ho:(openA s).2≠0) :
  Calls Tryz.prog 5 #[arcV A n cap A2 n2 cap2,S s] w fun e w'=>e = .returned (.bool true)∧Below w.heap.size w w':=by
 have CS:=fun (W:World) (hi:ArcIn W A n A2 n2 a)=>save_any A n cap A2 n2 cap2 a W hi hz;obtain ⟨t1,ht1⟩:∃ t,t=(save a).1:=⟨_,rfl⟩
 have CO:=fun (W:World)=>open_any s W hsl;obtain ⟨c,hc⟩:∃ c,c=(openA s).1:=⟨_,rfl⟩
 rw [show save a=(t1,0) from Prod.ext ht1.symm hs] at CS
 have hck:checkA a=0:=by
  apply Decidable.byContradiction;intro h0;unfold save at hs;rw [if_pos h0] at hs;exact h0 hs
 have hlen:t1.length≤16384:=by
  unfold save at hs ht1;rw [if_neg (by simp [hck])] at hs ht1
  split at hs
  ·cases hs
  ·rename_i h1
   rw [if_neg h1] at ht1;rw [ht1];show (imageOf a).length≤16384;omega
 have hra:=(check_iff a).1 hck;have hrd:=hra.nd;have hrf:=hra.nf;have CT:=fun (W:World)=>open_any t1 W (by omega);rw [show openA t1=(a,0) from by rw [ht1];exact open_save hs] at CT;obtain ⟨e2,he2⟩:∃ t,t=(openA s).2:=⟨_,rfl⟩
 rw [show openA s=(c,e2) from Prod.ext hc.symm he2.symm] at CO;rw [←he2] at ho;have f1:((e2:Int) != 0)=true:=by rw [bne_iff_ne];omega
 have f2:((e2:Int) == 0)=false:=by rw [beq_eq_false_iff_ne];omega
 have f3:¬ (e2:Int)=0:=by omega
 clear he2;have CS:=zH CS;have CO:=zH CO;have CT:=zH CT;clear ht1 hc hz hs ho hsl hck hlen hra;obtain ⟨B,hB⟩:∃ B,B=w.heap.size:=⟨_,rfl⟩
 obtain ⟨w0,hw0⟩:∃ w0,w0=w.alloc (.cells #[.slice A n cap,.slice A2 n2 cap2] 33):=⟨_,rfl⟩
 have H0:=zH (show St w w0 B [⟨B,A,n,cap,A2,n2,cap2,a⟩] by rw [hw0,hB];exact St.box h cap cap2);have HB:=zH hB;have HW0:=zH hw0;have HM:=zH hm;rw [←hB];clear hB hw0 hm;go_enter Tryz.func5,Tryz.ntmps5;go_upto_region 1 with fail
 rw [←zU HW0,←zU HB];have u0x0:w0.cell? ⟨B,0,none⟩=some (.slice A n cap):=(zU H0).c0 0 rfl;have v0x0:w0.cell? ⟨B,1,none⟩=some (.slice A2 n2 cap2):=(zU H0).c1 0 rfl;go_wp2_with fail;refine (zU CS _ ((zU H0).at_ 0 rfl).i).mono ?_;rintro e w1 ⟨rfl,hb1⟩;have H1:=zH ((zU H0).below hb1);clear hb1;clear u0x0 v0x0;have u1x0:w1.cell? ⟨B,0,none⟩=some (.slice A n cap):=(zU H1).c0 0 rfl;have v1x0:w1.cell? ⟨B,1,none⟩=some (.slice A2 n2 cap2):=(zU H1).c1 0 rfl;go_wp2_with fail;refine (zU CT _).mono ?_;rintro e w2 ⟨hr2,hb2⟩;obtain ⟨Ra2,na2,ca2,Rb2,nb2,cb2,rfl,hi2,hc2,ho2⟩:=hr2.open2;have H2:=zH ((zU H1).below hb2);have HI2:=zH hi2;have HC2:=zH hc2;have HO2:=zH ho2;clear hb2 hi2 hc2 hr2 ho2;go_upto_region 4 with (refine wpList_store_row rfl 33 (.tmp 7) (.tmp 23) rfl w2.heap.size #[.slice Ra2 na2 ca2,.slice Rb2 nb2 cb2] rfl rfl 33 _ (heap_alloc_new _ _) sizeArc rfl (one_two _ _ _ _ _ _) ?_)
 obtain ⟨x2,hx2⟩:∃ x,x=(w2.alloc (.cells #[.slice none 0 0,.slice none 0 0] 33)).setRow w2.heap.size #[.slice Ra2 na2 ca2,.slice Rb2 nb2 cb2]:=⟨_,rfl⟩
 obtain ⟨P2,hP2⟩:∃ P,P=w2.heap.size:=⟨_,rfl⟩
 have G2:=zH (show St w x2 B [⟨P2,Ra2,na2,ca2,Rb2,nb2,cb2,a⟩,⟨B,A,n,cap,A2,n2,cap2,a⟩] by rw [hx2,hP2];exact (zU H2).new (zU HI2) ca2 cb2);rw [←hx2,←hP2];clear hx2 hP2;clear u1x0 v1x0;have u2x0:x2.cell? ⟨P2,0,none⟩=some (.slice Ra2 na2 ca2):=(zU G2).c0 0 rfl;have v2x0:x2.cell? ⟨P2,1,none⟩=some (.slice Rb2 nb2 cb2):=(zU G2).c1 0 rfl;have u2x1:x2.cell? ⟨B,0,none⟩=some (.slice A n cap):=(zU G2).c0 1 rfl;have v2x1:x2.cell? ⟨B,1,none⟩=some (.slice A2 n2 cap2):=(zU G2).c1 1 rfl;go_wp2_with fail;refine (sameArc Ra2 na2 ca2 Rb2 nb2 cb2 A n cap A2 n2 cap2 a _ ((zU G2).at_ 0 rfl).i ((zU G2).at_ 1 rfl).i hrd hrf).mono ?_;rintro e w3 ⟨rfl,hb3⟩;have H3:=zH ((zU G2).below hb3);clear hb3;clear u2x0 v2x0 u2x1 v2x1;have u3x0:w3.cell? ⟨P2,0,none⟩=some (.slice Ra2 na2 ca2):=(zU H3).c0 0 rfl;have v3x0:w3.cell? ⟨P2,1,none⟩=some (.slice Rb2 nb2 cb2):=(zU H3).c1 0 rfl;have u3x1:w3.cell? ⟨B,0,none⟩=some (.slice A n cap):=(zU H3).c0 1 rfl;have v3x1:w3.cell? ⟨B,1,none⟩=some (.slice A2 n2 cap2):=(zU H3).c1 1 rfl;go_wp2_with fail;refine (zU CO _).mono ?_;rintro e w4 ⟨hr4,hb4⟩;obtain ⟨Ra4,na4,ca4,Rb4,nb4,cb4,rfl,hi4,hc4,ho4⟩:=hr4.open2;have H4:=zH ((zU H3).below hb4);have HI4:=zH hi4;have HC4:=zH hc4;have HO4:=zH ho4;clear hb4 hi4 hc4 hr4 ho4;go_upto_region 7 with (refine wpList_store_row rfl 33 (.tmp 9) (.tmp 36) rfl w4.heap.size #[.slice Ra4 na4 ca4,.slice Rb4 nb4 cb4] rfl rfl 33 _ (heap_alloc_new _ _) sizeArc rfl (one_two _ _ _ _ _ _) ?_)
 obtain ⟨x4,hx4⟩:∃ x,x=(w4.alloc (.cells #[.slice none 0 0,.slice none 0 0] 33)).setRow w4.heap.size #[.slice Ra4 na4 ca4,.slice Rb4 nb4 cb4]:=⟨_,rfl⟩
 obtain ⟨P4,hP4⟩:∃ P,P=w4.heap.size:=⟨_,rfl⟩
 have G4:=zH (show St w x4 B [⟨P4,Ra4,na4,ca4,Rb4,nb4,cb4,c⟩,⟨P2,Ra2,na2,ca2,Rb2,nb2,cb2,a⟩,⟨B,A,n,cap,A2,n2,cap2,a⟩] by rw [hx4,hP4];exact (zU H4).new (zU HI4) ca4 cb4);rw [←hx4,←hP4];clear hx4 hP4;clear u3x0 v3x0 u3x1 v3x1;have u4x0:x4.cell? ⟨P4,0,none⟩=some (.slice Ra4 na4 ca4):=(zU G4).c0 0 rfl;have v4x0:x4.cell? ⟨P4,1,none⟩=some (.slice Rb4 nb4 cb4):=(zU G4).c1 0 rfl;have u4x1:x4.cell? ⟨P2,0,none⟩=some (.slice Ra2 na2 ca2):=(zU G4).c0 1 rfl;have v4x1:x4.cell? ⟨P2,1,none⟩=some (.slice Rb2 nb2 cb2):=(zU G4).c1 1 rfl;have u4x2:x4.cell? ⟨B,0,none⟩=some (.slice A n cap):=(zU G4).c0 2 rfl;have v4x2:x4.cell? ⟨B,1,none⟩=some (.slice A2 n2 cap2):=(zU G4).c1 2 rfl;go_wp2_with fail;refine (imageBegun_any _ ((zU HM).up (by have:=(zU G4).bel;rw [zU HB] at this;exact this))).mono ?_;rintro e w5 ⟨rfl,hb5⟩;have H5:=zH ((zU G4).below hb5);clear hb5;clear u4x0 v4x0 u4x1 v4x1 u4x2 v4x2;have u5x0:w5.cell? ⟨P4,0,none⟩=some (.slice Ra4 na4 ca4):=(zU H5).c0 0 rfl;have v5x0:w5.cell? ⟨P4,1,none⟩=some (.slice Rb4 nb4 cb4):=(zU H5).c1 0 rfl;have u5x1:w5.cell? ⟨P2,0,none⟩=some (.slice Ra2 na2 ca2):=(zU H5).c0 1 rfl;have v5x1:w5.cell? ⟨P2,1,none⟩=some (.slice Rb2 nb2 cb2):=(zU H5).c1 1 rfl;have u5x2:w5.cell? ⟨B,0,none⟩=some (.slice A n cap):=(zU H5).c0 2 rfl;have v5x2:w5.cell? ⟨B,1,none⟩=some (.slice A2 n2 cap2):=(zU H5).c1 2 rfl;go_wp2_with fail;go_ret;exact ⟨rfl,(zU H5).bel⟩
set_option maxHeartbeats 8000000 in
set_option maxRecDepth 100000 in
theorem imageBack_01 (A:Option Addr) (n cap:Nat) (A2:Option Addr) (n2 cap2:Nat) (a:Arc) (s:Bytes) (w:World) (h:ArcIn w A n A2 n2 a) (hz:ArcSz a) (hsl:s.length≤140737488355328) (hm:MaxLenIs w) (hs:(save a).2≠0) (ho:(openA s).2=0) :
  Calls Tryz.prog 5 #[arcV A n cap A2 n2 cap2,S s] w fun e w'=>e = .returned (.bool true)∧Below w.heap.size w w':=by
 have CS:=fun (W:World) (hi:ArcIn W A n A2 n2 a)=>save_any A n cap A2 n2 cap2 a W hi hz;obtain ⟨t1,ht1⟩:∃ t,t=(save a).1:=⟨_,rfl⟩
 have CO:=fun (W:World)=>open_any s W hsl;obtain ⟨c,hc⟩:∃ c,c=(openA s).1:=⟨_,rfl⟩
 obtain ⟨e1,he1⟩:∃ t,t=(save a).2:=⟨_,rfl⟩
 rw [show save a=(t1,e1) from Prod.ext ht1.symm he1.symm] at CS;rw [←he1] at hs;have d1:((e1:Int) != 0)=true:=by rw [bne_iff_ne];omega
 have d2:((e1:Int) == 0)=false:=by rw [beq_eq_false_iff_ne];omega
 have d3:¬ (e1:Int)=0:=by omega
 clear he1;rw [show openA s=(c,0) from Prod.ext hc.symm ho] at CO
 have hrc:RightA c:=by
  have ho2:=ho;unfold openA at ho2 hc
  split at ho2
  ·cases ho2
  ·rename_i h1
   rw [if_neg h1] at hc;cases hq:arcFrom s with
   | none=>rw [hq] at ho2;cases ho2
   | some x =>
    rw [hq] at hc;rw [hc];exact (check_iff x).1 ((arcFrom_iff s x).1 hq).1
 have CV:=fun (W:World) (A:Option Addr) (n cap:Nat) (A2:Option Addr) (n2 cap2:Nat) (hi:ArcIn W A n A2 n2 c)=>save_any A n cap A2 n2 cap2 c W hi (right_sz hrc);rw [show save c=(s,0) from by rw [hc];exact save_open ho] at CV;clear hrc;have CS:=zH CS;have CO:=zH CO;have CV:=zH CV;clear ht1 hc hz hs ho hsl;obtain ⟨B,hB⟩:∃ B,B=w.heap.size:=⟨_,rfl⟩
 obtain ⟨w0,hw0⟩:∃ w0,w0=w.alloc (.cells #[.slice A n cap,.slice A2 n2 cap2] 33):=⟨_,rfl⟩
 have H0:=zH (show St w w0 B [⟨B,A,n,cap,A2,n2,cap2,a⟩] by rw [hw0,hB];exact St.box h cap cap2);have HB:=zH hB;have HW0:=zH hw0;have HM:=zH hm;rw [←hB];clear hB hw0 hm;go_enter Tryz.func5,Tryz.ntmps5;go_upto_region 1 with fail
 rw [←zU HW0,←zU HB];have u0x0:w0.cell? ⟨B,0,none⟩=some (.slice A n cap):=(zU H0).c0 0 rfl;have v0x0:w0.cell? ⟨B,1,none⟩=some (.slice A2 n2 cap2):=(zU H0).c1 0 rfl;go_wp2_with fail;refine (zU CS _ ((zU H0).at_ 0 rfl).i).mono ?_;rintro e w1 ⟨rfl,hb1⟩;have H1:=zH ((zU H0).below hb1);clear hb1;clear u0x0 v0x0;have u1x0:w1.cell? ⟨B,0,none⟩=some (.slice A n cap):=(zU H1).c0 0 rfl;have v1x0:w1.cell? ⟨B,1,none⟩=some (.slice A2 n2 cap2):=(zU H1).c1 0 rfl;go_wp2_with fail;refine (zU CO _).mono ?_;rintro e w2 ⟨hr2,hb2⟩;obtain ⟨Ra2,na2,ca2,Rb2,nb2,cb2,rfl,hi2,hc2,ho2⟩:=hr2.open2;have H2:=zH ((zU H1).below hb2);have HI2:=zH hi2;have HC2:=zH hc2;have HO2:=zH ho2;clear hb2 hi2 hc2 hr2 ho2;go_upto_region 7 with (refine wpList_store_row rfl 33 (.tmp 9) (.tmp 36) rfl w2.heap.size #[.slice Ra2 na2 ca2,.slice Rb2 nb2 cb2] rfl rfl 33 _ (heap_alloc_new _ _) sizeArc rfl (one_two _ _ _ _ _ _) ?_)
 obtain ⟨x2,hx2⟩:∃ x,x=(w2.alloc (.cells #[.slice none 0 0,.slice none 0 0] 33)).setRow w2.heap.size #[.slice Ra2 na2 ca2,.slice Rb2 nb2 cb2]:=⟨_,rfl⟩
 obtain ⟨P2,hP2⟩:∃ P,P=w2.heap.size:=⟨_,rfl⟩
 have G2:=zH (show St w x2 B [⟨P2,Ra2,na2,ca2,Rb2,nb2,cb2,c⟩,⟨B,A,n,cap,A2,n2,cap2,a⟩] by rw [hx2,hP2];exact (zU H2).new (zU HI2) ca2 cb2);rw [←hx2,←hP2];clear hx2 hP2;clear u1x0 v1x0;have u2x0:x2.cell? ⟨P2,0,none⟩=some (.slice Ra2 na2 ca2):=(zU G2).c0 0 rfl;have v2x0:x2.cell? ⟨P2,1,none⟩=some (.slice Rb2 nb2 cb2):=(zU G2).c1 0 rfl;have u2x1:x2.cell? ⟨B,0,none⟩=some (.slice A n cap):=(zU G2).c0 1 rfl;have v2x1:x2.cell? ⟨B,1,none⟩=some (.slice A2 n2 cap2):=(zU G2).c1 1 rfl;go_wp2_with fail;refine (zU CV _ _ _ _ _ _ _ ((zU G2).at_ 0 rfl).i).mono ?_;rintro e w3 ⟨rfl,hb3⟩;have H3:=zH ((zU G2).below hb3);clear hb3;clear u2x0 v2x0 u2x1 v2x1;have u3x0:w3.cell? ⟨P2,0,none⟩=some (.slice Ra2 na2 ca2):=(zU H3).c0 0 rfl;have v3x0:w3.cell? ⟨P2,1,none⟩=some (.slice Rb2 nb2 cb2):=(zU H3).c1 0 rfl;have u3x1:w3.cell? ⟨B,0,none⟩=some (.slice A n cap):=(zU H3).c0 1 rfl;have v3x1:w3.cell? ⟨B,1,none⟩=some (.slice A2 n2 cap2):=(zU H3).c1 1 rfl;go_wp2_with fail;refine (imageBegun_any _ ((zU HM).up (by have:=(zU H3).bel;rw [zU HB] at this;exact this))).mono ?_;rintro e w4 ⟨rfl,hb4⟩;have H4:=zH ((zU H3).below hb4);clear hb4;clear u3x0 v3x0 u3x1 v3x1;have u4x0:w4.cell? ⟨P2,0,none⟩=some (.slice Ra2 na2 ca2):=(zU H4).c0 0 rfl;have v4x0:w4.cell? ⟨P2,1,none⟩=some (.slice Rb2 nb2 cb2):=(zU H4).c1 0 rfl;have u4x1:w4.cell? ⟨B,0,none⟩=some (.slice A n cap):=(zU H4).c0 1 rfl;have v4x1:w4.cell? ⟨B,1,none⟩=some (.slice A2 n2 cap2):=(zU H4).c1 1 rfl;go_wp2_with fail;go_ret;exact ⟨rfl,(zU H4).bel⟩
set_option maxHeartbeats 8000000 in
set_option maxRecDepth 100000 in
theorem imageBack_00 (A:Option Addr) (n cap:Nat) (A2:Option Addr) (n2 cap2:Nat) (a:Arc) (s:Bytes) (w:World) (h:ArcIn w A n A2 n2 a) (hz:ArcSz a) (hsl:s.length≤140737488355328) (hm:MaxLenIs w) (hs:(save a).2≠0) (ho:(openA s).2≠0) :
  Calls Tryz.prog 5 #[arcV A n cap A2 n2 cap2,S s] w fun e w'=>e = .returned (.bool true)∧Below w.heap.size w w':=by
 have CS:=fun (W:World) (hi:ArcIn W A n A2 n2 a)=>save_any A n cap A2 n2 cap2 a W hi hz;obtain ⟨t1,ht1⟩:∃ t,t=(save a).1:=⟨_,rfl⟩
 have CO:=fun (W:World)=>open_any s W hsl;obtain ⟨c,hc⟩:∃ c,c=(openA s).1:=⟨_,rfl⟩
 obtain ⟨e1,he1⟩:∃ t,t=(save a).2:=⟨_,rfl⟩
 rw [show save a=(t1,e1) from Prod.ext ht1.symm he1.symm] at CS;rw [←he1] at hs;have d1:((e1:Int) != 0)=true:=by rw [bne_iff_ne];omega
 have d2:((e1:Int) == 0)=false:=by rw [beq_eq_false_iff_ne];omega
 have d3:¬ (e1:Int)=0:=by omega
 clear he1;obtain ⟨e2,he2⟩:∃ t,t=(openA s).2:=⟨_,rfl⟩
 rw [show openA s=(c,e2) from Prod.ext hc.symm he2.symm] at CO;rw [←he2] at ho;have f1:((e2:Int) != 0)=true:=by rw [bne_iff_ne];omega
 have f2:((e2:Int) == 0)=false:=by rw [beq_eq_false_iff_ne];omega
 have f3:¬ (e2:Int)=0:=by omega
 clear he2;have CS:=zH CS;have CO:=zH CO;clear ht1 hc hz hs ho hsl;obtain ⟨B,hB⟩:∃ B,B=w.heap.size:=⟨_,rfl⟩
 obtain ⟨w0,hw0⟩:∃ w0,w0=w.alloc (.cells #[.slice A n cap,.slice A2 n2 cap2] 33):=⟨_,rfl⟩
 have H0:=zH (show St w w0 B [⟨B,A,n,cap,A2,n2,cap2,a⟩] by rw [hw0,hB];exact St.box h cap cap2);have HB:=zH hB;have HW0:=zH hw0;have HM:=zH hm;rw [←hB];clear hB hw0 hm;go_enter Tryz.func5,Tryz.ntmps5;go_upto_region 1 with fail
 rw [←zU HW0,←zU HB];have u0x0:w0.cell? ⟨B,0,none⟩=some (.slice A n cap):=(zU H0).c0 0 rfl;have v0x0:w0.cell? ⟨B,1,none⟩=some (.slice A2 n2 cap2):=(zU H0).c1 0 rfl;go_wp2_with fail;refine (zU CS _ ((zU H0).at_ 0 rfl).i).mono ?_;rintro e w1 ⟨rfl,hb1⟩;have H1:=zH ((zU H0).below hb1);clear hb1;clear u0x0 v0x0;have u1x0:w1.cell? ⟨B,0,none⟩=some (.slice A n cap):=(zU H1).c0 0 rfl;have v1x0:w1.cell? ⟨B,1,none⟩=some (.slice A2 n2 cap2):=(zU H1).c1 0 rfl;go_wp2_with fail;refine (zU CO _).mono ?_;rintro e w2 ⟨hr2,hb2⟩;obtain ⟨Ra2,na2,ca2,Rb2,nb2,cb2,rfl,hi2,hc2,ho2⟩:=hr2.open2;have H2:=zH ((zU H1).below hb2);have HI2:=zH hi2;have HC2:=zH hc2;have HO2:=zH ho2;clear hb2 hi2 hc2 hr2 ho2;go_upto_region 7 with (refine wpList_store_row rfl 33 (.tmp 9) (.tmp 36) rfl w2.heap.size #[.slice Ra2 na2 ca2,.slice Rb2 nb2 cb2] rfl rfl 33 _ (heap_alloc_new _ _) sizeArc rfl (one_two _ _ _ _ _ _) ?_)
 obtain ⟨x2,hx2⟩:∃ x,x=(w2.alloc (.cells #[.slice none 0 0,.slice none 0 0] 33)).setRow w2.heap.size #[.slice Ra2 na2 ca2,.slice Rb2 nb2 cb2]:=⟨_,rfl⟩
 obtain ⟨P2,hP2⟩:∃ P,P=w2.heap.size:=⟨_,rfl⟩
 have G2:=zH (show St w x2 B [⟨P2,Ra2,na2,ca2,Rb2,nb2,cb2,c⟩,⟨B,A,n,cap,A2,n2,cap2,a⟩] by rw [hx2,hP2];exact (zU H2).new (zU HI2) ca2 cb2);rw [←hx2,←hP2];clear hx2 hP2;clear u1x0 v1x0;have u2x0:x2.cell? ⟨P2,0,none⟩=some (.slice Ra2 na2 ca2):=(zU G2).c0 0 rfl;have v2x0:x2.cell? ⟨P2,1,none⟩=some (.slice Rb2 nb2 cb2):=(zU G2).c1 0 rfl;have u2x1:x2.cell? ⟨B,0,none⟩=some (.slice A n cap):=(zU G2).c0 1 rfl;have v2x1:x2.cell? ⟨B,1,none⟩=some (.slice A2 n2 cap2):=(zU G2).c1 1 rfl;go_wp2_with fail;refine (imageBegun_any _ ((zU HM).up (by have:=(zU G2).bel;rw [zU HB] at this;exact this))).mono ?_;rintro e w3 ⟨rfl,hb3⟩;have H3:=zH ((zU G2).below hb3);clear hb3;clear u2x0 v2x0 u2x1 v2x1;have u3x0:w3.cell? ⟨P2,0,none⟩=some (.slice Ra2 na2 ca2):=(zU H3).c0 0 rfl;have v3x0:w3.cell? ⟨P2,1,none⟩=some (.slice Rb2 nb2 cb2):=(zU H3).c1 0 rfl;have u3x1:w3.cell? ⟨B,0,none⟩=some (.slice A n cap):=(zU H3).c0 1 rfl;have v3x1:w3.cell? ⟨B,1,none⟩=some (.slice A2 n2 cap2):=(zU H3).c1 1 rfl;go_wp2_with fail;go_ret;exact ⟨rfl,(zU H3).bel⟩
theorem imageBack_any (A:Option Addr) (n cap:Nat) (A2:Option Addr) (n2 cap2:Nat) (a:Arc) (s:Bytes) (w:World) (h:ArcIn w A n A2 n2 a) (hz:ArcSz a) (hsl:s.length≤140737488355328) (hm:MaxLenIs w) :
  Calls Tryz.prog 5 #[arcV A n cap A2 n2 cap2,S s] w fun e w'=>e = .returned (.bool true)∧Below w.heap.size w w':=by
 by_cases hs:(save a).2=0
 ·by_cases ho:(openA s).2=0
  ·exact imageBack_11 A n cap A2 n2 cap2 a s w h hz hsl hm hs ho
  ·exact imageBack_10 A n cap A2 n2 cap2 a s w h hz hsl hm hs ho
 ·by_cases ho:(openA s).2=0
  ·exact imageBack_01 A n cap A2 n2 cap2 a s w h hz hsl hm hs ho
  ·exact imageBack_00 A n cap A2 n2 cap2 a s w h hz hsl hm hs ho
end Go.Proofs.YtjpgoeimclipjaaGreat
