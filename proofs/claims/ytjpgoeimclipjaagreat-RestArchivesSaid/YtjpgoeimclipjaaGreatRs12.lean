/- Parts of the proofs. -/
import Derived.Test.YtjpgoeimclipjaaGreatRs11
import Derived.OrdersHeld
namespace Go.Proofs.YtjpgoeimclipjaaGreat
open Go.RowKit Go.Lib Pl
attribute [local go_sem] ext_list app_list
set_option maxHeartbeats 8000000 in
set_option maxRecDepth 100000 in
theorem archBegun_any (w:World) (hm:MaxLenIs w):Calls Tryz.prog 30 #[] w fun e w'=>e = .returned (.bool true)∧Below w.heap.size w w':=by
 obtain ⟨B,hB⟩:∃ B,B=w.heap.size:=⟨_,rfl⟩
 have H0:=zH (show St w w B [] by rw [hB];exact St.nil w);have HM:=zH hm;have HB:=zH hB;have CG1:=fun (W:World) (A:Option Addr) (n cap:Nat) (A2:Option Addr) (n2 cap2:Nat) (h:ArcIn W A n A2 n2 twoA)=>get_any A n cap A2 n2 cap2 twoA [98] W h (right_sz twoA_right);rw [twoA_get_b] at CG1;have CR:=fun (W:World) (A:Option Addr) (n cap:Nat) (A2:Option Addr) (n2 cap2:Nat) (h:ArcIn W A n A2 n2 twoA)=>range_any A n cap A2 n2 cap2 twoA [97] 4 4 W h (right_sz twoA_right) (by decide) (by decide) (by decide) (by decide);rw [twoA_range] at CR;have CD:=fun (W:World) (A:Option Addr) (n cap:Nat) (A2:Option Addr) (n2 cap2:Nat) (h:ArcIn W A n A2 n2 twoA)=>drop_any A n cap A2 n2 cap2 twoA [97] W h (right_sz twoA_right);rw [show drop twoA [97]=(twoDr,0) from by rw [two_drop,twoDr_eq]] at CD;have CG2:=fun (W:World) (A:Option Addr) (n cap:Nat) (A2:Option Addr) (n2 cap2:Nat) (h:ArcIn W A n A2 n2 twoDr)=>get_any A n cap A2 n2 cap2 twoDr [97] W h (right_sz twoDr_right);rw [twoDr_get] at CG2;have CC:=fun (W:World) (A:Option Addr) (n cap:Nat) (A2:Option Addr) (n2 cap2:Nat) (h:ArcIn W A n A2 n2 twoDr)=>compact_any A n cap A2 n2 cap2 twoDr W h (right_sz twoDr_right);rw [show compact twoDr=(twoC,0) from Prod.ext rfl two_compact] at CC;have CS:=fun (W:World) (A:Option Addr) (n cap:Nat) (A2:Option Addr) (n2 cap2:Nat) (h:ArcIn W A n A2 n2 twoC) (hc:n≤cap)=>arcSize_any A n cap A2 n2 cap2 twoC W h (right_sz twoC_right) hc;rw [(check_iff twoC).2 twoC_right,if_pos rfl] at CS;have CP:=fun (W:World) (A:Option Addr) (n cap:Nat) (A2:Option Addr) (n2 cap2:Nat) (h:ArcIn W A n A2 n2 twoA)=>put_any A n cap A2 n2 cap2 twoA [99] [] 0 W h (right_sz twoA_right) (by decide) (by decide) (by decide) (by decide);obtain ⟨pA,hpA⟩:∃ pA,pA=(put twoA [99] [] 0).1:=⟨_,rfl⟩
 rw [show put twoA [99] [] 0=(pA,0) from by rw [hpA,two_c]] at CP;have hp3:pA.fs.length=3:=by rw [hpA,two_c];rfl
 have CK:=fun (W:World) (A:Option Addr) (n cap:Nat) (A2:Option Addr) (n2 cap2:Nat) (h:ArcIn W A n A2 n2 twoA)=>check_arch A n cap A2 n2 cap2 twoA W h (right_sz twoA_right);rw [(check_iff twoA).2 twoA_right] at CK;obtain ⟨z,hz⟩:∃ z,z=sizeA twoC:=⟨_,rfl⟩
 have hz33:(32:Int)<(z:Int):=by have:=twoC_fs.2;omega
 rw [←hz] at CS;have CG1:=zH CG1;have CR:=zH CR;have CD:=zH CD;have CG2:=zH CG2;have CC:=zH CC;have CS:=zH CS;have CP:=zH CP;have CK:=zH CK;have HP3:=zH hp3;rw [←hB];clear hB hm hz hpA hp3;go_enter Tryz.func30,Tryz.ntmps30;go_wp2_with fail;refine (two_any _ ((zU HM).up (by have:=(zU H0).bel;rw [zU HB] at this;exact this))).mono ?_;rintro e w1 ⟨⟨Ra1,na1,ca1,Rb1,nb1,cb1,rfl,hi1,hc1,hn1⟩,hb1⟩;have H1:=zH ((zU H0).below hb1);have HI1:=zH hi1;have HC1:=zH hc1;subst hn1;clear hb1 hi1 hc1;go_wp2_with fail;refine (zU CG1 _ _ _ _ _ _ _ (zU HI1)).mono ?_;rintro e w2 ⟨rfl,hb2⟩;have H2:=zH ((zU H1).below hb2);clear hb2;go_wp2_with fail;refine (two_any _ ((zU HM).up (by have:=(zU H2).bel;rw [zU HB] at this;exact this))).mono ?_;rintro e w3 ⟨⟨Ra3,na3,ca3,Rb3,nb3,cb3,rfl,hi3,hc3,hn3⟩,hb3⟩;have H3:=zH ((zU H2).below hb3);have HI3:=zH hi3;have HC3:=zH hc3;subst hn3;clear hb3 hi3 hc3;go_wp2_with fail;refine (zU CR _ _ _ _ _ _ _ (zU HI3)).mono ?_;rintro e w4 ⟨rfl,hb4⟩;have H4:=zH ((zU H3).below hb4);clear hb4;go_wp2_with fail;refine (two_any _ ((zU HM).up (by have:=(zU H4).bel;rw [zU HB] at this;exact this))).mono ?_;rintro e w5 ⟨⟨Ra5,na5,ca5,Rb5,nb5,cb5,rfl,hi5,hc5,hn5⟩,hb5⟩;have H5:=zH ((zU H4).below hb5);have HI5:=zH hi5;have HC5:=zH hc5;subst hn5;clear hb5 hi5 hc5;go_wp2_with fail;refine (zU CD _ _ _ _ _ _ _ (zU HI5)).mono ?_;rintro e w6 ⟨hr6,hb6⟩;obtain ⟨Ra6,na6,ca6,Rb6,nb6,cb6,rfl,hi6,hc6,ho6⟩:=hr6.open;have H6:=zH ((zU H5).below hb6);have HI6:=zH hi6;have HC6:=zH hc6;have HO6:=zH ho6;clear hb6 hi6 hc6 hr6 ho6;go_upto_region 4 with (refine wpList_store_row rfl 33 (.tmp 5) (.tmp 28) rfl w6.heap.size #[.slice Ra6 na6 ca6,.slice Rb6 nb6 cb6] rfl rfl 33 _ (heap_alloc_new _ _) sizeArc rfl (one_two _ _ _ _ _ _) ?_)
 obtain ⟨x6,hx6⟩:∃ x,x=(w6.alloc (.cells #[.slice none 0 0,.slice none 0 0] 33)).setRow w6.heap.size #[.slice Ra6 na6 ca6,.slice Rb6 nb6 cb6]:=⟨_,rfl⟩
 obtain ⟨P6,hP6⟩:∃ P,P=w6.heap.size:=⟨_,rfl⟩
 have G6:=zH (show St w x6 B [⟨P6,Ra6,na6,ca6,Rb6,nb6,cb6,twoDr⟩] by rw [hx6,hP6];exact (zU H6).new (zU HI6) ca6 cb6);rw [←hx6,←hP6];clear hx6 hP6;have u6x0:x6.cell? ⟨P6,0,none⟩=some (.slice Ra6 na6 ca6):=(zU G6).c0 0 rfl;have v6x0:x6.cell? ⟨P6,1,none⟩=some (.slice Rb6 nb6 cb6):=(zU G6).c1 0 rfl;go_wp2_with fail;refine (zU CG2 _ _ _ _ _ _ _ ((zU G6).at_ 0 rfl).i).mono ?_;rintro e w7 ⟨rfl,hb7⟩;have H7:=zH ((zU G6).below hb7);clear hb7;clear u6x0 v6x0;have u7x0:w7.cell? ⟨P6,0,none⟩=some (.slice Ra6 na6 ca6):=(zU H7).c0 0 rfl;have v7x0:w7.cell? ⟨P6,1,none⟩=some (.slice Rb6 nb6 cb6):=(zU H7).c1 0 rfl;go_wp2_with fail;refine (zU CC _ _ _ _ _ _ _ ((zU H7).at_ 0 rfl).i).mono ?_;rintro e w8 ⟨hr8,hb8⟩;obtain ⟨Ra8,na8,ca8,Rb8,nb8,cb8,rfl,hi8,hc8,ho8⟩:=hr8.open;have H8:=zH ((zU H7).below hb8);have HI8:=zH hi8;have HC8:=zH hc8;have HO8:=zH ho8;clear hb8 hi8 hc8 hr8 ho8;obtain rfl:na8=1:=by have:=(zU HI8).s.1;rw [twoC_ds] at this;exact this.symm
 go_upto_region 6 with (refine wpList_store_row rfl 33 (.tmp 9) (.tmp 38) rfl w8.heap.size #[.slice Ra8 1 ca8,.slice Rb8 nb8 cb8] rfl rfl 33 _ (heap_alloc_new _ _) sizeArc rfl (one_two _ _ _ _ _ _) ?_)
 obtain ⟨x8,hx8⟩:∃ x,x=(w8.alloc (.cells #[.slice none 0 0,.slice none 0 0] 33)).setRow w8.heap.size #[.slice Ra8 1 ca8,.slice Rb8 nb8 cb8]:=⟨_,rfl⟩
 obtain ⟨P8,hP8⟩:∃ P,P=w8.heap.size:=⟨_,rfl⟩
 have G8:=zH (show St w x8 B [⟨P8,Ra8,1,ca8,Rb8,nb8,cb8,twoC⟩,⟨P6,Ra6,na6,ca6,Rb6,nb6,cb6,twoDr⟩] by rw [hx8,hP8];exact (zU H8).new (zU HI8) ca8 cb8);rw [←hx8,←hP8];clear hx8 hP8;clear u7x0 v7x0;have u8x0:x8.cell? ⟨P8,0,none⟩=some (.slice Ra8 1 ca8):=(zU G8).c0 0 rfl;have v8x0:x8.cell? ⟨P8,1,none⟩=some (.slice Rb8 nb8 cb8):=(zU G8).c1 0 rfl;have u8x1:x8.cell? ⟨P6,0,none⟩=some (.slice Ra6 na6 ca6):=(zU G8).c0 1 rfl;have v8x1:x8.cell? ⟨P6,1,none⟩=some (.slice Rb6 nb6 cb6):=(zU G8).c1 1 rfl;go_wp2_with fail;refine (zU CS _ _ _ _ _ _ _ ((zU G8).at_ 0 rfl).i (zU HC8)).mono ?_;rintro e w9 ⟨rfl,hb9⟩;have H9:=zH ((zU G8).below hb9);clear hb9;clear u8x0 v8x0 u8x1 v8x1;have u9x0:w9.cell? ⟨P8,0,none⟩=some (.slice Ra8 1 ca8):=(zU H9).c0 0 rfl;have v9x0:w9.cell? ⟨P8,1,none⟩=some (.slice Rb8 nb8 cb8):=(zU H9).c1 0 rfl;have u9x1:w9.cell? ⟨P6,0,none⟩=some (.slice Ra6 na6 ca6):=(zU H9).c0 1 rfl;have v9x1:w9.cell? ⟨P6,1,none⟩=some (.slice Rb6 nb6 cb6):=(zU H9).c1 1 rfl;go_wp2_with fail;refine (two_any _ ((zU HM).up (by have:=(zU H9).bel;rw [zU HB] at this;exact this))).mono ?_;rintro e w10 ⟨⟨Ra10,na10,ca10,Rb10,nb10,cb10,rfl,hi10,hc10,hn10⟩,hb10⟩;have H10:=zH ((zU H9).below hb10);have HI10:=zH hi10;have HC10:=zH hc10;subst hn10;clear hb10 hi10 hc10;clear u9x0 v9x0 u9x1 v9x1;have u10x0:w10.cell? ⟨P8,0,none⟩=some (.slice Ra8 1 ca8):=(zU H10).c0 0 rfl;have v10x0:w10.cell? ⟨P8,1,none⟩=some (.slice Rb8 nb8 cb8):=(zU H10).c1 0 rfl;have u10x1:w10.cell? ⟨P6,0,none⟩=some (.slice Ra6 na6 ca6):=(zU H10).c0 1 rfl;have v10x1:w10.cell? ⟨P6,1,none⟩=some (.slice Rb6 nb6 cb6):=(zU H10).c1 1 rfl;go_wp2_with fail;refine (zU CP _ _ _ _ _ _ _ (zU HI10)).mono ?_;rintro e w11 ⟨hr11,hb11⟩;obtain ⟨Ra11,na11,ca11,Rb11,nb11,cb11,rfl,hi11,hc11,ho11⟩:=hr11.open;have H11:=zH ((zU H10).below hb11);have HI11:=zH hi11;have HC11:=zH hc11;have HO11:=zH ho11;clear hb11 hi11 hc11 hr11 ho11;obtain rfl:nb11=3:=by have:=(zU HI11).f.1;rw [zU HP3] at this;exact this.symm
 go_upto_region 8 with (refine wpList_store_row rfl 33 (.tmp 13) (.tmp 48) rfl w11.heap.size #[.slice Ra11 na11 ca11,.slice Rb11 3 cb11] rfl rfl 33 _ (heap_alloc_new _ _) sizeArc rfl (one_two _ _ _ _ _ _) ?_)
 obtain ⟨x11,hx11⟩:∃ x,x=(w11.alloc (.cells #[.slice none 0 0,.slice none 0 0] 33)).setRow w11.heap.size #[.slice Ra11 na11 ca11,.slice Rb11 3 cb11]:=⟨_,rfl⟩
 obtain ⟨P11,hP11⟩:∃ P,P=w11.heap.size:=⟨_,rfl⟩
 have G11:=zH (show St w x11 B [⟨P11,Ra11,na11,ca11,Rb11,3,cb11,pA⟩,⟨P8,Ra8,1,ca8,Rb8,nb8,cb8,twoC⟩,⟨P6,Ra6,na6,ca6,Rb6,nb6,cb6,twoDr⟩] by rw [hx11,hP11];exact (zU H11).new (zU HI11) ca11 cb11);rw [←hx11,←hP11];clear hx11 hP11;clear u10x0 v10x0 u10x1 v10x1;have u11x0:x11.cell? ⟨P11,0,none⟩=some (.slice Ra11 na11 ca11):=(zU G11).c0 0 rfl;have v11x0:x11.cell? ⟨P11,1,none⟩=some (.slice Rb11 3 cb11):=(zU G11).c1 0 rfl;have u11x1:x11.cell? ⟨P8,0,none⟩=some (.slice Ra8 1 ca8):=(zU G11).c0 1 rfl;have v11x1:x11.cell? ⟨P8,1,none⟩=some (.slice Rb8 nb8 cb8):=(zU G11).c1 1 rfl;have u11x2:x11.cell? ⟨P6,0,none⟩=some (.slice Ra6 na6 ca6):=(zU G11).c0 2 rfl;have v11x2:x11.cell? ⟨P6,1,none⟩=some (.slice Rb6 nb6 cb6):=(zU G11).c1 2 rfl;go_wp2_with fail;refine (two_any _ ((zU HM).up (by have:=(zU G11).bel;rw [zU HB] at this;exact this))).mono ?_;rintro e w12 ⟨⟨Ra12,na12,ca12,Rb12,nb12,cb12,rfl,hi12,hc12,hn12⟩,hb12⟩;have H12:=zH ((zU G11).below hb12);have HI12:=zH hi12;have HC12:=zH hc12;subst hn12;clear hb12 hi12 hc12;clear u11x0 v11x0 u11x1 v11x1 u11x2 v11x2;have u12x0:w12.cell? ⟨P11,0,none⟩=some (.slice Ra11 na11 ca11):=(zU H12).c0 0 rfl;have v12x0:w12.cell? ⟨P11,1,none⟩=some (.slice Rb11 3 cb11):=(zU H12).c1 0 rfl;have u12x1:w12.cell? ⟨P8,0,none⟩=some (.slice Ra8 1 ca8):=(zU H12).c0 1 rfl;have v12x1:w12.cell? ⟨P8,1,none⟩=some (.slice Rb8 nb8 cb8):=(zU H12).c1 1 rfl;have u12x2:w12.cell? ⟨P6,0,none⟩=some (.slice Ra6 na6 ca6):=(zU H12).c0 2 rfl;have v12x2:w12.cell? ⟨P6,1,none⟩=some (.slice Rb6 nb6 cb6):=(zU H12).c1 2 rfl;go_wp2_with fail;refine (zU CK _ _ _ _ _ _ _ (zU HI12)).mono ?_;rintro e w13 ⟨rfl,hb13⟩;have H13:=zH ((zU H12).below hb13);clear hb13;clear u12x0 v12x0 u12x1 v12x1 u12x2 v12x2;have u13x0:w13.cell? ⟨P11,0,none⟩=some (.slice Ra11 na11 ca11):=(zU H13).c0 0 rfl;have v13x0:w13.cell? ⟨P11,1,none⟩=some (.slice Rb11 3 cb11):=(zU H13).c1 0 rfl;have u13x1:w13.cell? ⟨P8,0,none⟩=some (.slice Ra8 1 ca8):=(zU H13).c0 1 rfl;have v13x1:w13.cell? ⟨P8,1,none⟩=some (.slice Rb8 nb8 cb8):=(zU H13).c1 1 rfl;have u13x2:w13.cell? ⟨P6,0,none⟩=some (.slice Ra6 na6 ca6):=(zU H13).c0 2 rfl;have v13x2:w13.cell? ⟨P6,1,none⟩=some (.slice Rb6 nb6 cb6):=(zU H13).c1 2 rfl;go_wp2_with fail;refine (two_any _ ((zU HM).up (by have:=(zU H13).bel;rw [zU HB] at this;exact this))).mono ?_;rintro e w14 ⟨⟨Ra14,na14,ca14,Rb14,nb14,cb14,rfl,hi14,hc14,hn14⟩,hb14⟩;have H14:=zH ((zU H13).below hb14);have HI14:=zH hi14;have HC14:=zH hc14;subst hn14;clear hb14 hi14 hc14;clear u13x0 v13x0 u13x1 v13x1 u13x2 v13x2;have u14x0:w14.cell? ⟨P11,0,none⟩=some (.slice Ra11 na11 ca11):=(zU H14).c0 0 rfl;have v14x0:w14.cell? ⟨P11,1,none⟩=some (.slice Rb11 3 cb11):=(zU H14).c1 0 rfl;have u14x1:w14.cell? ⟨P8,0,none⟩=some (.slice Ra8 1 ca8):=(zU H14).c0 1 rfl;have v14x1:w14.cell? ⟨P8,1,none⟩=some (.slice Rb8 nb8 cb8):=(zU H14).c1 1 rfl;have u14x2:w14.cell? ⟨P6,0,none⟩=some (.slice Ra6 na6 ca6):=(zU H14).c0 2 rfl;have v14x2:w14.cell? ⟨P6,1,none⟩=some (.slice Rb6 nb6 cb6):=(zU H14).c1 2 rfl;obtain ⟨b,off,t,hAe,_,ht,hcell⟩:=(zU HI14).s.at_ (k:=0) (by decide);subst hAe;have ht2:t.length=32:=by rw [twoA_eq] at ht;simp at ht;rw [←ht];exact twoD_len
 rw [Nat.add_zero] at hcell;have ht3:((t.length:Int) == 32)=true:=by rw [beq_iff_eq];omega
 have HT2:=zH ht2;clear ht ht2;have hfd:∀ w:World,(Instr.field 33 (arcV (some ⟨b,off,none⟩) 1 ca14 Rb14 nb14 cb14) 0).run Tryz.prog w = .ok (.slice (some ⟨b,off,none⟩) 1 ca14) w:=fun _=>by kernel_rfl
 go_wp2_with fail;go_ret;exact ⟨rfl,(zU H14).bel⟩
end Go.Proofs.YtjpgoeimclipjaaGreat
namespace Go.Proofs.YtjpgoeimclipjaaGreat
open Go.RowKit Go.Lib Pl
attribute [local go_sem] ext_list app_list
structure AbC (A:Option Addr) (n cap:Nat) (A2:Option Addr) (n2 cap2:Nat) (W:World) (B:Nat):Prop where
 a:W.cell? ⟨B,0,none⟩=some (.slice A n cap)
 b:W.cell? ⟨B,1,none⟩=some (.slice A2 n2 cap2)
theorem AbC.below {A A2:Option Addr} {n cap n2 cap2 B:Nat} {W W1:World} (h:AbC A n cap A2 n2 cap2 W B) (hb:Below W.heap.size W W1):AbC A n cap A2 n2 cap2 W1 B :=
 ⟨(hb.cell (block_lt_of_cell h.a)).trans h.a,(hb.cell (block_lt_of_cell h.b)).trans h.b⟩
theorem AbC.drew {A A2:Option Addr} {n cap n2 cap2 B:Nat} {W:World} (h:AbC A n cap A2 n2 cap2 W B):AbC A n cap A2 n2 cap2 W.drew B:=⟨h.a,h.b⟩
theorem PK.abc {A A2:Option Addr} {n cap n2 cap2:Nat} {a:Arc} {w W:World} {B:Nat} (h:PK A n cap A2 n2 cap2 a w W B):AbC A n cap A2 n2 cap2 W B:=⟨h.ab.c.1,h.ab.c.2⟩
theorem five_cells {W:World} {p:Nat} {c:Array Value} {T:TypeId} (h:W.heap[p]? = some (.cells c T (0,0))) (i:Nat) (v:Value) (hv:c[i]? = some v):W.cell? ⟨p,i,none⟩=some v∧W.frozen? ⟨p,i,none⟩=false :=
 ⟨by rw [cell_of_row _ _ _ _ _ _ h];exact hv,by simp [World.frozen?,h]⟩
theorem set_five {W:World} {p:Nat} {a b c d e a' b' c' d' e':Value} {T:TypeId} (h:W.heap[p]? = some (.cells #[a,b,c,d,e] T (0,0))) :
  ((((W.setCell ⟨p,0,none⟩ a').setCell ⟨p,1,none⟩ b').setCell ⟨p,2,none⟩ c').setCell ⟨p,3,none⟩ d').setCell ⟨p,4,none⟩ e'=W.setRow p #[a',b',c',d',e']:=by
 have h1:=setRow_heap W p _ #[a',b,c,d,e] T _ h;have h2:=setRow_heap W p _ #[a',b',c,d,e] T _ h;have h3:=setRow_heap W p _ #[a',b',c',d,e] T _ h;have h4:=setRow_heap W p _ #[a',b',c',d',e] T _ h;rw [setCell_eq_setRow W p 0 _ T (0,0) a' h];show ((((W.setRow p #[a',b,c,d,e]).setCell _ b').setCell _ c').setCell _ d').setCell _ e'=_;rw [setCell_eq_setRow _ p 1 _ T (0,0) b' h1,setRow_setRow];show (((W.setRow p #[a',b',c,d,e]).setCell _ c').setCell _ d').setCell _ e'=_;rw [setCell_eq_setRow _ p 2 _ T (0,0) c' h2,setRow_setRow];show ((W.setRow p #[a',b',c',d,e]).setCell _ d').setCell _ e'=_;rw [setCell_eq_setRow _ p 3 _ T (0,0) d' h3,setRow_setRow];show (W.setRow p #[a',b',c',d',e]).setCell _ e'=_;rw [setCell_eq_setRow _ p 4 _ T (0,0) e' h4,setRow_setRow];rfl
set_option maxHeartbeats 4000000 in
set_option maxRecDepth 100000 in
theorem packedR_any (A:Option Addr) (n cap:Nat) (A2:Option Addr) (n2 cap2:Nat) (a:Arc) (name text:Bytes) (k:Int) (d:Bytes) (w:World) (h:ArcIn w A n A2 n2 a) (hn:n≤1000000) (hd:dictO a.ds k=some d) (hdl:d.length≤256) (ht:text.length≤512) :
  Calls Tryz.prog 79 #[arcV A n cap A2 n2 cap2,S name,S text,I k] w fun e w'=>e = .returned (filV (packedF a.ds name text k))∧Below w.heap.size w w':=by
 obtain ⟨B,hB⟩:∃ B,B=w.heap.size:=⟨_,rfl⟩
 obtain ⟨w0,hw0⟩:∃ w0,w0=(w.alloc (.cells #[.slice A n cap,.slice A2 n2 cap2] 33)).alloc (.cells zeroF 61):=⟨_,rfl⟩
 have h0:PK A n cap A2 n2 cap2 a w w0 B:=by rw [hw0,hB];exact PK.new h cap cap2
 have KD:=zH (fun (W:World) (hW:Below w0.heap.size w0 W)=>dictOf_any A n cap A2 n2 cap2 a k W (h0.below hW).ab.i (by omega) (by rw [hd];rfl));rw [hd] at KD
 have KP:∀ W,Below w0.heap.size w0 W→Calls Tryz.prog 113 #[S d,S text] W fun e w'=>e = .returned (S (pack d text))∧PK A n cap A2 n2 cap2 a w w' B:=fun W hW =>
  (packOf_any d text W hdl ht).mono fun e w' ⟨h1,h2⟩=>⟨h1,(h0.below hW).below h2⟩
 have KS:=fun (W:World)=>(sumOf_any text W (by omega)).mono fun e w' ⟨h1,h2⟩=>(⟨h1,h2.symm⟩:e=Ending.returned (I (sumOf text))∧w'=W)
 have hf:packedF a.ds name text k=⟨name,k,text.length,(sumOf text:Nat),pack d text⟩:=by unfold packedF;rw [hd];rfl
 rw [hf,←hB];obtain ⟨b,hb⟩:∃ b,b=pack d text:=⟨_,rfl⟩
 obtain ⟨s,hs⟩:∃ s,s=sumOf text:=⟨_,rfl⟩
 rw [←hb] at KP ⊢;rw [←hs] at KS ⊢;have KP:=zH KP;have KS:=zH KS;have H0:=zH h0;have HA:=zH h0.abc;have HB:=zH hB;have HW0:=zH hw0;have R:=zH (show (∀ W:World,AbC A n cap A2 n2 cap2 W B→W.cell? ⟨B,0,none⟩=some (.slice A n cap))∧(∀ W:World,AbC A n cap A2 n2 cap2 W B→W.cell? ⟨B,1,none⟩=some (.slice A2 n2 cap2)) from ⟨fun W h=>h.a,fun W h=>h.b⟩);clear hB hw0 h hd hf hb hs h0;go_enter Tryz.func79,Tryz.ntmps79;go_upto_region 1 with fail
 rw [←zU HW0,←zU HB];obtain ⟨r1,r2⟩:=zU R
 go_region_held3 (fun w'=>AbC A n cap A2 n2 cap2 w' B) (first | exact (zU HA).drew | assumption | exact AbC.drew (by assumption) | exact (zU HS4) | exact AbC.below (by assumption) (by assumption))
  ((first
   | (go_at_call 85;refine (zU KD _ (by first | exact (Below.refl _ _).drew | exact Below.refl _ _)).mono ?_;rintro e w4 ⟨rfl,hb4⟩)
   | (go_at_call 86;refine (zU KS _).mono ?_;rintro e w3 ⟨rfl,rfl⟩)
   | (go_at_call 113;refine (zU KP _ (by first | exact (Below.refl _ _).drew.trans (by assumption) | assumption)).mono ?_;rintro e w5 ⟨rfl,hp5⟩;have HP5:=zH hp5;have hA5:=hp5.abc;obtain ⟨y0,v0⟩:=five_cells hp5.z 0 _ rfl;obtain ⟨y1,v1⟩:=five_cells hp5.z 1 _ rfl;obtain ⟨y2,v2⟩:=five_cells hp5.z 2 _ rfl;obtain ⟨y3,v3⟩:=five_cells hp5.z 3 _ rfl;obtain ⟨y4,v4⟩:=five_cells hp5.z 4 _ rfl;have HS4:=zH (show AbC A n cap A2 n2 cap2 (((((w5.setCell ⟨B+1,0,none⟩ (S name)).setCell ⟨B+1,1,none⟩ (I k)).setCell ⟨B+1,2,none⟩ (I text.length)).setCell ⟨B+1,3,none⟩ (I s)).setCell ⟨B+1,4,none⟩ (S b)) B by rw [set_five hp5.z];exact ⟨by rw [setRow_cells (by simp)];exact hA5.a,by rw [setRow_cells (by simp)];exact hA5.b⟩);clear hp5)))
 all_goals
  rw [set_five (zU HP5).z];go_wp2_with fail;refine bodyPost_ret (results_cell_row rfl _ _ (B+1) 61 _ (0,0) _ rfl (setRow_heap _ _ _ _ _ _ (zU HP5).z) Tryz.underlying61 rfl sizeFil) rfl ⟨rfl,?_⟩;exact below_setRow (zU HP5).ab.bel (by omega) _
end Go.Proofs.YtjpgoeimclipjaaGreat
namespace Go.Proofs.YtjpgoeimclipjaaGreat
open Go.RowKit Go.Lib Pl
attribute [local go_sem] ext_list app_list
set_option maxRecDepth 100000 in
theorem run_append_strs (W:World) (ty:TypeId) (A:Option Addr) (n cap:Nat) (l:List Bytes) (hl:StrsAt W W.heap.size A n l) (hn:n≤1000000) :
  ∃ A' cap' w',(Builtin.append_ #[30,30] ty #[.slice (some ⟨W.heap.size,0,none⟩) 0 0,.slice A n cap]).run Tryz.prog (W.alloc (.cells #[] 9)) = .ok (.slice A' n cap') w'∧w'.ownsRow W.heap.size 9 1 (.slice A' n cap') n (l.map strS)∧Below W.heap.size W w':=by
 obtain ⟨i0,hi,hz0,hz1,hz2⟩:=info_parts info_str;have hln:=hl.1;have hmade:=World.ownsRow_made (e:=9) (base:=W.heap.size) (size:=1) W #[] 0 (Nat.le_refl _) (Nat.zero_le _) (by simp);have hbel:Below W.heap.size W (W.alloc (.cells #[] 9)):=(Below.refl _ _).alloc (Nat.le_refl _) _;cases A with
 | none =>
  have h0:n=0:=by
   rcases Nat.eq_zero_or_pos n with h | h
   ·exact h
   ·obtain ⟨b,off,e,_⟩:=hl.2 h;cases e
  subst h0;obtain rfl:l=[]:=List.eq_nil_of_length_eq_zero hln;refine ⟨some ⟨W.heap.size,0,none⟩,0,W.alloc (.cells #[] 9),?_,hmade,hbel⟩;simp [Builtin.append_,run_underlying Tryz.underlying30,sizeOf,typeInfo,hi,Builtin.lenOf,Builtin.firstCells,storeCells]
 | some ad =>
  have hc:∀ j u,(l.map strS)[j]? = some u→(W.alloc (.cells #[] 9)).cell? (ad.add j)=some u:=fun j u hj=>by
   rw [List.getElem?_map] at hj;cases hlj:l[j]? with
   | none=>rw [hlj] at hj;cases hj
   | some t =>
    rw [hlj] at hj;have hjl:=(List.getElem?_eq_some_iff.1 hlj).1;obtain ⟨b,off,e,hb,hcc⟩:=hl.2 (by omega);cases e;simp only [Option.map_some,Option.some.injEq] at hj;subst hj;rw [Addr.add_lit];exact (hbel.cell (p:=⟨b,off+j,none⟩) hb).trans (hcc j t hlj)
  obtain ⟨v',w',h1,h2,h3,_⟩:=run_append_own (P:=Tryz.prog) (W.alloc (.cells #[] 9)) W.heap.size 30 ty 9 i0 _ 1 16 Tryz.underlying30 hi hz0 hz1 hz2 rfl (by decide) _ 0 [] hmade ad n cap (l.map strS) (by simp;omega) hc (strS_one l) (by unfold maxLen;omega) (by omega) (by simp);rw [Nat.zero_add,List.nil_append] at h2;obtain ⟨A',cap',rfl,_⟩:=strsAt_of_own h2;exact ⟨A',cap',w',h1,h2,hbel.grown h3 (by simp) (fun k hk=>by simp [Value.ownBlock] at hk;omega)⟩
theorem wpList_append_strs {W:World} {ops:Array Oper} {rest:List Oper} {o:Oper} {a:Act} {Q:Exit→Act→World→Prop} (hgd:o.guard=none) (s x:Operand)
  (ho:o.op = .call { callee:=.builtin .append,args:=#[s,x],argTypes:=#[30,30] })
  (A:Option Addr) (n cap:Nat) (l:List Bytes) (hl:StrsAt W W.heap.size A n l) (hn:n≤1000000) (hs:a.eval s = .slice (some ⟨W.heap.size,0,none⟩) 0 0) (hx:a.eval x = .slice A n cap)
  (h:∀ A' cap' w',w'.ownsRow W.heap.size 9 1 (.slice A' n cap') n (l.map strS)→Below W.heap.size W w'→wpList Tryz.prog ops Q rest (a.put o.dst (.slice A' n cap')) w') :
  wpList Tryz.prog ops Q (o::rest) a (W.alloc (.cells #[] 9)):=by
 obtain ⟨A',cap',w',h1,h2,h3⟩:=run_append_strs W o.type A n cap l hl hn;exact Lib.wpList_append_run _ hgd s x _ _ ho _ _ hs hx _ _ h1 (h A' cap' w' h2 h3)
theorem step_push_fil {w:World} {ops:Array Oper} {o:Oper} {a:Act} {K:Act→World→Prop} {Q:Exit→Act→World→Prop} {E:Prop} (hgd:o.guard=none) (s x:Operand)
  (ho:o.op = .call { callee:=.builtin .append,args:=#[s,x],argTypes:=#[31,31] })
  (base:Nat) (v:Value) (n:Nat) (l:List Fil) (hs:a.eval s=v) (hown:w.ownsRow base 61 5 v n (filsCells l)) (t:Fil)
  (H:Nat) (hx:a.eval x = .slice (some ⟨H,0,none⟩) 1 1) (hc:w.heap[H]? = some (.cells (filA t) 61 (0,0)))
  (hn:n≤1000000) (hbase:base≤w.heap.size)
  (h:∀ A' cap' w',w'.ownsRow base 61 5 (.slice A' (n+1) cap') (n+1) (filsCells (l++[t]))→w.grownBy w' v.ownBlock→K (a.put o.dst (.slice A' (n+1) cap')) w') :
  if Region.wanted o (yielded ops a.tmps)=true then Oper.wp Tryz.prog o a w K Q else E:=by
 have hw:Region.wanted o (yielded ops a.tmps)=true:=by simp [Region.wanted,hgd]
 rw [if_pos hw];obtain ⟨i0,hi,hz0,hz1,hz2⟩:=info_parts info_fil;obtain ⟨v',w',h1,h2,h3,_⟩:=run_append_own (P:=Tryz.prog) w base 31 o.type 61 i0 _ 5 56 Tryz.underlying31 hi hz0 hz1 hz2 rfl (by decide) v n (filsCells l) hown ⟨H,0,none⟩ 1 1 (filCells t) rfl (VarF.cells ⟨hc⟩) (fil_one t) (by unfold maxLen;omega) (by omega) hbase;have h2':w'.ownsRow base 61 5 v' (n+1) (filsCells (l++[t])):=by rw [filsCells_snoc];exact h2
 obtain ⟨A',cap',rfl,_⟩:=filsAt_of_own h2';unfold Oper.wp execOp;simp only [ho,resolve,invoke,builtin,Sem.run_bind,Sem.run_pure,Result.andThen_ok,List.map_toArray,List.map_cons,List.map_nil,hs,hx,h1];exact h A' cap' w' h2' h3
theorem CompS.pushF {w W W':World} {B E P:Nat} {c0:Array Value} {v1 v2:Value} {x:Arc} (h:CompS w W B E P c0 v1 v2 x) {v2':Value} {f:Fil} (hg:W.grownBy W' v2.ownBlock) (hs:W'.ownsRow E 61 5 v2' (x.fs.length+1) (filsCells (x.fs++[f]))) :
  CompS w (W'.setCell ⟨P,1,none⟩ v2') B E P c0 v1 v2' ⟨x.ds,x.fs++[f]⟩∧W'.heap[P]? = some (.cells #[v1,v2] 33 (0,0))∧W'.heap[B]? = some (.cells c0 33 (0,0)):=by
 have h1:=h.lt;have h2:=h.be;have h3:=h.ep;have hP':W'.heap[P]? = some (.cells #[v1,v2] 33 (0,0)):=(hg.block P h1 h.ownP2).trans h.p;have hlo:∀ j,j<E→some j≠v2.ownBlock:=fun j hj e=>by have:=(h.o.f.lt j e.symm).1;omega
 have hrow:W'.setCell ⟨P,1,none⟩ v2'=W'.setRow P #[v1,v2']:=by rw [setCell_eq_setRow W' P 1 _ _ _ _ hP'];rfl
 rw [hrow]
 have hoth:∀ j,j<W.heap.size→j≠P→some j≠v2.ownBlock→(W'.setRow P #[v1,v2']).heap[j]? = W.heap[j]?:=fun j hj hne hno=>by
  rw [setRow_other W' P j _ hne];exact hg.block j hj hno
 have hd':W'.ownsRow E 9 1 v1 x.ds.length (x.ds.map strS):=h.o.s.kept hg (own_apart h.o.s h.o.f (by decide))
 have hPt:∀ {e size n:Nat} {v:Value} {xs:List Value},W'.ownsRow E e size v n xs→e≠33→∀ k,v.ownBlock=some k→k≠P:=fun ho hne k hk e=>by
  subst e;obtain ⟨c,g⟩:=own_obj ho hk;rw [hP'] at g;injection g with g
  injection g with _ g _
  exact hne g.symm
 refine ⟨⟨(hoth B (by omega) (by omega) (hlo B (by omega))).trans h.b,(hoth (B+1) (by omega) (by omega) (hlo (B+1) h2)).trans h.z,setRow_heap _ _ _ _ _ _ hP',⟨own_setRow hd' (hPt hd' (by decide)) _,?_⟩,h2,h3,?_⟩,hP',(hg.block B (by omega) (hlo B (by omega))).trans h.b⟩
 ·have:(x.fs++[f]).length=x.fs.length+1:=by simp
  show (W'.setRow P _).ownsRow E 61 5 v2' (x.fs++[f]).length _;rw [this];exact own_setRow hs (hPt hs (by decide)) _
 ·exact below_setRow (h.bel.grown hg (by omega) (fun k hk=>by have:=(h.o.f.lt k hk).1;omega)) (by omega) _
end Go.Proofs.YtjpgoeimclipjaaGreat
namespace Go.Proofs.YtjpgoeimclipjaaGreat
open Go.RowKit Go.Lib Pl
theorem enters {f:FuncId} {fn:Func} (hf:Tryz.prog.funcs[f]? = some fn) (hname:(fn.name == "runtime.NumGoroutine")=false) (hb:fn.body.isSome=true) (args:Array Value) (w:World):(callFunc f args).run Tryz.prog w = .ok (.enter f args) w:=by
 have h1:fn.name≠ "runtime.NumGoroutine":=by simpa using hname
 obtain ⟨c,hc⟩:=Option.isSome_iff_exists.1 hb;simp [callFunc,hf,h1,hc]
theorem packedR_enters (args:Array Value) (w:World):(callFunc 79 args).run Tryz.prog w = .ok (.enter 79 args) w :=
 enters Tryz.func79 (by kernel_rfl) (by kernel_rfl) args w
set_option maxRecDepth 100000 in
theorem step_call4 {w:World} {ops:Array Oper} {o:Oper} {a:Act} {K:Act→World→Prop} {Q:Exit→Act→World→Prop} {E:Prop} (hgd:o.guard=none) (f:Nat) (x1 x2 x3 x4:Nat) (ts:Array TypeId)
  (ho:o.op = .call { callee:=.value (.func f),args:=#[.tmp x1,.tmp x2,.tmp x3,.tmp x4],argTypes:=ts }) (v1 v2 v3 v4:Value) (h1:a.tmps[x1]?.getD undef=v1) (h2:a.tmps[x2]?.getD undef=v2) (h3:a.tmps[x3]?.getD undef=v3) (h4:a.tmps[x4]?.getD undef=v4)
  (hcall:∀ vals w,(callFunc f vals).run Tryz.prog w = .ok (.enter f vals) w) (h:Calls Tryz.prog f #[v1,v2,v3,v4] w fun e w'=>∃ v,e = .returned v∧K (a.put o.dst v) w') :
  if Region.wanted o (yielded ops a.tmps)=true then Oper.wp Tryz.prog o a w K Q else E:=by
 have hw:Region.wanted o (yielded ops a.tmps)=true:=by simp [Region.wanted,hgd]
 rw [if_pos hw]
 have hm:=h.mono (R':=fun e w'=>match e,w' with
  | .returned v,w''=>K (a.put o.dst v) w''
  | .panicked chain,w''=>Q (.panic chain) a w''
  | .outgrown,_=>LetsOut Q) (fun e w' ⟨v,he,hk⟩=>by subst he;exact hk)
 unfold Oper.wp execOp;simp [ho,resolve,invoke,go_sem,h1,h2,h3,h4];rw [hcall];exact hm
end Go.Proofs.YtjpgoeimclipjaaGreat
namespace Go.Proofs.YtjpgoeimclipjaaGreat
open Go.RowKit Go.Lib
section
variable {P : Program} {ops : Array Oper} {Q : Exit → Act → World → Prop} {md : Region.Mode} {S : World → Prop} {L : Nat}
def waits (md:Region.Mode) (ops:Array Oper):Nat→Nat→Nat→Bool
 | 0,_,_=>false
 | n+1,i,L=>match ops[L]? with
  | none=>false
  | some x=>x.after.any fun e=>Region.binds md e && (e.on == i || waits md ops n i e.on)
def closedB (md:Region.Mode) (ops:Array Oper) (l:Array Bool):Bool :=
 (List.range ops.size).all fun j=>!(l.getD j false) || match ops[j]? with
  | none=>true
  | some x=>x.after.all fun e=>!(Region.binds md e) || l.getD e.on false
def Closed (md:Region.Mode) (ops:Array Oper) (l:Array Bool):Prop:=∀ j x,ops[j]? = some x→l.getD j false=true→∀ e∈x.after,Region.binds md e=true→l.getD e.on false=true
theorem closedB_spec {l:Array Bool} (h:closedB md ops l=true):Closed md ops l:=by
 intro j x hx hj e he hb;unfold closedB at h;rw [List.all_eq_true] at h;have h1:=h j (List.mem_range.2 (Array.getElem?_eq_some_iff.1 hx).1);rw [hj,hx] at h1;simp only [Bool.not_true,Bool.false_or,Array.all_eq_true_iff_forall_mem] at h1;have h2:=h1 e he;rw [hb] at h2;simpa using h2
theorem waits_spec {l:Array Bool} (hc:Closed md ops l) {i:Nat} : ∀ (n L:Nat),waits md ops n i L=true→(∀ x,ops[L]? = some x→∀ e∈x.after,Region.binds md e=true→l.getD e.on false=true)→l.getD i false=true
 | 0,_,h,_=>by cases h
 | n+1,L,h,hl=>by
  rw [waits] at h;cases hx:ops[L]? with
  | none=>rw [hx] at h;cases h
  | some x =>
   rw [hx] at h;obtain ⟨e,he,h⟩:=Array.any_eq_true'.1 h;rw [Bool.and_eq_true,Bool.or_eq_true] at h;obtain ⟨hb,h⟩:=h;have hon:=hl x hx e he hb
   rcases h with h | h
   ·rw [beq_iff_eq] at h;rw [←h];exact hon
   ·exact waits_spec hc n e.on h (fun y hy e2 he2 hb2=>hc e.on y hy hon e2 he2 hb2)
theorem Closed.set {l:Array Bool} (hc:Closed md ops l) {j:Nat} (hj:j∈Region.ready md ops l):Closed md ops (l.setIfInBounds j true):=by
 intro q x hx hq e he hb;refine getD_set_true ?_
 by_cases e2:q=j
 ·subst e2;obtain ⟨_,y,hy,hall⟩:=mem_ready.1 hj;rw [hx] at hy;cases hy;exact hall e he hb
 ·refine hc q x hx ?_ e he hb
  rwa [getD_set_ne false (Ne.symm e2)] at hq
def AnyK (P:Program) (md:Region.Mode) (ops:Array Oper) (Q:Exit→Act→World→Prop) (S:World→Prop) (L:Nat):Nat→Array Bool→Act→World→Prop
 | 0,l,a,w=>Region.ready md ops l=[]∧Q .normal a w
 | k+1,l,a,w=>(Region.ready md ops l=[]→Q .normal a w)∧∀ i∈Region.ready md ops l,wpOp P ops Q i (fun a' w'=>(i≠L→S w')∧AnyK P md ops Q S L k (l.setIfInBounds i true) a' w') a w
theorem AnyK.any:∀ (k:Nat) (l:Array Bool) (a:Act) (w:World),AnyK P md ops Q S L k l a w→wpAny P md ops Q k l a w
 | 0,_,_,_,h=>h
 | k+1,_,_,_,h=>⟨h.1,fun i hi=>wpOp_mono (fun _ _ h'=>AnyK.any k _ _ _ h'.2) (h.2 i hi)⟩
theorem AnyK.first {i n:Nat} {o:Oper} {v:Value} (hi:ops[i]? = some o) (hsel:∀ (j:Nat) (x:Oper) cs b,ops[j]? = some x→x.op≠.select cs b) (hQ:∀ c a w,Q (.panic c) (a.put o.dst v) w→Q (.panic c) a w) (hL:waits md ops n i L=true) (k:Nat) :
  ∀ (l:Array Bool) (a:Act) (w:World),Closed md ops l→(∀ j x,ops[j]? = some x→j≠i→l.getD j true=false→(∀ e∈x.after,Region.binds md e=true→e.on≠i)→o.apart ops x=true) →
   i∈Region.ready md ops l→YieldsIf P ops S o v a→S w→AnyK P md ops Q S L k (l.setIfInBounds i true) (a.put o.dst v) w→AnyK P md ops Q S L (k+1) l a w:=by
 induction k with
 | zero =>
  intro l a w _ _ hr hy hS H;refine ⟨fun h=>absurd hr (by rw [h];simp),fun j hj=>?_⟩
  rcases Decidable.em (j=i) with rfl | hji
  ·exact hy.wpOp hi hS ⟨fun _=>hS,H⟩
  ·exact absurd (ready_mono hj hji) (by rw [H.1];simp)
 | succ k ih =>
  intro l a w hcl hfree hr hy hS H;refine ⟨fun h=>absurd hr (by rw [h];simp),fun j hj=>?_⟩
  rcases Decidable.em (j=i) with rfl | hji
  ·exact hy.wpOp hi hS ⟨fun _=>hS,H⟩
  obtain ⟨hun,x,hx,hall⟩:=mem_ready.1 hj;have hiu:=(mem_ready.1 hr).1
  have hnot:∀ {q:Nat},q=i→l.getD q false=true→False:=fun {q} e h1=>by
   subst e
   by_cases hl:q<l.size
   ·simp [hl] at h1 hiu;rw [hiu] at h1;cases h1
   ·simp [Array.getElem?_eq_none (Nat.le_of_not_lt hl)] at h1
  have hno:∀ e∈x.after,Region.binds md e=true→e.on≠i:=fun e he hb e2=>hnot e2 (hall e he hb)
  have hjL:j≠L:=fun e=>by
   subst e;exact hnot rfl (waits_spec hcl n j hL (fun y hy e he hb=>by rw [hx] at hy;cases hy;exact hall e he hb))
  have h2:=wpOp_putIf hx (hfree j x hx hji hun hno) (fun cs b=>hsel i o cs b hi) (fun cs b=>hsel j x cs b hx) hQ hy (H.2 j (ready_mono hj hji));refine wpOp_mono (fun a' w' h3=>?_) h2;have hri:i∈Region.ready md ops (l.setIfInBounds j true):=ready_mono hr (Ne.symm hji);obtain ⟨hy',hS',hK⟩:=h3;rw [Array.setIfInBounds_comm _ _ (Ne.symm hji)] at hK;have hSw:=hS' hjL
  exact ⟨fun _=>hSw,ih _ a' w' (hcl.set hj) (fun q y hq hqi hqu hqn=>hfree q y hq hqi (by
   rcases Decidable.em (j=q) with e | e
   ·exact e ▸ hun
   ·exact (getD_set_ne true e) ▸ hqu) hqn) hri hy' hSw hK⟩
theorem AnyK.take (i n:Nat) {o:Oper} {v:Value} {k:Nat} {l:Array Bool} {a:Act} {w:World} (hi:ops[i]? = some o) (hs:Region.noSelect ops=true) (hf:Region.free md ops l i=true) (hr:(Region.ready md ops l).contains i=true)
  (hL:waits md ops n i L=true) (hc:closedB md ops l=true) (hQ:∀ c a w,Q (.panic c) (a.put o.dst v) w→Q (.panic c) a w) (hy:YieldsIf P ops S o v a) (hS:S w)
  (h:AnyK P md ops Q S L k (l.setIfInBounds i true) (a.put o.dst v) w):AnyK P md ops Q S L (k+1) l a w :=
 AnyK.first hi (Region.noSelect_spec hs) hQ hL k l a w (closedB_spec hc) (Region.free_spec hi hf) (by simpa using hr) hy hS h
theorem AnyK.one (i:Nat) {o:Oper} {k:Nat} {l:Array Bool} {a:Act} {w:World} (hi:ops[i]? = some o) (hr:Region.ready md ops l=[i])
  (h:∀ K:Act→World→Prop,Shut (∀ a' w',(i≠L→S w')→AnyK P md ops Q S L k (l.setIfInBounds i true) a' w'→K a' w')→if Region.wanted o (yielded ops a.tmps)=true then Oper.wp P o a w K Q else K (a.put o.dst undef) w):AnyK P md ops Q S L (k+1) l a w :=
 ⟨fun h0=>(by rw [hr] at h0;cases h0),fun j hj=>by
  rw [hr] at hj;obtain rfl:j=i:=by simpa using hj
  exact wpOp_step hi (fun K hK=>h K (fun a' w' h1 h2=>hK a' w' ⟨h1,h2⟩))⟩
theorem AnyK.done {k:Nat} {l:Array Bool} {a:Act} {w:World} (hr:Region.ready md ops l=[]) (h:Q .normal a w):AnyK P md ops Q S L k l a w:=by
 cases k with
 | zero=>exact ⟨hr,h⟩
 | succ k=>exact ⟨fun _=>h,by rw [hr];simp⟩
theorem AnyK.begin (S:World→Prop) (L n:Nat) {id:Nat} {a:Act} {w:World} (hm:P.follows .mixedOrders=true) (hn:ops.size=n) (h:AnyK P .any ops Q S L n (Array.replicate n false) a w.drew):(Code.region id ops true).wp P Q a w:=by
 subst hn;exact wp_region_any hm (AnyK.any _ _ _ _ h)
end
end Go.Proofs.YtjpgoeimclipjaaGreat
namespace Go.Proofs.YtjpgoeimclipjaaGreat
open Go.RowKit Go.Lib Pl
attribute [local go_sem] ext_list app_list
theorem bestStep_yes {l:List Bytes} {dict p:Bytes} {b:Bytes×Nat} (h:(b.2<cnt l p)∨(cnt l p=b.2∧1<cnt l p∧lessB p b.1=true)) (he:stands p dict=false):bestStep l dict b p=(p,cnt l p):=if_pos ⟨h,he⟩
theorem bestStep_no {l:List Bytes} {dict p:Bytes} {b:Bytes×Nat} (h:¬ (((b.2<cnt l p)∨(cnt l p=b.2∧1<cnt l p∧lessB p b.1=true))∧stands p dict=false)):bestStep l dict b p=b:=if_neg h
theorem allPieces_take {l:List Bytes} {k:Nat} {t:Bytes} (h:l[k]? = some t):allPieces (l.take (k+1))=allPieces (l.take k)++piecesOf t:=by
 unfold allPieces;rw [List.take_add_one,h,List.flatMap_append];simp
theorem take_next_piece {t:Bytes} {q:Nat} (h:q<t.length-3):(piecesOf t).take (q+1)=(piecesOf t).take q++[piece t q]:=by
 rw [List.take_add_one,piecesOf_get h];rfl
def Sized (b:Bytes×Nat):Prop:=b.1.length≤4∧b.2≤12
theorem sized_step {l:List Bytes} {dict p:Bytes} {b:Bytes×Nat} (h12:l.length≤12) (h:Sized b) (hp:p.length=4):Sized (bestStep l dict b p):=by
 unfold bestStep
 split
 ·have:=cnt_le l p;exact ⟨by simp [hp],by simp only;omega⟩
 ·exact h
def strLn:Value→Nat
 | .string b=>b.data.toList.length
 | _=>0
set_option maxHeartbeats 8000000 in
set_option maxRecDepth 100000 in
theorem trainOf_any (A:Option Addr) (n cap:Nat) (l:List Bytes) (size:Nat) (w:World) (hl:StrsAt w w.heap.size A n l) (hb:manyB l=false) (hsz:size≤256) :
  Calls Tryz.prog 91 #[.slice A n cap,I size] w fun e w'=>e = .returned (S (trainOf l size))∧Below w.heap.size w w':=by
 obtain ⟨h12,hs⟩:=manyB_no hb;have hn12:n≤12:=by have:=hl.1;omega
 have HS:=zH hs;have H12:=zH h12;clear hs hb h12;have hmm:∀ (w:World),(Instr.makeMap 158 none).run Tryz.prog w = .ok (.map (some w.heap.size)) (w.alloc (.map #[] 0)):=fun _=>rfl;go_enter Tryz.func91,Tryz.ntmps91;go_wp2_with fail;obtain ⟨B,hB⟩:∃ B,B=w.heap.size:=⟨_,rfl⟩
 have M1:NatMap (w.alloc (.map #[] 0)) B 0 fun _=>0:=by rw [hB];exact NatMap.made w
 rw [←hB];have HB:=zH hB;clear hB;go_loopw [6] (fun i wr=>∃ (k m1:Nat),k≤n∧i = .int .i64 k∧m1≤k*512∧NatMap wr B m1 (cntP (l.take k))∧Below B w wr) (fun i _=>n-(intOf i).toNat)
 case atStart =>
  refine ⟨0,0,Nat.zero_le _,rfl,by omega,M1,?_⟩;rw [zU HB];exact (Below.refl _ _).alloc (Nat.le_refl _) _
 case round =>
  obtain ⟨k,m1,hk,rfl,h1,hM1,hbel⟩:=hrel;have HM1:=zH hM1;have hl2:=hl;rw [←zU HB] at hl2;have hl3:=hl2.below hbel;clear hM1 M1
  by_cases hkn:k<n
  ·obtain ⟨b,off,t,rfl,hb,ht,q0⟩:=hl3.at_ hkn;have ht5:=zU HS t (List.mem_of_getElem? ht);have HT:=zH ht;clear ht;obtain ⟨r,hr⟩:∃ r,r=wr.heap.size:=⟨_,rfl⟩
   have hBr:B<r:=by rw [hr];exact (zU HM1).lt
   have M2:NatMap (wr.alloc (.map #[] 0)) r 0 fun _=>0:=by rw [hr];exact NatMap.made wr
   have HM2:=zH M2;have HRR:=zH hr;have q0':(wr.alloc (.map #[] 0)).cell? ⟨b,off+k,none⟩=some (S t):=(((Below.refl _ _).alloc (Nat.le_refl _) (.map #[] 0):Below wr.heap.size wr _).cell (p:=⟨b,off+k,none⟩) (by show b<wr.heap.size;omega)).trans q0;have HQ0:=zH q0;clear M2 q0 hr;go_wp2_with fail;rw [←zU HRR];go_loopw [8] (fun i wx=>∃ (q m3 m4:Nat),q≤t.length-3∧i = .int .i64 q∧m3≤q∧m4≤k*512+q∧NatMap wx r m3 (fun p=>((piecesOf t).take q).count p)∧NatMap wx B m4 (fC l k t q)∧Below B w wx) (fun i _=>t.length-3-(intOf i).toNat)
   case atStart =>
    refine ⟨0,0,m1,Nat.zero_le _,rfl,Nat.le_refl _,by omega,zU HM2,?_,hbel.alloc (by have:=zU HRR;omega) _⟩;have e:fC l k t 0=cntP (l.take k):=by funext p;simp [fC]
    rw [e];exact (zU HM1).alloc _
   case round =>
    obtain ⟨q,m3,m4,hq,rfl,h3,h4,hM3,hM4,hbel2⟩:=hrel
    have q0x:wr.cell? ⟨b,off+k,none⟩=some (S t):=((hl2.below hbel2).2 (by omega)).elim fun b' ⟨off',e,hb',hc⟩=>by
     injection e with e;injection e with e1 e2 _
     subst e1;subst e2;exact hc k t (zU HT)
    have HM3:=zH hM3;have HM4:=zH hM4;clear hM3 hM4
    by_cases hqc:q<t.length-3
    ·obtain ⟨p,hp⟩:∃ p,p=slice t q (q+4):=⟨_,rfl⟩
     have hp4:p.length=4:=by rw [hp];exact piece_len hqc
     have e1:(q:Int)+4≤(t.length:Int):=by omega
     have e2:((q:Int)+4).toNat=q+4:=by omega
     have hsl:=hp.symm;have hmt:=mem_take_succ hqc;have hnx:=take_next_piece hqc;rw [show piece t q=p from hp.symm] at hmt hnx;have HMT:=zH hmt;have HNX:=zH hnx
     have hcl:((piecesOf t).take q).count p≤q:=by
      have:=List.count_le_length (a:=p) (l:=(piecesOf t).take q);rw [List.length_take] at this;omega
     have hfl:fC l k t q p≤13:=by
      unfold fC;have:=cntP_le (l.take k) p;rw [List.length_take] at this
      split <;> omega
     have hcnt:(fun p2=>if p2=p then ((piecesOf t).take q).count p+1 else ((piecesOf t).take q).count p2)=fun p2=>((piecesOf t).take (q+1)).count p2:=by
      funext p2
      rw [hnx,List.count_append]
      by_cases h:p2=p
      ·subst h;simp
      ·rw [if_neg h,List.count_singleton,if_neg (by simp;exact fun e=>h e.symm)];rfl
     have HCNT:=zH hcnt;obtain ⟨c,hc⟩:∃ c,c=((piecesOf t).take q).count p:=⟨_,rfl⟩
     have HCC:=zH hc;rw [←hc] at hcl;clear hp hmt hnx hcnt hc
     by_cases hsee:c=0
     ·have q1:((c:Int) == 0)=true:=by rw [beq_iff_eq];omega
      have hin:p∉(piecesOf t).take q:=List.count_eq_zero.1 (by rw [←zU HCC];exact hsee);have HIN:=zH hin;clear hsee hin
      go_wp2_with (first
       | (at_lookup;refine wpList_look rfl (.tmp 43) (.tmp 44) rfl r m3 _ rfl (zU HM3) p rfl (by omega) ?_;rw [←zU HCC])
       | (at_lookup;refine wpList_look rfl (.tmp 47) (.tmp 48) rfl B m4 (fC l k t q) rfl (zU HM4) p rfl (by omega) ?_)
       | (at_mapUpdate;refine wpList_put rfl (.tmp 47) (.tmp 48) (.tmp 50) rfl B m4 (fC l k t q) rfl (zU HM4) p rfl (by omega) (fC l k t q p+1) _ rfl (by omega) (by omega) (by omega) ?_;intro w5 hM5 hg5;have HM5:=zH hM5;have HM6:=zH ((zU HM3).kept hg5 (by simp;omega));clear hM5)
       | (at_lookup;refine wpList_look rfl (.tmp 51) (.tmp 52) rfl r m3 _ rfl (zU HM6) p rfl (by omega) ?_;rw [←zU HCC])
       | (at_mapUpdate;refine wpList_put rfl (.tmp 51) (.tmp 52) (.tmp 54) rfl r m3 _ rfl (zU HM6) p rfl (by omega) (c+1) _ rfl (by omega) (by omega) (by omega) ?_;intro w7 hM7 hg7;have HM7:=zH hM7;have HM8:=zH ((zU HM5).kept hg7 (by simp;omega));clear hM7))
      go_roundw
      case rel =>
       refine ⟨q+1,m3+1,m4+1,by omega,by go_num,by omega,by omega,?_,?_,(hbel2.grown hg5 (by have:=(zU HM4).lt;omega) (fun j hj=>by simp at hj;omega)).grown hg7 (by have:=(zU HM5).lt;omega) (fun j hj=>by simp at hj;omega)⟩
       ·rw [←zU HCNT,←zU HCC];exact zU HM7
       ·have e:(fun x=>if x=p then fC l k t q p+1 else fC l k t q x)=fC l k t (q+1):=by
         funext p2
         by_cases h:p2=p
         ·subst h;rw [if_pos rfl];unfold fC;rw [if_neg (zU HIN),if_pos ((zU HMT _).2 (.inr rfl))]
         ·rw [if_neg h];unfold fC
          congr 1
          by_cases h2:p2∈(piecesOf t).take q
          ·rw [if_pos h2,if_pos ((zU HMT p2).2 (.inl h2))]
          ·rw [if_neg h2,if_neg];intro h3
           rcases (zU HMT p2).1 h3 with h3 | h3
           ·exact h2 h3
           ·exact h h3
        rw [←e];exact zU HM8
      case measure=>simp [intOf];omega
     ·have q1:((c:Int) == 0)=false:=by rw [beq_eq_false_iff_ne];omega
      have hin:p∈(piecesOf t).take q:=by
       have:=zU HCC;exact List.count_pos_iff.1 (by omega)
      have HIN:=zH hin;clear hsee hin
      go_wp2_with (first
       | (at_lookup;refine wpList_look rfl (.tmp 43) (.tmp 44) rfl r m3 _ rfl (zU HM3) p rfl (by omega) ?_;rw [←zU HCC])
       | (at_lookup;refine wpList_look rfl (.tmp 51) (.tmp 52) rfl r m3 _ rfl (zU HM3) p rfl (by omega) ?_;rw [←zU HCC])
       | (at_mapUpdate;refine wpList_put rfl (.tmp 51) (.tmp 52) (.tmp 54) rfl r m3 _ rfl (zU HM3) p rfl (by omega) (c+1) _ rfl (by omega) (by omega) (by omega) ?_;intro w7 hM7 hg7;have HM7:=zH hM7;have HM8:=zH ((zU HM4).kept hg7 (by simp;omega));clear hM7))
      go_roundw
      case rel =>
       refine ⟨q+1,m3+1,m4,by omega,by go_num,by omega,by omega,?_,?_,hbel2.grown hg7 (by have:=(zU HM4).lt;omega) (fun j hj=>by simp at hj;omega)⟩
       ·rw [←zU HCNT,←zU HCC];exact zU HM7
       ·have e:fC l k t (q+1)=fC l k t q:=by
         funext p2
         unfold fC
         congr 1
         by_cases h:p2∈(piecesOf t).take q
         ·rw [if_pos h,if_pos ((zU HMT p2).2 (.inl h))]
         ·rw [if_neg h,if_neg];intro h2
          rcases (zU HMT p2).1 h2 with h2 | rfl
          ·exact h h2
          ·exact h (zU HIN)
        rw [e];exact zU HM8
      case measure=>simp [intOf];omega
    ·have e1:¬ (q:Int)+4≤(t.length:Int):=by omega
     go_wp2_with fail;go_roundw
     case rel =>
      have hall:(piecesOf t).take q=piecesOf t:=List.take_of_length_le (by rw [piecesOf_len];omega);refine ⟨k+1,m4,by omega,by go_num,by omega,?_,hbel2⟩
      have e:fC l k t q=cntP (l.take (k+1)):=by
       funext p
       unfold fC;rw [hall,cntP_take (zU HT)]
      rw [←e];exact zU HM4
     case measure=>simp [intOf];omega
  ·have hfin:cntP (l.take k)=cntP l:=by rw [List.take_of_length_le (by have:=hl.1;omega)]
   have hM:=zU HM1;rw [hfin] at hM;have HM:=zH hM;have HL3:=zH hl3;have hk2:decide ((k:Int)<(n:Int))=false:=by simp;omega
   obtain ⟨wo,hwo⟩:∃ wo:World,wo=wr:=⟨_,rfl⟩
   clear hfin hM HM1 hl2 hwo hl3;go_wp2_with fail;go_loop [10] (fun d=>∃ (f:Nat) (dict:Bytes),d=S dict∧trainR l size f dict=trainOf l size∧dict.length+4*f=256) (fun d=>256-strLn d)
   case atStart=>exact ⟨64,[],rfl,rfl,rfl⟩
   case round =>
    obtain ⟨f,dict,rfl,htr,hdf⟩:=hrel;have HTR:=zH htr;clear htr
    by_cases hz:dict.length+4≤size
    ·have z1:(dict.length:Int)+4≤(size:Int):=by omega
     go_wp2_with fail;go_loop [11,12,13] (fun s c i=>∃ (j:Nat) (b:Bytes×Nat),j≤n∧i = .int .i64 j∧s=S b.1∧c=I b.2∧b=bestOf l dict (allPieces (l.take j))∧Sized b) (fun _ _ i=>n-(intOf i).toNat)
     case atStart=>exact ⟨0,([],1),Nat.zero_le _,rfl,rfl,rfl,rfl,by simp [Sized]⟩
     case round =>
      obtain ⟨j,⟨b1,b2⟩,hj,rfl,rfl,rfl,hbb,hbs⟩:=hrel;have HBB:=zH hbb;have HBS:=zH hbs;clear hbb hbs
      by_cases hjn:j<n
      ·obtain ⟨bk,off,t,rfl,hbk,ht,q0⟩:=(zU HL3).at_ hjn;have ht5:=zU HS t (List.mem_of_getElem? ht);have hal:=allPieces_take ht;have HAL:=zH hal;clear ht hal;go_wp2_with fail;go_loop [11,12,14,15,16] (fun s c i _ _=>∃ (q:Nat) (b:Bytes×Nat),q≤t.length-3∧i = .int .i64 q∧s=S b.1∧c=I b.2∧b=((piecesOf t).take q).foldl (bestStep l dict) (b1,b2)∧Sized b) (fun _ _ i _ _=>t.length-3-(intOf i).toNat)
       case atStart=>exact ⟨0,(b1,b2),Nat.zero_le _,rfl,rfl,rfl,rfl,zU HBS⟩
       case round =>
        obtain ⟨q,⟨d1,d2⟩,hq,rfl,rfl,rfl,hdd,hds⟩:=hrel;obtain ⟨hd1,hd2⟩:d1.length≤4∧d2≤12:=hds;have HDD:=zH hdd;clear hdd
        by_cases hqc:q<t.length-3
        ·obtain ⟨p,hp⟩:∃ p,p=slice t q (q+4):=⟨_,rfl⟩
         have hp4:p.length=4:=by rw [hp];exact piece_len hqc
         have e1:(q:Int)+4≤(t.length:Int):=by omega
         have e2:((q:Int)+4).toNat=q+4:=by omega
         have hsl:=hp.symm;have hnx:=take_next_piece hqc;rw [show piece t q=p from hp.symm] at hnx;have hst:=sized_step (dict:=dict) (zU H12) (b:=(d1,d2)) ⟨hd1,hd2⟩ hp4
         have hrel1:bestStep l dict (d1,d2) p=((piecesOf t).take (q+1)).foldl (bestStep l dict) (b1,b2):=by
          rw [hnx,List.foldl_append,←zU HDD];rfl
         obtain ⟨c,hc⟩:∃ c,c=cntP l p:=⟨_,rfl⟩
         have hcc:cnt l p=c:=by rw [hc];exact (cntP_eq hp4).symm
         have hc12:c≤12:=by rw [←hcc];exact Nat.le_trans (cnt_le l p) (zU H12)
         have HR1:=zH hrel1;have HST:=zH hst;have HCC:=zH hcc;have HC:=zH hc;have CS:=fun (W:World)=>standsR_any p dict W (by omega) (by omega);clear hp hnx hst hrel1 hcc hc
         have yes:(d2<c∨(c=d2∧1<c∧lessB p d1=true))→stands p dict=false→(p,c)=((piecesOf t).take (q+1)).foldl (bestStep l dict) (b1,b2)∧Sized (p,c):=fun h1 h2=>by
          have h3:=bestStep_yes (l:=l) (dict:=dict) (p:=p) (b:=(d1,d2)) (by rw [zU HCC];exact h1) h2;rw [zU HCC] at h3;exact ⟨by rw [←h3];exact zU HR1,by rw [←h3];exact zU HST⟩
         have no:¬ ((d2<c∨(c=d2∧1<c∧lessB p d1=true))∧stands p dict=false)→(d1,d2)=((piecesOf t).take (q+1)).foldl (bestStep l dict) (b1,b2):=fun h1=>by
          have h3:=bestStep_no (l:=l) (dict:=dict) (p:=p) (b:=(d1,d2)) (by rw [zU HCC];exact h1);rw [←h3];exact zU HR1
         have YES:=zH yes;have NO:=zH no;clear yes no
         by_cases hA:d2<c∨(c=d2∧1<c∧lessB p d1=true)
         ·have hfacts:(decide (d2<c)=true)∨(decide (d2<c)=false∧(((c:Int) == (d2:Int))=true∧(c == d2)=true∧decide (c=d2)=true)∧decide (1<c)=true∧Op.bytesLess p d1=true):=by
           rcases hA with hA | ⟨h1,h2,h3⟩
           ·exact .inl (by simpa using hA)
           ·exact .inr ⟨by simp;omega,⟨by rw [beq_iff_eq];omega,by rw [beq_iff_eq];exact h1,by simpa using h1⟩,by simpa using h2,by rw [less_model];exact h3⟩
          have HA:=zH hA;clear hA;cases hst:stands p dict with
          | true =>
           rw [hst] at CS;have CS:=zH CS;have HST2:=zH hst;clear hst
           rcases hfacts with f1 | ⟨f1,⟨f2,f2',f2''⟩,f3,f4⟩
           all_goals
            first | (have f6:(1:Int)<(c:Int):=by have:=of_decide_eq_true f3;omega) | skip
            first | (have f7:decide ((1:Int)<(c:Int))=true:=by have:=of_decide_eq_true f3;simp;omega) | skip
            go_wp2_with (first
             | (at_lookup;refine wpList_look rfl (.tmp 84) (.tmp 85) rfl B m1 (cntP l) rfl (zU HM) p rfl (by omega) ?_;rw [←zU HC])
             | (go_at_call 123;refine (zU CS _).mono ?_;rintro e w1 ⟨rfl,rfl⟩))
            go_round
            case rel=>exact ⟨q+1,(d1,d2),by omega,by go_num,rfl,rfl,zU NO (by rw [zU HST2];simp),hd1,hd2⟩
            case measure=>simp [intOf];omega
          | false =>
           rw [hst] at CS;have CS:=zH CS;have HST2:=zH hst;clear hst
           rcases hfacts with f1 | ⟨f1,⟨f2,f2',f2''⟩,f3,f4⟩
           all_goals
            first | (have f6:(1:Int)<(c:Int):=by have:=of_decide_eq_true f3;omega) | skip
            first | (have f7:decide ((1:Int)<(c:Int))=true:=by have:=of_decide_eq_true f3;simp;omega) | skip
            go_wp2_with (first
             | (at_lookup;refine wpList_look rfl (.tmp 84) (.tmp 85) rfl B m1 (cntP l) rfl (zU HM) p rfl (by omega) ?_;rw [←zU HC])
             | (go_at_call 123;refine (zU CS _).mono ?_;rintro e w1 ⟨rfl,rfl⟩))
            go_round
            case rel =>
             obtain ⟨y1,y2⟩:=zU YES (zU HA) (zU HST2);exact ⟨q+1,(p,c),by omega,by go_num,rfl,rfl,y1,y2⟩
            case measure=>simp [intOf];omega
         ·have g1:decide (d2<c)=false:=by simp;omega
          have hfacts:(((c:Int) == (d2:Int))=false∧(c == d2)=false∧decide (c=d2)=false)∨((((c:Int) == (d2:Int))=true∧(c == d2)=true∧decide (c=d2)=true)∧decide (1<c)=false)∨((((c:Int) == (d2:Int))=true∧(c == d2)=true∧decide (c=d2)=true)∧decide (1<c)=true∧Op.bytesLess p d1=false):=by
           by_cases h1:c=d2
           ·right;have h1':((c:Int) == (d2:Int))=true∧(c == d2)=true∧decide (c=d2)=true:=⟨by rw [beq_iff_eq];omega,by rw [beq_iff_eq];exact h1,by simpa using h1⟩
            by_cases h2:1<c
            ·right;refine ⟨h1',by simpa using h2,?_⟩;rw [less_model,Bool.eq_false_iff];exact fun h3=>hA (.inr ⟨h1,h2,h3⟩)
            ·exact .inl ⟨h1',by simpa using h2⟩
           ·left;exact ⟨by rw [beq_eq_false_iff_ne];omega,by rw [beq_eq_false_iff_ne];exact h1,by simpa using h1⟩
          have HA:=zH hA;clear hA CS
          rcases hfacts with ⟨f1,f1',f1''⟩ | ⟨⟨f1,f1',f1''⟩,f2⟩ | ⟨⟨f1,f1',f1''⟩,f2,f3⟩
          all_goals
           first | (have f6:decide ((1:Int)<(c:Int))=true:=by have:=of_decide_eq_true f2;simp;omega) | (have f6:decide ((1:Int)<(c:Int))=false:=by have:=of_decide_eq_false f2;simp;omega) | skip
           go_wp2_with (at_lookup;refine wpList_look rfl (.tmp 84) (.tmp 85) rfl B m1 (cntP l) rfl (zU HM) p rfl (by omega) ?_;rw [←zU HC]);go_round
           case rel=>exact ⟨q+1,(d1,d2),by omega,by go_num,rfl,rfl,zU NO (fun h=>zU HA h.1),hd1,hd2⟩
           case measure=>simp [intOf];omega
        ·have e1:¬ (q:Int)+4≤(t.length:Int):=by omega
         go_wp2_with fail;go_round
         case rel =>
          have hall:(piecesOf t).take q=piecesOf t:=List.take_of_length_le (by rw [piecesOf_len];omega);refine ⟨j+1,(d1,d2),by omega,by go_num,rfl,rfl,?_,hd1,hd2⟩;rw [zU HDD,hall,zU HBB,zU HAL];unfold bestOf;rw [List.foldl_append]
         case measure=>simp [intOf];omega
      ·have hfin:allPieces (l.take j)=allPieces l:=by rw [List.take_of_length_le (by have:=hl.1;omega)]
       have hk3:decide ((j:Int)<(n:Int))=false:=by simp;omega
       have hbb:=zU HBB;rw [hfin] at hbb;obtain ⟨g,rfl⟩:∃ g,f=g+1:=⟨f-1,by omega⟩
       have htr:=zU HTR;rw [trainR,if_pos hz,←hbb] at htr;obtain ⟨hb1,hb2⟩:b1.length≤4∧b2≤12:=zU HBS
       by_cases hbe:b1=[]
       ·rw [if_pos hbe] at htr;subst hbe;have HT2:=zH htr;clear hfin hbb htr;go_wp2_with fail;go_ret;exact ⟨by rw [←zU HT2];rfl,by rw [←zU HB];exact hbel⟩
       ·rw [if_neg hbe] at htr;have f1:b1.isEmpty=false:=by simpa using hbe
        have f2:(b1 == [])=false:=by simpa using hbe
        have HT2:=zH htr
        have hb4:b1.length=4:=by
         have hbi:=bestOf_is l dict (allPieces l) (fun p hp e=>by have:=allPieces_len hp;rw [e] at this;simp at this);rw [←hbb] at hbi
         rcases hbi with ⟨h1,_⟩ | ⟨h1,_⟩
         ·injection h1 with h1 _;exact absurd h1 hbe
         ·exact allPieces_len h1
        have HB4:=zH hb4;clear hfin hbb htr hbe hb4;go_wp2_with fail;go_round
        case rel=>exact ⟨g,b1++dict,rfl,zU HT2,by have:=zU HB4;rw [List.length_append];omega⟩
        case measure=>have:=zU HB4;simp [strLn];omega
    ·have z1:¬ (dict.length:Int)+4≤(size:Int):=by omega
     have hres:trainOf l size=dict:=by
      rw [←zU HTR];cases f with
      | zero=>rfl
      | succ f=>rw [trainR,if_neg hz]
     have HRES:=zH hres;clear hres;go_wp2_with fail;go_ret;exact ⟨by rw [zU HRES];rfl,by rw [←zU HB];exact hbel⟩
end Go.Proofs.YtjpgoeimclipjaaGreat
namespace Go.Proofs.YtjpgoeimclipjaaGreat
open Go.RowKit Go.Lib Pl
attribute [local go_sem] ext_list app_list
theorem own_cellP {W:World} {base e size n P:Nat} {v:Value} {xs:List Value} {c0:Array Value} (h:W.ownsRow base e size v n xs) (hP:W.heap[P]? = some (.cells c0 33 (0,0))) (hne:e≠33) (i:Nat) (u:Value):(W.setCell ⟨P,i,none⟩ u).ownsRow base e size v n xs:=by
 refine ⟨h.1,?_⟩
 rcases h.2 with hn | ⟨g,cap,cur,hv,hb,hg,rest⟩
 ·exact .inl hn
 ·refine .inr ⟨g,cap,cur,hv,hb,?_,rest⟩
  rw [Below.heap_setCell W ⟨P,i,none⟩ u g (fun e2=>by
   subst e2;rw [hP] at hg;injection hg with hg
   injection hg with _ hg _
   exact hne hg.symm)]
  exact hg
structure RQ (W:World) (P B b tb i o:Nat) (v1 v2 q:Value) (name t:Bytes):Prop where
 p0:W.cell? ⟨P,0,none⟩=some v1
 p1:W.cell? ⟨P,1,none⟩=some v2
 q1:W.cell? ⟨B,1,none⟩=some q
 n0:W.cell? ⟨b,i,none⟩=some (S name)
 t0:W.cell? ⟨tb,o,none⟩=some (S t)
section
variable {W W1 : World} {P B b tb i o : Nat} {v1 v2 q : Value} {name t : Bytes}
theorem RQ.below (h:RQ W P B b tb i o v1 v2 q name t) (hb:Below W.heap.size W W1):RQ W1 P B b tb i o v1 v2 q name t :=
 ⟨(hb.cell (block_lt_of_cell h.p0)).trans h.p0,(hb.cell (block_lt_of_cell h.p1)).trans h.p1,(hb.cell (block_lt_of_cell h.q1)).trans h.q1,(hb.cell (block_lt_of_cell h.n0)).trans h.n0,(hb.cell (block_lt_of_cell h.t0)).trans h.t0⟩
theorem RQ.drew (h:RQ W P B b tb i o v1 v2 q name t):RQ W.drew P B b tb i o v1 v2 q name t:=h.below (Below.refl _ _).drew
theorem RQ.alloc (h:RQ W P B b tb i o v1 v2 q name t) (ob:Obj):RQ (W.alloc ob) P B b tb i o v1 v2 q name t:=h.below ((Below.refl _ _).alloc (Nat.le_refl _) _)
theorem RQ.grown (h:RQ W P B b tb i o v1 v2 q name t) {row:Option Nat} (hg:W.grownBy W1 row) (h1:some P≠row) (h2:some B≠row) (h3:some b≠row) (h4:some tb≠row):RQ W1 P B b tb i o v1 v2 q name t :=
 ⟨(World.cell?_of_block (w:=W) (hg.block P (block_lt_of_cell h.p0) h1)).trans h.p0,(World.cell?_of_block (w:=W) (hg.block P (block_lt_of_cell h.p1) h1)).trans h.p1,(World.cell?_of_block (w:=W) (hg.block B (block_lt_of_cell h.q1) h2)).trans h.q1,
  (World.cell?_of_block (w:=W) (hg.block b (block_lt_of_cell h.n0) h3)).trans h.n0,(World.cell?_of_block (w:=W) (hg.block tb (block_lt_of_cell h.t0) h4)).trans h.t0⟩
end
attribute [local go_sem] World.cell?_alloc_some in
set_option maxHeartbeats 8000000 in
set_option maxRecDepth 100000 in
theorem retrainOf_any (A:Option Addr) (n cap:Nat) (A2:Option Addr) (n2 cap2:Nat) (a:Arc) (size:Int) (w:World) (h:ArcIn w A n A2 n2 a) (hz:ArcSz a) :
  Calls Tryz.prog 40 #[arcV A n cap A2 n2 cap2,I size] w fun e w'=>ArcRes w.heap.size (retrain a size) e w'∧Below w.heap.size w w':=by
 obtain ⟨B,hB⟩:∃ B,B=w.heap.size:=⟨_,rfl⟩
 obtain ⟨w0,hw0⟩:∃ w0,w0=(w.alloc (.cells #[.slice A n cap,.slice A2 n2 cap2] 33)).alloc (.cells #[.slice none 0 0,.slice none 0 0] 33):=⟨_,rfl⟩
 have H0:=zH (show AR A n cap A2 n2 cap2 a w w0 B by rw [hw0,hB];exact AR.new h cap cap2);have hl1:=h.s.1;have hl2:=h.f.1;have CK:∀ W,AR A n cap A2 n2 cap2 a w W B→Calls Tryz.prog 32 #[arcV A n cap A2 n2 cap2] W fun e w'=>e = .returned (I (checkA a))∧Below W.heap.size W w':=fun W hW=>checkArchive_any A n cap A2 n2 cap2 a W hW.ab.i hz;have CW:=fun (W:World)=>(within_any size 0 256 W).mono fun e w' ⟨h1,h2⟩=>(⟨h1,h2.symm⟩:e=Ending.returned (.bool (decide (0≤size∧size≤256)))∧w'=W)
 obtain ⟨r,hr⟩:∃ r,r=retrain a size:=⟨_,rfl⟩
 rw [←hr,←hB];have hput:r=if checkA a≠0 then (arc0,checkA a) else if trainE (textsA a) size≠0 then (arc0,trainE (textsA a) size) else if 4≤a.ds.length then (arc0,2) else (⟨a.ds++[trainD (textsA a) size],a.fs.map fun f=>packedF (a.ds++[trainD (textsA a) size]) f.name (textD a.ds f) (a.ds.length+1:Nat)⟩,0):=hr
 have HB:=zH hB;have HW0:=zH hw0;have HI:=zH h;clear hB hw0 h hr
 by_cases hck:checkA a≠0
 ·rw [if_pos hck] at hput;obtain ⟨c,hc⟩:∃ c,c=checkA a:=⟨_,rfl⟩
  rw [←hc] at CK hput hck;have CK:=zH CK;have d1:((c:Int) != 0)=true:=by rw [bne_iff_ne];omega
  have d2:((c:Int) == 0)=false:=by rw [beq_eq_false_iff_ne];omega
  have d3:¬ (c:Int)=0:=by omega
  subst hput;clear hck hc hz CW;go_enter Tryz.func40,Tryz.ntmps40;go_upto_region 1 with fail
  rw [←zU HW0,←zU HB];obtain ⟨q0,q1⟩:=(zU H0).ab.c;go_wp2_with fail;refine (zU CK _ (zU H0)).mono ?_;rintro e w1 ⟨rfl,hb1⟩;have H1:=zH ((zU H0).below hb1);clear hb1 q0 q1;go_wp2_with (refine wpList_store_row rfl 33 (.tmp 4) (.tmp 15) rfl (B+1) #[.slice none 0 0,.slice none 0 0] rfl rfl 33 _ (zU H1).z sizeArc rfl all_nil2 ?_);refine bodyPost_ret (results_row_tmp rfl _ _ (B+1) 33 #[.slice none 0 0,.slice none 0 0] (0,0) _ rfl ((zU H1).end_ _).1 Tryz.underlying33 rfl sizeArc) rfl ⟨⟨_,_,rfl,?_⟩,((zU H1).end_ _).2⟩;exact OwnA.nil _ _
 have hck0:checkA a=0:=Decidable.not_not.1 hck;have hra:=(check_iff a).1 hck0;rw [if_neg hck] at hput;rw [hck0] at CK;have CK:=zH CK;have HRA:=zH hra;have h12:=hra.nf;have h4:=hra.nd;have HZ:=zH hz
 have hte:trainE (textsA a) size=if size<0∨256<size then 3 else 0:=by
  unfold trainE;rw [texts_few hra,if_neg (by simp)]
 have htd:¬ (size<0∨256<size)→trainD (textsA a) size=trainOf (textsA a) size.toNat:=fun hs=>by
  unfold trainD;rw [texts_few hra,if_neg (by simp),if_neg hs]
 have HFEW:=zH (texts_few hra);rw [hte] at hput;clear hck hck0 hz hte
 by_cases hs:size<0∨256<size
 ·rw [if_pos hs,if_pos (by decide)] at hput;rw [decide_eq_false (by omega)] at CW;have CW:=zH CW;subst hput;clear hs htd hra;go_enter Tryz.func40,Tryz.ntmps40;go_upto_region 1 with fail
  rw [←zU HW0,←zU HB];obtain ⟨q0,q1⟩:=(zU H0).ab.c;go_wp2_with fail;refine (zU CK _ (zU H0)).mono ?_;rintro e w1 ⟨rfl,hb1⟩;have H1:=zH ((zU H0).below hb1);clear hb1 q0 q1;obtain ⟨q0,q1⟩:=(zU H1).ab.c;go_wp2_with fail;refine (zU CW _).mono ?_;rintro e w3 ⟨rfl,hw3⟩;rw [hw3];clear hw3;go_wp2_with (refine wpList_store_row rfl 33 (.tmp 4) (.tmp 20) rfl (B+1) #[.slice none 0 0,.slice none 0 0] rfl rfl 33 _ (zU H1).z sizeArc rfl all_nil2 ?_);refine bodyPost_ret (results_row_tmp rfl _ _ (B+1) 33 #[.slice none 0 0,.slice none 0 0] (0,0) _ rfl ((zU H1).end_ _).1 Tryz.underlying33 rfl sizeArc) rfl ⟨⟨_,_,rfl,?_⟩,((zU H1).end_ _).2⟩;exact OwnA.nil _ _
 rw [if_neg hs,if_neg (by decide),htd hs] at hput;rw [decide_eq_true (by omega)] at CW;have CW:=zH CW;obtain ⟨sz,rfl⟩:∃ sz:Nat,size=(sz:Int):=⟨size.toNat,by omega⟩
 rw [Int.toNat_natCast] at hput;have hsz:sz≤256:=by omega
 have htl:(trainOf (textsA a) sz).length≤256:=by
  have:=trainD_len (textsA a) (sz:Int);rw [htd hs,Int.toNat_natCast] at this;exact this
 clear hs htd
 by_cases h44:4≤a.ds.length
 ·rw [if_pos h44] at hput;have d1:(4:Int)≤(n:Int):=by omega
  subst hput;clear hra h44 htl;go_enter Tryz.func40,Tryz.ntmps40;go_upto_region 1 with fail
  rw [←zU HW0,←zU HB];obtain ⟨q0,q1⟩:=(zU H0).ab.c;go_wp2_with fail;refine (zU CK _ (zU H0)).mono ?_;rintro e w1 ⟨rfl,hb1⟩;have H1:=zH ((zU H0).below hb1);clear hb1 q0 q1;obtain ⟨q0,q1⟩:=(zU H1).ab.c;go_wp2_with fail;refine (zU CW _).mono ?_;rintro e w3 ⟨rfl,hw3⟩;rw [hw3];clear hw3;go_wp2_with (refine wpList_store_row rfl 33 (.tmp 4) (.tmp 25) rfl (B+1) #[.slice none 0 0,.slice none 0 0] rfl rfl 33 _ (zU H1).z sizeArc rfl all_nil2 ?_);refine bodyPost_ret (results_row_tmp rfl _ _ (B+1) 33 #[.slice none 0 0,.slice none 0 0] (0,0) _ rfl ((zU H1).end_ _).1 Tryz.underlying33 rfl sizeArc) rfl ⟨⟨_,_,rfl,?_⟩,((zU H1).end_ _).2⟩;exact OwnA.nil _ _
 rw [if_neg h44] at hput;have d1:¬ (4:Int)≤(n:Int):=by omega
 obtain ⟨td,htd⟩:∃ td,td=trainOf (textsA a) sz:=⟨_,rfl⟩
 rw [←htd] at hput htl;have HTD:=zH htd;have HP:=zH hput;have CT:∀ (i:Nat) (f:Fil),a.fs[i]? = some f→∀ W,AR A n cap A2 n2 cap2 a w W B→Calls Tryz.prog 87 #[arcV A n cap A2 n2 cap2,I i] W fun e w'=>e = .returned (S (textD a.ds f))∧Below W.heap.size W w':=fun i f hf W hW=>textAt_any A n cap A2 n2 cap2 a i f W hW.ab.i hra ((zU HZ).fs f (List.mem_of_getElem? hf)) hf;have CT:=zH CT;clear hra h44 hput htd;go_enter Tryz.func40,Tryz.ntmps40;go_upto_region 1 with fail
 rw [←zU HW0,←zU HB];obtain ⟨q0,q1⟩:=(zU H0).ab.c;go_wp2_with fail;refine (zU CK _ (zU H0)).mono ?_;rintro e w1 ⟨rfl,hb1⟩;have H1:=zH ((zU H0).below hb1);clear hb1 q0 q1;obtain ⟨q0,q1⟩:=(zU H1).ab.c;go_wp2_with fail;refine (zU CW _).mono ?_;rintro e w3 ⟨rfl,hw3⟩;rw [hw3];clear hw3;go_wp2_with fail;go_loopw [7,8] (fun lv iv wr=>∃ (k:Nat) (A1:Option Addr) (c1:Nat),k≤n2∧iv = .int .i64 k∧lv = .slice A1 k c1∧wr.ownsRow (B+2) 9 1 (.slice A1 k c1) k (((a.fs.take k).map (textD a.ds)).map strS)∧AR A n cap A2 n2 cap2 a w wr B) (fun _ iv _=>n2-(intOf iv).toNat)
 case atStart=>exact ⟨0,none,0,Nat.zero_le _,rfl,rfl,World.ownsRow_nil _ _ _ _,zU H1⟩
 case round =>
  clear q0 q1 d1;obtain ⟨k,A1,c1,hk,rfl,rfl,hown,hAR⟩:=hrel;have HOWN:=zH hown;have HAR:=zH hAR;obtain ⟨q0,q1⟩:=hAR.ab.c
  by_cases hkn:k<n2
  ·obtain ⟨f,hf⟩:∃ f,a.fs[k]? = some f:=⟨a.fs[k],List.getElem?_eq_getElem (by omega)⟩
   have htt:=take_texts hf;have HTT:=zH htt;have C1:=zH (zU CT k f hf);obtain ⟨t,ht⟩:∃ t,t=textD a.ds f:=⟨_,rfl⟩
   rw [←ht] at C1 HTT;have z1:(k:Int)<(n2:Int):=by omega
   clear hown hAR hf htt ht;go_wp2_with fail;refine (zU C1 _ (zU HAR)).mono ?_;rintro e w3 ⟨rfl,hb3⟩;have H3:=zH ((zU HAR).below hb3);have HO3:=zH (own_below (zU HOWN) hb3);have hB3:B+2≤w3.heap.size:=(zU H3).lt;clear hb3 q0 q1;go_wp2_with (at_builtin;refine wpList_push_str rfl (.tmp 33) (.tmp 37) rfl (B+2) _ k _ rfl (zU HO3) t w3.heap.size rfl rfl (by omega) hB3 ?_;intro A' cap' w5 hown5 hb5 hg5;have HOWN5:=zH hown5;have HG5:=zH hg5;clear hown5 hb5 hg5);go_roundw
   case rel =>
    refine ⟨k+1,A',cap',by omega,by go_num,rfl,by rw [zU HTT];exact zU HOWN5,AR.grownO (zU HI) (zU HB) ((zU H3).below ((Below.refl _ _).alloc (Nat.le_refl _) _)) (zU HG5) (fun j hj=>?_)⟩;have:=(zU HO3).lt j hj;omega
   case measure=>simp [intOf];omega
  ·have hall:(a.fs.take k).map (textD a.ds)=textsA a:=by rw [List.take_of_length_le (by omega)];rfl
   rw [hall] at HOWN hown;have hk3:¬ (k:Int)<(n2:Int):=by omega
   have hk4:decide ((k:Int)<(n2:Int))=false:=by simp;omega
   have CTR:∀ W,Below wr.heap.size wr W→Calls Tryz.prog 91 #[.slice A1 k c1,I sz] W fun e w'=>e = .returned (S td)∧Below W.heap.size W w':=fun W hW=>by
    obtain ⟨A9,c9,he9,hat9,hl9⟩:=strsAt_of_own (own_below hown hW);injection he9 with e9a _ e9b
    subst e9a;subst e9b;rw [zU HTD];exact trainOf_any A1 k c1 (textsA a) sz W hat9 (zU HFEW) hsz
   have CTR:=zH CTR;have HST:=zH hAR.ab.i.s;obtain ⟨E,hE⟩:∃ E,E=wr.heap.size:=⟨_,rfl⟩
   have hBE:B+1<E:=by rw [hE];exact hAR.lt
   have q2:(wr.alloc (.cells #[] 9)).cell? ⟨B,0,none⟩=some (.slice A n cap):=(hAR.below ((Below.refl _ _).alloc (Nat.le_refl _) _)).ab.c.1;have HE:=zH hE;clear hall hown hAR hE;go_wp2_with (at_builtin;refine wpList_append_strs rfl (.tmp 39) (.tmp 41) rfl A n cap a.ds (zU HST) (by omega) rfl rfl ?_;intro A' cap' w3 hown3 hb3;have HOWN3:=zH hown3;have HB3:=zH hb3;clear hown3 hb3);refine (zU CTR _ (zU HB3)).mono ?_;rintro e w4 ⟨rfl,hb4⟩;have HB4:=zH ((zU HB3).trans (hb4.mono (zU HB3).size));have HOD:=zH (show w4.ownsRow E 9 1 (.slice A' n cap') n (a.ds.map strS) by rw [zU HE];exact own_below (zU HOWN3) hb4);have hE4:E≤w4.heap.size:=by rw [zU HE];exact (zU HB4).size
   clear hb4 q0 q1 q2 HB3 HOWN3
   go_upto_region 14 with (first
    | (at_builtin;refine wpList_push_str rfl (.tmp 42) (.tmp 46) rfl E _ n _ rfl (zU HOD) td w4.heap.size rfl rfl (by omega) hE4 ?_;intro A8 cap8 w8 hown8 hb8 hg8;have HOWN8:=zH hown8;have HB8:=zH hb8;clear hown8 hb8 hg8)
    | (refine wpList_store_row rfl 33 (.tmp 9) (.tmp 48) rfl w8.heap.size #[.slice A8 (n+1) cap8,.slice none 0 0] rfl rfl 33 _ (heap_alloc_new _ _) sizeArc rfl (one_two _ _ _ _ _ _) ?_))
   obtain ⟨w9,hw9⟩:∃ w9,w9=(w8.alloc (.cells #[.slice none 0 0,.slice none 0 0] 33)).setRow w8.heap.size #[.slice A8 (n+1) cap8,.slice none 0 0]:=⟨_,rfl⟩
   obtain ⟨P,hP⟩:∃ P,P=w8.heap.size:=⟨_,rfl⟩
   have hb9:Below w8.heap.size w8 w9:=by rw [hw9];exact below_setRow ((Below.refl _ _).alloc (Nat.le_refl _) _) (Nat.le_refl _) _
   have hba:Below wr.heap.size wr w9:=by
    have h1:=zU HB8;rw [zU HE] at h1;have h2:=(zU HB4).trans h1;exact h2.trans (hb9.mono h2.size)
   have S9:=zH (show CompS w w9 B E P #[.slice A n cap,.slice A2 n2 cap2] (.slice A8 (n+1) cap8) (.slice none 0 0) ⟨a.ds++[td],[]⟩ by
    have h5:=(zU HAR).below hba;refine ⟨h5.ab.o,h5.z,by rw [hw9,hP];exact setRow_heap _ _ _ _ _ _ (heap_alloc_new _ _),⟨?_,World.ownsRow_nil _ _ _ _⟩,hBE,by rw [hP];exact Nat.le_trans hE4 (zU HB8).size,h5.ab.bel⟩;show w9.ownsRow E 9 1 (.slice A8 (n+1) cap8) (a.ds++[td]).length _;rw [show (a.ds++[td]).length=n+1 from by simp;omega];exact own_below (zU HOWN8) hb9)
   have HT9:=zH (own_below (zU HOWN) hba);rw [←hw9,←hP];clear hw9 hP hb9 hba HB8 HOWN8 HB4 HOD HOWN HAR;go_wp2_with fail;go_loopw [10] (fun iv wr=>∃ (j:Nat) (A3:Option Addr) (c3:Nat),j≤n2∧iv = .int .i64 j∧CompS w wr B E P #[.slice A n cap,.slice A2 n2 cap2] (.slice A8 (n+1) cap8) (.slice A3 j c3) ⟨a.ds++[td],(a.fs.take j).map (fun f=>packedF (a.ds++[td]) f.name (textD a.ds f) ((a.ds.length+1:Nat):Int))⟩∧wr.ownsRow (B+2) 9 1 (.slice A1 k c1) k ((textsA a).map strS)) (fun iv _=>n2-(intOf iv).toNat)
   case atStart=>exact ⟨0,none,0,Nat.zero_le _,rfl,by simpa using zU S9,zU HT9⟩
   case round =>
    have hkk:n2≤k:=by omega
    clear hk hkn hk3 hk4;obtain ⟨j,A3,c3,hj,rfl,hS,hT⟩:=hrel;have HSX:=zH hS;have HTX:=zH hT;obtain ⟨q0,q1,_,_⟩:=two_cells hS.b;obtain ⟨p0,p1,p2,p3⟩:=hS.cells
    by_cases hjn:j<n2
    ·have hin:=(zU HI).up (by rw [←zU HB];exact hS.bel);obtain ⟨b,off,f,rfl,hb,hf,x0,x1,x2,x3,x4⟩:=hin.f.at_ (k:=j) hjn;obtain ⟨l,hl⟩:∃ l,l=(a.fs.take j).map (fun f=>packedF (a.ds++[td]) f.name (textD a.ds f) ((a.ds.length+1:Nat):Int)):=⟨_,rfl⟩
     obtain ⟨F,hF⟩:∃ F,F=packedF (a.ds++[td]) f.name (textD a.ds f) ((a.ds.length+1:Nat):Int):=⟨_,rfl⟩
     have hnext:(a.fs.take (j+1)).map (fun f=>packedF (a.ds++[td]) f.name (textD a.ds f) ((a.ds.length+1:Nat):Int))=l++[F]:=by
      rw [List.take_add_one,hf,List.map_append,hl,hF];rfl
     have HNEXT:=zH hnext;have hll:l.length=j:=by rw [hl];simp;omega
     rw [←hl] at hS HSX
     have hof:wr.ownsRow E 61 5 (.slice A3 j c3) j (filsCells l):=by
      have:=hS.o.f;rw [show (⟨a.ds++[td],l⟩:Arc).fs.length=j from hll] at this;exact this
     have HOF:=zH hof;have HML:=zH hll;obtain ⟨A9,c9,he9,hat9,hl9⟩:=strsAt_of_own hT;injection he9 with e9a _ e9b
     subst e9a;subst e9b;obtain ⟨tb,tof,t,rfl,htb,htx,ht0⟩:=hat9.at_ (k:=j) (by omega)
     have htf:t=textD a.ds f:=by
      have:(textsA a)[j]? = some (textD a.ds f):=by unfold textsA;rw [List.getElem?_map,hf];rfl
      rw [this] at htx;injection htx with htx;exact htx.symm
     have htl5:t.length≤512:=by rw [htf];exact textD_len
     have harc:ArcIn wr A8 (n+1) A3 j ⟨a.ds++[td],l⟩:=by
      obtain ⟨Aa,ca,ea,ha,_⟩:=strsAt_of_own hS.o.s;obtain ⟨Ab,cb,eb,hb,_⟩:=filsAt_of_own hof;injection ea with ea1 ea2 _
      injection eb with eb1 _ _
      subst ea1;subst eb1;rw [←ea2] at ha;exact ⟨ha,hb⟩
     have hdo:dictO (a.ds++[td]) ((a.ds.length+1:Nat):Int)=some td:=by
      have:=dictO_at (ds:=a.ds++[td]) (j:=a.ds.length) (t:=td) (by simp);rw [show ((a.ds.length+1:Nat):Int)=(a.ds.length:Int)+1 from by omega];exact this
     have KP:∀ W,Below wr.heap.size wr W→Calls Tryz.prog 79 #[.agg #[.slice A8 (n+1) cap8,.slice A3 j c3],S f.name,S t,I ((n:Int)+1)] W fun e w'=>e = .returned (filV F)∧Below W.heap.size W w':=fun W hW=>by
      have:=packedR_any A8 (n+1) cap8 A3 j c3 ⟨a.ds++[td],l⟩ f.name t ((a.ds.length+1:Nat):Int) td W (harc.up hW) (by omega) hdo htl htl5;rw [show (n:Int)+1=((a.ds.length+1:Nat):Int) from by omega,hF,←htf];exact this
     have KP:=zH KP;have hEs:E≤wr.heap.size:=by have:=hS.lt;have:=hS.ep;omega
     have z1:(j:Int)<(n2:Int):=by omega
     have z2:(j:Int)<(k:Int):=by omega
     clear harc hof hl hll hf hin hat9 hl9 htx htf hF hS hT hnext hdo
     have hbB:b<B:=by
      obtain ⟨b5,off5,_,e5,hb5,_⟩:=(zU HI).f.at_ (k:=j) hjn;injection e5 with e5
      injection e5 with e5 _ _
      rw [e5,zU HB];exact hb5
     have hbP:P≠b:=by have:=(zU HSX).ep;omega
     have hrq:RQ wr P B b tb (off+j*5) (tof+j) (.slice A8 (n+1) cap8) (.slice A3 j c3) (.slice (some ⟨b,off,none⟩) n2 cap2) f.name t:=⟨p0,p1,q1,x0,ht0⟩
     have HRQ:=zH hrq;have R:=zH (show (∀ W:World,RQ W P B b tb (off+j*5) (tof+j) (.slice A8 (n+1) cap8) (.slice A3 j c3) (.slice (some ⟨b,off,none⟩) n2 cap2) f.name t→W.cell? ⟨P,0,none⟩=some (.slice A8 (n+1) cap8))∧(∀ W:World,RQ W P B b tb (off+j*5) (tof+j) (.slice A8 (n+1) cap8) (.slice A3 j c3) (.slice (some ⟨b,off,none⟩) n2 cap2) f.name t→W.cell? ⟨P,1,none⟩=some (.slice A3 j c3))∧(∀ W:World,RQ W P B b tb (off+j*5) (tof+j) (.slice A8 (n+1) cap8) (.slice A3 j c3) (.slice (some ⟨b,off,none⟩) n2 cap2) f.name t→W.cell? ⟨B,1,none⟩=some (.slice (some ⟨b,off,none⟩) n2 cap2))∧(∀ W:World,RQ W P B b tb (off+j*5) (tof+j) (.slice A8 (n+1) cap8) (.slice A3 j c3) (.slice (some ⟨b,off,none⟩) n2 cap2) f.name t→W.cell? ⟨b,off+j*5,none⟩=some (S f.name))∧(∀ W:World,RQ W P B b tb (off+j*5) (tof+j) (.slice A8 (n+1) cap8) (.slice A3 j c3) (.slice (some ⟨b,off,none⟩) n2 cap2) f.name t→W.cell? ⟨tb,tof+j,none⟩=some (S t)) from ⟨fun W h=>h.p0,fun W h=>h.p1,fun W h=>h.q1,fun W h=>h.n0,fun W h=>h.t0⟩);have hown3:∀ (W:World) (c:Nat),W.ownsRow E 61 5 (.slice A3 j c) j (filsCells l)→∀ q,q<E→some q≠(Value.slice A3 j c).ownBlock:=fun _ _ ho q hq e=>by have:=(ho.lt q e.symm).1;omega
     have hPE:E≤P:=(zU HSX).ep
     have htP:tb≠P:=by
      have h1:=(zU HSX).p;intro e;subst e
      rcases (zU HTX).2 with ⟨hv,_⟩ | ⟨g,cp,cur,hv,_,hg,_⟩
      ·cases hv
      ·injection hv with hv _ _;injection hv with hv;injection hv with hv _ _;subst hv
       rw [h1] at hg;injection hg with hg;injection hg with _ hg _;exact absurd hg (by decide)
     have HOWN3:=zH hown3;clear hrq hown3;obtain ⟨r1,r1',r2,r3,r4⟩:=zU R;go_wp2_with fail;clear q0 q1 x0 x1 x2 x3 x4 ht0 p0 p1;refine AnyK.begin (fun W=>RQ W P B b tb (off+j*5) (tof+j) (.slice A8 (n+1) cap8) (.slice A3 j c3) (.slice (some ⟨b,off,none⟩) n2 cap2) f.name t) 20 21 (by kernel_rfl) rfl ?_;have hsd:=(zU HRQ).drew;refine AnyK.take 0 10 (v:=?vv0) rfl (by kernel_rfl) (by kernel_rfl) (by kernel_rfl) (by kernel_rfl) (by kernel_rfl) (fun _ _ _ h=>h) (Or.inl ⟨by rfl,?hy0⟩) hsd ?rest0
     case hy0 =>
      intro W hSw
      try dsimp only at hSw
      go_simp
      try with_reducible rfl
     try simp only [Act.put,List.setIfInBounds_toArray]
     refine AnyK.take 1 10 (v:=?vv1) rfl (by kernel_rfl) (by kernel_rfl) (by kernel_rfl) (by kernel_rfl) (by kernel_rfl) (fun _ _ _ h=>h) (Or.inl ⟨by rfl,?hy1⟩) hsd ?rest1
     case hy1 =>
      intro W hSw
      try dsimp only at hSw
      go_simp
      try with_reducible rfl
     try simp only [Act.put]
     refine AnyK.take 2 10 (v:=?vv2) rfl (by kernel_rfl) (by kernel_rfl) (by kernel_rfl) (by kernel_rfl) (by kernel_rfl) (fun _ _ _ h=>h) (Or.inl ⟨by rfl,?hy2⟩) hsd ?rest2
     case hy2 =>
      intro W hSw
      try dsimp only at hSw
      go_simp
      try with_reducible rfl
     try simp only [Act.put]
     refine AnyK.take 3 10 (v:=?vv3) rfl (by kernel_rfl) (by kernel_rfl) (by kernel_rfl) (by kernel_rfl) (by kernel_rfl) (fun _ _ _ h=>h) (Or.inl ⟨by rfl,?hy3⟩) hsd ?rest3
     case hy3 =>
      intro W hSw
      try dsimp only at hSw
      go_simp
      try with_reducible rfl
     try simp only [Act.put]
     refine AnyK.take 4 10 (v:=?vv4) rfl (by kernel_rfl) (by kernel_rfl) (by kernel_rfl) (by kernel_rfl) (by kernel_rfl) (fun _ _ _ h=>h) (Or.inl ⟨by rfl,?hy4⟩) hsd ?rest4
     case hy4 =>
      intro W hSw
      try dsimp only at hSw
      go_simp
      try with_reducible rfl
     try simp only [Act.put]
     refine AnyK.take 5 10 (v:=?vv5) rfl (by kernel_rfl) (by kernel_rfl) (by kernel_rfl) (by kernel_rfl) (by kernel_rfl) (fun _ _ _ h=>h) (Or.inl ⟨by rfl,?hy5⟩) hsd ?rest5
     case hy5 =>
      intro W hSw
      try dsimp only at hSw
      go_simp
      try with_reducible rfl
     try simp only [Act.put]
     refine AnyK.take 6 10 (v:=?vv6) rfl (by kernel_rfl) (by kernel_rfl) (by kernel_rfl) (by kernel_rfl) (by kernel_rfl) (fun _ _ _ h=>h) (Or.inl ⟨by rfl,?hy6⟩) hsd ?rest6
     case hy6 =>
      intro W hSw
      try dsimp only at hSw
      go_simp
      try with_reducible rfl
     try simp only [Act.put]
     refine AnyK.take 7 10 (v:=?vv7) rfl (by kernel_rfl) (by kernel_rfl) (by kernel_rfl) (by kernel_rfl) (by kernel_rfl) (fun _ _ _ h=>h) (Or.inl ⟨by rfl,?hy7⟩) hsd ?rest7
     case hy7 =>
      intro W hSw
      try dsimp only at hSw
      go_simp
      try with_reducible rfl
     try simp only [Act.put]
     refine AnyK.take 8 10 (v:=?vv8) rfl (by kernel_rfl) (by kernel_rfl) (by kernel_rfl) (by kernel_rfl) (by kernel_rfl) (fun _ _ _ h=>h) (Or.inl ⟨by rfl,?hy8⟩) hsd ?rest8
     case hy8 =>
      intro W hSw
      try dsimp only at hSw
      go_simp
      try with_reducible rfl
     try simp only [Act.put]
     refine AnyK.take 9 10 (v:=?vv9) rfl (by kernel_rfl) (by kernel_rfl) (by kernel_rfl) (by kernel_rfl) (by kernel_rfl) (fun _ _ _ h=>h) (Or.inl ⟨by rfl,?hy9⟩) hsd ?rest9
     case hy9 =>
      intro W hSw
      try dsimp only at hSw
      go_simp
      try with_reducible rfl
     try simp only [Act.put]
     refine AnyK.take 10 10 (v:=?vv10) rfl (by kernel_rfl) (by kernel_rfl) (by kernel_rfl) (by kernel_rfl) (by kernel_rfl) (fun _ _ _ h=>h) (Or.inl ⟨by rfl,?hy10⟩) hsd ?rest10
     case hy10 =>
      intro W hSw
      try dsimp only at hSw
      go_simp
      try with_reducible rfl
     try simp only [Act.put]
     refine AnyK.take 11 10 (v:=?vv11) rfl (by kernel_rfl) (by kernel_rfl) (by kernel_rfl) (by kernel_rfl) (by kernel_rfl) (fun _ _ _ h=>h) (Or.inl ⟨by rfl,?hy11⟩) hsd ?rest11
     case hy11 =>
      intro W hSw
      try dsimp only at hSw
      go_simp
      try with_reducible rfl
     try simp only [Act.put]
     refine AnyK.take 12 10 (v:=?vv12) rfl (by kernel_rfl) (by kernel_rfl) (by kernel_rfl) (by kernel_rfl) (by kernel_rfl) (fun _ _ _ h=>h) (Or.inl ⟨by rfl,?hy12⟩) hsd ?rest12
     case hy12 =>
      intro W hSw
      try dsimp only at hSw
      go_simp
      try with_reducible rfl
     try simp only [Act.put]
     refine AnyK.take 13 10 (v:=?vv13) rfl (by kernel_rfl) (by kernel_rfl) (by kernel_rfl) (by kernel_rfl) (by kernel_rfl) (fun _ _ _ h=>h) (Or.inl ⟨by rfl,?hy13⟩) hsd ?rest13
     case hy13 =>
      intro W hSw
      try dsimp only at hSw
      go_simp
      try with_reducible rfl
     try simp only [Act.put]
     refine AnyK.take 14 10 (v:=?vv14) rfl (by kernel_rfl) (by kernel_rfl) (by kernel_rfl) (by kernel_rfl) (by kernel_rfl) (fun _ _ _ h=>h) (Or.inl ⟨by rfl,?hy14⟩) hsd ?rest14
     case hy14 =>
      intro W hSw
      try dsimp only at hSw
      go_simp
      try with_reducible rfl
     try simp only [Act.put]
     refine AnyK.take 15 10 (v:=?vv15) rfl (by kernel_rfl) (by kernel_rfl) (by kernel_rfl) (by kernel_rfl) (by kernel_rfl) (fun _ _ _ h=>h) (Or.inl ⟨by rfl,?hy15⟩) hsd ?rest15
     case hy15 =>
      intro W hSw
      try dsimp only at hSw
      go_simp
      try with_reducible rfl
     try simp only [Act.put]
     refine AnyK.one 16 rfl (by kernel_rfl) (fun K hK=>?_);refine step_call4 rfl 79 58 64 68 71 _ rfl (.agg #[.slice A8 (n+1) cap8,.slice A3 j c3]) (S f.name) (S t) (I ((n:Int)+1)) (by simp) (by simp) (by simp) (by simp) packedR_enters ((zU KP _ (Below.refl _ _).drew).mono ?_);rintro e w4 ⟨rfl,hb4⟩;refine ⟨_,rfl,?_⟩;have hbw4:Below wr.heap.size wr w4:=(Below.refl _ _).drew.trans hb4;have hs4:=(zU HSX).below hbw4;have HS4:=zH hs4;have HOF4:=zH (own_below (zU HOF) hbw4);have HT4:=zH (own_below (zU HTX) hbw4);have hrq4:=(zU HRQ).below hbw4;have HRQ4:=zH hrq4;have HZ4:=zH hbw4.size;clear hbw4 hs4 hb4;refine hK.out _ _ (fun _=>hrq4) ?_;clear hK K hsd
     try simp only [Act.put]
     refine AnyK.one 17 rfl (by kernel_rfl) (fun K hK=>?_);go_simp;refine hK.out _ _ (fun _=>hrq4.alloc _) ?_;clear hK K
     try simp only [Act.put,List.setIfInBounds_toArray,List.set_cons_zero,List.set_cons_succ]
     refine AnyK.one 18 rfl (by kernel_rfl) (fun K hK=>?_);refine step_push_fil rfl (.tmp 57) (.tmp 73) rfl E _ j l rfl ((zU HOF4).alloc _) F w4.heap.size rfl (heap_alloc_new _ _) (by omega) (by have h9:=zU HZ4;simp;omega) ?_;intro A7 c7 w7 hown7 hg7;have hpush:=CompS.pushF (v2':=.slice A7 (j+1) c7) (f:=F) ((zU HS4).below ((Below.refl _ _).alloc (Nat.le_refl _) _)) hg7 (by have h9:=zU HML;show w7.ownsRow E 61 5 _ (l.length+1) _;rw [h9];exact hown7)
     have hrq7:=RQ.grown ((zU HRQ4).alloc _) hg7 (CompS.ownP2 (zU HS4)) (zU HOWN3 _ _ (zU HOF4) B (by omega)) (zU HOWN3 _ _ (zU HOF4) b (by omega)) (by
      rcases own_apart (zU HT4) (zU HOF4) (by decide) with h0 | h0
      ·simp [Value.ownBlock] at h0
      ·exact h0)
     have HPUSH:=zH hpush;have HG7:=zH hg7;obtain ⟨u0,u1,u2,u3⟩:=two_cells hpush.2.1;clear hown7 hg7 hpush;refine hK.out _ _ (fun _=>hrq7) ?_;clear hK K hrq4
     try simp only [Act.put,List.setIfInBounds_toArray]
     have hsd7:=hrq7;refine AnyK.take 19 10 (v:=?vv19) rfl (by kernel_rfl) (by kernel_rfl) (by kernel_rfl) (by kernel_rfl) (by kernel_rfl) (fun _ _ _ h=>h) (Or.inl ⟨by rfl,?hy19⟩) hsd7 ?rest19
     case hy19 =>
      intro W hSw
      try dsimp only at hSw
      go_simp
      try with_reducible rfl
     try simp only [Act.put]
     refine AnyK.one 20 rfl (by kernel_rfl) (fun K hK=>?_);go_simp;refine hK.out _ _ (fun h=>absurd rfl h) ?_;clear hK K hsd7 hrq7
     try simp only [Act.put,List.setIfInBounds_toArray,List.set_cons_zero,List.set_cons_succ]
     refine AnyK.done (by kernel_rfl) ?_
     all_goals
      go_wp2_with fail;go_roundw
      case rel =>
       refine ⟨j+1,A7,c7,by omega,by go_num,by rw [zU HNEXT];exact (zU HPUSH).1,?_⟩;exact own_cellP (((zU HT4).alloc _).kept (zU HG7) (own_apart (zU HT4) (zU HOF4) (by decide))) (zU HPUSH).2.1 (by decide) _ _
      case measure=>simp [intOf];omega
    ·have hall:(a.fs.take j).map (fun f=>packedF (a.ds++[td]) f.name (textD a.ds f) ((a.ds.length+1:Nat):Int))=a.fs.map (fun f=>packedF (a.ds++[td]) f.name (textD a.ds f) ((a.ds.length+1:Nat):Int)):=by
      rw [List.take_of_length_le (by omega)]
     rw [hall] at hS;obtain ⟨e1,e2,e3⟩:=put_end hS.z hS.be hS.o hS.bel;have E1:=zH e1;have E2:=zH e2;have E3:=zH e3;have HZR:=zH hS.z;have z1:¬ (j:Int)<(n2:Int):=by omega
     have z2:decide ((j:Int)<(n2:Int))=false:=by simp;omega
     clear hall hS hT e1 e2 e3;go_wp2_with (refine wpList_store_row rfl 33 (.tmp 4) (.tmp 76) rfl (B+1) #[.slice A8 (n+1) cap8,.slice A3 j c3] rfl rfl 33 _ (zU HZR) sizeArc rfl (one_two _ _ _ _ _ _) ?_);refine bodyPost_ret (results_row_tmp rfl _ _ (B+1) 33 #[.slice A8 (n+1) cap8,.slice A3 j c3] (0,0) _ rfl (zU E1) Tryz.underlying33 rfl sizeArc) rfl ?_;rw [zU HP];exact ⟨⟨_,_,rfl,zU E2⟩,zU E3⟩
end Go.Proofs.YtjpgoeimclipjaaGreat
namespace Go.Proofs.YtjpgoeimclipjaaGreat
open Go.RowKit Go.Lib Pl
attribute [local go_sem] ext_list app_list
set_option maxRecDepth 100000 in
theorem run_append_fils (W:World) (ty:TypeId) (A:Option Addr) (n cap:Nat) (l:List Fil) (hl:filsAt W W.heap.size A n l) (hn:n≤1000000) :
  ∃ A' cap' w',(Builtin.append_ #[31,31] ty #[.slice (some ⟨W.heap.size,0,none⟩) 0 0,.slice A n cap]).run Tryz.prog (W.alloc (.cells #[] 61)) = .ok (.slice A' n cap') w'∧w'.ownsRow W.heap.size 61 5 (.slice A' n cap') n (filsCells l)∧Below W.heap.size W w':=by
 obtain ⟨i0,hi,hz0,hz1,hz2⟩:=info_parts info_fil;have hln:=hl.1;have hmade:=World.ownsRow_made (e:=61) (base:=W.heap.size) (size:=5) W #[] 0 (Nat.le_refl _) (Nat.zero_le _) (by simp);have hbel:Below W.heap.size W (W.alloc (.cells #[] 61)):=(Below.refl _ _).alloc (Nat.le_refl _) _;cases A with
 | none =>
  have h0:n=0:=by
   rcases Nat.eq_zero_or_pos n with h | h
   ·exact h
   ·obtain ⟨b,off,e,_⟩:=hl.2 h;cases e
  subst h0;obtain rfl:l=[]:=List.eq_nil_of_length_eq_zero hln;refine ⟨some ⟨W.heap.size,0,none⟩,0,W.alloc (.cells #[] 61),?_,hmade,hbel⟩;simp [Builtin.append_,run_underlying Tryz.underlying31,sizeOf,typeInfo,hi,Builtin.lenOf,Builtin.firstCells,storeCells]
 | some ad =>
  have hlen:(filsCells l).length=n*5:=by rw [filsCells_len,hln]
  have hc:∀ j u,(filsCells l)[j]? = some u→(W.alloc (.cells #[] 61)).cell? (ad.add j)=some u:=fun j u hj=>by
   have hj2:=(List.getElem?_eq_some_iff.1 hj).1;obtain ⟨b,off,e,hb,hc⟩:=hl.2 (by omega);cases e;have e:(⟨b,off,none⟩:Addr).add j=⟨b,off+j,none⟩:=by unfold Addr.add;split <;> simp_all
   rw [e];refine (hbel.cell (p:=⟨b,off+j,none⟩) hb).trans ?_;obtain ⟨q,r,hq,hr⟩:∃ q r,j=q*5+r∧r<5:=⟨j / 5,j % 5,by omega,by omega⟩
   have hql:q<l.length:=by omega
   obtain ⟨c0,c1,c2,c3,c4⟩:=hc q _ (List.getElem?_eq_getElem hql);obtain ⟨d0,d1,d2,d3,d4⟩:=filsCells_get l q _ (List.getElem?_eq_getElem hql)
   rcases (show r=0∨r=1∨r=2∨r=3∨r=4 by omega) with h | h | h | h | h
   all_goals
    subst h;rw [hq] at hj ⊢
   ·rw [Nat.add_zero] at hj ⊢;rw [c0,←hj,d0]
   ·rw [←Nat.add_assoc,c1,←hj,d1]
   ·rw [←Nat.add_assoc,c2,←hj,d2]
   ·rw [←Nat.add_assoc,c3,←hj,d3]
   ·rw [←Nat.add_assoc,c4,←hj,d4]
  obtain ⟨v',w',h1,h2,h3,_⟩:=run_append_own (P:=Tryz.prog) (W.alloc (.cells #[] 61)) W.heap.size 31 ty 61 i0 _ 5 56 Tryz.underlying31 hi hz0 hz1 hz2 rfl (by decide) _ 0 [] hmade ad n cap (filsCells l) hlen hc (filsCells_one l) (by unfold maxLen;omega) (by omega) (by simp);rw [Nat.zero_add,List.nil_append] at h2;obtain ⟨A',cap',rfl,_⟩:=filsAt_of_own h2;exact ⟨A',cap',w',h1,h2,hbel.grown h3 (by simp) (fun k hk=>by simp [Value.ownBlock] at hk;omega)⟩
theorem wpList_append_fils {W:World} {ops:Array Oper} {rest:List Oper} {o:Oper} {a:Act} {Q:Exit→Act→World→Prop} (hgd:o.guard=none) (s x:Operand)
  (ho:o.op = .call { callee:=.builtin .append,args:=#[s,x],argTypes:=#[31,31] })
  (A:Option Addr) (n cap:Nat) (l:List Fil) (hl:filsAt W W.heap.size A n l) (hn:n≤1000000) (hs:a.eval s = .slice (some ⟨W.heap.size,0,none⟩) 0 0) (hx:a.eval x = .slice A n cap)
  (h:∀ A' cap' w',w'.ownsRow W.heap.size 61 5 (.slice A' n cap') n (filsCells l)→Below W.heap.size W w'→wpList Tryz.prog ops Q rest (a.put o.dst (.slice A' n cap')) w') :
  wpList Tryz.prog ops Q (o::rest) a (W.alloc (.cells #[] 61)):=by
 obtain ⟨A',cap',w',h1,h2,h3⟩:=run_append_fils W o.type A n cap l hl hn;exact Lib.wpList_append_run _ hgd s x _ _ ho _ _ hs hx _ _ h1 (h A' cap' w' h2 h3)
theorem step_push_str {w:World} {ops:Array Oper} {o:Oper} {a:Act} {K:Act→World→Prop} {Q:Exit→Act→World→Prop} {E:Prop} (hgd:o.guard=none) (s x:Operand)
  (ho:o.op = .call { callee:=.builtin .append,args:=#[s,x],argTypes:=#[30,30] })
  (base:Nat) (v:Value) (n:Nat) (l:List Bytes) (hs:a.eval s=v) (hown:w.ownsRow base 9 1 v n (l.map strS)) (t:Bytes)
  (H:Nat) (hx:a.eval x = .slice (some ⟨H,0,none⟩) 1 1) (hc:w.heap[H]? = some (.cells #[S t] 9 (0,0)))
  (hn:n≤1000000) (hbase:base≤w.heap.size)
  (h:∀ A' cap' w',w'.ownsRow base 9 1 (.slice A' (n+1) cap') (n+1) ((l++[t]).map strS)→w.grownBy w' v.ownBlock→K (a.put o.dst (.slice A' (n+1) cap')) w') :
  if Region.wanted o (yielded ops a.tmps)=true then Oper.wp Tryz.prog o a w K Q else E:=by
 have hw:Region.wanted o (yielded ops a.tmps)=true:=by simp [Region.wanted,hgd]
 rw [if_pos hw];obtain ⟨i0,hi,hz0,hz1,hz2⟩:=info_parts info_str
 obtain ⟨v',w',h1,h2,h3,_⟩:=run_append_own (P:=Tryz.prog) w base 30 o.type 9 i0 _ 1 16 Tryz.underlying30 hi hz0 hz1 hz2 rfl (by decide) v n (l.map strS) hown ⟨H,0,none⟩ 1 1 [S t] rfl (fun j u hj=>by
  rw [Addr.add_lit,cell_of_row _ _ _ _ _ _ hc];simpa using hj) (fun y hy=>by simp at hy;subst hy;rfl) (by unfold maxLen;omega) (by omega) hbase
 have h2':w'.ownsRow base 9 1 v' (n+1) ((l++[t]).map strS):=by rw [List.map_append];exact h2
 obtain ⟨A',cap',rfl,_⟩:=strsAt_of_own h2';unfold Oper.wp execOp;simp only [ho,resolve,invoke,builtin,Sem.run_bind,Sem.run_pure,Result.andThen_ok,List.map_toArray,List.map_cons,List.map_nil,hs,hx,h1];exact h A' cap' w' h2' h3
theorem usedB_take {fs:List Fil} {i:Nat} {f:Fil} (h:fs[i]? = some f) (n:Nat):usedB (fs.take (i+1)) n=(usedB (fs.take i) n || decide (f.dict=(n:Int))):=by
 unfold usedB;rw [List.take_add_one,h,List.any_append];simp
theorem moving_hit {fs:List Fil} {k i:Nat} {f:Fil} (h:fs[i]? = some f) (hd:f.dict=((k+1:Nat):Int)) :
  ((fs.take i).map (moveTo fs (k+1))++(fs.drop i).map (moveTo fs k))[i]? = some f∧((fs.take i).map (moveTo fs (k+1))++(fs.drop i).map (moveTo fs k)).set i { f with dict:=((movedN fs (k+1):Nat):Int) } = (fs.take (i+1)).map (moveTo fs (k+1))++(fs.drop (i+1)).map (moveTo fs k):=by
 have hk:=(List.getElem?_eq_some_iff.1 h).1;have hl:((fs.take i).map (moveTo fs (k+1))).length=i:=by rw [List.length_map,List.length_take];omega
 have hm:moveTo fs k f=f:=by unfold moveTo;rw [if_neg (by omega)]
 rw [fils_drop h,List.map_cons,hm];refine ⟨by rw [List.getElem?_append_right (by omega),hl,Nat.sub_self];rfl,?_⟩;rw [List.set_append_right _ _ (by omega),hl,Nat.sub_self,List.set_cons_zero,List.take_add_one,h,List.map_append];simp [moveTo_hit hd]
theorem moving_miss {fs:List Fil} {k i:Nat} {f:Fil} (h:fs[i]? = some f) (hd:f.dict≠((k+1:Nat):Int)) :
  (fs.take (i+1)).map (moveTo fs (k+1))++(fs.drop (i+1)).map (moveTo fs k)=(fs.take i).map (moveTo fs (k+1))++(fs.drop i).map (moveTo fs k):=by
 rw [fils_drop h,List.take_add_one,h,List.map_append,List.map_cons];simp [moveTo_miss hd]
attribute [local go_sem] World.cell?_alloc_some in
set_option maxHeartbeats 8000000 in
set_option maxRecDepth 100000 in
theorem compactOf_any (A:Option Addr) (n cap:Nat) (A2:Option Addr) (n2 cap2:Nat) (a:Arc) (w:World) (h:ArcIn w A n A2 n2 a) (hz:ArcSz a) :
  Calls Tryz.prog 41 #[arcV A n cap A2 n2 cap2] w fun e w'=>ArcRes w.heap.size (compact a) e w'∧Below w.heap.size w w':=by
 obtain ⟨B,hB⟩:∃ B,B=w.heap.size:=⟨_,rfl⟩
 obtain ⟨w0,hw0⟩:∃ w0,w0=(w.alloc (.cells #[.slice A n cap,.slice A2 n2 cap2] 33)).alloc (.cells #[.slice none 0 0,.slice none 0 0] 33):=⟨_,rfl⟩
 have H0:=zH (show AR A n cap A2 n2 cap2 a w w0 B by rw [hw0,hB];exact AR.new h cap cap2);have hl1:=h.s.1;have hl2:=h.f.1;have CK:∀ W,AR A n cap A2 n2 cap2 a w W B→Calls Tryz.prog 32 #[arcV A n cap A2 n2 cap2] W fun e w'=>e = .returned (I (checkA a))∧Below W.heap.size W w':=fun W hW=>checkArchive_any A n cap A2 n2 cap2 a W hW.ab.i hz;obtain ⟨r,hr⟩:∃ r,r=compact a:=⟨_,rfl⟩
 rw [←hr,←hB];have hput:r=if checkA a≠0 then (arc0,checkA a) else (⟨keepD a.fs 0 a.ds,a.fs.map (moveF a.fs)⟩,0):=hr
 have HB:=zH hB;have HW0:=zH hw0;have HI:=zH h;clear hB hw0 h hr
 by_cases hck:checkA a≠0
 ·rw [if_pos hck] at hput;obtain ⟨c,hc⟩:∃ c,c=checkA a:=⟨_,rfl⟩
  rw [←hc] at CK hput hck;have CK:=zH CK;have d1:((c:Int) != 0)=true:=by rw [bne_iff_ne];omega
  have d2:((c:Int) == 0)=false:=by rw [beq_eq_false_iff_ne];omega
  have d3:¬ (c:Int)=0:=by omega
  subst hput;clear hck hc hz;go_enter Tryz.func41,Tryz.ntmps41;go_upto_region 1 with fail
  rw [←zU HW0,←zU HB];obtain ⟨q0,q1⟩:=(zU H0).ab.c;go_wp2_with fail;refine (zU CK _ (zU H0)).mono ?_;rintro e w1 ⟨rfl,hb1⟩;have H1:=zH ((zU H0).below hb1);clear hb1 q0 q1;go_wp2_with (refine wpList_store_row rfl 33 (.tmp 2) (.tmp 14) rfl (B+1) #[.slice none 0 0,.slice none 0 0] rfl rfl 33 _ (zU H1).z sizeArc rfl all_nil2 ?_);refine bodyPost_ret (results_row_tmp rfl _ _ (B+1) 33 #[.slice none 0 0,.slice none 0 0] (0,0) _ rfl ((zU H1).end_ _).1 Tryz.underlying33 rfl sizeArc) rfl ⟨⟨_,_,rfl,?_⟩,((zU H1).end_ _).2⟩;exact OwnA.nil _ _
 have hck0:checkA a=0:=Decidable.not_not.1 hck;have hra:=(check_iff a).1 hck0;rw [if_neg hck] at hput;rw [hck0] at CK;have CK:=zH CK;have h12:=hra.nf;have h4:=hra.nd;rw [←moved_final hra] at hput;have HP:=zH hput;have HZ:=zH hz.fs;clear hck hck0 hra hz hput;go_enter Tryz.func41,Tryz.ntmps41;go_upto_region 1 with fail
 rw [←zU HW0,←zU HB];obtain ⟨q0,q1⟩:=(zU H0).ab.c;go_wp2_with fail;refine (zU CK _ (zU H0)).mono ?_;rintro e w1 ⟨rfl,hb1⟩;have H1:=zH ((zU H0).below hb1);clear hb1 q0 q1;have HFT:=zH (zU H1).ab.i.f;obtain ⟨E,hE⟩:∃ E,E=w1.heap.size:=⟨_,rfl⟩
 have hBE:B+1<E:=by rw [hE];exact (zU H1).lt
 have HE:=zH hE;have q2:(w1.alloc (.cells #[] 61)).cell? ⟨B,1,none⟩=some (.slice A2 n2 cap2):=((zU H1).below ((Below.refl _ _).alloc (Nat.le_refl _) _)).ab.c.2;clear hE
 go_upto_region 5 with (first
  | (at_builtin;refine wpList_append_fils rfl (.tmp 16) (.tmp 18) rfl A2 n2 cap2 a.fs (zU HFT) (by omega) rfl rfl ?_;intro A' cap' w3 hown3 hb3;have HOWN3:=zH hown3;have HB3:=zH hb3;clear hown3 hb3)
  | (refine wpList_store_row rfl 33 (.tmp 5) (.tmp 20) rfl w3.heap.size #[.slice none 0 0,.slice A' n2 cap'] rfl rfl 33 _ (heap_alloc_new _ _) sizeArc rfl (one_two _ _ _ _ _ _) ?_))
 obtain ⟨w5,hw5⟩:∃ w5,w5=(w3.alloc (.cells #[.slice none 0 0,.slice none 0 0] 33)).setRow w3.heap.size #[.slice none 0 0,.slice A' n2 cap']:=⟨_,rfl⟩
 obtain ⟨P,hP⟩:∃ P,P=w3.heap.size:=⟨_,rfl⟩
 have S5:=zH (show CompS w w5 B E P #[.slice A n cap,.slice A2 n2 cap2] (.slice none 0 0) (.slice A' n2 cap') ⟨[],a.fs⟩ by
  have h3:=(zU H1).below (zU HB3);have hb5:Below w3.heap.size w3 w5:=by rw [hw5];exact below_setRow ((Below.refl _ _).alloc (Nat.le_refl _) _) (Nat.le_refl _) _
  have h5:=h3.below hb5;refine ⟨h5.ab.o,h5.z,by rw [hw5,hP];exact setRow_heap _ _ _ _ _ _ (heap_alloc_new _ _),⟨World.ownsRow_nil _ _ _ _,?_⟩,hBE,by rw [hP,zU HE];exact (zU HB3).size,h5.ab.bel⟩;show w5.ownsRow E 61 5 (.slice A' n2 cap') a.fs.length _;rw [hl2,zU HE];exact own_below (zU HOWN3) hb5)
 rw [←hw5,←hP];clear hw5 hP q2;go_wp2_with fail;go_loopw [6,7,8,9] (fun nv _ _ _ wr=>∃ (k:Nat) (A3:Option Addr) (c3:Nat),k≤n∧nv = .int .i64 ((k:Int)+1)∧CompS w wr B E P #[.slice A n cap,.slice A2 n2 cap2] (.slice A3 (movedN a.fs k) c3) (.slice A' n2 cap') ⟨keepD a.fs 0 (a.ds.take k),a.fs.map (moveTo a.fs k)⟩) (fun nv _ _ _ _=>n+1-(intOf nv).toNat)
 case atStart =>
  refine ⟨0,none,0,Nat.zero_le _,rfl,?_⟩
  have e:a.fs.map (moveTo a.fs 0)=a.fs:=by
   rw [show moveTo a.fs 0=id from funext fun f=>moveTo_zero a.fs f,List.map_id]
  rw [e];exact zU S5
 case round =>
  obtain ⟨k,A3,c3,hk,rfl,hS⟩:=hrel;have HS:=zH hS;obtain ⟨q0,q1,_,_⟩:=two_cells hS.b;obtain ⟨p0,p1,p2,p3⟩:=hS.cells;have hmk:movedN a.fs k≤k:=moved_le a.fs k;have hdl:(keepD a.fs 0 (a.ds.take k)).length=movedN a.fs k:=keepD_takeLen (by omega);have HDL:=zH hdl
  by_cases hkn:k<n
  ·have z1:(k:Int)+1≤(n:Int):=by omega
   have hin:=(zU HI).up (by rw [←zU HB];exact hS.bel);have HIN:=zH hin;clear hin hS hdl;go_wp2_with fail;go_loop [7,8] (fun uv iv=>∃ i:Nat,i≤n2∧iv = .int .i64 i∧uv = .bool (usedB (a.fs.take i) (k+1))) (fun _ iv=>n2-(intOf iv).toNat)
   case atStart=>exact ⟨0,Nat.zero_le _,rfl,rfl⟩
   case round =>
    obtain ⟨i,hi,rfl,rfl⟩:=hrel
    by_cases hin2:i<n2
    ·obtain ⟨b,off,f,rfl,hb,hf,x0,x1,x2,x3,x4⟩:=(zU HIN).f.at_ (k:=i) hin2;have hut:=usedB_take hf (k+1);have z2:(i:Int)<(n2:Int):=by omega
     cases hu:usedB (a.fs.take i) (k+1) with
     | true =>
      rw [hu,Bool.true_or] at hut;have HUT:=zH hut;clear hut hu hf;go_wp2_with fail;go_round
      case rel=>exact ⟨i+1,by omega,by go_num,by rw [zU HUT]⟩
      case measure=>simp [intOf];omega
     | false =>
      rw [hu,Bool.false_or] at hut
      by_cases hd:f.dict=((k+1:Nat):Int)
      ·rw [decide_eq_true hd] at hut;have HUT:=zH hut;have d1:(f.dict == (k:Int)+1)=true:=by rw [beq_iff_eq];omega
       have d2:f.dict=(k:Int)+1:=by omega
       clear hut hu hf hd;go_wp2_with fail;go_round
       case rel=>exact ⟨i+1,by omega,by go_num,by rw [zU HUT]⟩
       case measure=>simp [intOf];omega
      ·rw [decide_eq_false hd] at hut;have HUT:=zH hut;have d1:(f.dict == (k:Int)+1)=false:=by rw [beq_eq_false_iff_ne];omega
       clear hut hu hf hd;go_wp2_with fail;go_round
       case rel=>exact ⟨i+1,by omega,by go_num,by rw [zU HUT]⟩
       case measure=>simp [intOf];omega
    ·have z2:¬ (i:Int)<(n2:Int):=by omega
     have hall:a.fs.take i=a.fs:=List.take_of_length_le (by omega);rw [hall];clear hall;obtain ⟨b,off,d,hA,hb,hd,x0⟩:=(zU HIN).s.at_ (k:=k) hkn;have hkt:=keepD_take (fs:=a.fs) hd;have e1:IntKind.i64.wrap ((k:Int)+1+1)=((k+1:Nat):Int)+1:=by rw [show (k:Int)+1+1=((k+1:Nat):Int)+1 from by omega];exact IntWalk.i64_in _ ⟨by omega,by omega⟩
     cases hu:usedB a.fs (k+1) with
     | false =>
      rw [hu,if_neg (by simp),List.append_nil] at hkt;have HKT:=zH hkt;have HMN:=zH (show movedN a.fs (k+1)=movedN a.fs k by rw [moved_step,hu,if_neg (by simp)];rfl);have HMU:=zH (moveTo_unused (l:=a.fs) hu (fun f hf=>hf));clear hkt hu hd x0 hA;go_wp2_with fail;go_roundw
      case rel=>exact ⟨k+1,A3,c3,by omega,by go_num,by rw [zU HMN,zU HKT,zU HMU];exact zU HS⟩
      case measure=>simp [intOf];omega
     | true =>
      subst hA;rw [hu,if_pos rfl] at hkt;have HKT:=zH hkt;have HMN:=zH (show movedN a.fs (k+1)=movedN a.fs k+1 by rw [moved_step,hu,if_pos rfl])
      have hown:wr.ownsRow E 9 1 (.slice A3 (movedN a.fs k) c3) (movedN a.fs k) ((keepD a.fs 0 (a.ds.take k)).map strS):=by
       have:=(zU HS).o.s;rw [show (⟨keepD a.fs 0 (a.ds.take k),a.fs.map (moveTo a.fs k)⟩:Arc).ds.length=movedN a.fs k from zU HDL] at this;exact this
      have HOWN:=zH hown;have hEs:E≤wr.heap.size:=by have:=(zU HS).lt;have:=(zU HS).ep;omega
      obtain ⟨y,hy⟩:∃ y,y=movedN a.fs k:=⟨_,rfl⟩
      rw [←hy] at HOWN p0 HMN hmk HS HDL;have w1:IntKind.i64.wrap ((k:Int)+1-1)=(k:Int):=by rw [show (k:Int)+1-1=(k:Int) from by omega];exact IntWalk.i64_in _ ⟨by omega,by omega⟩
      have w2:wrap64 ((k:Int)+1-1)=(k:Int):=by rw [show (k:Int)+1-1=(k:Int) from by omega];exact IntWalk.wrap64_in _ ⟨by omega,by omega⟩
      have w3:IntKind.i64.wrap (k:Int)=(k:Int):=IntWalk.i64_in _ ⟨by omega,by omega⟩;have z3:(k:Int)<(n:Int):=by omega
      have z4:(0:Int)≤(k:Int):=by omega
      clear hkt hu hd hown hy;go_wp2_with fail;go_region_law ((refine step_push_str rfl (.tmp 49) (.tmp 56) rfl E _ y (keepD a.fs 0 (a.ds.take k)) rfl (by first | exact ((zU HOWN).alloc _) | exact ((zU HOWN).alloc _).drew | exact (zU HOWN).drew.alloc _) d wr.heap.size rfl (by first | exact heap_alloc_new _ _ | exact heap_alloc_new wr.drew _) (by omega) (by simp;omega) ?_;intro A7 c7 w7 hown7 hg7;have hpush:=CompS.push (v1':=.slice A7 (y+1) c7) (d:=d) ((zU HS).below (by first | exact (Below.refl _ _).alloc (Nat.le_refl _) _ | exact ((Below.refl _ _).alloc (Nat.le_refl _) _).drew | exact (Below.refl _ _).drew.alloc (Nat.le_refl _) _)) hg7 (by have h9:=zU HDL;show w7.ownsRow E 9 1 _ ((keepD a.fs 0 (a.ds.take k)).length+1) _;rw [h9];exact hown7);have HPUSH:=zH hpush;obtain ⟨u0,u1,u2,u3⟩:=two_cells hpush.2.1;clear hown7 hg7 hpush))
      all_goals
       obtain ⟨w8,hw8⟩:∃ w8,w8=w7.setCell ⟨P,0,none⟩ (.slice A7 (y+1) c7):=⟨_,rfl⟩
       have hS8:CompS w w8 B E P #[.slice (some ⟨b,off,none⟩) n cap,.slice A2 n2 cap2] (.slice A7 (y+1) c7) (.slice A' n2 cap') ⟨keepD a.fs 0 (a.ds.take (k+1)),a.fs.map (moveTo a.fs k)⟩:=by rw [hw8,zU HKT];exact (zU HPUSH).1
       have HS8:=zH hS8;rw [←hw8];clear q0 q1 p0 p1 p2 p3 u0 u1 u2 u3 x0 hw8 hS8 z2 w1 w2 w3 z3 z4 hi hin2;go_wp2_with fail;go_loopw [9] (fun iv wr=>∃ i:Nat,i≤n2∧iv = .int .i64 i∧CompS w wr B E P #[.slice (some ⟨b,off,none⟩) n cap,.slice A2 n2 cap2] (.slice A7 (y+1) c7) (.slice A' n2 cap') ⟨keepD a.fs 0 (a.ds.take (k+1)),(a.fs.take i).map (moveTo a.fs (k+1))++(a.fs.drop i).map (moveTo a.fs k)⟩) (fun iv _=>n2-(intOf iv).toNat)
       case atStart=>exact ⟨0,Nat.zero_le _,rfl,by simpa using zU HS8⟩
       case round =>
        obtain ⟨j,hj,rfl,hSx⟩:=hrel;have HSX:=zH hSx;obtain ⟨q0,q1,_,_⟩:=two_cells hSx.b;obtain ⟨p0,p1,p2,p3⟩:=hSx.cells
        by_cases hjn:j<n2
        ·have hin9:=(zU HI).up (by rw [←zU HB];exact hSx.bel);obtain ⟨b9,off9,f,rfl,hb9,hf,x0,x1,x2,x3,x4⟩:=hin9.f.at_ (k:=j) hjn;have z2:(j:Int)<(n2:Int):=by omega
         by_cases hd:f.dict=((k+1:Nat):Int)
         ·obtain ⟨m1,m2⟩:=moving_hit hf hd;have hll:((a.fs.take j).map (moveTo a.fs (k+1))++(a.fs.drop j).map (moveTo a.fs k)).length=n2:=by simp;omega
          have hll2:((a.fs.take (j+1)).map (moveTo a.fs (k+1))++(a.fs.drop (j+1)).map (moveTo a.fs k)).length=n2:=by simp;omega
          have hof:wr.ownsRow E 61 5 (.slice A' n2 cap') n2 (filsCells ((a.fs.take j).map (moveTo a.fs (k+1))++(a.fs.drop j).map (moveTo a.fs k))):=by
           have:=hSx.o.f;rw [show (⟨keepD a.fs 0 (a.ds.take (k+1)),(a.fs.take j).map (moveTo a.fs (k+1))++(a.fs.drop j).map (moveTo a.fs k)⟩:Arc).fs.length=n2 from hll] at this;exact this
          obtain ⟨g,rfl⟩:∃ g,A'=some ⟨g,0,none⟩:=by
           rcases ownsFil_form hof with ⟨_,h0,_⟩ | ⟨g,gc,hv⟩
           ·omega
           ·injection hv with hv;exact ⟨g,hv⟩
          have hod:=ownFil_dict hof m1 ((movedN a.fs (k+1):Nat):Int);rw [m2,zU HMN] at hod;obtain ⟨hod1,hod2,hod3,hod4⟩:=hod;have hS9:=hSx.turn hod2 (by rw [hll2];exact hod1);have HS9:=zH (show CompS w (wr.setCell ⟨g,j*5+1,none⟩ (I ((y:Int)+1))) B E P #[.slice (some ⟨b,off,none⟩) n cap,.slice (some ⟨b9,off9,none⟩) n2 cap2] (.slice A7 (y+1) c7) (.slice (some ⟨g,0,none⟩) n2 cap') ⟨keepD a.fs 0 (a.ds.take (k+1)),(a.fs.take (j+1)).map (moveTo a.fs (k+1))++(a.fs.drop (j+1)).map (moveTo a.fs k)⟩ from hS9);have d1:(f.dict == (k:Int)+1)=true:=by rw [beq_iff_eq];omega
          have d2:f.dict=(k:Int)+1:=by omega
          clear hSx hin9 hf hd m1 m2 hll hll2 hof hod1 hod2 hS9;go_wp2_with fail;go_roundw
          case rel=>exact ⟨j+1,by omega,by go_num,by simpa using zU HS9⟩
          case measure=>simp [intOf];omega
         ·have hmm:=moving_miss hf hd;have HMM:=zH hmm;have d1:(f.dict == (k:Int)+1)=false:=by rw [beq_eq_false_iff_ne];omega
          have d2:¬ f.dict=(k:Int)+1:=by omega
          clear hSx hin9 hf hd hmm;go_wp2_with fail;go_roundw
          case rel=>exact ⟨j+1,by omega,by go_num,by rw [zU HMM];exact zU HSX⟩
          case measure=>simp [intOf];omega
        ·have hfin:(a.fs.take j).map (moveTo a.fs (k+1))++(a.fs.drop j).map (moveTo a.fs k)=a.fs.map (moveTo a.fs (k+1)):=by
          rw [List.take_of_length_le (by omega),List.drop_of_length_le (by omega)];simp
         rw [hfin] at hSx;have HSX:=zH hSx;have z2:¬ (j:Int)<(n2:Int):=by omega
         have z3:decide ((j:Int)<(n2:Int))=false:=by simp;omega
         clear hSx hfin;go_wp2_with fail;go_roundw
         case rel=>exact ⟨k+1,A7,c7,by omega,by go_num,by rw [zU HMN];exact zU HSX⟩
         case measure=>simp [intOf];omega
  ·have hall:a.ds.take k=a.ds:=List.take_of_length_le (by omega);have hkk:k=a.ds.length:=by omega
   rw [hall] at hS;have hmv:a.fs.map (moveTo a.fs k)=a.fs.map (moveTo a.fs a.ds.length):=by rw [hkk]
   rw [hmv] at hS;obtain ⟨e1,e2,e3⟩:=put_end hS.z hS.be hS.o hS.bel;have E1:=zH e1;have E2:=zH e2;have E3:=zH e3;have HZR:=zH hS.z;have z1:¬ (k:Int)+1≤(n:Int):=by omega
   have z2:decide ((k:Int)+1≤(n:Int))=false:=by simp;omega
   clear hall hS e1 e2 e3 hkk hmv hdl;obtain ⟨y,hy⟩:∃ y,y=movedN a.fs k:=⟨_,rfl⟩
   rw [←hy] at p0 E1 E2 E3;clear hy;go_wp2_with (refine wpList_store_row rfl 33 (.tmp 2) (.tmp 82) rfl (B+1) #[.slice A3 y c3,.slice A' n2 cap'] rfl rfl 33 _ (zU HZR) sizeArc rfl (one_two _ _ _ _ _ _) ?_);refine bodyPost_ret (results_row_tmp rfl _ _ (B+1) 33 #[.slice A3 y c3,.slice A' n2 cap'] (0,0) _ rfl (zU E1) Tryz.underlying33 rfl sizeArc) rfl ?_;rw [zU HP];exact ⟨⟨_,_,rfl,zU E2⟩,zU E3⟩
end Go.Proofs.YtjpgoeimclipjaaGreat
