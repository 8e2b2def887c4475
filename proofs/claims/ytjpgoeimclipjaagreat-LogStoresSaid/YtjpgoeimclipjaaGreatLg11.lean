/- Parts of the proofs. -/
import Derived.Test.YtjpgoeimclipjaaGreatLg10
import Derived.Deep.RegionHeld3
namespace Go.Proofs.YtjpgoeimclipjaaGreat
open Go.RowKit Go.Lib Pl
attribute [local go_sem] ext_list app_list
theorem AR.grown {A A2:Option Addr} {n cap n2 cap2:Nat} {a:Arc} {w W W':World} {B V:Nat} (hi:ArcIn w A n A2 n2 a) (hB:B=w.heap.size) (h:AR A n cap A2 n2 cap2 a w W B) (hg:W.grownBy W' (some V)) (hV:B+1<V):AR A n cap A2 n2 cap2 a w W' B:=by
 have h1:=h.lt;have hb:Below B w W':=h.ab.bel.grown hg (by omega) (fun k hk=>by simp at hk;omega);exact ⟨⟨(hg.block B (by omega) (by simp;omega)).trans h.ab.o,hi.up (by rw [←hB];exact hb),hb⟩,(hg.block (B+1) h1 (by simp;omega)).trans h.z⟩
theorem movedF_zero (fs:List Fil):movedF fs 0=fun _=>0:=by
 funext k;unfold movedF;rw [if_neg (by omega)]
set_option maxHeartbeats 8000000 in
set_option maxRecDepth 100000 in
theorem compact_any (A:Option Addr) (n cap:Nat) (A2:Option Addr) (n2 cap2:Nat) (a:Arc) (w:World) (h:ArcIn w A n A2 n2 a) (hz:ArcSz a) :
  Calls Tryz.prog 38 #[arcV A n cap A2 n2 cap2] w fun e w'=>ArcRes w.heap.size (compact a) e w'∧Below w.heap.size w w':=by
 have hmm:∀ (w:World),(Instr.makeMap 117 none).run Tryz.prog w = .ok (.map (some w.heap.size)) (w.alloc (.map #[] 0)):=fun _=>rfl;obtain ⟨B,hB⟩:∃ B,B=w.heap.size:=⟨_,rfl⟩
 obtain ⟨w0,hw0⟩:∃ w0,w0=(w.alloc (.cells #[.slice A n cap,.slice A2 n2 cap2] 33)).alloc (.cells #[.slice none 0 0,.slice none 0 0] 33):=⟨_,rfl⟩
 have H0:=zH (show AR A n cap A2 n2 cap2 a w w0 B by rw [hw0,hB];exact AR.new h cap cap2);have hl1:=h.s.1;have hl2:=h.f.1;have CK:∀ W,AR A n cap A2 n2 cap2 a w W B→Calls Tryz.prog 31 #[arcV A n cap A2 n2 cap2] W fun e w'=>e = .returned (I (checkA a))∧Below W.heap.size W w':=fun W hW=>check_arch A n cap A2 n2 cap2 a W hW.ab.i hz;obtain ⟨r,hr⟩:∃ r,r=compact a:=⟨_,rfl⟩
 rw [←hr,←hB];have hput:r=if checkA a≠0 then (arc0,checkA a) else (⟨keepD a.fs 0 a.ds,a.fs.map (moveF a.fs)⟩,0):=hr
 have HB:=zH hB;have HW0:=zH hw0;have HI:=zH h;clear hB hw0 h hr
 by_cases hck:checkA a≠0
 ·rw [if_pos hck] at hput;obtain ⟨c,hc⟩:∃ c,c=checkA a:=⟨_,rfl⟩
  rw [←hc] at CK hput hck;have CK:=zH CK;have d1:((c:Int) != 0)=true:=by rw [bne_iff_ne];omega
  have d2:((c:Int) == 0)=false:=by rw [beq_eq_false_iff_ne];omega
  have d3:¬ (c:Int)=0:=by omega
  subst hput;clear hck hc hz;go_enter Tryz.func38,Tryz.ntmps38;go_upto_region 1 with fail
  rw [←zU HW0,←zU HB];obtain ⟨q0,q1⟩:=(zU H0).ab.c;go_wp2_with fail;refine (zU CK _ (zU H0)).mono ?_;rintro e w1 ⟨rfl,hb1⟩;have H1:=zH ((zU H0).below hb1);clear hb1 q0 q1;go_wp2_with (refine wpList_store_row rfl 33 (.tmp 2) (.tmp 17) rfl (B+1) #[.slice none 0 0,.slice none 0 0] rfl rfl 33 _ (zU H1).z sizeArc rfl all_nil2 ?_);refine bodyPost_ret (results_row_tmp rfl _ _ (B+1) 33 #[.slice none 0 0,.slice none 0 0] (0,0) _ rfl ((zU H1).end_ _).1 Tryz.underlying33 rfl sizeArc) rfl ⟨⟨_,_,rfl,?_⟩,((zU H1).end_ _).2⟩;exact OwnA.nil _ _
 have hck0:checkA a=0:=Decidable.not_not.1 hck;have hra:=(check_iff a).1 hck0;rw [if_neg hck] at hput;rw [hck0] at CK;have CK:=zH CK
 have CC:∀ W,AR A n cap A2 n2 cap2 a w W B→Calls Tryz.prog 89 #[.slice A2 n2 cap2] W fun e w'=>∃ A2' cap2',e = .returned (.slice A2' n2 cap2')∧w'.ownsRow W.heap.size 61 5 (.slice A2' n2 cap2') n2 (filsCells a.fs)∧Below W.heap.size W w':=fun W hW=>by
  refine (cloneFil_any A2 n2 cap2 a.fs W hW.ab.i.f (by have:=hra.nf;omega)).mono ?_;rintro e w' ⟨v,he,ho,hb⟩;obtain ⟨A',cap',rfl,_⟩:=filsAt_of_own ho;exact ⟨A',cap',he,ho,hb⟩
 have CC:=zH CC;have HRA:=zH hra;have h12:=hra.nf;have h4:=hra.nd;have HZ:=zH hz.fs;subst hput;clear hck hck0 hra hz;go_enter Tryz.func38,Tryz.ntmps38;go_upto_region 1 with fail
 rw [←zU HW0,←zU HB];obtain ⟨q0,q1⟩:=(zU H0).ab.c;go_wp2_with fail;refine (zU CK _ (zU H0)).mono ?_;rintro e w1 ⟨rfl,hb1⟩;have H1:=zH ((zU H0).below hb1);clear hb1 q0 q1;go_upto_region 5 with fail
 obtain ⟨U,hU⟩:∃ U,U=w1.heap.size:=⟨_,rfl⟩
 obtain ⟨w2,hw2⟩:∃ w2,w2=w1.alloc (.map #[] 0):=⟨_,rfl⟩
 have HM2:=zH (show IntMap w2 U 0 fun _=>0 by rw [hw2,hU];exact IntMap.made w1);have H2:=zH (show AR A n cap A2 n2 cap2 a w w2 B by rw [hw2];exact (zU H1).below ((Below.refl _ _).alloc (Nat.le_refl _) _));have hBU:B+1<U:=by rw [hU];exact (zU H1).lt
 rw [←hw2,←hU];clear hw2 hU;obtain ⟨q0,q1⟩:=(zU H2).ab.c;go_wp2_with fail;go_loopw [23,7] (fun iv _ wr=>∃ (k m:Nat),k≤n2∧iv = .int .i64 k∧m≤k∧IntMap wr U m (usedN (a.fs.take k))∧AR A n cap A2 n2 cap2 a w wr B) (fun iv _ _=>n2-(intOf iv).toNat)
 case atStart=>exact ⟨0,0,Nat.zero_le _,rfl,Nat.le_refl _,zU HM2,zU H2⟩
 case round =>
  obtain ⟨k,m,hk,rfl,hm,hM,hAR⟩:=hrel;have HM:=zH hM;have HAR:=zH hAR;clear hM
  by_cases hkn:k<n2
  ·obtain ⟨b,off,f,rfl,hb,hf,x0,x1,x2,x3,x4⟩:=hAR.ab.i.f.at_ (k:=k) hkn;have hfz:=zU HZ f (List.mem_of_getElem? hf);have hd0:=hfz.d0;have hd1:=hfz.d1;have hnx:=usedN_take hf;obtain ⟨c,hc⟩:∃ c,c=usedN (a.fs.take k) f.dict:=⟨_,rfl⟩
   have hc12:c≤12:=by have:=usedN_le (a.fs.take k) f.dict;rw [List.length_take] at this;omega
   have HNX:=zH (show usedN (a.fs.take (k+1))=fun q=>if q=f.dict then c+1 else usedN (a.fs.take k) q by
    funext q
    rw [hnx]
    by_cases e:q=f.dict
    ·rw [if_pos e,if_pos e,e,←hc]
    ·rw [if_neg e,if_neg e])
   have HC:=zH hc;clear hAR hf hfz hnx hc
   go_wp2_with (first
    | (at_lookup;refine wpList_lookN rfl (.tmp 27) (.tmp 29) rfl U m _ rfl ((zU HM).alloc _) f.dict rfl hd0 hd1 ?_;rw [←zU HC])
    | (at_mapUpdate;refine wpList_putN rfl (.tmp 27) (.tmp 29) (.tmp 31) rfl U m _ rfl ((zU HM).alloc _) f.dict rfl hd0 hd1 (c+1) _ rfl (by omega) (by omega) (by omega) ?_;intro w5 hM5 hg5;have HM5:=zH hM5;have HG5:=zH hg5;clear hM5 hg5))
   go_roundw
   case rel =>
    refine ⟨k+1,m+1,by omega,by go_num,by omega,?_,AR.grown (zU HI) (zU HB) ((zU HAR).below ((Below.refl _ _).alloc (Nat.le_refl _) _)) (zU HG5) hBU⟩;rw [zU HNX];exact zU HM5
   case measure=>simp [intOf];omega
  ·have hk2:k=n2:=by omega
   have hall:a.fs.take k=a.fs:=List.take_of_length_le (by omega);rw [hall] at HM;have hk3:decide ((k:Int)<(n2:Int))=false:=by simp;omega
   clear hall hAR q0 q1 hk2;obtain ⟨q0,q1⟩:=(zU HAR).ab.c;go_wp2_with fail;refine (zU CC _ (zU HAR)).mono ?_;rintro e w4 ⟨A2',cap2',rfl,ho4,hb4⟩;have H4:=zH ((zU HAR).below hb4);have HM4:=zH ((zU HM).below hb4);have HO4:=zH ho4;have HS4:=zH hb4.size;obtain ⟨E,hE⟩:∃ E,E=wr.heap.size:=⟨_,rfl⟩
   rw [←hE] at HO4 HS4;have hUE:U<E:=by rw [hE];exact (zU HM).lt
   clear hb4 ho4 q0 q1 hE;go_upto_region 11 with (refine wpList_store_row rfl 33 (.tmp 8) (.tmp 36) rfl w4.heap.size #[.slice none 0 0,.slice A2' n2 cap2'] rfl rfl 33 _ (heap_alloc_new _ _) sizeArc rfl (one_two _ _ _ _ _ _) ?_)
   obtain ⟨w5,hw5⟩:∃ w5,w5=(w4.alloc (.cells #[.slice none 0 0,.slice none 0 0] 33)).setRow w4.heap.size #[.slice none 0 0,.slice A2' n2 cap2']:=⟨_,rfl⟩
   obtain ⟨P,hP⟩:∃ P,P=w4.heap.size:=⟨_,rfl⟩
   have S5:=zH (show CompS w w5 B E P #[.slice A n cap,.slice A2 n2 cap2] (.slice none 0 0) (.slice A2' n2 cap2') ⟨[],a.fs⟩ by
    have hb5:Below w4.heap.size w4 w5:=by rw [hw5];exact below_setRow ((Below.refl _ _).alloc (Nat.le_refl _) _) (Nat.le_refl _) _
    have h5:=(zU H4).below hb5;refine ⟨h5.ab.o,h5.z,by rw [hw5,hP];exact setRow_heap _ _ _ _ _ _ (heap_alloc_new _ _),⟨World.ownsRow_nil _ _ _ _,?_⟩,by omega,by rw [hP];exact zU HS4,h5.ab.bel⟩;show w5.ownsRow E 61 5 (.slice A2' n2 cap2') a.fs.length _;rw [hl2];exact own_below (zU HO4) hb5)
   have HM5:=zH (show IntMap w5 U m (usedN a.fs) by rw [hw5];exact (zU HM4).below (below_setRow ((Below.refl _ _).alloc (Nat.le_refl _) _) (Nat.le_refl _) _));rw [←hw5,←hP];clear hw5 hP;go_upto_region 12 with fail
   obtain ⟨V,hV⟩:∃ V,V=w5.heap.size:=⟨_,rfl⟩
   obtain ⟨w6,hw6⟩:∃ w6,w6=w5.alloc (.map #[] 0):=⟨_,rfl⟩
   have HV6:=zH (show IntMap w6 V 0 (movedF a.fs 0) by rw [hw6,hV,movedF_zero];exact IntMap.made w5);have S6:=zH (show CompS w w6 B E P #[.slice A n cap,.slice A2 n2 cap2] (.slice none 0 0) (.slice A2' n2 cap2') ⟨[],a.fs⟩ by rw [hw6];exact (zU S5).below ((Below.refl _ _).alloc (Nat.le_refl _) _));have HM6:=zH (show IntMap w6 U m (usedN a.fs) by rw [hw6];exact (zU HM5).alloc _);have hEV:E≤V:=by rw [hV];have:=(zU S5).lt;have:=(zU S5).ep;omega
   rw [←hw6,←hV];clear hw6 hV;have bx:=two_cells (zU S6).b;obtain ⟨q0,q1,_,_⟩:=bx;go_wp2_with fail;go_loopw [41,10,11] (fun iv _ _ wr=>∃ (k mv:Nat) (A1:Option Addr) (c1:Nat),k≤n∧iv = .int .i64 k∧mv≤k∧IntMap wr U m (usedN a.fs)∧IntMap wr V mv (movedF a.fs k)∧CompS w wr B E P #[.slice A n cap,.slice A2 n2 cap2] (.slice A1 (movedN a.fs k) c1) (.slice A2' n2 cap2') ⟨keepD a.fs 0 (a.ds.take k),a.fs⟩) (fun iv _ _ _=>n-(intOf iv).toNat)
   case atStart=>exact ⟨0,0,none,0,Nat.zero_le _,rfl,Nat.le_refl _,zU HM6,zU HV6,zU S6⟩
   case round =>
    clear q0 q1 hk hm hkn hk3;obtain ⟨k,mv,A1,c1,hk,rfl,hmv,hMu,hMv,hS⟩:=hrel;have HMU:=zH hMu;have HMV:=zH hMv;have HS:=zH hS;have hdl:(keepD a.fs 0 (a.ds.take k)).length=movedN a.fs k:=keepD_takeLen (by omega);obtain ⟨q0,q1,_,_⟩:=two_cells hS.b;obtain ⟨p0,p1,p2,p3⟩:=hS.cells;have hin:=(zU HI).up (by rw [←zU HB];exact hS.bel)
    by_cases hkn:k<n
    ·obtain ⟨b,off,d,rfl,hb,hd,x0⟩:=hin.s.at_ (k:=k) hkn;have hkt:=keepD_take (fs:=a.fs) hd;obtain ⟨c,hc⟩:∃ c,c=usedN a.fs ((k:Int)+1):=⟨_,rfl⟩
     have hcu:0<c↔usedB a.fs (k+1)=true:=by rw [hc,show (k:Int)+1=((k+1:Nat):Int) from by omega];exact usedN_pos
     have hc12:c≤12:=by rw [hc];exact Nat.le_trans (usedN_le _ _) h12
     have HC:=zH hc;have hmk:movedN a.fs k≤k:=moved_le a.fs k;have e1:IntKind.i64.wrap ((k:Int)+1)=(k:Int)+1:=IntWalk.i64_in _ ⟨by omega,by omega⟩
     by_cases hu:usedB a.fs (k+1)=true
     ·have z1:(0:Int)<(c:Int):=by have:=hcu.2 hu;omega
      have z2:decide ((c:Int) > 0)=true:=by simp;have:=hcu.2 hu;omega
      rw [if_pos hu] at hkt;have HKT:=zH hkt;have hmn:movedN a.fs (k+1)=movedN a.fs k+1:=by rw [moved_step,if_pos hu]
      have hmf:=movedF_yes hu;have HMN:=zH hmn;have HMF:=zH hmf
      have hown:wr.ownsRow E 9 1 (.slice A1 (movedN a.fs k) c1) (movedN a.fs k) ((keepD a.fs 0 (a.ds.take k)).map strS):=by
       have:=hS.o.s;rw [show (⟨keepD a.fs 0 (a.ds.take k),a.fs⟩:Arc).ds.length=movedN a.fs k from hdl] at this;exact this
      have HOWN:=zH hown;have hEs:E≤wr.heap.size:=by have:=hS.lt;have:=hS.ep;omega
      have HWS:=zH (show (keepD a.fs 0 (a.ds.take k)).length=movedN a.fs k from hdl);obtain ⟨y,hy⟩:∃ y,y=movedN a.fs k:=⟨_,rfl⟩
      rw [←hy] at HOWN p0 HMN hmk HS HWS;have HY:=zH hy;clear hkt hmn hmf hown hdl hS hMu hMv hin hd hc hcu hu hy
      go_upto_region 17 with (first
       | (at_lookup;refine wpList_lookN rfl (.tmp 46) (.tmp 48) rfl U m _ rfl (zU HMU) ((k:Int)+1) rfl (by omega) (by omega) ?_;rw [←zU HC])
       | (at_builtin;refine wpList_push_str rfl (.tmp 52) (.tmp 54) rfl E _ y _ rfl (zU HOWN) d wr.heap.size rfl rfl (by omega) hEs ?_;intro A' cap' w7 hown7 hb7 hg7;have hpush:=CompS.push (v1':=.slice A' (y+1) cap') (d:=d) ((zU HS).below ((Below.refl wr.heap.size wr).alloc (Nat.le_refl _) (.cells #[S d] 9))) hg7 (by have h9:=zU HWS;show w7.ownsRow E 9 1 _ ((keepD a.fs 0 (a.ds.take k)).length+1) _;rw [h9];exact hown7);have HPUSH:=zH hpush;obtain ⟨u0,u1,u2,u3⟩:=two_cells hpush.2.1;clear hown7 hb7 hg7 hpush))
      obtain ⟨w8,hw8⟩:∃ w8,w8=w7.setCell ⟨P,0,none⟩ (.slice A' (y+1) cap'):=⟨_,rfl⟩
      have HP8:=zU HPUSH;rw [←hw8] at HP8 ⊢;obtain ⟨hS8,_,hoth⟩:=HP8
      have hMU8:IntMap w8 U m (usedN a.fs):=(zU HMU).keep (by
       have hlt:=(zU HMU).lt;rw [hoth U (by simp;omega) (by have:=(zU HS).ep;omega) ((zU HMU).notOwn (zU HOWN))];exact Below.heap_alloc _ _ U hlt)
      have hVP:V≠P:=by
       intro e;subst e;obtain ⟨es,c9,g9⟩:=(zU HMV).obj;rw [(zU HS).p] at g9;cases g9
      have hMV8:IntMap w8 V mv (movedF a.fs k):=(zU HMV).keep (by
       have hlt:=(zU HMV).lt;rw [hoth V (by simp;omega) hVP ((zU HMV).notOwn (zU HOWN))];exact Below.heap_alloc _ _ V hlt)
      have HS8:=zH hS8;have HMU8:=zH hMU8;have HMV8:=zH hMV8;obtain ⟨p0',p1',p2',p3'⟩:=hS8.cells;clear hS8 hMU8 hMV8 hoth hw8 u0 u1 u2 u3 p0 p1 p2 p3 q0 q1 x0 HPUSH;go_wp2_with (at_mapUpdate;refine wpList_putN rfl (.tmp 57) (.tmp 59) (.tmp 62) rfl V mv _ rfl (zU HMV8) ((k:Int)+1) rfl (by omega) (by omega) (y+1) _ rfl (by omega) (by omega) (by omega) ?_;intro w9 hM9 hg9;have HM9:=zH hM9;have HG9:=zH hg9;clear hM9 hg9);go_roundw
      case rel =>
       have hS9:=(zU HS8).map (zU HMV8) hEV (zU HG9);refine ⟨k+1,mv+1,A',cap',by omega,by go_num,by omega,(zU HMU8).kept (zU HG9) (by simp;omega),?_,?_⟩
       ·rw [zU HMF,zU HMN];have:=zU HM9;rw [show (k:Int)+1=((k+1:Nat):Int) from by omega] at this;exact this
       ·rw [zU HMN,zU HKT];exact hS9
      case measure=>simp [intOf];omega
     ·have z1:¬ (0:Int)<(c:Int):=by have:=mt hcu.1 hu;omega
      have z2:decide ((c:Int) > 0)=false:=by simp;have:=mt hcu.1 hu;omega
      rw [if_neg hu,List.append_nil] at hkt;have HKT:=zH hkt;have HMN:=zH (show movedN a.fs (k+1)=movedN a.fs k by rw [moved_step,if_neg hu];rfl);have HMF:=zH (movedF_no (show usedB a.fs (k+1)=false by simpa using hu));clear hkt hdl hS hMu hMv hin hd hc hcu hu;go_wp2_with (at_lookup;refine wpList_lookN rfl (.tmp 46) (.tmp 48) rfl U m _ rfl (zU HMU) ((k:Int)+1) rfl (by omega) (by omega) ?_;rw [←zU HC]);go_roundw
      case rel =>
       refine ⟨k+1,mv,A1,c1,by omega,by go_num,by omega,zU HMU,?_,?_⟩
       ·rw [zU HMF];exact zU HMV
       ·rw [zU HMN,zU HKT];exact zU HS
      case measure=>simp [intOf];omega
    ·have hkn2:k=n:=by omega
     have hk3:decide ((k:Int)<(n:Int))=false:=by simp;omega
     have hall:a.ds.take k=a.ds:=List.take_of_length_le (by omega);rw [hall] at HS;rw [show k=a.ds.length by omega] at HMV;clear hS hMu hMv hin hall hdl;go_wp2_with fail;go_loopw [67,12] (fun iv _ wr=>∃ k:Nat,k≤n2∧iv = .int .i64 k∧IntMap wr V mv (movedF a.fs a.ds.length)∧CompS w wr B E P #[.slice A n cap,.slice A2 n2 cap2] (.slice A1 (movedN a.fs n) c1) (.slice A2' n2 cap2') ⟨keepD a.fs 0 a.ds,(a.fs.take k).map (moveF a.fs)++a.fs.drop k⟩) (fun iv _ _=>n2-(intOf iv).toNat)
     case atStart=>exact ⟨0,Nat.zero_le _,rfl,zU HMV,by subst hkn2;exact zU HS⟩
     case round =>
      clear q0 q1 p0 p1 p2 p3 hk hmv hkn hk3 hkn2;obtain ⟨j,hj,rfl,hMv,hS⟩:=hrel;have HMX:=zH hMv;have HSX:=zH hS;obtain ⟨q0,q1,_,_⟩:=two_cells hS.b;obtain ⟨p0,p1,p2,p3⟩:=hS.cells
      by_cases hjn:j<n2
      ·obtain ⟨f,hf⟩:∃ f,a.fs[j]? = some f:=⟨_,List.getElem?_eq_getElem (show j<a.fs.length by omega)⟩
       have hds:=done_step (g:=moveF a.fs) hf;have hll:((a.fs.take j).map (moveF a.fs)++a.fs.drop j).length=n2:=by simp;omega
       have hof:wr.ownsRow E 61 5 (.slice A2' n2 cap2') n2 (filsCells ((a.fs.take j).map (moveF a.fs)++a.fs.drop j)):=by
        have:=hS.o.f;rw [show (⟨keepD a.fs 0 a.ds,(a.fs.take j).map (moveF a.fs)++a.fs.drop j⟩:Arc).fs.length=n2 from hll] at this;exact this
       obtain ⟨g,rfl⟩:∃ g,A2'=some ⟨g,0,none⟩:=by
        rcases ownsFil_form hof with ⟨_,h0,_⟩ | ⟨g,gc,hv⟩
        ·omega
        ·injection hv with hv;exact ⟨g,hv⟩
       have hod:=ownFil_dict hof hds.1 ((movedN a.fs f.dict.toNat:Nat):Int);have hmv2:movedF a.fs a.ds.length f.dict=movedN a.fs f.dict.toNat:=movedF_file (zU HRA) (List.mem_of_getElem? hf);have hfz:=zU HZ f (List.mem_of_getElem? hf);have hrun:=(hMv.keep (w':=wr.drew) rfl).run hfz.d0 hfz.d1;have hrun0:=hMv.run hfz.d0 hfz.d1;rw [hmv2] at hrun hrun0;have hset:((a.fs.take j).map (moveF a.fs)++a.fs.drop j).set j { f with dict:=((movedN a.fs f.dict.toNat:Nat):Int) } = (a.fs.take (j+1)).map (moveF a.fs)++a.fs.drop (j+1):=hds.2;obtain ⟨y,hy⟩:∃ y,y=movedN a.fs f.dict.toNat:=⟨_,rfl⟩
       rw [←hy] at hod hrun hrun0 hset;obtain ⟨hod1,hod2,hod3,hod4⟩:=hod;rw [hset] at hod1;have hgV:some V≠(Value.slice (some ⟨g,0,none⟩) n2 cap2').ownBlock:=hMv.notOwn hof;have hll2:((a.fs.take (j+1)).map (moveF a.fs)++a.fs.drop (j+1)).length=n2:=by simp;omega
       have hfin:∀ W:World,W.heap=(wr.setCell ⟨g,j*5+1,none⟩ (I y)).heap→W.os=wr.os→W.tape=wr.tape→W.output=wr.output→IntMap W V mv (movedF a.fs a.ds.length)∧CompS w W B E P #[.slice A n cap,.slice A2 n2 cap2] (.slice A1 (movedN a.fs n) c1) (.slice (some ⟨g,0,none⟩) n2 cap2') ⟨keepD a.fs 0 a.ds,(a.fs.take (j+1)).map (moveF a.fs)++a.fs.drop (j+1)⟩:=fun W h1 h2 h3 h4=>by
        have hgW:wr.grownBy W (some g):=⟨h2,h3,h4,by rw [h1];exact hod2.size,fun k hk hne=>by rw [h1];exact hod2.block k hk hne⟩
        refine ⟨hMv.kept hgW hgV,hS.turn hgW ?_⟩;rw [hll2]
        have:∀ {v:Value} {m:Nat} {xs:List Value},(wr.setCell ⟨g,j*5+1,none⟩ (I y)).ownsRow E 61 5 v m xs→W.ownsRow E 61 5 v m xs:=fun ho=>by
         refine ⟨ho.1,?_⟩
         rcases ho.2 with hn | ⟨b,cap,cur,rfl,hbb,hgg,rest⟩
         ·exact .inl hn
         ·exact .inr ⟨b,cap,cur,rfl,hbb,by rw [h1];exact hgg,rest⟩
        exact this hod1
       have HFIN:=zH hfin;have z1:(j:Int)<(n2:Int):=by omega
       clear hod1 hod2 hset hmv2 hfz hof hll hds hf hMv hS hgV hll2 hfin hy;go_wp2_with fail;go_region_law (fail)
       all_goals
        go_wp2_with fail;exact ⟨⟨j+1,by omega,by go_num,(zU HFIN (wr.setCell ⟨g,j*5+1,none⟩ (I y)).drew rfl rfl rfl rfl).1,(zU HFIN (wr.setCell ⟨g,j*5+1,none⟩ (I y)).drew rfl rfl rfl rfl).2⟩,by simp [intOf];omega⟩
      ·have hall:(a.fs.take j).map (moveF a.fs)++a.fs.drop j=a.fs.map (moveF a.fs):=by
        rw [List.take_of_length_le (by omega),List.drop_of_length_le (by omega),List.append_nil]
       rw [hall] at hS;obtain ⟨e1,e2,e3⟩:=put_end hS.z hS.be hS.o hS.bel;have E1:=zH e1;have E2:=zH e2;have E3:=zH e3;have HZR:=zH hS.z;have z1:¬ (j:Int)<(n2:Int):=by omega
       have z2:decide ((j:Int)<(n2:Int))=false:=by simp;omega
       clear hall hS hMv e1 e2 e3;go_wp2_with (refine wpList_store_row rfl 33 (.tmp 2) (.tmp 84) rfl (B+1) #[.slice A1 (movedN a.fs n) c1,.slice A2' n2 cap2'] rfl rfl 33 _ (zU HZR) sizeArc rfl (one_two _ _ _ _ _ _) ?_);refine bodyPost_ret (results_row_tmp rfl _ _ (B+1) 33 #[.slice A1 (movedN a.fs n) c1,.slice A2' n2 cap2'] (0,0) _ rfl (zU E1) Tryz.underlying33 rfl sizeArc) rfl ⟨⟨_,_,rfl,zU E2⟩,zU E3⟩
end Go.Proofs.YtjpgoeimclipjaaGreat
namespace Go.Proofs.YtjpgoeimclipjaaGreat
open Go.RowKit Go.Lib Pl
attribute [local go_sem] ext_list app_list
set_option maxHeartbeats 1000000 in
set_option maxRecDepth 100000 in
theorem played_any (dict:Bytes) (A:Option Addr) (n cap:Nat) (l:List Tok) (w:World) (hl:ToksAt w w.heap.size A n l) (hd:dict.length≤9223372036854775807) (hn:n≤4611686018427387904) :
  Calls Tryz.prog 118 #[S dict,.slice A n cap] w fun e w'=>e = .returned (S (play dict l).1)∧Below w.heap.size w w':=by
 have c1:=zH (checkToks_any dict A n cap l w hl hd hn);go_enter Tryz.func118,Tryz.ntmps118;go_wp2_with fail;refine (zU c1).mono ?_;rintro e w1 ⟨rfl,hb⟩;go_wp2_with fail;go_ret;exact ⟨rfl,hb⟩
theorem two_put {L:List Int} {w W:World} {B D j:Nat} {x y:Int} (h:BoxL (firstL L (2*j)) w W B D) (hx:L[2*j]? = some x) (hy:L[2*j+1]? = some y) {i:Nat} (hi:i=2*j) :
  BoxL (firstL L (2*(j+1))) w ((W.setCell ⟨D,i,none⟩ (.int .i64 x)).setCell ⟨D,i+1,none⟩ (.int .i64 y)) B D:=by
 subst hi;have h1:=h.put (2*j) x;rw [firstL_next hx] at h1;have h2:=h1.put (2*j+1) y;rw [firstL_next hy] at h2;exact h2
def UpRes (b:Bytes) (o:Option Bytes) (e:Ending):Prop:=(∃ t,o=some t∧e = .returned (.tuple #[S t,.bool true]))∨(∃ t:Bytes,o=none∧t.length≤b.length∧e = .returned (.tuple #[S t,.bool false]))
set_option maxHeartbeats 4000000 in
set_option maxRecDepth 100000 in
theorem unpackOf_any (dict b:Bytes) (w:World) (hd:dict.length≤256) (hb:b.length≤140737488355328) :
  Calls Tryz.prog 84 #[S dict,S b] w fun e w'=>UpRes b (unpackO dict b) e∧Below w.heap.size w w':=by
 cases b with
 | nil =>
  go_enter Tryz.func84,Tryz.ntmps84;go_wp2_with fail;go_ret2;exact ⟨.inr ⟨[],rfl,Nat.le_refl _,rfl⟩,Below.refl _ _⟩
 | cons k s =>
  have hsl:s.length≤4611686018427387904:=by rw [List.length_cons] at hb;omega
  have hsl2:s.length≤140737488355328:=by rw [List.length_cons] at hb;omega
  have hcons:(k::s).length=s.length+1:=rfl;have n1:((k::s) == [])=false:=rfl;have n2:slice (k::s) 1 (k::s).length=s:=by rw [slice_end];rfl
  have n2b:slice (k::s) 1 (s.length+1)=s:=n2;have n3:(0:Nat)<(k::s).length:=by simp
  have n4:(⟨(k::s).toArray⟩:ByteArray)[0]'n3=k:=rfl;have n5:(1:Nat)≤(k::s).length:=by simp
  have hk256:=k.toNat_lt;have e0:k=0↔k.toNat=0:=⟨fun e=>by rw [e];rfl,fun e=>UInt8.toNat_inj.1 e⟩
  have e1:k=1↔k.toNat=1:=⟨fun e=>by rw [e];rfl,fun e=>UInt8.toNat_inj.1 e⟩
  have e2:k=2↔k.toNat=2:=⟨fun e=>by rw [e];rfl,fun e=>UInt8.toNat_inj.1 e⟩
  have HB0:=zH (Below.refl w.heap.size w)
  by_cases h0:k=0
  ·subst h0
   by_cases h512:s.length≤512
   ·have HO:=zH (show unpackO dict (0::s)=some s by rw [unpackO,if_pos rfl,if_pos h512]);have h512i:(s.length:Int)≤512:=by omega
    have h512d:decide ((s.length:Int)≤512)=true:=decide_eq_true h512i;clear e0 e1 e2;go_enter Tryz.func84,Tryz.ntmps84;go_wp2_with fail;go_quiet (fail);go_wp2_with fail;go_ret2;rw [zU HO];exact ⟨.inl ⟨s,rfl,rfl⟩,_root_.Go.below_drewN (Below.refl _ _) _⟩
   ·have HO:=zH (show unpackO dict (0::s)=none by rw [unpackO,if_pos rfl,if_neg h512]);have h512i:¬ (s.length:Int)≤512:=by omega
    have h512d:decide ((s.length:Int)≤512)=false:=decide_eq_false h512i;clear e0 e1 e2;go_enter Tryz.func84,Tryz.ntmps84;go_wp2_with fail;go_quiet (fail);go_wp2_with fail;go_ret2;rw [zU HO];exact ⟨.inr ⟨s,rfl,by simp,rfl⟩,_root_.Go.below_drewN (Below.refl _ _) _⟩
  ·have f0:((k.toNat:Int) == 0)=false:=by rw [beq_eq_false_iff_ne];intro e;exact h0 (e0.2 (by omega))
   by_cases h1:k=1
   ·have z1:k.toNat=1:=e1.1 h1;have f2:((k.toNat:Int) == 2)=false:=by rw [beq_eq_false_iff_ne];omega
    have f3:¬ (2:Int)<(k.toNat:Int):=by omega
    have hun:unpackO dict (k::s)=playO dict s:=by rw [unpackO,if_neg h0,if_pos h1]
    clear e0 e1 e2 h0 h1;go_enter Tryz.func84,Tryz.ntmps84;go_wp2_with fail;go_quiet (fail);have H1:=zH (_root_.Go.below_drewN (Below.refl w.heap.size w) nq);cases hrd:read dict s with
    | none =>
     have c2:=fun (W:World)=>toksFrom_any dict s W hd hsl;rw [hrd] at c2;have c2:=zH c2;have HO:=zH (show unpackO dict (k::s)=none by rw [hun];unfold playO;rw [hrd];rfl);clear hrd hun;go_wp2_with fail;refine (zU c2 _).mono ?_;rintro e w2 ⟨hv,hb2⟩;have H2:=zH ((zU H1).trans (hb2.mono (zU H1).size));clear hb2;obtain ⟨v,is,rfl,hv⟩:=hv
     rcases hv with ⟨rfl,rfl,_⟩ | ⟨_,l,hl,_⟩
     ·go_wp2_with fail;go_ret2;rw [zU HO];exact ⟨.inr ⟨[],rfl,by simp,rfl⟩,zU H2⟩
     ·cases hl
    | some l =>
     have c2:=fun (W:World)=>toksFrom_any dict s W hd hsl;rw [hrd] at c2;have c2:=zH c2
     have hpl:(play dict l).2=0:=by
      have hw:=write_read hd hrd
      by_cases e:(play dict l).2=0
      ·exact e
      ·unfold write at hw;rw [if_pos e] at hw;exact absurd (Prod.ext_iff.1 hw).2 e
     have hln:=play_room hpl;have c3:=fun (W:World) (A:Option Addr) (n cap:Nat) (h:ToksAt W W.heap.size A n l)=>played_any dict A n cap l W h (by omega) (by have:=h.1;omega);obtain ⟨t,ht⟩:∃ t,t=(play dict l).1:=⟨_,rfl⟩
     rw [←ht] at c3;have c3:=zH c3;have HO:=zH (show unpackO dict (k::s)=some t by rw [hun];unfold playO;rw [hrd,ht];rfl);clear hrd hpl hln ht hun;go_wp2_with fail;refine (zU c2 _).mono ?_;rintro e w2 ⟨hv,hb2⟩;have H2:=zH ((zU H1).trans (hb2.mono (zU H1).size));clear hb2;obtain ⟨v,is,rfl,hv⟩:=hv
     rcases hv with ⟨_,_,hl⟩ | ⟨rfl,l',hl,A,n,cap,rfl,hat⟩
     ·cases hl
     ·cases hl;have HAT:=zH hat;clear hat;go_wp2_with fail;refine (zU c3 _ _ _ _ (zU HAT)).mono ?_;rintro e w3 ⟨rfl,hb3⟩;have H3:=zH ((zU H2).trans (hb3.mono (zU H2).size));clear hb3;go_wp2_with fail;go_ret2;rw [zU HO];exact ⟨.inl ⟨t,rfl,rfl⟩,zU H3⟩
   ·have f1:((k.toNat:Int) == 1)=false:=by rw [beq_eq_false_iff_ne];intro e;exact h1 (e1.2 (by omega))
    by_cases h2:k=2
    ·subst h2
     by_cases h8:s.length<8
     ·have HO:=zH (show unpackO dict (2::s)=none by rw [unpackO,if_neg h0,if_neg h1,if_pos rfl];unfold decoded;rw [if_pos h8];rfl);have h8i:(s.length:Int)<8:=by omega
      clear e0 e1 e2 h0 h1 f0 f1;go_enter Tryz.func84,Tryz.ntmps84;go_wp2_with fail;go_quiet (fail);go_wp2_with fail;go_ret2;rw [zU HO];exact ⟨.inr ⟨[],rfl,by simp,rfl⟩,_root_.Go.below_drewN (Below.refl _ _) _⟩
     ·have hz:=zero16v;have hun:unpackO dict (2::s)=(decoded s).bind (playO dict):=by rw [unpackO,if_neg h0,if_neg h1,if_pos rfl]
      have h8n:8≤s.length:=by omega
      have h8i:¬ (s.length:Int)<8:=by omega
      obtain ⟨L,hL⟩:∃ L,L=unHd s:=⟨_,rfl⟩
      have hl16:L.length=16:=by rw [hL];exact unHd_len (by omega)
      obtain ⟨X,hX⟩:∃ X,X=slice s 8 s.length:=⟨_,rfl⟩
      have hX2:X=s.drop 8:=by rw [hX,slice_end]
      have hXl:X.length≤s.length:=by rw [hX2,List.length_drop];omega
      have hdec:decoded s=decodeO L X:=by unfold decoded;rw [if_neg h8,hX2,hL]
      have HL:=zH hL;have HL16:=zH hl16;have HX:=zH hX;have HDEC:=zH hdec;have HUN:=zH hun;clear e0 e1 e2 h0 h1 f0 f1 hX2 hL hl16 hdec h8 hun n3 n4 n5 hX;go_enter Tryz.func84,Tryz.ntmps84;go_wp2_with fail;go_quiet (fail);obtain ⟨w1,hw1⟩:∃ w1,w1=w.drewN nq:=⟨_,rfl⟩
      have H1:=zH (show Below w.heap.size w w1 by rw [hw1];exact _root_.Go.below_drewN (Below.refl w.heap.size w) nq);rw [←hw1];clear hw1;go_wp2_with fail;obtain ⟨D,hD⟩:∃ D,D=w1.heap.size:=⟨_,rfl⟩
      obtain ⟨w2,hw2⟩:∃ w2,w2=w1.alloc (.cells (cells16 (Lf fun _=>0)) 145):=⟨_,rfl⟩
      have H2:=zH (show BoxL (Lf fun _=>0) w w2 w.heap.size D from ⟨by rw [hw2,hD];exact heap_alloc_new _ _,by rw [hD];exact (zU H1).size,by rw [hw2];exact (zU H1).alloc (zU H1).size _⟩);rw [←hw2,←hD];clear hw2 hD;go_loopw [9] (fun iv wr=>∃ j:Nat,j≤8∧iv = .int .i64 j∧BoxL (firstL L (2*j)) w wr w.heap.size D) (fun iv _=>8-(intOf iv).toNat)
      case atStart=>exact ⟨0,by omega,rfl,by rw [Nat.mul_zero,firstL_zero];exact zU H2⟩
      case round =>
       obtain ⟨j,hj,rfl,hat⟩:=hrel;have HAT:=zH hat;clear hat
       by_cases hj8:j<8
       ·have hq:j<s.length:=by omega
        obtain ⟨c,hcc⟩:∃ c,(⟨s.toArray⟩:ByteArray)[j]'hq=c:=⟨_,rfl⟩
        have hsc:s[j]? = some c:=by rw [List.getElem?_eq_getElem hq];exact congrArg some hcc
        obtain ⟨m1,m2⟩:=unHd_get (b:=s) (q:=j) hj8 hsc;rw [←zU HL] at m1 m2;obtain ⟨h,hh⟩:∃ h,h=c.toNat / 16:=⟨_,rfl⟩
        obtain ⟨m,hm⟩:∃ m,m=c.toNat % 16:=⟨_,rfl⟩
        rw [←hh] at m1;rw [←hm] at m2;have hc256:=c.toNat_lt;have a1:(c.toNat:Int).tdiv 16=(h:Int):=by rw [Int.tdiv_eq_ediv_of_nonneg (by omega)];omega
        have a2:(c.toNat:Int).tmod 16=(m:Int):=by rw [Int.tmod_eq_emod_of_nonneg (by omega)];omega
        have a3:IntKind.u8.wrap ((c.toNat:Int) / 16)=(h:Int):=by
         have e:(c.toNat:Int) / 16=(h:Int):=by omega
         rw [e,IntKind.wrap_u8];omega
        have hh16:h<16:=by omega
        have hm16:m<16:=by omega
        obtain ⟨i,hi⟩:∃ i,i=2*j:=⟨_,rfl⟩
        have hst1:=(zU HAT).put (2*j) (h:Int);rw [firstL_next m1] at hst1;have hst2:=hst1.put (2*j+1) (m:Int);rw [firstL_next m2] at hst2;rw [←hi] at hst1 hst2;have g1:=(zU HAT).free i;have g2:=(zU HAT).free (i+1);obtain ⟨y1,hy1⟩:∃ y,(firstL L (2*j))[i]? = some y:=⟨_,List.getElem?_eq_getElem (by rw [firstL_len];omega)⟩
        obtain ⟨y2,hy2⟩:∃ y,(firstL L (2*j))[i+1]? = some y:=⟨_,List.getElem?_eq_getElem (by rw [firstL_len];omega)⟩
        have c1:=(zU HAT).get hy1;have c2:=(zU HAT).get hy2;obtain ⟨y3,hy3⟩:∃ y,(firstL L (i+1))[i+1]? = some y:=⟨_,List.getElem?_eq_getElem (by rw [firstL_len];omega)⟩
        have c3:=hst1.get hy3;have v1:wrap64 (2*(j:Int))=(i:Int):=by rw [hi];exact (IntWalk.wrap64_in _ ⟨by omega,by omega⟩).trans (by omega)
        have v1b:IntKind.i64.wrap (2*(j:Int))=(i:Int):=by rw [hi];exact (IntWalk.i64_in _ ⟨by omega,by omega⟩).trans (by omega)
        have v2:IntKind.i64.wrap ((i:Int)+1)=(i:Int)+1:=IntWalk.i64_in _ ⟨by omega,by omega⟩;have v3:(0:Int)≤(i:Int)+1:=by omega
        have v4:(i:Int)+1<16:=by omega
        have v5:((i:Int)+1).toNat=i+1:=by omega
        have v6:(i:Int)<16:=by omega
        have M1:=zH m1;have M2:=zH m2;have HI:=zH hi;clear hsc m1 m2 hh hm hi hst1 hst2 hy1 hy2 hy3;go_wp2_with fail;go_region_law (fail)
        all_goals
         go_wp2_with fail;go_roundw
         case rel =>
          first
           | exact ⟨j+1,by omega,by go_num,two_put (zU HAT) (zU M1) (zU M2) (zU HI)⟩
           | exact ⟨j+1,by omega,by go_num,two_put (zU HAT).drew (zU M1) (zU M2) (zU HI)⟩
           | ((repeat apply Exists.intro);exact ⟨⟨j+1,by omega,by go_num,two_put (zU HAT).drew (zU M1) (zU M2) (zU HI)⟩,rfl⟩)
           | ((repeat apply Exists.intro);exact ⟨⟨j+1,by omega,by go_num,two_put (zU HAT) (zU M1) (zU M2) (zU HI)⟩,rfl⟩)
         case measure=>simp [intOf];omega
       ·have hj':j=8:=by omega
        subst hj';rw [show 2*8=16 from rfl,firstL_all (zU HL16)] at HAT;cases ht:take X with
        | none =>
         have HO:=zH (show unpackO dict (2::s)=none by rw [zU HUN,zU HDEC,decodeO_none ht];rfl);have c1:=zH (fun W=>numFrom_no ht W (by omega));have c2:=fun (W:World)=>readCode_any L [] 0 W (zU HL16) (by simp) (by omega) (by omega);obtain ⟨T,hT⟩:∃ T,T=readS L [] 0:=⟨_,rfl⟩
         obtain ⟨te,hte⟩:∃ te,te=readE L [] 0:=⟨_,rfl⟩
         rw [←hT,←hte] at c2;have c2:=zH c2;have HXX:=zU HX;clear ht hT hte;go_wp2_with fail;rw [←HXX];refine (zU c1 _).mono ?_;rintro e w3 ⟨rfl,hb3⟩;have H3:=zH ((zU HAT).below hb3);clear hb3
         go_wp2_with (first
          | (refine wpList_load16 rfl (.tmp 8) rfl D rfl L (zU HL16) (zU H3).o ?_))
         refine (zU c2 _).mono ?_;rintro e w4 ⟨rfl,hb4⟩;have H4:=zH ((zU H3).below hb4);clear hb4;go_wp2_with fail;go_ret2;rw [zU HO];exact ⟨.inr ⟨[],rfl,by simp,rfl⟩,(zU H4).bel⟩
        | some p =>
         obtain ⟨n,r⟩:=p;obtain ⟨e1,e2⟩:=take_some ht;have hrl:r.length≤X.length:=by rw [e1,List.length_append];omega
         have hn:n≤2147483647:=e2;have hd1:=decodeO_some (L:=L) ht;have c1:=zH (fun W=>numFrom_ok ht W (by omega));have c2:=fun (W:World)=>readCode_any L r (n:Int) W (zU HL16) (by omega) (by omega) (by omega);obtain ⟨x,hT⟩:∃ T,T=readS L r (n:Int):=⟨_,rfl⟩
         obtain ⟨te,hte⟩:∃ te,te=readE L r (n:Int):=⟨_,rfl⟩
         rw [←hT,←hte] at c2 hd1;have HTE:=zH hte;have HT:=zH hT;have c2:=zH c2;have HXX:=zU HX
         by_cases h0:te=0
         ·have hxl:x.length≤4611686018427387904:=by
           rw [hT];rw [hte] at h0;have:=(writeE_parts (code_write_read h0).1).2.1;omega
          rw [if_pos h0] at hd1;have hdx:decoded s=some x:=(zU HDEC).trans hd1;have HDX:=zH hdx;subst h0;clear ht hT hte e1 e2 hd1 hdx;go_wp2_with fail;rw [←HXX];refine (zU c1 _).mono ?_;rintro e w3 ⟨rfl,hb3⟩;have H3:=zH ((zU HAT).below hb3);clear hb3
          go_wp2_with (first
           | (refine wpList_load16 rfl (.tmp 8) rfl D rfl L (zU HL16) (zU H3).o ?_))
          refine (zU c2 _).mono ?_;rintro e w4 ⟨rfl,hb4⟩;have H4:=zH ((zU H3).below hb4).bel;clear hb4;cases hrd:read dict x with
          | none =>
           have c2:=fun (W:World)=>toksFrom_any dict x W hd hxl;rw [hrd] at c2;have c2:=zH c2;have HO:=zH (show unpackO dict (2::s)=none by rw [zU HUN,zU HDX];simp only [Option.bind_some];unfold playO;rw [hrd];rfl);clear hrd;go_wp2_with fail;refine (zU c2 _).mono ?_;rintro e w2 ⟨hv,hb2⟩;have H2:=zH ((zU H4).trans (hb2.mono (zU H4).size));clear hb2;obtain ⟨v,is,rfl,hv⟩:=hv
           rcases hv with ⟨rfl,rfl,_⟩ | ⟨_,l,hl,_⟩
           ·go_wp2_with fail;go_ret2;rw [zU HO];exact ⟨.inr ⟨[],rfl,by simp,rfl⟩,zU H2⟩
           ·cases hl
          | some l =>
           have c2:=fun (W:World)=>toksFrom_any dict x W hd hxl;rw [hrd] at c2;have c2:=zH c2
           have hpl:(play dict l).2=0:=by
            have hw:=write_read hd hrd
            by_cases e:(play dict l).2=0
            ·exact e
            ·unfold write at hw;rw [if_pos e] at hw;exact absurd (Prod.ext_iff.1 hw).2 e
           have hln:=play_room hpl;have c3:=fun (W:World) (A:Option Addr) (n cap:Nat) (h:ToksAt W W.heap.size A n l)=>played_any dict A n cap l W h (by omega) (by have:=h.1;omega);obtain ⟨t,ht⟩:∃ t,t=(play dict l).1:=⟨_,rfl⟩
           rw [←ht] at c3;have c3:=zH c3;have HO:=zH (show unpackO dict (2::s)=some t by rw [zU HUN,zU HDX];simp only [Option.bind_some];unfold playO;rw [hrd,ht];rfl);clear hrd hpl hln ht;go_wp2_with fail;refine (zU c2 _).mono ?_;rintro e w2 ⟨hv,hb2⟩;have H2:=zH ((zU H4).trans (hb2.mono (zU H4).size));clear hb2;obtain ⟨v,is,rfl,hv⟩:=hv
           rcases hv with ⟨_,_,hl⟩ | ⟨rfl,l',hl,A,n,cap,rfl,hat⟩
           ·cases hl
           ·cases hl;have HAT:=zH hat;clear hat;go_wp2_with fail;refine (zU c3 _ _ _ _ (zU HAT)).mono ?_;rintro e w3 ⟨rfl,hb3⟩;have H3:=zH ((zU H2).trans (hb3.mono (zU H2).size));clear hb3;go_wp2_with fail;go_ret2;rw [zU HO];exact ⟨.inl ⟨t,rfl,rfl⟩,zU H3⟩
         ·have HO:=zH (show unpackO dict (2::s)=none by rw [zU HUN,zU HDEC,hd1,if_neg h0];rfl);have d1:((te:Int) != 0)=true:=by rw [bne_iff_ne];omega
          have d2:((te:Int) == 0)=false:=by rw [beq_eq_false_iff_ne];omega
          clear ht hT hte e1 e2 hd1 h0;go_wp2_with fail;rw [←HXX];refine (zU c1 _).mono ?_;rintro e w3 ⟨rfl,hb3⟩;have H3:=zH ((zU HAT).below hb3);clear hb3
          go_wp2_with (first
           | (refine wpList_load16 rfl (.tmp 8) rfl D rfl L (zU HL16) (zU H3).o ?_))
          refine (zU c2 _).mono ?_;rintro e w4 ⟨rfl,hb4⟩;have H4:=zH ((zU H3).below hb4);clear hb4;go_wp2_with fail;go_ret2;rw [zU HO];exact ⟨.inr ⟨[],rfl,by simp,rfl⟩,(zU H4).bel⟩
    ·have f2:((k.toNat:Int) == 2)=false:=by rw [beq_eq_false_iff_ne];intro e;exact h2 (e2.2 (by omega))
     have f3:(2:Int)<(k.toNat:Int):=by
      have a0:k.toNat≠0:=fun e=>h0 (e0.2 e);have a1:k.toNat≠1:=fun e=>h1 (e1.2 e);have a2:k.toNat≠2:=fun e=>h2 (e2.2 e);omega
     have HO:=zH (show unpackO dict (k::s)=none by rw [unpackO,if_neg h0,if_neg h1,if_neg h2]);clear e0 e1 e2 h0 h1 h2;go_enter Tryz.func84,Tryz.ntmps84;go_wp2_with fail;go_quiet (fail);go_wp2_with fail;go_ret2;rw [zU HO];exact ⟨.inr ⟨[],rfl,by simp,rfl⟩,_root_.Go.below_drewN (Below.refl _ _) _⟩
end Go.Proofs.YtjpgoeimclipjaaGreat
namespace Go.Proofs.YtjpgoeimclipjaaGreat
open Go.RowKit Go.Lib Pl
attribute [local go_sem] ext_list app_list
theorem unpackOf_some {dict b t:Bytes} (w:World) (hd:dict.length≤256) (hb:b.length≤140737488355328) (h:unpackO dict b=some t) :
  Calls Tryz.prog 84 #[S dict,S b] w fun e w'=>e = .returned (.tuple #[S t,.bool true])∧Below w.heap.size w w' :=
 (unpackOf_any dict b w hd hb).mono fun e w' ⟨hr,hb⟩=>by
  rcases hr with ⟨t2,h1,h2⟩ | ⟨t2,h1,_,_⟩
  ·rw [h] at h1;cases h1;exact ⟨h2,hb⟩
  ·rw [h] at h1;cases h1
theorem unpackOf_none {dict b:Bytes} (w:World) (hd:dict.length≤256) (hb:b.length≤140737488355328) (h:unpackO dict b=none) :
  Calls Tryz.prog 84 #[S dict,S b] w fun e w'=>(∃ t:Bytes,e = .returned (.tuple #[S t,.bool false]))∧Below w.heap.size w w' :=
 (unpackOf_any dict b w hd hb).mono fun e w' ⟨hr,hb⟩=>by
  rcases hr with ⟨t2,h1,h2⟩ | ⟨t2,h1,_,h2⟩
  ·rw [h] at h1;cases h1
  ·exact ⟨⟨t2,h2⟩,hb⟩
structure AF (A:Option Addr) (n cap:Nat) (A2:Option Addr) (n2 cap2:Nat) (a:Arc) (f:Fil) (w W:World) (B D:Nat):Prop where
 ab:ABox A n cap A2 n2 cap2 a w W B
 fb:FBox f w W B D
theorem AF.below {A A2:Option Addr} {n cap n2 cap2:Nat} {a:Arc} {f:Fil} {w W W1:World} {B D:Nat} (h:AF A n cap A2 n2 cap2 a f w W B D) (hb:Below W.heap.size W W1):AF A n cap A2 n2 cap2 a f w W1 B D:=⟨h.ab.below hb,h.fb.below hb⟩
theorem AF.drew {A A2:Option Addr} {n cap n2 cap2:Nat} {a:Arc} {f:Fil} {w W:World} {B D:Nat} (h:AF A n cap A2 n2 cap2 a f w W B D):AF A n cap A2 n2 cap2 a f w W.drew B D:=h.below (Below.refl _ _).drew
theorem AF.drewN {A A2:Option Addr} {n cap n2 cap2:Nat} {a:Arc} {f:Fil} {w W:World} {B D:Nat} (h:AF A n cap A2 n2 cap2 a f w W B D) (k:Nat):AF A n cap A2 n2 cap2 a f w (W.drewN k) B D:=h.below (_root_.Go.below_drewN (Below.refl _ _) k)
theorem dictO_iff {ds:List Bytes} {k:Int} : (dictO ds k).isSome=decide (0≤k∧k≤(ds.length:Int)):=by
 by_cases h0:k=0
 ·subst h0;rw [dictO_zero,decide_eq_true (by omega)];rfl
 ·by_cases h1:k<0∨(ds.length:Int)<k
  ·rw [dictO_bad h1,decide_eq_false (by omega)];rfl
  ·unfold dictO;rw [if_neg h0,if_neg (by omega),decide_eq_true (by omega)];rfl
theorem big_take {ds:List Bytes} {k:Nat} {d:Bytes} (h:ds[k]? = some d):(ds.take (k+1)).any bigD=((ds.take k).any bigD || bigD d):=by
 rw [List.take_add_one,h,List.any_append];simp
set_option maxHeartbeats 8000000 in
set_option maxRecDepth 100000 in
theorem checkArchive_any (A:Option Addr) (n cap:Nat) (A2:Option Addr) (n2 cap2:Nat) (a:Arc) (w:World) (h:ArcIn w A n A2 n2 a) (hz:ArcSz a) :
  Calls Tryz.prog 32 #[arcV A n cap A2 n2 cap2] w fun e w'=>e = .returned (I (checkA a))∧Below w.heap.size w w':=by
 obtain ⟨B,hB⟩:∃ B,B=w.heap.size:=⟨_,rfl⟩
 obtain ⟨w0,hw0⟩:∃ w0,w0=w.alloc (.cells #[.slice A n cap,.slice A2 n2 cap2] 33):=⟨_,rfl⟩
 have H0:=zH (show ABox A n cap A2 n2 cap2 a w w0 B by rw [hw0,hB];exact ABox.new h cap cap2);have hn1:n≤4611686018427387904:=by have:=hz.nd;have:=h.s.1;omega
 have hn2:n2≤4611686018427387904:=by have:=hz.nf;have:=h.f.1;omega
 have hl1:=h.s.1;have hl2:=h.f.1;have HB:=zH hB;have HW0:=zH hw0;have HZ:=zH hz;have hck:checkA a=if 4<n∨12<n2∨a.ds.any bigD=true then 2 else if filesB a.ds [] a.fs=true then 0 else 1:=by unfold checkA;rw [hl1,hl2]
 have HCK:=zH hck;clear hB hw0 h hz hck
 by_cases h4:4<n
 ·have e1:checkA a=2:=by rw [zU HCK,if_pos (Or.inl h4)]
  rw [e1];have d1:(4:Int)<(n:Int):=by omega
  clear e1;go_enter Tryz.func32,Tryz.ntmps32;go_upto_region 1 with fail
  rw [←zU HW0,←zU HB];obtain ⟨q0,q1⟩:=(zU H0).c;go_wp2_with fail;go_ret;rw [←zU HB];exact ⟨rfl,(zU H0).bel⟩
 by_cases h12:12<n2
 ·have e1:checkA a=2:=by rw [zU HCK,if_pos (Or.inr (Or.inl h12))]
  rw [e1];have d1:¬ (4:Int)<(n:Int):=by omega
  have d2:(12:Int)<(n2:Int):=by omega
  clear e1;go_enter Tryz.func32,Tryz.ntmps32;go_upto_region 1 with fail
  rw [←zU HW0,←zU HB];obtain ⟨q0,q1⟩:=(zU H0).c;go_wp2_with fail;go_ret;rw [←zU HB];exact ⟨rfl,(zU H0).bel⟩
 have d1:¬ (4:Int)<(n:Int):=by omega
 have d2:¬ (12:Int)<(n2:Int):=by omega
 have hck2:checkA a=if a.ds.any bigD=true then 2 else if filesB a.ds [] a.fs=true then 0 else 1:=by
  rw [zU HCK]
  by_cases hb:a.ds.any bigD=true
  ·rw [if_pos (Or.inr (Or.inr hb)),if_pos hb]
  ·rw [if_neg (fun x=>x.elim h4 fun x=>x.elim h12 hb),if_neg hb]
 obtain ⟨rs,hrs⟩:∃ rs,rs=checkA a:=⟨_,rfl⟩
 rw [←hrs] at hck2 ⊢;have HCK2:=zH hck2;clear hck2 hrs HCK;go_enter Tryz.func32,Tryz.ntmps32;go_upto_region 1 with fail
 rw [←zU HW0,←zU HB];obtain ⟨q0,q1⟩:=(zU H0).c;go_wp2_with fail;go_loop [3] (fun iv=>∃ k:Nat,k≤n∧iv = .int .i64 k∧(a.ds.take k).any bigD=false) (fun iv=>n-(intOf iv).toNat)
 case atStart=>exact ⟨0,by omega,rfl,by simp⟩
 case round =>
  obtain ⟨k,hk,rfl,hnb⟩:=hrel;have HNB:=zH hnb;clear hnb
  by_cases hkn:k<n
  ·obtain ⟨b,off,d,rfl,hb,hd,x0⟩:=(zU H0).i.s.at_ hkn;have hdz:=(zU HZ).ds d (List.mem_of_getElem? hd);have hnx:=big_take hd
   by_cases hbig:256<d.length
   ·have hbd:bigD d=true:=decide_eq_true hbig;have hall:a.ds.any bigD=true:=List.any_eq_true.2 ⟨d,List.mem_of_getElem? hd,hbd⟩;have HR:=zH (show rs=2 by rw [zU HCK2,if_pos hall]);have e1:(256:Int)<(d.length:Int):=by omega
    clear hnx hd hbd hall;go_wp2_with fail;go_ret;rw [zU HR,←zU HB];exact ⟨rfl,(zU H0).bel⟩
   ·have hbd:bigD d=false:=decide_eq_false hbig;have HNX:=zH (show (a.ds.take (k+1)).any bigD=false by rw [hnx,zU HNB,hbd];rfl);have e1:¬ (256:Int)<(d.length:Int):=by omega
    clear hnx hd hbd hbig;go_wp2_with fail;go_round
    case rel=>exact ⟨k+1,by omega,by go_num,zU HNX⟩
    case measure=>simp [intOf];omega
  ·have hk':n=k:=by omega
   subst hk';have hnb2:=zU HNB;rw [List.take_of_length_le (by omega)] at hnb2
   have hds:∀ d∈a.ds,d.length≤256:=fun d hd=>by
    have:=List.any_eq_false.1 hnb2 d hd;simp only [bigD,decide_eq_true_eq] at this;omega
   have HDS:=zH hds;have HR:=zH (show rs=if filesB a.ds [] a.fs=true then 0 else 1 by rw [zU HCK2,if_neg (by rw [hnb2];simp)]);clear hnb2 hds HNB HCK2;go_wp2_with fail;go_loopw [4] (fun iv wr=>∃ k:Nat,k≤n2∧iv = .int .i64 k∧ABox A n cap A2 n2 cap2 a w wr B∧filesB a.ds [] a.fs=filesB a.ds (lastN a.fs k) (a.fs.drop k)) (fun iv _=>n2-(intOf iv).toNat)
   case atStart=>exact ⟨0,by omega,rfl,zU H0,rfl⟩
   case round =>
    clear q0 q1 hk hkn;obtain ⟨j,hj,rfl,hbx,hrj⟩:=hrel;have HBX:=zH hbx;obtain ⟨p0,p1⟩:=hbx.c
    by_cases hjn:j<n2
    ·obtain ⟨b,off,f,rfl,hb,hf,x0,x1,x2,x3,x4⟩:=hbx.i.f.at_ hjn;have hfz:=(zU HZ).fs f (List.mem_of_getElem? hf);have hnx:=lastN_next hf;rw [drop_at hf,filesB] at hrj;have HRJ:=zH hrj;have HNX:=zH hnx;obtain ⟨w2,hw2⟩:∃ w2,w2=wr.alloc (.cells #[S f.name,I f.dict,I f.size,I f.sum,S f.block] 61):=⟨_,rfl⟩
     obtain ⟨D,hD⟩:∃ D,D=wr.heap.size:=⟨_,rfl⟩
     have AF2:=zH (show AF A n cap (some ⟨b,off,none⟩) n2 cap2 a f w w2 B D from ⟨by rw [hw2];exact hbx.below ((Below.refl _ _).alloc (Nat.le_refl _) _),by rw [hw2,hD];exact FBox.new f hbx.bel (Nat.le_of_lt hbx.lt)⟩)
     have hprev:j=0∨∃ i g,j=i+1∧a.fs[i]? = some g∧wr.cell? ⟨b,off+i*5,none⟩=some (S g.name)∧w2.cell? ⟨b,off+i*5,none⟩=some (S g.name)∧lastN a.fs j=g.name:=by
      rcases Nat.eq_zero_or_pos j with h0 | h0
      ·exact .inl h0
      ·obtain ⟨i,rfl⟩:∃ i,j=i+1:=⟨j-1,by omega⟩
       obtain ⟨b2,off2,g,hA,hb2,hg,y0,_⟩:=hbx.i.f.at_ (k:=i) (by omega);cases hA;exact .inr ⟨i,g,rfl,hg,y0,by rw [hw2];exact (World.cell?_alloc_lt wr _ ⟨b,off+i*5,none⟩ hb).trans y0,lastN_next hg⟩
     have c3:=fun (W:World)=>isName_any f.name W hfz.nm;obtain ⟨m,hm⟩:∃ m,m=nameB f.name:=⟨_,rfl⟩
     rw [←hm] at c3;have c3:=zH c3;have c4:=fun (W:World)=>(within_any f.dict 0 (n:Int) W).mono fun e w' ⟨h1,h2⟩=>(⟨h1,h2.symm⟩:e=Ending.returned (.bool (decide (0≤f.dict∧f.dict≤(n:Int))))∧w'=W)
     have hdi:=@dictO_iff a.ds f.dict;rw [hl1] at hdi;rw [←hdi] at c4;have KD:=fun (hs:(dictO a.ds f.dict).isSome=true) (W:World) (hW:ArcIn W A n (some ⟨b,off,none⟩) n2 a)=>dictOf_any A n cap (some ⟨b,off,none⟩) n2 cap2 a f.dict W hW hn1 hs;obtain ⟨o,ho⟩:∃ o,o=dictO a.ds f.dict:=⟨_,rfl⟩
     rw [←ho] at c4 KD;have c4:=zH c4;have hdl:∀ d,o=some d→d.length≤256:=fun d hd2=>dictO_len (zU HDS) (ho.symm.trans hd2);have htx:textO a.ds f=o.bind fun d=>sizedO d f.block f.size f.sum:=by unfold textO;rw [ho]
     have hw2':=hw2.symm;have hD':=hD.symm;have R:=zH (show (∀ W:World,AF A n cap (some ⟨b,off,none⟩) n2 cap2 a f w W B D→W.cell? ⟨B,0,none⟩=some (.slice A n cap))∧(∀ W:World,AF A n cap (some ⟨b,off,none⟩) n2 cap2 a f w W B D→W.cell? ⟨B,1,none⟩=some (.slice (some ⟨b,off,none⟩) n2 cap2))∧(∀ W:World,AF A n cap (some ⟨b,off,none⟩) n2 cap2 a f w W B D→W.cell? ⟨D,1,none⟩=some (I f.dict))∧(∀ W:World,AF A n cap (some ⟨b,off,none⟩) n2 cap2 a f w W B D→W.cell? ⟨D,4,none⟩=some (S f.block)) from ⟨fun W h=>h.ab.c.1,fun W h=>h.ab.c.2,fun W h=>h.fb.c.2.1,fun W h=>h.fb.c.2.2.2.2⟩);have hfb:fileB a.ds f=((textO a.ds f).isSome && m):=by rw [hm];rfl
     have hne:m=true→f.name≠[]:=fun h=>nameB_ne (by rw [←hm];exact h);clear hrj hnx hbx hf hb ho hdi hm hw2 hD;cases m with
     | false =>
      have HRR:=zH (show rs=1 by rw [zU HR,zU HRJ,hfb];cases (textO a.ds f).isSome <;> rfl);clear hfb htx KD hdl hne hprev;go_upto_region 12 with fail
      try rw [hw2']
      try rw [hD']
      obtain ⟨g0,g1⟩:=(zU AF2).ab.c;obtain ⟨y0,y1,y2,y3,y4⟩:=(zU AF2).fb.c;clear x0 x1 x2 x3 x4 p0 p1;go_wp2_with fail;go_quiet (first | (go_at_call 77;refine Calls.quiet_of_same (zU c3 _)) | (go_at_call 78;refine Calls.quiet_of_same (zU c4 _)));obtain ⟨w3,hw3⟩:∃ w3,w3=w2.drewN nq:=⟨_,rfl⟩
      have AF3:=zH (show AF A n cap (some ⟨b,off,none⟩) n2 cap2 a f w w3 B D by rw [hw3];exact (zU AF2).drewN _);rw [←hw3];clear hw3 g0 g1 y0 y1 y2 y3 y4;go_wp2_with fail;go_ret;rw [zU HRR,←zU HB];exact ⟨rfl,(zU AF3).fb.bel⟩
     | true =>
      rcases hprev with rfl | ⟨i,g,rfl,hg,yw,ye,hlast⟩
      ·have hlt:lessB (lastN a.fs 0) f.name=true:=lessB_nil (hne rfl);simp only [Nat.zero_mul,Nat.add_zero] at x0 x1 x2 x3 x4;cases o with
       | none =>
        have HRR:=zH (show rs=1 by rw [zU HR,zU HRJ,hfb,htx];rfl);clear hfb htx KD hdl hne;have c4:=c4;go_upto_region 12 with fail
        try rw [hw2']
        try rw [hD']
        obtain ⟨g0,g1⟩:=(zU AF2).ab.c;obtain ⟨y0,y1,y2,y3,y4⟩:=(zU AF2).fb.c;clear x0 x1 x2 x3 x4 p0 p1;go_wp2_with fail;go_quiet (first | (go_at_call 77;refine Calls.quiet_of_same (zU c3 _)) | (go_at_call 78;refine Calls.quiet_of_same (zU c4 _)));obtain ⟨w3,hw3⟩:∃ w3,w3=w2.drewN nq:=⟨_,rfl⟩
        have AF3:=zH (show AF A n cap (some ⟨b,off,none⟩) n2 cap2 a f w w3 B D by rw [hw3];exact (zU AF2).drewN _);rw [←hw3];clear hw3 g0 g1 y0 y1 y2 y3 y4;go_wp2_with fail;go_ret;rw [zU HRR,←zU HB];exact ⟨rfl,(zU AF3).fb.bel⟩
       | some d =>
        have KD2:=zH (KD rfl);have hdd:=hdl d rfl;have htx2:textO a.ds f=sizedO d f.block f.size f.sum:=htx;cases hu:unpackO d f.block with
        | none =>
         have KU:=zH (fun (W:World)=>unpackOf_none W hdd hfz.bl hu);have HRR:=zH (show rs=1 by rw [zU HR,zU HRJ,hfb,htx2];unfold sizedO;rw [hu];rfl);clear hfb htx htx2 KD hdl hne hu;go_upto_region 12 with fail
         try rw [hw2']
         try rw [hD']
         obtain ⟨g0,g1⟩:=(zU AF2).ab.c;obtain ⟨y0,y1,y2,y3,y4⟩:=(zU AF2).fb.c;clear x0 x1 x2 x3 x4 p0 p1;go_wp2_with fail;go_quiet (first | (go_at_call 77;refine Calls.quiet_of_same (zU c3 _)) | (go_at_call 78;refine Calls.quiet_of_same (zU c4 _)));obtain ⟨w3,hw3⟩:∃ w3,w3=w2.drewN nq:=⟨_,rfl⟩
         have AF3:=zH (show AF A n cap (some ⟨b,off,none⟩) n2 cap2 a f w w3 B D by rw [hw3];exact (zU AF2).drewN _);rw [←hw3];clear hw3 g0 g1 y0 y1 y2 y3 y4;obtain ⟨r1,r2,r3,r4⟩:=zU R;go_wp2_with fail
         go_region_held3 (fun w'=>AF A n cap (some ⟨b,off,none⟩) n2 cap2 a f w w' B D) (first | exact (zU AF3).drew | assumption | exact AF.drew (by assumption) | exact AF.below (by assumption) (by assumption))
          ((first
           | (go_at_call 85;have hAF:=‹AF A n cap (some ⟨b,off,none⟩) n2 cap2 a f w _ B D›;refine (zU KD2 _ (by exact hAF.ab.i)).mono ?_;clear hAF;rintro e w4 ⟨rfl,hb4⟩)
           | (go_at_call 84;refine (zU KU _).mono ?_;rintro e w5 ⟨⟨t,rfl⟩,hb5⟩)))
         have AF5:=zH ‹AF A n cap (some ⟨b,off,none⟩) n2 cap2 a f w w5 B D›;clear r1 r2 r3 r4;obtain ⟨g0,g1⟩:=(zU AF5).ab.c;obtain ⟨y0,y1,y2,y3,y4⟩:=(zU AF5).fb.c;go_wp2_with fail;go_quiet (fail);go_wp2_with fail;go_ret;rw [zU HRR,←zU HB];exact ⟨rfl,_root_.Go.below_drewN (zU AF5).fb.bel _⟩
        | some t =>
         have htl:=unpack_len hu;have KU:=zH (fun (W:World)=>unpackOf_some W hdd hfz.bl hu);have c6:=fun (W:World)=>(sumOf_any t W (by omega)).mono fun e w' ⟨h1,h2⟩=>(⟨h1,h2.symm⟩:e=Ending.returned (I (sumOf t))∧w'=W)
         obtain ⟨sm,hsm⟩:∃ sm,sm=sumOf t:=⟨_,rfl⟩
         rw [←hsm] at c6;have c6:=zH c6
         have hcase:((t.length:Int) == f.size)=false∧((t.length:Int) != f.size)=true∧textO a.ds f=none∨((t.length:Int) == f.size)=true∧((t.length:Int) != f.size)=false∧((sm:Int) == f.sum)=false∧((sm:Int) != f.sum)=true∧textO a.ds f=none∨((t.length:Int) == f.size)=true∧((t.length:Int) != f.size)=false∧((sm:Int) == f.sum)=true∧((sm:Int) != f.sum)=false∧textO a.ds f=some t:=by
          rw [htx2];unfold sizedO;rw [hu];simp only [Option.bind_some];rw [hsm]
          by_cases k1:(t.length:Int)=f.size
          ·by_cases k2:((sumOf t:Nat):Int)=f.sum
           ·exact .inr (.inr ⟨by rw [beq_iff_eq];exact k1,by rw [bne_eq_false_iff_eq];exact k1,by rw [beq_iff_eq];exact k2,by rw [bne_eq_false_iff_eq];exact k2,if_pos ⟨k1,k2⟩⟩)
           ·exact .inr (.inl ⟨by rw [beq_iff_eq];exact k1,by rw [bne_eq_false_iff_eq];exact k1,by rw [beq_eq_false_iff_ne];exact k2,by rw [bne_iff_ne];exact k2,if_neg (fun e=>k2 e.2)⟩)
          ·exact .inl ⟨by rw [beq_eq_false_iff_ne];exact k1,by rw [bne_iff_ne];exact k1,if_neg (fun e=>k1 e.1)⟩
         clear htx htx2 KD hdl hu hsm
         rcases hcase with ⟨e1,e2,e5⟩ | ⟨e1,e2,e3,e4,e5⟩ | ⟨e1,e2,e3,e4,e5⟩
         ·have HRR:=zH (show rs=1 by rw [zU HR,zU HRJ,hfb,e5];rfl);clear hfb e5 hne;go_upto_region 12 with fail
          try rw [hw2']
          try rw [hD']
          obtain ⟨g0,g1⟩:=(zU AF2).ab.c;obtain ⟨y0,y1,y2,y3,y4⟩:=(zU AF2).fb.c;clear x0 x1 x2 x3 x4 p0 p1;go_wp2_with fail;go_quiet (first | (go_at_call 77;refine Calls.quiet_of_same (zU c3 _)) | (go_at_call 78;refine Calls.quiet_of_same (zU c4 _)));obtain ⟨w3,hw3⟩:∃ w3,w3=w2.drewN nq:=⟨_,rfl⟩
          have AF3:=zH (show AF A n cap (some ⟨b,off,none⟩) n2 cap2 a f w w3 B D by rw [hw3];exact (zU AF2).drewN _);rw [←hw3];clear hw3 g0 g1 y0 y1 y2 y3 y4;obtain ⟨r1,r2,r3,r4⟩:=zU R;go_wp2_with fail
          go_region_held3 (fun w'=>AF A n cap (some ⟨b,off,none⟩) n2 cap2 a f w w' B D) (first | exact (zU AF3).drew | assumption | exact AF.drew (by assumption) | exact AF.below (by assumption) (by assumption))
           ((first
            | (go_at_call 85;have hAF:=‹AF A n cap (some ⟨b,off,none⟩) n2 cap2 a f w _ B D›;refine (zU KD2 _ (by exact hAF.ab.i)).mono ?_;clear hAF;rintro e w4 ⟨rfl,hb4⟩)
            | (go_at_call 84;refine (zU KU _).mono ?_;rintro e w5 ⟨rfl,hb5⟩)))
          have AF5:=zH ‹AF A n cap (some ⟨b,off,none⟩) n2 cap2 a f w w5 B D›;clear r1 r2 r3 r4;obtain ⟨g0,g1⟩:=(zU AF5).ab.c;obtain ⟨y0,y1,y2,y3,y4⟩:=(zU AF5).fb.c;go_wp2_with fail;go_quiet (first | (go_at_call 86;refine Calls.quiet_of_same (zU c6 _)));go_wp2_with fail;go_ret;rw [zU HRR,←zU HB];exact ⟨rfl,_root_.Go.below_drewN (zU AF5).fb.bel _⟩
         ·have HRR:=zH (show rs=1 by rw [zU HR,zU HRJ,hfb,e5];rfl);clear hfb e5 hne;go_upto_region 12 with fail
          try rw [hw2']
          try rw [hD']
          obtain ⟨g0,g1⟩:=(zU AF2).ab.c;obtain ⟨y0,y1,y2,y3,y4⟩:=(zU AF2).fb.c;clear x0 x1 x2 x3 x4 p0 p1;go_wp2_with fail;go_quiet (first | (go_at_call 77;refine Calls.quiet_of_same (zU c3 _)) | (go_at_call 78;refine Calls.quiet_of_same (zU c4 _)));obtain ⟨w3,hw3⟩:∃ w3,w3=w2.drewN nq:=⟨_,rfl⟩
          have AF3:=zH (show AF A n cap (some ⟨b,off,none⟩) n2 cap2 a f w w3 B D by rw [hw3];exact (zU AF2).drewN _);rw [←hw3];clear hw3 g0 g1 y0 y1 y2 y3 y4;obtain ⟨r1,r2,r3,r4⟩:=zU R;go_wp2_with fail
          go_region_held3 (fun w'=>AF A n cap (some ⟨b,off,none⟩) n2 cap2 a f w w' B D) (first | exact (zU AF3).drew | assumption | exact AF.drew (by assumption) | exact AF.below (by assumption) (by assumption))
           ((first
            | (go_at_call 85;have hAF:=‹AF A n cap (some ⟨b,off,none⟩) n2 cap2 a f w _ B D›;refine (zU KD2 _ (by exact hAF.ab.i)).mono ?_;clear hAF;rintro e w4 ⟨rfl,hb4⟩)
            | (go_at_call 84;refine (zU KU _).mono ?_;rintro e w5 ⟨rfl,hb5⟩)))
          have AF5:=zH ‹AF A n cap (some ⟨b,off,none⟩) n2 cap2 a f w w5 B D›;clear r1 r2 r3 r4;obtain ⟨g0,g1⟩:=(zU AF5).ab.c;obtain ⟨y0,y1,y2,y3,y4⟩:=(zU AF5).fb.c;go_wp2_with fail;go_quiet (first | (go_at_call 86;refine Calls.quiet_of_same (zU c6 _)));go_wp2_with fail;go_ret;rw [zU HRR,←zU HB];exact ⟨rfl,_root_.Go.below_drewN (zU AF5).fb.bel _⟩
         ·have HST:=zH (show filesB a.ds [] a.fs=filesB a.ds (lastN a.fs (0+1)) (a.fs.drop (0+1)) by rw [zU HRJ,hfb,e5,hlt,zU HNX];rfl);clear hfb e5 hne;go_upto_region 12 with fail
          try rw [hw2']
          try rw [hD']
          obtain ⟨g0,g1⟩:=(zU AF2).ab.c;obtain ⟨y0,y1,y2,y3,y4⟩:=(zU AF2).fb.c;clear x0 x1 x2 x3 x4 p0 p1;go_wp2_with fail;go_quiet (first | (go_at_call 77;refine Calls.quiet_of_same (zU c3 _)) | (go_at_call 78;refine Calls.quiet_of_same (zU c4 _)));obtain ⟨w3,hw3⟩:∃ w3,w3=w2.drewN nq:=⟨_,rfl⟩
          have AF3:=zH (show AF A n cap (some ⟨b,off,none⟩) n2 cap2 a f w w3 B D by rw [hw3];exact (zU AF2).drewN _);rw [←hw3];clear hw3 g0 g1 y0 y1 y2 y3 y4;obtain ⟨r1,r2,r3,r4⟩:=zU R;go_wp2_with fail
          go_region_held3 (fun w'=>AF A n cap (some ⟨b,off,none⟩) n2 cap2 a f w w' B D) (first | exact (zU AF3).drew | assumption | exact AF.drew (by assumption) | exact AF.below (by assumption) (by assumption))
           ((first
            | (go_at_call 85;have hAF:=‹AF A n cap (some ⟨b,off,none⟩) n2 cap2 a f w _ B D›;refine (zU KD2 _ (by exact hAF.ab.i)).mono ?_;clear hAF;rintro e w4 ⟨rfl,hb4⟩)
            | (go_at_call 84;refine (zU KU _).mono ?_;rintro e w5 ⟨rfl,hb5⟩)))
          have AF5:=zH ‹AF A n cap (some ⟨b,off,none⟩) n2 cap2 a f w w5 B D›;clear r1 r2 r3 r4;obtain ⟨g0,g1⟩:=(zU AF5).ab.c;obtain ⟨y0,y1,y2,y3,y4⟩:=(zU AF5).fb.c;go_wp2_with fail;go_quiet (first | (go_at_call 86;refine Calls.quiet_of_same (zU c6 _)));go_wp2_with fail;go_roundw
          case rel =>
           first
            | exact ⟨0+1,by omega,by go_num,((zU AF5).drewN _).ab,zU HST⟩
            | ((repeat apply Exists.intro);exact ⟨⟨0+1,by omega,by go_num,((zU AF5).drewN _).ab,zU HST⟩,rfl⟩)
          case measure=>simp [intOf];omega
      ·have v1:IntKind.i64.wrap (((i+1:Nat):Int)-1)=(i:Int):=by rw [show ((i+1:Nat):Int)-1=(i:Int) from by omega];exact IntWalk.i64_in _ ⟨by omega,by omega⟩
       have v1b:IntKind.i64.wrap ((i:Int)+1-1)=(i:Int):=by rw [show (i:Int)+1-1=(i:Int) from by omega];exact IntWalk.i64_in _ ⟨by omega,by omega⟩
       have v2:IntKind.i64.wrap (i:Int)=(i:Int):=IntWalk.i64_in _ ⟨by omega,by omega⟩;have v3:(0:Int)<(i:Int)+1:=by omega
       have v4:(i:Int)<(n2:Int):=by omega
       have v5:(i:Int)+1<(n2:Int):=by omega
       by_cases hlt:lessB g.name f.name=true
       ·have s1:Op.bytesLess g.name f.name=true:=by rw [less_model];exact hlt
        rw [←hlast] at hlt;cases o with
        | none =>
         have HRR:=zH (show rs=1 by rw [zU HR,zU HRJ,hfb,htx];rfl);clear hfb htx KD hdl hne;have c4:=c4;go_upto_region 12 with fail
         try rw [hw2']
         try rw [hD']
         obtain ⟨g0,g1⟩:=(zU AF2).ab.c;obtain ⟨y0,y1,y2,y3,y4⟩:=(zU AF2).fb.c;clear x0 x1 x2 x3 x4 p0 p1;go_wp2_with fail;go_quiet (first | (go_at_call 77;refine Calls.quiet_of_same (zU c3 _)) | (go_at_call 78;refine Calls.quiet_of_same (zU c4 _)));obtain ⟨w3,hw3⟩:∃ w3,w3=w2.drewN nq:=⟨_,rfl⟩
         have AF3:=zH (show AF A n cap (some ⟨b,off,none⟩) n2 cap2 a f w w3 B D by rw [hw3];exact (zU AF2).drewN _);rw [←hw3];clear hw3 g0 g1 y0 y1 y2 y3 y4 ye;go_wp2_with fail;go_ret;rw [zU HRR,←zU HB];exact ⟨rfl,(zU AF3).fb.bel⟩
        | some d =>
         have KD2:=zH (KD rfl);have hdd:=hdl d rfl;have htx2:textO a.ds f=sizedO d f.block f.size f.sum:=htx;cases hu:unpackO d f.block with
         | none =>
          have KU:=zH (fun (W:World)=>unpackOf_none W hdd hfz.bl hu);have HRR:=zH (show rs=1 by rw [zU HR,zU HRJ,hfb,htx2];unfold sizedO;rw [hu];rfl);clear hfb htx htx2 KD hdl hne hu;go_upto_region 12 with fail
          try rw [hw2']
          try rw [hD']
          obtain ⟨g0,g1⟩:=(zU AF2).ab.c;obtain ⟨y0,y1,y2,y3,y4⟩:=(zU AF2).fb.c;clear x0 x1 x2 x3 x4 p0 p1;go_wp2_with fail;go_quiet (first | (go_at_call 77;refine Calls.quiet_of_same (zU c3 _)) | (go_at_call 78;refine Calls.quiet_of_same (zU c4 _)));obtain ⟨w3,hw3⟩:∃ w3,w3=w2.drewN nq:=⟨_,rfl⟩
          have AF3:=zH (show AF A n cap (some ⟨b,off,none⟩) n2 cap2 a f w w3 B D by rw [hw3];exact (zU AF2).drewN _);rw [←hw3];clear hw3 g0 g1 y0 y1 y2 y3 y4 ye;obtain ⟨r1,r2,r3,r4⟩:=zU R;go_wp2_with fail
          go_region_held3 (fun w'=>AF A n cap (some ⟨b,off,none⟩) n2 cap2 a f w w' B D) (first | exact (zU AF3).drew | assumption | exact AF.drew (by assumption) | exact AF.below (by assumption) (by assumption))
           ((first
            | (go_at_call 85;have hAF:=‹AF A n cap (some ⟨b,off,none⟩) n2 cap2 a f w _ B D›;refine (zU KD2 _ (by exact hAF.ab.i)).mono ?_;clear hAF;rintro e w4 ⟨rfl,hb4⟩)
            | (go_at_call 84;refine (zU KU _).mono ?_;rintro e w5 ⟨⟨t,rfl⟩,hb5⟩)))
          have AF5:=zH ‹AF A n cap (some ⟨b,off,none⟩) n2 cap2 a f w w5 B D›;clear r1 r2 r3 r4;obtain ⟨g0,g1⟩:=(zU AF5).ab.c;obtain ⟨y0,y1,y2,y3,y4⟩:=(zU AF5).fb.c;go_wp2_with fail;go_quiet (fail);go_wp2_with fail;go_ret;rw [zU HRR,←zU HB];exact ⟨rfl,_root_.Go.below_drewN (zU AF5).fb.bel _⟩
         | some t =>
          have htl:=unpack_len hu;have KU:=zH (fun (W:World)=>unpackOf_some W hdd hfz.bl hu);have c6:=fun (W:World)=>(sumOf_any t W (by omega)).mono fun e w' ⟨h1,h2⟩=>(⟨h1,h2.symm⟩:e=Ending.returned (I (sumOf t))∧w'=W)
          obtain ⟨sm,hsm⟩:∃ sm,sm=sumOf t:=⟨_,rfl⟩
          rw [←hsm] at c6;have c6:=zH c6
          have hcase:((t.length:Int) == f.size)=false∧((t.length:Int) != f.size)=true∧textO a.ds f=none∨((t.length:Int) == f.size)=true∧((t.length:Int) != f.size)=false∧((sm:Int) == f.sum)=false∧((sm:Int) != f.sum)=true∧textO a.ds f=none∨((t.length:Int) == f.size)=true∧((t.length:Int) != f.size)=false∧((sm:Int) == f.sum)=true∧((sm:Int) != f.sum)=false∧textO a.ds f=some t:=by
           rw [htx2];unfold sizedO;rw [hu];simp only [Option.bind_some];rw [hsm]
           by_cases k1:(t.length:Int)=f.size
           ·by_cases k2:((sumOf t:Nat):Int)=f.sum
            ·exact .inr (.inr ⟨by rw [beq_iff_eq];exact k1,by rw [bne_eq_false_iff_eq];exact k1,by rw [beq_iff_eq];exact k2,by rw [bne_eq_false_iff_eq];exact k2,if_pos ⟨k1,k2⟩⟩)
            ·exact .inr (.inl ⟨by rw [beq_iff_eq];exact k1,by rw [bne_eq_false_iff_eq];exact k1,by rw [beq_eq_false_iff_ne];exact k2,by rw [bne_iff_ne];exact k2,if_neg (fun e=>k2 e.2)⟩)
           ·exact .inl ⟨by rw [beq_eq_false_iff_ne];exact k1,by rw [bne_iff_ne];exact k1,if_neg (fun e=>k1 e.1)⟩
          clear htx htx2 KD hdl hu hsm
          rcases hcase with ⟨e1,e2,e5⟩ | ⟨e1,e2,e3,e4,e5⟩ | ⟨e1,e2,e3,e4,e5⟩
          ·have HRR:=zH (show rs=1 by rw [zU HR,zU HRJ,hfb,e5];rfl);clear hfb e5 hne;go_upto_region 12 with fail
           try rw [hw2']
           try rw [hD']
           obtain ⟨g0,g1⟩:=(zU AF2).ab.c;obtain ⟨y0,y1,y2,y3,y4⟩:=(zU AF2).fb.c;clear x0 x1 x2 x3 x4 p0 p1;go_wp2_with fail;go_quiet (first | (go_at_call 77;refine Calls.quiet_of_same (zU c3 _)) | (go_at_call 78;refine Calls.quiet_of_same (zU c4 _)));obtain ⟨w3,hw3⟩:∃ w3,w3=w2.drewN nq:=⟨_,rfl⟩
           have AF3:=zH (show AF A n cap (some ⟨b,off,none⟩) n2 cap2 a f w w3 B D by rw [hw3];exact (zU AF2).drewN _);rw [←hw3];clear hw3 g0 g1 y0 y1 y2 y3 y4 ye;obtain ⟨r1,r2,r3,r4⟩:=zU R;go_wp2_with fail
           go_region_held3 (fun w'=>AF A n cap (some ⟨b,off,none⟩) n2 cap2 a f w w' B D) (first | exact (zU AF3).drew | assumption | exact AF.drew (by assumption) | exact AF.below (by assumption) (by assumption))
            ((first
             | (go_at_call 85;have hAF:=‹AF A n cap (some ⟨b,off,none⟩) n2 cap2 a f w _ B D›;refine (zU KD2 _ (by exact hAF.ab.i)).mono ?_;clear hAF;rintro e w4 ⟨rfl,hb4⟩)
             | (go_at_call 84;refine (zU KU _).mono ?_;rintro e w5 ⟨rfl,hb5⟩)))
           have AF5:=zH ‹AF A n cap (some ⟨b,off,none⟩) n2 cap2 a f w w5 B D›;clear r1 r2 r3 r4;obtain ⟨g0,g1⟩:=(zU AF5).ab.c;obtain ⟨y0,y1,y2,y3,y4⟩:=(zU AF5).fb.c;go_wp2_with fail;go_quiet (first | (go_at_call 86;refine Calls.quiet_of_same (zU c6 _)));go_wp2_with fail;go_ret;rw [zU HRR,←zU HB];exact ⟨rfl,_root_.Go.below_drewN (zU AF5).fb.bel _⟩
          ·have HRR:=zH (show rs=1 by rw [zU HR,zU HRJ,hfb,e5];rfl);clear hfb e5 hne;go_upto_region 12 with fail
           try rw [hw2']
           try rw [hD']
           obtain ⟨g0,g1⟩:=(zU AF2).ab.c;obtain ⟨y0,y1,y2,y3,y4⟩:=(zU AF2).fb.c;clear x0 x1 x2 x3 x4 p0 p1;go_wp2_with fail;go_quiet (first | (go_at_call 77;refine Calls.quiet_of_same (zU c3 _)) | (go_at_call 78;refine Calls.quiet_of_same (zU c4 _)));obtain ⟨w3,hw3⟩:∃ w3,w3=w2.drewN nq:=⟨_,rfl⟩
           have AF3:=zH (show AF A n cap (some ⟨b,off,none⟩) n2 cap2 a f w w3 B D by rw [hw3];exact (zU AF2).drewN _);rw [←hw3];clear hw3 g0 g1 y0 y1 y2 y3 y4 ye;obtain ⟨r1,r2,r3,r4⟩:=zU R;go_wp2_with fail
           go_region_held3 (fun w'=>AF A n cap (some ⟨b,off,none⟩) n2 cap2 a f w w' B D) (first | exact (zU AF3).drew | assumption | exact AF.drew (by assumption) | exact AF.below (by assumption) (by assumption))
            ((first
             | (go_at_call 85;have hAF:=‹AF A n cap (some ⟨b,off,none⟩) n2 cap2 a f w _ B D›;refine (zU KD2 _ (by exact hAF.ab.i)).mono ?_;clear hAF;rintro e w4 ⟨rfl,hb4⟩)
             | (go_at_call 84;refine (zU KU _).mono ?_;rintro e w5 ⟨rfl,hb5⟩)))
           have AF5:=zH ‹AF A n cap (some ⟨b,off,none⟩) n2 cap2 a f w w5 B D›;clear r1 r2 r3 r4;obtain ⟨g0,g1⟩:=(zU AF5).ab.c;obtain ⟨y0,y1,y2,y3,y4⟩:=(zU AF5).fb.c;go_wp2_with fail;go_quiet (first | (go_at_call 86;refine Calls.quiet_of_same (zU c6 _)));go_wp2_with fail;go_ret;rw [zU HRR,←zU HB];exact ⟨rfl,_root_.Go.below_drewN (zU AF5).fb.bel _⟩
          ·have HST:=zH (show filesB a.ds [] a.fs=filesB a.ds (lastN a.fs (i+1+1)) (a.fs.drop (i+1+1)) by rw [zU HRJ,hfb,e5,hlt,zU HNX];rfl);clear hfb e5 hne;go_upto_region 12 with fail
           try rw [hw2']
           try rw [hD']
           obtain ⟨g0,g1⟩:=(zU AF2).ab.c;obtain ⟨y0,y1,y2,y3,y4⟩:=(zU AF2).fb.c;clear x0 x1 x2 x3 x4 p0 p1;go_wp2_with fail;go_quiet (first | (go_at_call 77;refine Calls.quiet_of_same (zU c3 _)) | (go_at_call 78;refine Calls.quiet_of_same (zU c4 _)));obtain ⟨w3,hw3⟩:∃ w3,w3=w2.drewN nq:=⟨_,rfl⟩
           have AF3:=zH (show AF A n cap (some ⟨b,off,none⟩) n2 cap2 a f w w3 B D by rw [hw3];exact (zU AF2).drewN _);rw [←hw3];clear hw3 g0 g1 y0 y1 y2 y3 y4 ye;obtain ⟨r1,r2,r3,r4⟩:=zU R;go_wp2_with fail
           go_region_held3 (fun w'=>AF A n cap (some ⟨b,off,none⟩) n2 cap2 a f w w' B D) (first | exact (zU AF3).drew | assumption | exact AF.drew (by assumption) | exact AF.below (by assumption) (by assumption))
            ((first
             | (go_at_call 85;have hAF:=‹AF A n cap (some ⟨b,off,none⟩) n2 cap2 a f w _ B D›;refine (zU KD2 _ (by exact hAF.ab.i)).mono ?_;clear hAF;rintro e w4 ⟨rfl,hb4⟩)
             | (go_at_call 84;refine (zU KU _).mono ?_;rintro e w5 ⟨rfl,hb5⟩)))
           have AF5:=zH ‹AF A n cap (some ⟨b,off,none⟩) n2 cap2 a f w w5 B D›;clear r1 r2 r3 r4;obtain ⟨g0,g1⟩:=(zU AF5).ab.c;obtain ⟨y0,y1,y2,y3,y4⟩:=(zU AF5).fb.c;go_wp2_with fail;go_quiet (first | (go_at_call 86;refine Calls.quiet_of_same (zU c6 _)));go_wp2_with fail;go_roundw
           case rel =>
            first
             | exact ⟨i+1+1,by omega,by go_num,((zU AF5).drewN _).ab,zU HST⟩
             | ((repeat apply Exists.intro);exact ⟨⟨i+1+1,by omega,by go_num,((zU AF5).drewN _).ab,zU HST⟩,rfl⟩)
           case measure=>simp [intOf];omega
       ·have hlt:lessB g.name f.name=false:=by simpa using hlt
        have s1:Op.bytesLess g.name f.name=false:=by rw [less_model];exact hlt
        rw [←hlast] at hlt;have HRR:=zH (show rs=1 by rw [zU HR,zU HRJ,hfb,hlt];cases (textO a.ds f).isSome <;> rfl);clear hfb htx KD hdl hne;go_upto_region 12 with fail
        try rw [hw2']
        try rw [hD']
        obtain ⟨g0,g1⟩:=(zU AF2).ab.c;obtain ⟨y0,y1,y2,y3,y4⟩:=(zU AF2).fb.c;clear x0 x1 x2 x3 x4 p0 p1;go_wp2_with fail;go_quiet (first | (go_at_call 77;refine Calls.quiet_of_same (zU c3 _)) | (go_at_call 78;refine Calls.quiet_of_same (zU c4 _)));obtain ⟨w3,hw3⟩:∃ w3,w3=w2.drewN nq:=⟨_,rfl⟩
        have AF3:=zH (show AF A n cap (some ⟨b,off,none⟩) n2 cap2 a f w w3 B D by rw [hw3];exact (zU AF2).drewN _);rw [←hw3];clear hw3 g0 g1 y0 y1 y2 y3 y4 ye;go_wp2_with fail;go_ret;rw [zU HRR,←zU HB];exact ⟨rfl,(zU AF3).fb.bel⟩
    ·have hj':j=n2:=by omega
     subst hj';rw [List.drop_of_length_le (by omega),filesB] at hrj;have HRR:=zH (show rs=0 by rw [zU HR,hrj];rfl);clear hrj;go_wp2_with fail;go_ret;rw [zU HRR,←zU HB];exact ⟨rfl,(zU HBX).bel⟩
end Go.Proofs.YtjpgoeimclipjaaGreat
namespace Go.Proofs.YtjpgoeimclipjaaGreat
open Go.RowKit Go.Lib Pl
attribute [local go_sem] ext_list app_list
structure HAt (L:List Int) (w wr:World) (B:Nat):Prop where
 z:wr.heap[B]? = some (.cells (cells16 (Lf fun _=>0)) 145 (0,0))
 o:wr.heap[B+1]? = some (.cells (cells16 L) 145 (0,0))
 bel:Below B w wr
theorem HAt.size {L:List Int} {w wr:World} {B:Nat} (h:HAt L w wr B):B+2≤wr.heap.size:=(Array.getElem?_eq_some_iff.1 h.o).1
theorem HAt.put {L:List Int} {w wr:World} {B:Nat} (h:HAt L w wr B) (i:Nat) (v:Int):HAt (L.set i v) w (wr.setCell ⟨B+1,i,none⟩ (.int .i64 v)) B:=by
 refine ⟨?_,?_,?_⟩
 ·rw [heap_setCell_other _ _ _ _ (by show B≠B+1;omega)];exact h.z
 ·rw [heap_setCell_same _ _ _ _ _ _ h.o,cells16_set]
 ·exact h.bel.setCell (by show B≤B+1;omega) _
theorem HAt.start (w:World):HAt (Lf fun _=>0) w ((w.alloc (.cells (cells16 (Lf fun _=>0)) 145)).alloc (.cells (cells16 (Lf fun _=>0)) 145)) w.heap.size :=
 ⟨heap_alloc2_old _ _ _,heap_alloc2_new _ _ _,((Below.refl _ _).alloc (Nat.le_refl _) _).alloc (by simp) _⟩
theorem count_le_nibs (s:Bytes) (k i:Nat):(nibs (s.take k)).count i≤2*k:=by
 have:=List.count_le_length (a:=i) (l:=nibs (s.take k));rw [nibs_len,List.length_take] at this;omega
theorem cntN_step {s:Bytes} {k:Nat} {c:UInt8} (hc:s[k]? = some c) :
  ((cntN (nibs (s.take k))).set (c.toNat / 16) (((nibs (s.take k)).count (c.toNat / 16):Nat)+1:Int)).set (c.toNat % 16) (((nibs (s.take k)++[c.toNat / 16]).count (c.toNat % 16):Nat)+1:Int)=cntN (nibs (s.take (k+1))):=by
 rw [cntN_snoc,cntN_snoc,nibs_take hc,List.append_assoc];rfl
set_option maxHeartbeats 2000000 in
set_option maxRecDepth 100000 in
theorem halves_any (s:Bytes) (w:World) (hs:s.length≤1000000000000) :
  Calls Tryz.prog 160 #[S s] w fun e w'=>e = .returned (A16 (cntN (nibs s)))∧Below w.heap.size w w':=by
 have hz:=zero16v;obtain ⟨B,hB⟩:∃ B,B=w.heap.size:=⟨_,rfl⟩
 obtain ⟨w0,hw0⟩:∃ w0,w0=(w.alloc (.cells (cells16 (Lf fun _=>0)) 145)).alloc (.cells (cells16 (Lf fun _=>0)) 145):=⟨_,rfl⟩
 have h0:HAt (Lf fun _=>0) w w0 B:=by rw [hB,hw0];exact HAt.start w
 have H0:=zH h0;have HB:=zH hB;clear h0;go_enter Tryz.func160,Tryz.ntmps160;go_wp2_with fail;rw [←hw0,←zU HB];clear hw0 hB;go_loopw [4] (fun iv wr=>∃ k:Nat,k≤s.length∧iv = .int .i64 k∧HAt (cntN (nibs (s.take k))) w wr B) (fun iv _=>s.length-(intOf iv).toNat)
 case atStart=>exact ⟨0,by omega,rfl,by rw [List.take_zero,show nibs []=[] from rfl,cntN_nil];exact zU H0⟩
 case round =>
  obtain ⟨k,hk,rfl,hat⟩:=hrel;have HAT:=zH hat;have hsz:=hat.size;clear hat
  by_cases hks:k<s.length
  ·obtain ⟨c,hcc⟩:∃ c,(⟨s.toArray⟩:ByteArray)[k]'hks=c:=⟨_,rfl⟩
   have hsc:s[k]? = some c:=by rw [List.getElem?_eq_getElem hks];exact congrArg some hcc
   have hst:=cntN_step hsc;obtain ⟨h,hh⟩:∃ h,h=c.toNat / 16:=⟨_,rfl⟩
   obtain ⟨m,hm⟩:∃ m,m=c.toNat % 16:=⟨_,rfl⟩
   rw [←hh,←hm] at hst;have hc256:=c.toNat_lt;have hh16:h<16:=by omega
   have hm16:m<16:=by omega
   have a1:(c.toNat:Int).tdiv 16=(h:Int):=by rw [Int.tdiv_eq_ediv_of_nonneg (by omega)];omega
   have a2:(c.toNat:Int).tmod 16=(m:Int):=by rw [Int.tmod_eq_emod_of_nonneg (by omega)];omega
   have a3:IntKind.u8.wrap ((c.toNat:Int) / 16)=(h:Int):=by
    have e:(c.toNat:Int) / 16=(h:Int):=by omega
    rw [e,IntKind.wrap_u8];omega
   have b1:=count_le_nibs s k h
   have b2:(nibs (s.take k)++[h]).count m≤2*k+1:=by
    have:=count_le_nibs s k m;rw [List.count_append];have h2:=List.count_le_length (a:=m) (l:=[h]);rw [List.length_singleton] at h2;omega
   have c1:wr.cell? ⟨B+1,h,none⟩=some (.int .i64 ((nibs (s.take k)).count h:Nat)):=cell16 (zU HAT).o (cntN_get _ hh16);have h1:=(zU HAT).put h (((nibs (s.take k)).count h:Nat)+1:Int);rw [cntN_snoc] at h1 hst;have c2:(wr.setCell ⟨B+1,h,none⟩ (.int .i64 (((nibs (s.take k)).count h:Nat)+1:Int))).cell? ⟨B+1,m,none⟩=some (.int .i64 ((nibs (s.take k)++[h]).count m:Nat)):=cell16 h1.o (cntN_get _ hm16);have h2:=h1.put m (((nibs (s.take k)++[h]).count m:Nat)+1:Int);rw [hst] at h2;have f1:wr.frozen? ⟨B+1,h,none⟩=false:=frozen_of_row _ _ _ _ _ (zU HAT).o;have f2:wr.frozen? ⟨B+1,m,none⟩=false:=frozen_of_row _ _ _ _ _ (zU HAT).o;obtain ⟨x,hx⟩:∃ x,x=(nibs (s.take k)).count h:=⟨_,rfl⟩
   obtain ⟨y,hy⟩:∃ y,y=(nibs (s.take k)++[h]).count m:=⟨_,rfl⟩
   rw [←hx] at b1 c1 c2 h2;rw [←hy] at b2 c2 h2;have H2:=zH h2;clear hsc hh hm hx hy h1 h2 hst;have hx2:x≤9223372036854775806:=by omega
   have hy2:y≤9223372036854775806:=by omega
   obtain ⟨w1,hw1⟩:∃ w1,w1=wr.setCell ⟨B+1,h,none⟩ (.int .i64 ((x:Int)+1)):=⟨_,rfl⟩
   rw [←hw1] at c2 H2;have f3:w1.frozen? ⟨B+1,m,none⟩=false:=by rw [hw1,frozen_set];exact f2
   have HW1:=zH hw1;clear hw1;go_upto_region 6 with fail
   rw [←zU HW1];go_wp2_with fail;go_roundw
   case rel=>exact ⟨k+1,by omega,by go_num,zU H2⟩
   case measure=>simp [intOf];omega
  ·have hk':k=s.length:=by omega
   subst hk';rw [List.take_length] at HAT
   go_wp2_with (first
    | (refine wpList_load16 rfl (.tmp 3) rfl (B+1) rfl _ (cntN_len _) (zU HAT).o ?_)
    | (refine wpList_store_row rfl 145 (.tmp 2) (.tmp 27) rfl B (cells16 (cntN (nibs s))) rfl rfl 145 _ (zU HAT).z (by rw [sizeI,cells16_size (cntN_len _)]) (by rw [cells16_size (cntN_len _),cells16_size (Lf_len _)]) (cells16_one _) ?_))
   refine bodyPost_ret (results_cell_row rfl _ _ B 145 (cells16 (cntN (nibs s))) (0,0) _ rfl (setRow_heap _ _ _ _ _ _ (zU HAT).z) Tryz.underlying145 rfl (by rw [sizeI,cells16_size (cntN_len _)])) rfl ⟨rfl,?_⟩;rw [←zU HB];exact below_setRow (zU HAT).bel (Nat.le_refl _) _
end Go.Proofs.YtjpgoeimclipjaaGreat
namespace Go.Proofs.YtjpgoeimclipjaaGreat
open Go.RowKit Go.Lib Pl
attribute [local go_sem] ext_list app_list
theorem hdB_next2 {l:List Int} {j:Nat} (h:j<8):(hdB l).take (j+1)=(hdB l).take j++[UInt8.ofNat (16*ln l (2*j)+ln l (2*j+1))]:=by
 rw [List.take_add_one];unfold hdB;rw [List.getElem?_map,List.getElem?_range h];rfl
theorem writeS_any (L:List Int) (s:Bytes):(writeS L s).length≤30*s.length+7:=by
 by_cases h:writeE L s=0
 ·unfold writeS;rw [if_pos h,packB_len];have hc:=(checkE_zero (writeE_parts h).1).1
  have h1:∀ ks:List Nat,(encK L ks).length≤15*ks.length:=by
   intro ks
   induction ks with
   | nil=>simp [encK]
   | cons k ks ih =>
    rw [encK_cons,List.length_append,wordB_len,List.length_cons]
    have:ln L k≤15:=by
     unfold ln;rw [List.getD_eq_getElem?_getD];cases hk:L[k]? with
     | none=>simp
     | some x=>have:=hc x (List.mem_of_getElem? hk);simp;omega
    omega
  have:=h1 (nibs s);rw [nibs_len] at this;omega
 ·unfold writeS;rw [if_neg h];simp
attribute [local go_sem ↓] concat_list in
set_option maxHeartbeats 2000000 in
set_option maxRecDepth 100000 in
theorem third_any (s:Bytes) (w:World) (hs:s.length≤1024) (hne:s≠[]) :
  Calls Tryz.prog 135 #[S s] w fun e w'=>e = .returned (S (third s))∧Below w.heap.size w w':=by
 have hz:=zero16v;have kb:=fun (W:World) (x:UInt8)=>True.intro;have c1:=zH (fun (W:World)=>halves_any s W (by omega));have hb0:buildE (cntN (nibs s))=0:=lensS_build hne hs;have c2:=fun (W:World)=>buildOf_any (cntN (nibs s)) W (cntN_len _);obtain ⟨L,hL⟩:∃ L,L=lensS s:=⟨_,rfl⟩
 rw [hb0,show lensOf (cntN (nibs s))=L from hL.symm] at c2;obtain ⟨C,hC⟩:∃ C,C=cntN (nibs s):=⟨_,rfl⟩
 rw [←hC] at c1 c2;have c2:=zH c2;have hl16:L.length=16:=by rw [hL];exact lensOf_len _
 have hr:checkE L=0:=by rw [hL];exact lens_right hb0
 have HR:=zH (right_of hl16 hr);have HL16:=zH hl16;obtain ⟨T,hT⟩:∃ T,T=writeS L s:=⟨_,rfl⟩
 obtain ⟨te,hte⟩:∃ te,te=writeE L s:=⟨_,rfl⟩
 have hTl:T.length≤40000:=by rw [hT];have:=writeS_any L s;omega
 have c3:=fun (W:World)=>writeCode_any L s W hl16 (by omega);rw [←hT,←hte] at c3;have c3:=zH c3;have hnl:=nb_len 4 s.length (by omega);have c4:=fun (W:World)=>numBytes_any s.length W (by omega);obtain ⟨N,hN⟩:∃ N,N=nb s.length:=⟨_,rfl⟩
 rw [←hN] at c4 hnl;have c4:=zH c4;obtain ⟨H,hH⟩:∃ H,H=2::hdB L:=⟨_,rfl⟩
 have hHl:H.length=9:=by rw [hH,List.length_cons,hdB_len]
 have hth:third s=H++(N++T):=by
  unfold third;rw [←hL,hH,hN,hT,List.cons_append,List.append_assoc]
 have HTH:=zH hth;have HH:=zH hH;have k1:H.length+N.length≤9223372036854775807:=by omega
 have k2:H.length+N.length+T.length≤9223372036854775807:=by omega
 have k3:H.length+(N.length+T.length)≤9223372036854775807:=by omega
 clear hb0 hL hC hl16 hr hT hte hTl hnl hN hH hHl hth hne;obtain ⟨B,hB⟩:∃ B,B=w.heap.size:=⟨_,rfl⟩
 have HB:=zH hB;go_enter Tryz.func135,Tryz.ntmps135;go_wp2_with fail;refine (zU c1 _).mono ?_;rintro e w1 ⟨rfl,hb1⟩;have H1:=zH hb1;clear hb1;go_wp2_with fail;refine (zU c2 _).mono ?_;rintro e w2 ⟨rfl,hb2⟩;have H2:=zH ((zU H1).trans (hb2.mono (zU H1).size));clear hb2
 go_upto_region 2 with (first
  | (refine wpList_store_row rfl 145 (.tmp 3) (.tmp 13) rfl w2.heap.size (cells16 L) rfl rfl 145 _ (heap_alloc_new _ _) (by rw [sizeI,cells16_size (zU HL16)]) (by rw [cells16_size (zU HL16),cells16_size (Lf_len _)]) (cells16_one _) ?_))
 obtain ⟨w3,hw3⟩:∃ w3,w3=(w2.alloc (.cells (cells16 (Lf fun _=>0)) 145)).setRow w2.heap.size (cells16 L):=⟨_,rfl⟩
 obtain ⟨E,hE⟩:∃ E,E=w2.heap.size:=⟨_,rfl⟩
 have H3:=zH (show BoxL L w w3 B E by rw [hw3,hE,hB];exact BoxL.laid L (zU H2) (zU H2).size);rw [←hw3,←hE];clear hw3 hE;go_wp2_with fail;go_loopw [5,6] (fun bv iv wr=>∃ j:Nat,j≤8∧iv = .int .i64 (j:Int)∧bv=S (2::(hdB L).take j)∧BoxL L w wr B E) (fun _ iv _=>8-(intOf iv).toNat)
 case atStart=>exact ⟨0,by omega,rfl,rfl,zU H3⟩
 case round =>
  obtain ⟨j,hj,rfl,rfl,hbx⟩:=hrel;have HBX:=zH hbx;have hE3:=hbx.lt;clear hbx
  by_cases hj8:j<8
  ·obtain ⟨x,hx⟩:∃ x,x=ln L (2*j):=⟨_,rfl⟩
   obtain ⟨y,hy⟩:∃ y,y=ln L (2*j+1):=⟨_,rfl⟩
   have hx15:x≤15:=by rw [hx];exact (zU HR).one _
   have hy15:y≤15:=by rw [hy];exact (zU HR).one _
   obtain ⟨i,hi⟩:∃ i,i=2*j:=⟨_,rfl⟩
   have c1:wr.cell? ⟨E,i,none⟩=some (.int .i64 (x:Int)):=by rw [hi,hx];exact (zU HBX).get (ln_get (zU HR) (by omega))
   have c2:wr.cell? ⟨E,i+1,none⟩=some (.int .i64 (y:Int)):=by rw [hi,hy];exact (zU HBX).get (ln_get (zU HR) (by omega))
   obtain ⟨b,hb⟩:∃ b,b=UInt8.ofNat (16*x+y):=⟨_,rfl⟩
   have hbn:b.toNat=16*x+y:=by rw [hb,UInt8.toNat_ofNat'];omega
   have hnx:(2::(hdB L).take j)++[b]=2::(hdB L).take (j+1):=by rw [hdB_next2 hj8,hb,hx,hy];rfl
   have HNX:=zH hnx;have v1:wrap64 (2*(j:Int))=(i:Int):=by rw [hi];exact (IntWalk.wrap64_in _ ⟨by omega,by omega⟩).trans (by omega)
   have v1b:IntKind.i64.wrap (2*(j:Int))=(i:Int):=by rw [hi];exact (IntWalk.i64_in _ ⟨by omega,by omega⟩).trans (by omega)
   have v2:IntKind.i64.wrap ((i:Int)+1)=(i:Int)+1:=IntWalk.i64_in _ ⟨by omega,by omega⟩;have v3:(0:Int)≤(i:Int)+1:=by omega
   have v4:(i:Int)+1<16:=by omega
   have v5:((i:Int)+1).toNat=i+1:=by omega
   have v6:(i:Int)<16:=by omega
   have v7:wrap64 (16*(x:Int))=16*(x:Int):=IntWalk.wrap64_in _ ⟨by omega,by omega⟩;have v7b:IntKind.i64.wrap (16*(x:Int))=16*(x:Int):=IntWalk.i64_in _ ⟨by omega,by omega⟩;have v8:IntKind.i64.wrap (16*(x:Int)+(y:Int))=16*(x:Int)+(y:Int):=IntWalk.i64_in _ ⟨by omega,by omega⟩;have v9:IntKind.u8.wrap (16*(x:Int)+(y:Int))=(b.toNat:Int):=by rw [hbn,IntKind.wrap_u8];omega
   have hpre:(2::(hdB L).take j).length≤10:=by rw [List.length_cons,List.length_take];omega
   obtain ⟨P,hP⟩:∃ P,P=2::(hdB L).take j:=⟨_,rfl⟩
   rw [←hP] at hpre HNX ⊢;clear hx hy hb hnx hi hbn hP;have p1:P.length+1≤9223372036854775807:=by omega
   have q1:=run_conv1_drew (P:=Tryz.prog) wr b rfl 5 77 9 5 Tryz.underlying77 Tryz.underlying5 Tryz.underlying9
   have q2:=run_conv1_new (P:=Tryz.prog) wr b rfl 5 77 9 5 Tryz.underlying77 Tryz.underlying5 Tryz.underlying9
   go_wp2_with fail;go_region_law (fail)
   all_goals
    go_wp2_with fail;go_roundw
    case rel=>exact ⟨j+1,by omega,by go_num,by rw [zU HNX],by first | exact (zU HBX).alloc _ | exact ((zU HBX).alloc _).drew | exact (zU HBX).drew.alloc _⟩
    case measure=>simp [intOf];omega
  ·have hj':j=8:=by omega
   subst hj';rw [List.take_of_length_le (by rw [hdB_len];exact Nat.le_refl _),←zU HH]
   go_wp2_with (first
    | (refine wpList_load16 rfl (.tmp 3) rfl E rfl L (zU HL16) (zU HBX).o ?_))
   refine (zU c3 _).mono ?_;rintro e w6 ⟨rfl,hb6⟩;have H6:=zH ((zU HBX).below hb6);clear hb6;go_wp2_with fail;refine (zU c4 _).mono ?_;rintro e w7 ⟨rfl,hb7⟩;have H7:=zH ((zU H6).below hb7);clear hb7;go_wp2_with fail;go_ret;rw [zU HTH,←zU HB];exact ⟨rfl,(zU H7).bel⟩
end Go.Proofs.YtjpgoeimclipjaaGreat
namespace Go.Proofs.YtjpgoeimclipjaaGreat
open Go.RowKit Go.Lib Pl
attribute [local go_sem] ext_list app_list
attribute [local go_sem ↓] concat_list in
set_option maxHeartbeats 4000000 in
set_option maxRecDepth 100000 in
theorem packOf_any (dict text:Bytes) (w:World) (hd:dict.length≤256) (ht:text.length≤512) :
  Calls Tryz.prog 113 #[S dict,S text] w fun e w'=>e = .returned (S (pack dict text))∧Below w.heap.size w w':=by
 have c1:=zH (parseOf_walk dict text w hd ht);have hpl:=play_parse hd ht;have hsm:∀ t∈parse dict text,Small t:=play_each (by rw [hpl]);have hln:(parse dict text).length≤512:=play_room (by rw [hpl]);have c2:=fun (W:World) (A:Option Addr) (n cap:Nat) (h:ToksAt W W.heap.size A n (parse dict text))=>tokBytes_any A n cap _ W h (by have:=h.1;omega) hsm;have hs:=parse_small hd ht;have hpk:pack dict text=pack2 text (toksB (parse dict text)):=rfl;rw [hpk];obtain ⟨s,hse⟩:∃ s,s=toksB (parse dict text):=⟨_,rfl⟩
 rw [←hse] at c2 hs ⊢;have c2:=zH c2;have c3:=fun (W:World) (h:s≠[])=>third_any s W hs h;have hwh:=which text s;obtain ⟨T,hT⟩:∃ T,T=third s:=⟨_,rfl⟩
 have k1:[(0:UInt8)].length+text.length≤9223372036854775807:=by simp;omega
 have k2:[(1:UInt8)].length+s.length≤9223372036854775807:=by simp;omega
 have k3:1+text.length≤9223372036854775807:=by omega
 have k4:1+s.length≤9223372036854775807:=by omega
 have k5:text.length+1≤9223372036854775807:=by omega
 have k6:s.length+1≤9223372036854775807:=by omega
 obtain ⟨X,hX⟩:∃ X,X=pack2 text s:=⟨_,rfl⟩
 rw [←hX] at hwh ⊢;clear hpl hsm hln hpk hse hX;cases hwh with
 | a0 hne hlt he hX =>
  subst hne;subst hX;clear he c3 hT;have i3:text.length=0:=by have:([]:Bytes).length=0:=rfl;omega
  clear hlt;go_enter Tryz.func113,Tryz.ntmps113;go_wp2_with fail;refine (zU c1).mono ?_;rintro e w1 ⟨⟨v,rfl,A,n,cap,rfl,hat⟩,hb1⟩;have HAT:=zH hat;have H1:=zH hb1;clear hat hb1;go_wp2_with fail;refine (zU c2 _ _ _ _ (zU HAT)).mono ?_;rintro e w2 ⟨rfl,hb2⟩;have H2:=zH ((zU H1).trans (hb2.mono (zU H1).size));clear hb2;go_wp2_with fail;go_ret;exact ⟨rfl,zU H2⟩
 | a1 hne hlt he hX =>
  subst hne;subst hX;clear he c3 hT;have i3:0<text.length:=hlt;have i2:(0:Int)<(text.length:Int):=by omega
  clear hlt;go_enter Tryz.func113,Tryz.ntmps113;go_wp2_with fail;refine (zU c1).mono ?_;rintro e w1 ⟨⟨v,rfl,A,n,cap,rfl,hat⟩,hb1⟩;have HAT:=zH hat;have H1:=zH hb1;clear hat hb1;go_wp2_with fail;refine (zU c2 _ _ _ _ (zU HAT)).mono ?_;rintro e w2 ⟨rfl,hb2⟩;have H2:=zH ((zU H1).trans (hb2.mono (zU H1).size));clear hb2;go_wp2_with fail;go_ret;exact ⟨rfl,zU H2⟩
 | b0 hne hlt hcmp he hX =>
  have c3:=fun (W:World)=>c3 W hne;rw [←hT] at c3 hcmp hX;have c3:=zH c3;have i1:¬ (s.length:Int)+1<(text.length:Int)+1:=by omega
  have i2:¬ (s.length:Int)<(text.length:Int):=by omega
  have i3:text.length≤s.length:=by omega
  have j1:(T.length:Int)<(text.length:Int)+1:=by omega
  have j2:T.length<text.length+1:=by omega
  have m1:(s == [])=false:=by rw [beq_eq_false_iff_ne];exact hne
  have m2:(s != [])=true:=by rw [bne_iff_ne];exact hne
  rw [hX];clear hX he hne hcmp hlt hT;go_enter Tryz.func113,Tryz.ntmps113;go_wp2_with fail;refine (zU c1).mono ?_;rintro e w1 ⟨⟨v,rfl,A,n,cap,rfl,hat⟩,hb1⟩;have HAT:=zH hat;have H1:=zH hb1;clear hat hb1;go_wp2_with fail;refine (zU c2 _ _ _ _ (zU HAT)).mono ?_;rintro e w2 ⟨rfl,hb2⟩;have H2:=zH ((zU H1).trans (hb2.mono (zU H1).size));clear hb2;go_wp2_with fail;refine (zU c3 _).mono ?_;rintro e w3 ⟨rfl,hb3⟩;have H3:=zH ((zU H2).trans (hb3.mono (zU H2).size));clear hb3;go_wp2_with fail;go_ret;exact ⟨rfl,zU H3⟩
 | b1 hne hlt hcmp he hX =>
  have c3:=fun (W:World)=>c3 W hne;rw [←hT] at c3 hcmp hX;have c3:=zH c3;have i1:(s.length:Int)+1<(text.length:Int)+1:=by omega
  have i2:(s.length:Int)<(text.length:Int):=by omega
  have j1:(T.length:Int)<(s.length:Int)+1:=by omega
  have j2:T.length<s.length+1:=by omega
  have m1:(s == [])=false:=by rw [beq_eq_false_iff_ne];exact hne
  have m2:(s != [])=true:=by rw [bne_iff_ne];exact hne
  rw [hX];clear hX he hne hcmp hlt hT;go_enter Tryz.func113,Tryz.ntmps113;go_wp2_with fail;refine (zU c1).mono ?_;rintro e w1 ⟨⟨v,rfl,A,n,cap,rfl,hat⟩,hb1⟩;have HAT:=zH hat;have H1:=zH hb1;clear hat hb1;go_wp2_with fail;refine (zU c2 _ _ _ _ (zU HAT)).mono ?_;rintro e w2 ⟨rfl,hb2⟩;have H2:=zH ((zU H1).trans (hb2.mono (zU H1).size));clear hb2;go_wp2_with fail;refine (zU c3 _).mono ?_;rintro e w3 ⟨rfl,hb3⟩;have H3:=zH ((zU H2).trans (hb3.mono (zU H2).size));clear hb3;go_wp2_with fail;go_ret;exact ⟨rfl,zU H3⟩
 | c0 hne hlt hcmp he hX =>
  have c3:=fun (W:World)=>c3 W hne;rw [←hT] at c3 hcmp;have c3:=zH c3;have i1:¬ (s.length:Int)+1<(text.length:Int)+1:=by omega
  have i2:¬ (s.length:Int)<(text.length:Int):=by omega
  have i3:text.length≤s.length:=by omega
  have j1:¬ (T.length:Int)<(text.length:Int)+1:=by omega
  have j2:¬ T.length<text.length+1:=by omega
  have j3:text.length+1≤T.length:=by omega
  have j4:(text.length:Int)+1≤(T.length:Int):=by omega
  have m1:(s == [])=false:=by rw [beq_eq_false_iff_ne];exact hne
  have m2:(s != [])=true:=by rw [bne_iff_ne];exact hne
  rw [hX];clear hX he hne hcmp hlt hT;go_enter Tryz.func113,Tryz.ntmps113;go_wp2_with fail;refine (zU c1).mono ?_;rintro e w1 ⟨⟨v,rfl,A,n,cap,rfl,hat⟩,hb1⟩;have HAT:=zH hat;have H1:=zH hb1;clear hat hb1;go_wp2_with fail;refine (zU c2 _ _ _ _ (zU HAT)).mono ?_;rintro e w2 ⟨rfl,hb2⟩;have H2:=zH ((zU H1).trans (hb2.mono (zU H1).size));clear hb2;go_wp2_with fail;refine (zU c3 _).mono ?_;rintro e w3 ⟨rfl,hb3⟩;have H3:=zH ((zU H2).trans (hb3.mono (zU H2).size));clear hb3;go_wp2_with fail;go_ret;exact ⟨rfl,zU H3⟩
 | c1 hne hlt hcmp he hX =>
  have c3:=fun (W:World)=>c3 W hne;rw [←hT] at c3 hcmp;have c3:=zH c3;have i1:(s.length:Int)+1<(text.length:Int)+1:=by omega
  have i2:(s.length:Int)<(text.length:Int):=by omega
  have j1:¬ (T.length:Int)<(s.length:Int)+1:=by omega
  have j2:¬ T.length<s.length+1:=by omega
  have j3:s.length+1≤T.length:=by omega
  have j4:(s.length:Int)+1≤(T.length:Int):=by omega
  have m1:(s == [])=false:=by rw [beq_eq_false_iff_ne];exact hne
  have m2:(s != [])=true:=by rw [bne_iff_ne];exact hne
  rw [hX];clear hX he hne hcmp hlt hT;go_enter Tryz.func113,Tryz.ntmps113;go_wp2_with fail;refine (zU c1).mono ?_;rintro e w1 ⟨⟨v,rfl,A,n,cap,rfl,hat⟩,hb1⟩;have HAT:=zH hat;have H1:=zH hb1;clear hat hb1;go_wp2_with fail;refine (zU c2 _ _ _ _ (zU HAT)).mono ?_;rintro e w2 ⟨rfl,hb2⟩;have H2:=zH ((zU H1).trans (hb2.mono (zU H1).size));clear hb2;go_wp2_with fail;refine (zU c3 _).mono ?_;rintro e w3 ⟨rfl,hb3⟩;have H3:=zH ((zU H2).trans (hb3.mono (zU H2).size));clear hb3;go_wp2_with fail;go_ret;exact ⟨rfl,zU H3⟩
end Go.Proofs.YtjpgoeimclipjaaGreat
namespace Go.Proofs.YtjpgoeimclipjaaGreat
open Go.RowKit Go.Lib Pl
attribute [local go_sem] ext_list app_list
attribute [local go_sem] World.cell?_alloc_some in
set_option maxHeartbeats 2000000 in
set_option maxRecDepth 100000 in
theorem fileAt_any (A:Option Addr) (n cap:Nat) (A2:Option Addr) (n2 cap2:Nat) (a:Arc) (name:Bytes) (w:World) (h:ArcIn w A n A2 n2 a) (hn:n2≤1000000) :
  Calls Tryz.prog 80 #[arcV A n cap A2 n2 cap2,S name] w fun e w'=>((findF name a.fs=none∧e = .returned (I (-1)))∨(∃ i f,a.fs[i]? = some f∧findF name a.fs=some f∧e = .returned (I (i:Nat))))∧Below w.heap.size w w':=by
 obtain ⟨B,hB⟩:∃ B,B=w.heap.size:=⟨_,rfl⟩
 obtain ⟨w0,hw0⟩:∃ w0,w0=w.alloc (.cells #[.slice A n cap,.slice A2 n2 cap2] 33):=⟨_,rfl⟩
 have H0:=zH (show ABox A n cap A2 n2 cap2 a w w0 B by rw [hw0,hB];exact ABox.new h cap cap2);have hl2:=h.f.1;rw [←hB];have HB:=zH hB;have HW0:=zH hw0;clear hB hw0 h;go_enter Tryz.func80,Tryz.ntmps80;go_upto_region 1 with fail
 rw [←zU HW0,←zU HB];obtain ⟨q0,q1⟩:=(zU H0).c;go_wp2_with fail;go_loop [5] (fun iv=>∃ k:Nat,k≤n2∧iv = .int .i64 k∧findF name a.fs=findF name (a.fs.drop k)) (fun iv=>n2-(intOf iv).toNat)
 case atStart=>exact ⟨0,Nat.zero_le _,rfl,by simp⟩
 case round =>
  obtain ⟨k,hk,rfl,hs⟩:=hrel
  by_cases hkn:k<n2
  ·obtain ⟨b,off,f,rfl,hb,hf,x0,x1,x2,x3,x4⟩:=(zU H0).i.f.at_ (k:=k) hkn;have hfd:=find_drop (name:=name) hf;rw [hfd] at hs;have z1:(k:Int)<(n2:Int):=by omega
   by_cases hnm:f.name=name
   ·rw [if_pos hnm] at hs;have HS:=zH hs;have HF:=zH hf;have d1:(f.name == name)=true:=by simpa using hnm
    clear hs hf hfd hnm;go_wp2_with fail;go_ret;exact ⟨.inr ⟨k,f,zU HF,zU HS,rfl⟩,(zU H0).bel⟩
   ·rw [if_neg hnm] at hs;have HS:=zH hs;have d1:(f.name == name)=false:=by simpa using hnm
    clear hs hf hfd hnm;go_wp2_with fail;go_round
    case rel=>exact ⟨k+1,by omega,by go_num,zU HS⟩
    case measure=>simp [intOf];omega
  ·have hnone:findF name a.fs=none:=by rw [hs,List.drop_of_length_le (by omega)];rfl
   have HN:=zH hnone;have z1:¬ (k:Int)<(n2:Int):=by omega
   clear hs hnone;go_wp2_with fail;go_ret;exact ⟨.inl ⟨zU HN,rfl⟩,(zU H0).bel⟩
structure TxK (A:Option Addr) (n cap:Nat) (b off n2 cap2:Nat) (a:Arc) (f:Fil) (i:Nat) (w W:World) (B:Nat):Prop where
 ab:ABox A n cap (some ⟨b,off,none⟩) n2 cap2 a w W B
 d:W.cell? ⟨b,off+i*5+1,none⟩=some (I f.dict)
 k:W.cell? ⟨b,off+i*5+4,none⟩=some (S f.block)
theorem TxK.below {A:Option Addr} {n cap b off n2 cap2 i B:Nat} {a:Arc} {f:Fil} {w W W1:World} (h:TxK A n cap b off n2 cap2 a f i w W B) (hb:Below W.heap.size W W1):TxK A n cap b off n2 cap2 a f i w W1 B :=
 ⟨h.ab.below hb,(hb.cell (block_lt_of_cell h.d)).trans h.d,(hb.cell (block_lt_of_cell h.k)).trans h.k⟩
theorem TxK.drew {A:Option Addr} {n cap b off n2 cap2 i B:Nat} {a:Arc} {f:Fil} {w W:World} (h:TxK A n cap b off n2 cap2 a f i w W B):TxK A n cap b off n2 cap2 a f i w W.drew B:=h.below (Below.refl _ _).drew
set_option maxHeartbeats 4000000 in
set_option maxRecDepth 100000 in
theorem textAt_any (A:Option Addr) (n cap:Nat) (A2:Option Addr) (n2 cap2:Nat) (a:Arc) (i:Nat) (f:Fil) (w:World) (h:ArcIn w A n A2 n2 a) (hra:RightA a) (hz:FilSz f) (hf:a.fs[i]? = some f) :
  Calls Tryz.prog 87 #[arcV A n cap A2 n2 cap2,I i] w fun e w'=>e = .returned (S (textD a.ds f))∧Below w.heap.size w w':=by
 obtain ⟨B,hB⟩:∃ B,B=w.heap.size:=⟨_,rfl⟩
 obtain ⟨w0,hw0⟩:∃ w0,w0=w.alloc (.cells #[.slice A n cap,.slice A2 n2 cap2] 33):=⟨_,rfl⟩
 have H0:=zH (show ABox A n cap A2 n2 cap2 a w w0 B by rw [hw0,hB];exact ABox.new h cap cap2);have hl1:=h.s.1;have hl2:=h.f.1;have hi:=(List.getElem?_eq_some_iff.1 hf).1;have htx:=fileB_text (hra.fr.each f (List.mem_of_getElem? hf))
 obtain ⟨d,hd⟩:∃ d,dictO a.ds f.dict=some d:=by
  unfold textO at htx;cases h:dictO a.ds f.dict with
  | none=>rw [h] at htx;cases htx
  | some d=>exact ⟨d,rfl⟩
 have hdl:=dictO_len hra.sd hd
 obtain ⟨t,hu⟩:∃ t,unpackO d f.block=some t:=by
  unfold textO sizedO at htx;rw [hd] at htx;simp only [Option.bind_some] at htx;cases h:unpackO d f.block with
  | none=>rw [h] at htx;cases htx
  | some t=>exact ⟨t,rfl⟩
 have htd:textD a.ds f=t:=by
  unfold textO sizedO at htx;rw [hd] at htx;simp only [Option.bind_some,hu] at htx
  split at htx
  ·injection htx with htx;exact htx.symm
  ·cases htx
 have KU:=zH (fun (W:World)=>unpackOf_some W hdl hz.bl hu);have KD:=zH (fun (W:World) (hW:ArcIn W A n A2 n2 a)=>dictOf_any A n cap A2 n2 cap2 a f.dict W hW (by have:=hra.nd;omega) (by rw [hd];rfl));rw [hd] at KD;rw [htd,←hB];obtain ⟨b,off,f',rfl,hb,hf',x0,x1,x2,x3,x4⟩:=(zU H0).i.f.at_ (k:=i) (by omega);obtain rfl:f'=f:=by rw [hf] at hf';injection hf' with e;exact e.symm
 have HT:=zH (show TxK A n cap b off n2 cap2 a f' i w w0 B from ⟨zU H0,x1,x4⟩);have HB:=zH hB;have HW0:=zH hw0;have z1:(i:Int)<(n2:Int):=by omega
 have z2:i<n2:=by omega
 have R:=zH (show (∀ W:World,TxK A n cap b off n2 cap2 a f' i w W B→W.cell? ⟨B,0,none⟩=some (.slice A n cap))∧(∀ W:World,TxK A n cap b off n2 cap2 a f' i w W B→W.cell? ⟨B,1,none⟩=some (.slice (some ⟨b,off,none⟩) n2 cap2))∧(∀ W:World,TxK A n cap b off n2 cap2 a f' i w W B→W.cell? ⟨b,off+i*5+1,none⟩=some (I f'.dict))∧(∀ W:World,TxK A n cap b off n2 cap2 a f' i w W B→W.cell? ⟨b,off+i*5+4,none⟩=some (S f'.block)) from ⟨fun W h=>h.ab.c.1,fun W h=>h.ab.c.2,fun W h=>h.d,fun W h=>h.k⟩);clear hB hw0 h hra hz hf hf' hi htx hd hdl hu htd hb x0 x1 x2 x3 x4 hl1 hl2;go_enter Tryz.func87,Tryz.ntmps87;go_upto_region 1 with fail
 rw [←zU HW0,←zU HB];obtain ⟨r1,r2,r3,r4⟩:=zU R
 go_region_held3 (fun w'=>TxK A n cap b off n2 cap2 a f' i w w' B) (first | exact (zU HT).drew | assumption | exact TxK.drew (by assumption) | exact TxK.below (by assumption) (by assumption))
  ((first
   | (go_at_call 85;have hAF:=‹TxK A n cap b off n2 cap2 a f' i w _ B›;refine (zU KD _ (by exact hAF.ab.i)).mono ?_;clear hAF;rintro e w4 ⟨rfl,hb4⟩)
   | (go_at_call 84;refine (zU KU _).mono ?_;rintro e w5 ⟨rfl,hb5⟩)))
 have HT5:=zH ‹TxK A n cap b off n2 cap2 a f' i w w5 B›;clear r1 r2 r3 r4;go_wp2_with fail;go_ret;exact ⟨rfl,(zU HT5).ab.bel⟩
end Go.Proofs.YtjpgoeimclipjaaGreat
namespace Go.Proofs.YtjpgoeimclipjaaGreat
open Go.RowKit Go.Lib Pl
attribute [local go_sem] ext_list app_list
structure AbC (A:Option Addr) (n cap:Nat) (A2:Option Addr) (n2 cap2:Nat) (W:World) (B:Nat):Prop where
 a:W.cell? ⟨B,0,none⟩=some (.slice A n cap)
 b:W.cell? ⟨B,1,none⟩=some (.slice A2 n2 cap2)
theorem AbC.below {A A2:Option Addr} {n cap n2 cap2 B:Nat} {W W1:World} (h:AbC A n cap A2 n2 cap2 W B) (hb:Below W.heap.size W W1):AbC A n cap A2 n2 cap2 W1 B :=
 ⟨(hb.cell (block_lt_of_cell h.a)).trans h.a,(hb.cell (block_lt_of_cell h.b)).trans h.b⟩
theorem AbC.drew {A A2:Option Addr} {n cap n2 cap2 B:Nat} {W:World} (h:AbC A n cap A2 n2 cap2 W B):AbC A n cap A2 n2 cap2 W.drew B:=⟨h.a,h.b⟩
theorem PK.abc {A A2:Option Addr} {n cap n2 cap2:Nat} {a:Arc} {w W:World} {B:Nat} (h:PK A n cap A2 n2 cap2 a w W B):AbC A n cap A2 n2 cap2 W B:=⟨h.ab.c.1,h.ab.c.2⟩
theorem five_cells {W:World} {p:Nat} {c:Array Value} {T:TypeId} (h:W.heap[p]? = some (.cells c T (0,0))) (i:Nat) (v:Value) (hv:c[i]? = some v):W.cell? ⟨p,i,none⟩=some v∧W.frozen? ⟨p,i,none⟩=false :=
 ⟨by rw [cell_of_row _ _ _ _ _ _ h];exact hv,by simp [World.frozen?,h]⟩
theorem set_five {W:World} {p:Nat} {a b c d e a' b' c' d' e':Value} {T:TypeId} (h:W.heap[p]? = some (.cells #[a,b,c,d,e] T (0,0))) :
  ((((W.setCell ⟨p,0,none⟩ a').setCell ⟨p,1,none⟩ b').setCell ⟨p,2,none⟩ c').setCell ⟨p,3,none⟩ d').setCell ⟨p,4,none⟩ e'=W.setRow p #[a',b',c',d',e']:=by
 have h1:=setRow_heap W p _ #[a',b,c,d,e] T _ h;have h2:=setRow_heap W p _ #[a',b',c,d,e] T _ h;have h3:=setRow_heap W p _ #[a',b',c',d,e] T _ h;have h4:=setRow_heap W p _ #[a',b',c',d',e] T _ h;rw [setCell_eq_setRow W p 0 _ T (0,0) a' h];show ((((W.setRow p #[a',b,c,d,e]).setCell _ b').setCell _ c').setCell _ d').setCell _ e'=_;rw [setCell_eq_setRow _ p 1 _ T (0,0) b' h1,setRow_setRow];show (((W.setRow p #[a',b',c,d,e]).setCell _ c').setCell _ d').setCell _ e'=_;rw [setCell_eq_setRow _ p 2 _ T (0,0) c' h2,setRow_setRow];show ((W.setRow p #[a',b',c',d,e]).setCell _ d').setCell _ e'=_;rw [setCell_eq_setRow _ p 3 _ T (0,0) d' h3,setRow_setRow];show (W.setRow p #[a',b',c',d',e]).setCell _ e'=_;rw [setCell_eq_setRow _ p 4 _ T (0,0) e' h4,setRow_setRow];rfl
set_option maxHeartbeats 4000000 in
set_option maxRecDepth 100000 in
theorem packedR_any (A:Option Addr) (n cap:Nat) (A2:Option Addr) (n2 cap2:Nat) (a:Arc) (name text:Bytes) (k:Int) (d:Bytes) (w:World) (h:ArcIn w A n A2 n2 a) (hn:n≤1000000) (hd:dictO a.ds k=some d) (hdl:d.length≤256) (ht:text.length≤512) :
  Calls Tryz.prog 79 #[arcV A n cap A2 n2 cap2,S name,S text,I k] w fun e w'=>e = .returned (filV (packedF a.ds name text k))∧Below w.heap.size w w':=by
 obtain ⟨B,hB⟩:∃ B,B=w.heap.size:=⟨_,rfl⟩
 obtain ⟨w0,hw0⟩:∃ w0,w0=(w.alloc (.cells #[.slice A n cap,.slice A2 n2 cap2] 33)).alloc (.cells zeroF 61):=⟨_,rfl⟩
 have h0:PK A n cap A2 n2 cap2 a w w0 B:=by rw [hw0,hB];exact PK.new h cap cap2
 have KD:=zH (fun (W:World) (hW:Below w0.heap.size w0 W)=>dictOf_any A n cap A2 n2 cap2 a k W (h0.below hW).ab.i (by omega) (by rw [hd];rfl));rw [hd] at KD
 have KP:∀ W,Below w0.heap.size w0 W→Calls Tryz.prog 113 #[S d,S text] W fun e w'=>e = .returned (S (pack d text))∧PK A n cap A2 n2 cap2 a w w' B:=fun W hW =>
  (packOf_any d text W hdl ht).mono fun e w' ⟨h1,h2⟩=>⟨h1,(h0.below hW).below h2⟩
 have KS:=fun (W:World)=>(sumOf_any text W (by omega)).mono fun e w' ⟨h1,h2⟩=>(⟨h1,h2.symm⟩:e=Ending.returned (I (sumOf text))∧w'=W)
 have hf:packedF a.ds name text k=⟨name,k,text.length,(sumOf text:Nat),pack d text⟩:=by unfold packedF;rw [hd];rfl
 rw [hf,←hB];obtain ⟨b,hb⟩:∃ b,b=pack d text:=⟨_,rfl⟩
 obtain ⟨s,hs⟩:∃ s,s=sumOf text:=⟨_,rfl⟩
 rw [←hb] at KP ⊢;rw [←hs] at KS ⊢;have KP:=zH KP;have KS:=zH KS;have H0:=zH h0;have HA:=zH h0.abc;have HB:=zH hB;have HW0:=zH hw0;have R:=zH (show (∀ W:World,AbC A n cap A2 n2 cap2 W B→W.cell? ⟨B,0,none⟩=some (.slice A n cap))∧(∀ W:World,AbC A n cap A2 n2 cap2 W B→W.cell? ⟨B,1,none⟩=some (.slice A2 n2 cap2)) from ⟨fun W h=>h.a,fun W h=>h.b⟩);clear hB hw0 h hd hf hb hs h0;go_enter Tryz.func79,Tryz.ntmps79;go_upto_region 1 with fail
 rw [←zU HW0,←zU HB];obtain ⟨r1,r2⟩:=zU R
 go_region_held3 (fun w'=>AbC A n cap A2 n2 cap2 w' B) (first | exact (zU HA).drew | assumption | exact AbC.drew (by assumption) | exact (zU HS4) | exact AbC.below (by assumption) (by assumption))
  ((first
   | (go_at_call 85;refine (zU KD _ (by first | exact (Below.refl _ _).drew | exact Below.refl _ _)).mono ?_;rintro e w4 ⟨rfl,hb4⟩)
   | (go_at_call 86;refine (zU KS _).mono ?_;rintro e w3 ⟨rfl,rfl⟩)
   | (go_at_call 113;refine (zU KP _ (by first | exact (Below.refl _ _).drew.trans (by assumption) | assumption)).mono ?_;rintro e w5 ⟨rfl,hp5⟩;have HP5:=zH hp5;have hA5:=hp5.abc;obtain ⟨y0,v0⟩:=five_cells hp5.z 0 _ rfl;obtain ⟨y1,v1⟩:=five_cells hp5.z 1 _ rfl;obtain ⟨y2,v2⟩:=five_cells hp5.z 2 _ rfl;obtain ⟨y3,v3⟩:=five_cells hp5.z 3 _ rfl;obtain ⟨y4,v4⟩:=five_cells hp5.z 4 _ rfl;have HS4:=zH (show AbC A n cap A2 n2 cap2 (((((w5.setCell ⟨B+1,0,none⟩ (S name)).setCell ⟨B+1,1,none⟩ (I k)).setCell ⟨B+1,2,none⟩ (I text.length)).setCell ⟨B+1,3,none⟩ (I s)).setCell ⟨B+1,4,none⟩ (S b)) B by rw [set_five hp5.z];exact ⟨by rw [setRow_cells (by simp)];exact hA5.a,by rw [setRow_cells (by simp)];exact hA5.b⟩);clear hp5)))
 all_goals
  rw [set_five (zU HP5).z];go_wp2_with fail;refine bodyPost_ret (results_cell_row rfl _ _ (B+1) 61 _ (0,0) _ rfl (setRow_heap _ _ _ _ _ _ (zU HP5).z) Tryz.underlying61 rfl sizeFil) rfl ⟨rfl,?_⟩;exact below_setRow (zU HP5).ab.bel (by omega) _
end Go.Proofs.YtjpgoeimclipjaaGreat
namespace Go.Proofs.YtjpgoeimclipjaaGreat
open Go.RowKit Go.Lib Pl
attribute [local go_sem] ext_list app_list
set_option maxRecDepth 100000 in
theorem run_append_strs (W:World) (ty:TypeId) (A:Option Addr) (n cap:Nat) (l:List Bytes) (hl:StrsAt W W.heap.size A n l) (hn:n≤1000000) :
  ∃ A' cap' w',(Builtin.append_ #[30,30] ty #[.slice (some ⟨W.heap.size,0,none⟩) 0 0,.slice A n cap]).run Tryz.prog (W.alloc (.cells #[] 9)) = .ok (.slice A' n cap') w'∧w'.ownsRow W.heap.size 9 1 (.slice A' n cap') n (l.map strS)∧Below W.heap.size W w':=by
 obtain ⟨i0,hi,hz0,hz1,hz2⟩:=info_parts info_str;have hln:=hl.1;have hmade:=World.ownsRow_made (e:=9) (base:=W.heap.size) (size:=1) W #[] 0 (Nat.le_refl _) (Nat.zero_le _) (by simp);have hbel:Below W.heap.size W (W.alloc (.cells #[] 9)):=(Below.refl _ _).alloc (Nat.le_refl _) _;cases A with
 | none =>
  have h0:n=0:=by
   rcases Nat.eq_zero_or_pos n with h | h
   ·exact h
   ·obtain ⟨b,off,e,_⟩:=hl.2 h;cases e
  subst h0;obtain rfl:l=[]:=List.eq_nil_of_length_eq_zero hln;refine ⟨some ⟨W.heap.size,0,none⟩,0,W.alloc (.cells #[] 9),?_,hmade,hbel⟩;simp [Builtin.append_,run_underlying Tryz.underlying30,sizeOf,typeInfo,hi,Builtin.lenOf,Builtin.firstCells,storeCells]
 | some ad =>
  have hc:∀ j u,(l.map strS)[j]? = some u→(W.alloc (.cells #[] 9)).cell? (ad.add j)=some u:=fun j u hj=>by
   rw [List.getElem?_map] at hj;cases hlj:l[j]? with
   | none=>rw [hlj] at hj;cases hj
   | some t =>
    rw [hlj] at hj;have hjl:=(List.getElem?_eq_some_iff.1 hlj).1;obtain ⟨b,off,e,hb,hcc⟩:=hl.2 (by omega);cases e;simp only [Option.map_some,Option.some.injEq] at hj;subst hj;rw [Addr.add_lit];exact (hbel.cell (p:=⟨b,off+j,none⟩) hb).trans (hcc j t hlj)
  obtain ⟨v',w',h1,h2,h3,_⟩:=run_append_own (P:=Tryz.prog) (W.alloc (.cells #[] 9)) W.heap.size 30 ty 9 i0 _ 1 16 Tryz.underlying30 hi hz0 hz1 hz2 rfl (by decide) _ 0 [] hmade ad n cap (l.map strS) (by simp;omega) hc (strS_one l) (by unfold maxLen;omega) (by omega) (by simp);rw [Nat.zero_add,List.nil_append] at h2;obtain ⟨A',cap',rfl,_⟩:=strsAt_of_own h2;exact ⟨A',cap',w',h1,h2,hbel.grown h3 (by simp) (fun k hk=>by simp [Value.ownBlock] at hk;omega)⟩
theorem wpList_append_strs {W:World} {ops:Array Oper} {rest:List Oper} {o:Oper} {a:Act} {Q:Exit→Act→World→Prop} (hgd:o.guard=none) (s x:Operand)
  (ho:o.op = .call { callee:=.builtin .append,args:=#[s,x],argTypes:=#[30,30] })
  (A:Option Addr) (n cap:Nat) (l:List Bytes) (hl:StrsAt W W.heap.size A n l) (hn:n≤1000000) (hs:a.eval s = .slice (some ⟨W.heap.size,0,none⟩) 0 0) (hx:a.eval x = .slice A n cap)
  (h:∀ A' cap' w',w'.ownsRow W.heap.size 9 1 (.slice A' n cap') n (l.map strS)→Below W.heap.size W w'→wpList Tryz.prog ops Q rest (a.put o.dst (.slice A' n cap')) w') :
  wpList Tryz.prog ops Q (o::rest) a (W.alloc (.cells #[] 9)):=by
 obtain ⟨A',cap',w',h1,h2,h3⟩:=run_append_strs W o.type A n cap l hl hn;exact Lib.wpList_append_run _ hgd s x _ _ ho _ _ hs hx _ _ h1 (h A' cap' w' h2 h3)
theorem step_push_fil {w:World} {ops:Array Oper} {o:Oper} {a:Act} {K:Act→World→Prop} {Q:Exit→Act→World→Prop} {E:Prop} (hgd:o.guard=none) (s x:Operand)
  (ho:o.op = .call { callee:=.builtin .append,args:=#[s,x],argTypes:=#[31,31] })
  (base:Nat) (v:Value) (n:Nat) (l:List Fil) (hs:a.eval s=v) (hown:w.ownsRow base 61 5 v n (filsCells l)) (t:Fil)
  (H:Nat) (hx:a.eval x = .slice (some ⟨H,0,none⟩) 1 1) (hc:w.heap[H]? = some (.cells (filA t) 61 (0,0)))
  (hn:n≤1000000) (hbase:base≤w.heap.size)
  (h:∀ A' cap' w',w'.ownsRow base 61 5 (.slice A' (n+1) cap') (n+1) (filsCells (l++[t]))→w.grownBy w' v.ownBlock→K (a.put o.dst (.slice A' (n+1) cap')) w') :
  if Region.wanted o (yielded ops a.tmps)=true then Oper.wp Tryz.prog o a w K Q else E:=by
 have hw:Region.wanted o (yielded ops a.tmps)=true:=by simp [Region.wanted,hgd]
 rw [if_pos hw];obtain ⟨i0,hi,hz0,hz1,hz2⟩:=info_parts info_fil;obtain ⟨v',w',h1,h2,h3,_⟩:=run_append_own (P:=Tryz.prog) w base 31 o.type 61 i0 _ 5 56 Tryz.underlying31 hi hz0 hz1 hz2 rfl (by decide) v n (filsCells l) hown ⟨H,0,none⟩ 1 1 (filCells t) rfl (VarF.cells ⟨hc⟩) (fil_one t) (by unfold maxLen;omega) (by omega) hbase;have h2':w'.ownsRow base 61 5 v' (n+1) (filsCells (l++[t])):=by rw [filsCells_snoc];exact h2
 obtain ⟨A',cap',rfl,_⟩:=filsAt_of_own h2';unfold Oper.wp execOp;simp only [ho,resolve,invoke,builtin,Sem.run_bind,Sem.run_pure,Result.andThen_ok,List.map_toArray,List.map_cons,List.map_nil,hs,hx,h1];exact h A' cap' w' h2' h3
theorem CompS.pushF {w W W':World} {B E P:Nat} {c0:Array Value} {v1 v2:Value} {x:Arc} (h:CompS w W B E P c0 v1 v2 x) {v2':Value} {f:Fil} (hg:W.grownBy W' v2.ownBlock) (hs:W'.ownsRow E 61 5 v2' (x.fs.length+1) (filsCells (x.fs++[f]))) :
  CompS w (W'.setCell ⟨P,1,none⟩ v2') B E P c0 v1 v2' ⟨x.ds,x.fs++[f]⟩∧W'.heap[P]? = some (.cells #[v1,v2] 33 (0,0))∧W'.heap[B]? = some (.cells c0 33 (0,0)):=by
 have h1:=h.lt;have h2:=h.be;have h3:=h.ep;have hP':W'.heap[P]? = some (.cells #[v1,v2] 33 (0,0)):=(hg.block P h1 h.ownP2).trans h.p;have hlo:∀ j,j<E→some j≠v2.ownBlock:=fun j hj e=>by have:=(h.o.f.lt j e.symm).1;omega
 have hrow:W'.setCell ⟨P,1,none⟩ v2'=W'.setRow P #[v1,v2']:=by rw [setCell_eq_setRow W' P 1 _ _ _ _ hP'];rfl
 rw [hrow]
 have hoth:∀ j,j<W.heap.size→j≠P→some j≠v2.ownBlock→(W'.setRow P #[v1,v2']).heap[j]? = W.heap[j]?:=fun j hj hne hno=>by
  rw [setRow_other W' P j _ hne];exact hg.block j hj hno
 have hd':W'.ownsRow E 9 1 v1 x.ds.length (x.ds.map strS):=h.o.s.kept hg (own_apart h.o.s h.o.f (by decide))
 have hPt:∀ {e size n:Nat} {v:Value} {xs:List Value},W'.ownsRow E e size v n xs→e≠33→∀ k,v.ownBlock=some k→k≠P:=fun ho hne k hk e=>by
  subst e;obtain ⟨c,g⟩:=own_obj ho hk;rw [hP'] at g;injection g with g
  injection g with _ g _
  exact hne g.symm
 refine ⟨⟨(hoth B (by omega) (by omega) (hlo B (by omega))).trans h.b,(hoth (B+1) (by omega) (by omega) (hlo (B+1) h2)).trans h.z,setRow_heap _ _ _ _ _ _ hP',⟨own_setRow hd' (hPt hd' (by decide)) _,?_⟩,h2,h3,?_⟩,hP',(hg.block B (by omega) (hlo B (by omega))).trans h.b⟩
 ·have:(x.fs++[f]).length=x.fs.length+1:=by simp
  show (W'.setRow P _).ownsRow E 61 5 v2' (x.fs++[f]).length _;rw [this];exact own_setRow hs (hPt hs (by decide)) _
 ·exact below_setRow (h.bel.grown hg (by omega) (fun k hk=>by have:=(h.o.f.lt k hk).1;omega)) (by omega) _
end Go.Proofs.YtjpgoeimclipjaaGreat
namespace Go.Proofs.YtjpgoeimclipjaaGreat
open Go.RowKit Go.Lib Pl
theorem enters {f:FuncId} {fn:Func} (hf:Tryz.prog.funcs[f]? = some fn) (hname:(fn.name == "runtime.NumGoroutine")=false) (hb:fn.body.isSome=true) (args:Array Value) (w:World):(callFunc f args).run Tryz.prog w = .ok (.enter f args) w:=by
 have h1:fn.name≠ "runtime.NumGoroutine":=by simpa using hname
 obtain ⟨c,hc⟩:=Option.isSome_iff_exists.1 hb;simp [callFunc,hf,h1,hc]
theorem packedR_enters (args:Array Value) (w:World):(callFunc 79 args).run Tryz.prog w = .ok (.enter 79 args) w :=
 enters Tryz.func79 (by kernel_rfl) (by kernel_rfl) args w
set_option maxRecDepth 100000 in
theorem step_call4 {w:World} {ops:Array Oper} {o:Oper} {a:Act} {K:Act→World→Prop} {Q:Exit→Act→World→Prop} {E:Prop} (hgd:o.guard=none) (f:Nat) (x1 x2 x3 x4:Nat) (ts:Array TypeId)
  (ho:o.op = .call { callee:=.value (.func f),args:=#[.tmp x1,.tmp x2,.tmp x3,.tmp x4],argTypes:=ts }) (v1 v2 v3 v4:Value) (h1:a.tmps[x1]?.getD undef=v1) (h2:a.tmps[x2]?.getD undef=v2) (h3:a.tmps[x3]?.getD undef=v3) (h4:a.tmps[x4]?.getD undef=v4)
  (hcall:∀ vals w,(callFunc f vals).run Tryz.prog w = .ok (.enter f vals) w) (h:Calls Tryz.prog f #[v1,v2,v3,v4] w fun e w'=>∃ v,e = .returned v∧K (a.put o.dst v) w') :
  if Region.wanted o (yielded ops a.tmps)=true then Oper.wp Tryz.prog o a w K Q else E:=by
 have hw:Region.wanted o (yielded ops a.tmps)=true:=by simp [Region.wanted,hgd]
 rw [if_pos hw]
 have hm:=h.mono (R':=fun e w'=>match e,w' with
  | .returned v,w''=>K (a.put o.dst v) w''
  | .panicked chain,w''=>Q (.panic chain) a w''
  | .outgrown,_=>LetsOut Q) (fun e w' ⟨v,he,hk⟩=>by subst he;exact hk)
 unfold Oper.wp execOp;simp [ho,resolve,invoke,go_sem,h1,h2,h3,h4];rw [hcall];exact hm
end Go.Proofs.YtjpgoeimclipjaaGreat
