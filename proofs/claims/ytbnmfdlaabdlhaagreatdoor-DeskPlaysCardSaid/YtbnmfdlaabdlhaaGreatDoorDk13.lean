/- Parts of the proofs. -/
import Derived.Test.YtbnmfdlaabdlhaaGreatDoorDk12
set_option maxHeartbeats 16000000
set_option maxRecDepth 100000
namespace Go.Proofs.YtbnmfdlaabdlhaaGreatDoor
section
open Go.RowKit Go.Lib Pl
attribute [local go_sem] qf qe
theorem PcAt.up{w w':World}{A:Option Addr}{n:Nat}{o:List (qa×Nat)}(h:PcAt w A n o)(hb:Below w.heap.size w w'):PcAt w' A n o :=
 ⟨h.1,fun hn=>by
  obtain⟨b,off,e,hlt,hc⟩:=h.2 hn
  exact⟨b,off,e,Nat.lt_of_lt_of_le hlt hb.size,fun i x hx=>by
   obtain⟨a,b⟩:=hc i x hx;exact⟨(hb.cell (p:=⟨_,_,none⟩) hlt).trans a,(hb.cell (p:=⟨_,_,none⟩) hlt).trans b⟩⟩⟩
theorem PcAt.at_{w:World}{A:Option Addr}{n k:Nat}{o:List (qa×Nat)}(h:PcAt w A n o)(hk:k<n):∃b off x,A=some ⟨b,off,none⟩/\b<w.heap.size/\o[k]?=some x/\w.cell? ⟨b,off+k*2,none⟩=some (S x.1)/\w.cell? ⟨b,off+k*2+1,none⟩=some (I x.2):=by
 obtain⟨b,off,e,hb,hc⟩:=h.2 (by omega);have hl:k<o.length:=by have:=h.1;omega
 exact⟨b,off,o[k],e,hb,zG hl,hc k _ (zG hl)⟩
theorem qrI{α:Type}{l:List α}{k:Nat}{t:α}(h:l[k]?=some t):l.drop k=t::l.drop (k+1):=by
 have hk:k<l.length:=(List.getElem?_eq_some_iff.1 h).1;rw[List.drop_eq_getElem_cons hk]
 congr 1
 rw[zG hk]at h;injection h
theorem qtP(A:Option Addr)(n cap:Nat)(l:List qa)(size:Nat)(w:World)(hm:MaxLenIs w)(hl:StrsAt w w.heap.size A n l)(hb:qc8 l=false)(hs:∀t∈l,t.length<=9223372036854775807)(hsz:size<=256) :
  Calls Tryz.prog 66 #[.slice A n cap,I size] w fun e w'=>e=.returned (.tuple #[S (qcf l size),I 0])/\Below w.heap.size w w'/\∃c,Cands l c:=by
 obtain⟨h12,hs2⟩:=qoI hb;have hn12:n<=12:=by have:=hl.1;omega
 have C0:=qoH A n cap l w hl (by omega) hs;rw[hb]at C0;have C0:=zH C0;have C1:=zH (qrc qt0 A n cap l w hl hn12 hs2);have HM:=zH hm;clear hb hs hs2 hm;go_enter Tryz.func66,Tryz.ntmps66;go_wp2_with fail;refine (zU C0).mono ?_;rintro e w1 ⟨rfl,rfl⟩;go_wp2_with fail;refine (zU C1).mono ?_;rintro e w1 ⟨⟨A1,n1,cap1,c,rfl,hc,hat,hn1b⟩,hb1⟩;have HC:=zH hc;have HAT:=zH hat;have hc4:∀p∈c,p.length=4:=fun p hp=>qbi ((hc.mem p).1 hp).1;have hcn:∀p,cnt l p<=12:=fun p=>Nat.le_trans (qo8 l p) h12;have HC4:=zH hc4;have HCN:=zH hcn;have hn1:c.length=n1:=by have:=hat.1;simpa using this
 have HN1:=zH hn1;clear hc hat hc4 hn1 hcn;go_wp2_with fail;go_loopw [6,20] (fun d i wr=>∃ (k:Nat) (dict:qa),k<=n1/\i=.int .i64 k/\d=S dict/\qcl size dict (c.drop k)=qcl size [] c/\dict.length<=size/\Below w1.heap.size w1 wr) (fun _ i _=>n1-(intOf i).toNat)
 case atStart=>exact⟨0,[],Nat.zero_le _,rfl,rfl,by simp,by simp,Below.refl _ _⟩
 case round =>
  obtain⟨k,dict,hk,rfl,rfl,hg,hdl,hbel⟩:=hrel;have HG:=zH hg;clear hg;have hml:=zH (((zU HM).up hb1).up hbel)
  by_cases hkn:k<n1
  ·obtain⟨b,off,x,rfl,hb,hx,q0,q1⟩:=((zU HAT).up hbel).at_ hkn
   have hck:c[k]?=some x.1/\x.2=cnt l x.1:=by
    rw[List.getElem?_map]at hx;cases hck:c[k]? with
    | none=>rw[hck]at hx;simp at hx
    | some p=>rw[hck]at hx;simp at hx;subst hx;exact⟨rfl,rfl⟩
   obtain⟨p,m⟩:=x;simp only at hck q0 q1;obtain⟨hck,hmc⟩:=hck;have hp4:=zU HC4 p (List.mem_of_getElem? hck);have hm12:m<=12:=by rw[hmc];exact zU HCN p
   have hdr:=qrI hck;have HDR:=zH hdr;have HP4:=zH hp4;clear hx hck hmc hdr hp4
   by_cases hz:size<dict.length+4
   ·have z1:decide ((dict.length:Int)+4 > (size:Int))=true:=by simp;omega
    have hres:qcf l size=dict:=by
     rw[qkQ (zU HC) hsz,<-zU HG,zU HDR,qcl,if_pos hz]
    have HRES:=zH hres;clear hres hz;go_wp2_with fail;go_ret2;exact⟨by rw[zU HRES];rfl,hb1.trans ((hbel.mono hb1.size).alloc (by have:=hb1.size;have:=hbel.size;omega) _),c,zU HC⟩
   ·have z1:decide ((dict.length:Int)+4 > (size:Int))=false:=by simp;omega
    have K1:=fun (W:World) (h:MaxLenIs W)=>qo6 dict p W h (by omega);cases hst:qK p dict with
    | true =>
     rw[hst]at K1;have K1:=zH K1;have HST:=zH hst;clear hst;go_wp2_with fail;refine (zU K1 _ ((zU hml).up ((Below.refl _ _).alloc (Nat.le_refl _) _))).mono ?_;rintro e w2 ⟨rfl,rfl⟩;go_wp2_with fail;go_roundw
     case rel =>
      refine⟨k+1,dict,by omega,by go_num,rfl,?_,hdl,hbel.alloc hbel.size _⟩;rw[<-zU HG,zU HDR,qcl,if_neg hz,if_pos (zU HST)]
     case measure=>simp[intOf];omega
    | false =>
     rw[hst]at K1;have K1:=zH K1;have HST:=zH hst;clear hst;go_wp2_with fail;refine (zU K1 _ ((zU hml).up ((Below.refl _ _).alloc (Nat.le_refl _) _))).mono ?_;rintro e w2 ⟨rfl,rfl⟩;have hpl:p.length<=4:=by have:=zU HP4;omega
     go_wp2_with fail;go_roundw
     case rel =>
      refine⟨k+1,p++dict,by omega,by go_num,rfl,?_,by have:=zU HP4;rw[zL];omega,hbel.alloc hbel.size _⟩;rw[<-zU HG,zU HDR,qcl,if_neg hz,if_neg (by rw[zU HST];simp)]
     case measure=>simp[intOf];omega
  ·have hres:qcf l size=dict:=by
    rw[qkQ (zU HC) hsz,<-zU HG,List.drop_of_length_le (by have:=zU HN1;omega)];rfl
   have HRES:=zH hres;have hk2:decide ((k:Int)<(n1:Int))=false:=by simp;omega
   clear hres;go_wp2_with fail;go_ret2;exact⟨by rw[zU HRES];rfl,hb1.trans (hbel.mono hb1.size),c,zU HC⟩
theorem qsg(A:Option Addr)(n cap:Nat)(l:List qa)(size:Int)(w:World)(hm:MaxLenIs w)(hl:StrsAt w w.heap.size A n l)(hn:n<=4611686018427387904)(hs:∀t∈l,t.length<=9223372036854775807) :
  Calls Tryz.prog 66 #[.slice A n cap,I size] w fun e w'=>e=.returned (.tuple #[S (qax l size),I (qbs l size)])/\Below w.heap.size w w'/\(qbs l size=0->∃c,Cands l c):=by
 have C0:=qoH A n cap l w hl hn hs
 by_cases h:qc8 l=true
 ·have e1:qbs l size=2:=by unfold qbs;rw[if_pos h]
  have e2:qax l size=[]:=by unfold qax;rw[if_pos h]
  rw[e1,e2];rw[h]at C0;have C0:=zH C0;clear e1 e2 h;go_enter Tryz.func66,Tryz.ntmps66;go_wp2_with fail;refine (zU C0).mono ?_;rintro e w1 ⟨rfl,rfl⟩;go_wp2_with fail;go_ret2;exact⟨rfl,Below.refl _ _,fun h=>by omega⟩
 ·have h:qc8 l=false:=by simpa using h
  by_cases hz:size<0\/256<size
  ·have e1:qbs l size=3:=by unfold qbs;rw[h,if_neg (by simp),if_pos hz]
   have e2:qax l size=[]:=by unfold qax;rw[h,if_neg (by simp),if_pos hz]
   rw[e1,e2];rw[h]at C0;have C0:=zH C0;clear e1 e2 h
   by_cases h0:size<0
   ·clear hz;go_enter Tryz.func66,Tryz.ntmps66;go_wp2_with fail;refine (zU C0).mono ?_;rintro e w1 ⟨rfl,rfl⟩;go_wp2_with fail;go_ret2;exact⟨rfl,Below.refl _ _,fun h=>by omega⟩
   ·have h1:256<size:=by omega
    have h2:0<=size:=by omega
    have e4:decide (size<0)=false:=by simp;omega
    clear hz h0;go_enter Tryz.func66,Tryz.ntmps66;go_wp2_with fail;refine (zU C0).mono ?_;rintro e w1 ⟨rfl,rfl⟩;go_wp2_with fail;go_ret2;exact⟨rfl,Below.refl _ _,fun h=>by omega⟩
  ·have e1:qbs l size=0:=by unfold qbs;rw[h,if_neg (by simp),if_neg hz]
   have e2:qax l size=qcf l size.toNat:=by unfold qax;rw[h,if_neg (by simp),if_neg hz]
   obtain⟨q,rfl⟩:=Int.eq_ofNat_of_zero_le (show 0<=size by omega);rw[e1,e2,Int.toNat_natCast];exact (qtP A n cap l q w hm hl h hs (by omega)).mono fun e w' ⟨h1,h2,h3⟩=>⟨h1,h2,fun _=>h3⟩
theorem AR.grownO{A A2:Option Addr}{n cap n2 cap2:Nat}{a:Arc}{w W W':World}{B:Nat}{row:Option Nat}(hi:ArcIn w A n A2 n2 a)(hB:B=w.heap.size)(h:AR A n cap A2 n2 cap2 a w W B)(hg:W.grownBy W' row)(hV:∀k,row=some k->B+1<k):AR A n cap A2 n2 cap2 a w W' B:=by
 have h1:=h.lt;have hb:Below B w W':=h.ab.bel.grown hg (by omega) (fun k hk=>by have:=hV k hk;omega);exact⟨⟨(hg.block B (by omega) (fun e=>by have:=hV B e.symm;omega)).trans h.ab.o,hi.up (by rw[<-hB];exact hb),hb⟩,(hg.block (B+1) h1 (fun e=>by have:=hV (B+1) e.symm;omega)).trans h.z⟩
structure RT(W:World)(P D tb o:Nat)(v1 v2:Value)(name t:qa):Prop where
 p0:W.cell? ⟨P,0,none⟩=some v1
 p1:W.cell? ⟨P,1,none⟩=some v2
 d0:W.cell? ⟨D,0,none⟩=some (S name)
 t0:W.cell? ⟨tb,o,none⟩=some (S t)
theorem RT.below{W W1:World}{P D tb o:Nat}{v1 v2:Value}{name t:qa}(h:RT W P D tb o v1 v2 name t)(hb:Below W.heap.size W W1):RT W1 P D tb o v1 v2 name t :=
 ⟨(hb.cell (block_lt_of_cell h.p0)).trans h.p0,(hb.cell (block_lt_of_cell h.p1)).trans h.p1,(hb.cell (block_lt_of_cell h.d0)).trans h.d0,(hb.cell (block_lt_of_cell h.t0)).trans h.t0⟩
theorem RT.drew{W:World}{P D tb o:Nat}{v1 v2:Value}{name t:qa}(h:RT W P D tb o v1 v2 name t):RT W.drew P D tb o v1 v2 name t:=h.below (Below.refl _ _).drew
theorem qkU{a:Arc}{k:Nat}{f:Fil}(h:a.fs[k]?=some f):(a.fs.take (k+1)).map (qH a.ds)=(a.fs.take k).map (qH a.ds)++[qH a.ds f]:=by
 rw[List.take_add_one,h,List.map_append];rfl
theorem qpC(A:Option Addr)(n cap:Nat)(A2:Option Addr)(n2 cap2:Nat)(a:Arc)(size:Int)(w:World)(h:ArcIn w A n A2 n2 a)(hz:ArcSz a)(hml:MaxLenIs w) :
  Calls Tryz.prog 33 #[qv A n cap A2 n2 cap2,I size] w fun e w'=>ArcRes w.heap.size (qaO a size) e w'/\Below w.heap.size w w':=by
 obtain⟨B,hB⟩:∃B,B=w.heap.size:=⟨_,rfl⟩
 obtain⟨w0,hw0⟩:∃w0,w0=(w.alloc (.cells #[.slice A n cap,.slice A2 n2 cap2] 33)).alloc (.cells #[.slice none 0 0,.slice none 0 0] 33):=⟨_,rfl⟩
 have H0:=zH (show AR A n cap A2 n2 cap2 a w w0 B by rw[hw0,hB];exact AR.new h cap cap2);have hl1:=h.s.1;have hl2:=h.f.1;have CK:∀W,AR A n cap A2 n2 cap2 a w W B->Calls Tryz.prog 56 #[qv A n cap A2 n2 cap2] W fun e w'=>e=.returned (I (qh a))/\Below W.heap.size W w':=fun W hW=>qcB A n cap A2 n2 cap2 a W hW.ab.i hz;obtain⟨r,hr⟩:∃r,r=qaO a size:=⟨_,rfl⟩
 rw[<-hr,<-hB];have hput:r=if qh a≠0 then (qG,qh a)else if qbs (qE a) size≠0 then (qG,qbs (qE a) size)else if 4<=a.ds.length then (qG,2)else (⟨a.ds++[qax (qE a) size],a.fs.map fun f=>qy (a.ds++[qax (qE a) size]) f.name (qH a.ds f) (a.ds.length+1:Nat)⟩,0):=hr
 have HB:=zH hB;have HW0:=zH hw0;have HI:=zH h;have HML:=zH hml;clear hB hw0 h hr hml
 by_cases hck:qh a≠0
 ·rw[if_pos hck]at hput;obtain⟨c,hc⟩:∃c,c=qh a:=⟨_,rfl⟩
  rw[<-hc]at CK hput hck;have CK:=zH CK;have d1:((c:Int) != 0)=true:=by rw[bne_iff_ne];omega
  have d2:((c:Int) == 0)=false:=by rw[zB];omega
  have d3:¬(c:Int)=0:=by omega
  subst hput;clear hck hc hz;go_enter Tryz.func33,Tryz.ntmps33;go_upto_region 1 with fail
  rw[<-zU HW0,<-zU HB];obtain⟨q0,q1⟩:=(zU H0).ab.c;go_wp2_with fail;refine (zU CK _ (zU H0)).mono ?_;rintro e w1 ⟨rfl,hb1⟩;have H1:=zH ((zU H0).below hb1);clear hb1 q0 q1;go_wp2_with (refine wpList_store_row rfl 33 (.tmp 4) (.tmp 21) rfl (B+1) #[.slice none 0 0,.slice none 0 0] rfl rfl 33 _ (zU H1).z qd rfl qae ?_);refine bodyPost_ret (qc rfl _ _ (B+1) 33 #[.slice none 0 0,.slice none 0 0] (0,0) _ rfl ((zU H1).end_ _).1 Tryz.underlying33 rfl qd) rfl ⟨⟨_,_,rfl,?_⟩,((zU H1).end_ _).2⟩;exact OwnA.nil _ _
 have hck0:qh a=0:=Decidable.not_not.1 hck;have hra:=(qak a).1 hck0;rw[if_neg hck]at hput;rw[hck0]at CK;have CK:=zH CK;have HRA:=zH hra;have h12:=hra.nf;have h4:=hra.nd;have HZ:=zH hz
 have CT:∀(f:Fil),f∈a.fs->∀W,AR A n cap A2 n2 cap2 a w W B->Calls Tryz.prog 65 #[qv A n cap A2 n2 cap2,qfn f] W fun e w'=>e=.returned (.tuple #[S (qH a.ds f),.bool true])/\Below W.heap.size W w':=fun f hf W hW=>by
  refine (qj6 A n cap A2 n2 cap2 a f W hW.ab.i (hz.fs f hf) (by have:=hz.nd;omega) hra.sd).mono ?_;rintro e w' ⟨hr,hb⟩;have ht:=qd9 (hra.fr.each f hf)
  rcases hr with⟨t,h1,h2⟩|⟨t,h1,_⟩
  ·rw[ht]at h1;injection h1 with h1;rw[<-h1]at h2;exact⟨h2,hb⟩
  ·rw[ht]at h1;cases h1
 have CT:=zH CT;have HP:=zH hput;clear hck hck0 hra hz hput;go_enter Tryz.func33,Tryz.ntmps33;go_upto_region 1 with fail
 rw[<-zU HW0,<-zU HB];obtain⟨q0,q1⟩:=(zU H0).ab.c;go_wp2_with fail;refine (zU CK _ (zU H0)).mono ?_;rintro e w1 ⟨rfl,hb1⟩;have H1:=zH ((zU H0).below hb1);clear hb1 q0 q1;obtain⟨q0,q1⟩:=(zU H1).ab.c;go_wp2_with fail;go_loopw [7,26,9,10,11] (fun lv iv _ _ _ wr=>∃ (k:Nat) (A1:Option Addr) (c1:Nat),k<=n2/\iv=.int .i64 k/\lv=.slice A1 k c1/\wr.ownsRow (B+2) 9 1 (.slice A1 k c1) k (((a.fs.take k).map (qH a.ds)).map qaE)/\AR A n cap A2 n2 cap2 a w wr B) (fun _ iv _ _ _ _=>n2-(intOf iv).toNat)
 case atStart=>exact⟨0,none,0,Nat.zero_le _,rfl,rfl,World.ownsRow_nil _ _ _ _,zU H1⟩
 case round =>
  clear q0 q1;obtain⟨k,A1,c1,hk,rfl,rfl,hown,hAR⟩:=hrel;have HOWN:=zH hown;have HAR:=zH hAR;obtain⟨q0,q1⟩:=hAR.ab.c
  by_cases hkn:k<n2
  ·obtain⟨b,off,f,rfl,hb,hf,x0,x1,x2,x3,x4⟩:=hAR.ab.i.f.at_ (k:=k) hkn;have hmem:=List.mem_of_getElem? hf;have htt:=qkU hf;have HTT:=zH htt;have C1:=zH (zU CT f hmem);obtain⟨t,ht⟩:∃t,t=qH a.ds f:=⟨_,rfl⟩
   rw[<-ht]at C1 HTT;have z1:(k:Int)<(n2:Int):=by omega
   clear hown hAR hf hmem htt ht;go_upto_region 8 with fail
   obtain⟨w2,hw2⟩:∃w2,w2=wr.alloc (.cells #[S f.name,I f.dict,I f.size,I f.sum,S f.block] 89):=⟨_,rfl⟩
   obtain⟨D,hD⟩:∃D,D=wr.heap.size:=⟨_,rfl⟩
   have F2:=zH (show w2.heap[D]?=some (.cells (qdu f) 89 (0,0))by rw[hw2,hD];exact heap_alloc_new _ _);have H2:=zH (show AR A n cap (some ⟨b,off,none⟩) n2 cap2 a w w2 B by rw[hw2];exact (zU HAR).below ((Below.refl _ _).alloc (Nat.le_refl _) _));have HO2:=zH (show w2.ownsRow (B+2) 9 1 (.slice A1 k c1) k (((a.fs.take k).map (qH a.ds)).map qaE)by rw[hw2];exact (zU HOWN).alloc _);rw[<-hw2,<-hD];clear hw2 hD q0 q1 x0 x1 x2 x3 x4;obtain⟨q0,q1⟩:=(zU H2).ab.c;have x0:w2.cell? ⟨D,0,none⟩=some (S f.name):=by rw[cell_of_row _ _ _ _ _ _ (zU F2)];rfl
   have x1:w2.cell? ⟨D,1,none⟩=some (I f.dict):=by rw[cell_of_row _ _ _ _ _ _ (zU F2)];rfl
   have x2:w2.cell? ⟨D,2,none⟩=some (I f.size):=by rw[cell_of_row _ _ _ _ _ _ (zU F2)];rfl
   have x3:w2.cell? ⟨D,3,none⟩=some (I f.sum):=by rw[cell_of_row _ _ _ _ _ _ (zU F2)];rfl
   have x4:w2.cell? ⟨D,4,none⟩=some (S f.block):=by rw[cell_of_row _ _ _ _ _ _ (zU F2)];rfl
   go_wp2_with fail;refine (zU C1 _ (zU H2)).mono ?_;rintro e w3 ⟨rfl,hb3⟩;have H3:=zH ((zU H2).below hb3);have HO3:=zH (qo (zU HO2) hb3);have hB3:B+2<=w3.heap.size:=(zU H3).lt;clear hb3 q0 q1 x0 x1 x2 x3 x4;go_wp2_with (at_builtin;refine qcv rfl (.tmp 36) (.tmp 38) rfl (B+2) _ k _ rfl (zU HO3) t w3.heap.size rfl rfl (by omega) hB3 ?_;intro A' cap' w5 hown5 hb5 hg5;have HOWN5:=zH hown5;have HG5:=zH hg5;clear hown5 hb5 hg5);go_roundw
   case rel =>
    refine⟨k+1,A',cap',by omega,by go_num,rfl,by rw[zU HTT];exact zU HOWN5,AR.grownO (zU HI) (zU HB) ((zU H3).below ((Below.refl _ _).alloc (Nat.le_refl _) _)) (zU HG5) (fun j hj=>?_)⟩;have:=(zU HO3).lt j hj;omega
   case measure=>simp[intOf];omega
  ·have hk2:k=n2:=by omega
   have hall:(a.fs.take k).map (qH a.ds)=qE a:=by rw[List.take_of_length_le (by omega)];rfl
   rw[hall]at HOWN hown;have hk3:¬(k:Int)<(n2:Int):=by omega
   have hk4:decide ((k:Int)<(n2:Int))=false:=by simp;omega
   obtain⟨A9,c9,he9,hat9,hl9⟩:=qat hown;injection he9 with e9a _ e9b
   subst e9a;subst e9b
   have CTR:=qsg A1 k c1 (qE a) size wr ((zU HML).up (by have:=hAR.ab.bel;rw[zU HB]at this;exact this)) hat9 (by omega) (fun t ht=>by
    obtain⟨f,_,rfl⟩:=List.mem_map.1 ht;have:=qeC (ds:=a.ds) (f:=f);omega)
   have hput:=zU HP;have htl:=qhe (qE a) size;obtain⟨te,hte⟩:∃te,te=qbs (qE a) size:=⟨_,rfl⟩
   obtain⟨td,htd⟩:∃td,td=qax (qE a) size:=⟨_,rfl⟩
   rw[<-hte,<-htd]at CTR hput;rw[<-htd]at htl;have CTR:=zH (show Calls Tryz.prog 66 #[.slice A1 k c1,I size] wr fun e w'=>e=.returned (.tuple #[S td,I te])/\Below wr.heap.size wr w' from CTR.mono fun e w' ⟨h1,h2,_⟩=>⟨h1,h2⟩);clear HP hall hown hat9 hl9 hAR q0 q1 hte htd hk2
   by_cases ht0:te≠0
   ·rw[if_pos ht0]at hput;have d1:((te:Int) != 0)=true:=by rw[bne_iff_ne];omega
    have d2:((te:Int) == 0)=false:=by rw[zB];omega
    have d3:¬(te:Int)=0:=by omega
    subst hput;clear ht0;go_wp2_with fail;refine (zU CTR).mono ?_;rintro e w5 ⟨rfl,hb5⟩;have H5:=zH ((zU HAR).below hb5);clear hb5;go_wp2_with (refine wpList_store_row rfl 33 (.tmp 4) (.tmp 49) rfl (B+1) #[.slice none 0 0,.slice none 0 0] rfl rfl 33 _ (zU H5).z qd rfl qae ?_);refine bodyPost_ret (qc rfl _ _ (B+1) 33 #[.slice none 0 0,.slice none 0 0] (0,0) _ rfl ((zU H5).end_ _).1 Tryz.underlying33 rfl qd) rfl ⟨⟨_,_,rfl,?_⟩,((zU H5).end_ _).2⟩;exact OwnA.nil _ _
   rw[if_neg ht0]at hput;have ht1:te=0:=Decidable.not_not.1 ht0;rw[ht1]at CTR;clear ht1
   by_cases h44:4<=a.ds.length
   ·rw[if_pos h44]at hput;have d1:((n:Int) == 4)=true:=by rw[beq_iff_eq];omega
    subst hput;clear ht0 h44;go_wp2_with fail;refine (zU CTR).mono ?_;rintro e w5 ⟨rfl,hb5⟩;have H5:=zH ((zU HAR).below hb5);clear hb5;obtain⟨q0,q1⟩:=(zU H5).ab.c;go_wp2_with (refine wpList_store_row rfl 33 (.tmp 4) (.tmp 55) rfl (B+1) #[.slice none 0 0,.slice none 0 0] rfl rfl 33 _ (zU H5).z qd rfl qae ?_);refine bodyPost_ret (qc rfl _ _ (B+1) 33 #[.slice none 0 0,.slice none 0 0] (0,0) _ rfl ((zU H5).end_ _).1 Tryz.underlying33 rfl qd) rfl ⟨⟨_,_,rfl,?_⟩,((zU H5).end_ _).2⟩;exact OwnA.nil _ _
   rw[if_neg h44]at hput;have d1:((n:Int) == 4)=false:=by rw[zB];omega
   have CC:∀W,AR A n cap A2 n2 cap2 a w W B->Calls Tryz.prog 59 #[qv A n cap A2 n2 cap2] W fun e w'=>∃A' cap' A2' cap2',e=.returned (.agg #[.slice A' n cap',.slice A2' n2 cap2'])/\OwnA w' W.heap.size (.slice A' n cap') (.slice A2' n2 cap2') a/\Below W.heap.size W w':=fun W hW=>by
    refine (qhQ A n cap A2 n2 cap2 a W hW.ab.i (by omega) (by omega)).mono ?_;rintro e w' ⟨v1,v2,he,ho,hb⟩;obtain⟨A',cap',A2',cap2',rfl,rfl,_⟩:=ho.form;rw[hl1]at he ho;rw[hl2]at he ho;exact⟨A',cap',A2',cap2',he,ho,hb⟩
   have CC:=zH CC;have HP:=zH hput;clear ht0 h44 hput;go_wp2_with fail;refine (zU CTR).mono ?_;rintro e w5 ⟨rfl,hb5⟩;have H5:=zH ((zU HAR).below hb5);have HT5:=zH (qo (zU HOWN) hb5);clear hb5;obtain⟨q0,q1⟩:=(zU H5).ab.c;go_wp2_with fail;refine (zU CC _ (zU H5)).mono ?_;rintro e w6 ⟨A',cap',A2',cap2',rfl,ho6,hb6⟩;have H6:=zH ((zU H5).below hb6);have HT6:=zH (qo (zU HT5) hb6);have HO6:=zH ho6;have HS6:=zH hb6.size;obtain⟨E,hE⟩:∃E,E=w5.heap.size:=⟨_,rfl⟩
   rw[<-hE]at HO6 HS6;have hBE:B+1<E:=by rw[hE];exact (zU H5).lt
   have hTE:∀j,(Value.slice A1 k c1).ownBlock=some j->j<E:=fun j hj=>by rw[hE];exact ((zU HT5).lt j hj).2
   clear hb6 ho6 q0 q1 hE;go_upto_region 17 with (refine wpList_store_row rfl 33 (.tmp 14) (.tmp 57) rfl w6.heap.size #[.slice A' n cap',.slice A2' n2 cap2'] rfl rfl 33 _ (heap_alloc_new _ _) qd rfl (qN _ _ _ _ _ _) ?_)
   obtain⟨w7,hw7⟩:∃w7,w7=(w6.alloc (.cells #[.slice none 0 0,.slice none 0 0] 33)).setRow w6.heap.size #[.slice A' n cap',.slice A2' n2 cap2']:=⟨_,rfl⟩
   obtain⟨P,hP⟩:∃P,P=w6.heap.size:=⟨_,rfl⟩
   have hb7:Below w6.heap.size w6 w7:=by rw[hw7];exact below_setRow ((Below.refl _ _).alloc (Nat.le_refl _) _) (Nat.le_refl _) _
   have S7:=zH (show CompS w w7 B E P #[.slice A n cap,.slice A2 n2 cap2] (.slice A' n cap') (.slice A2' n2 cap2') ⟨a.ds,a.fs⟩by
    have h7:=(zU H6).below hb7;exact⟨h7.ab.o,h7.z,by rw[hw7,hP];exact setRow_heap _ _ _ _ _ _ (heap_alloc_new _ _),(zU HO6).below hb7,hBE,by rw[hP];exact zU HS6,h7.ab.bel⟩)
   have HT7:=zH (qo (zU HT6) hb7);rw[<-hw7,<-hP];clear hb7 hw7 hP;obtain⟨p0,p1,p2,p3⟩:=(zU S7).cells;have hEs:E<=w7.heap.size:=by have:=(zU S7).lt;have:=(zU S7).ep;omega
   have HOD:=zH (show w7.ownsRow E 9 1 (.slice A' n cap') n (a.ds.map qaE)by have:=(zU S7).o.s;rw[show (⟨a.ds,a.fs⟩:Arc).ds.length=n from hl1]at this;exact this);go_upto_region 18 with (at_builtin;refine qcv rfl (.tmp 59) (.tmp 61) rfl E _ n _ rfl (zU HOD) td w7.heap.size rfl rfl (by omega) hEs ?_;intro A8 cap8 w8 hown8 hb8 hg8;have hpush:=CompS.push (v1':=.slice A8 (n+1) cap8) (d:=td) ((zU S7).below ((Below.refl w7.heap.size w7).alloc (Nat.le_refl _) (.cells #[S td] 9))) hg8 (by show w8.ownsRow E 9 1 _ (a.ds.length+1) _;rw[hl1];exact hown8);have HPUSH:=zH hpush;obtain⟨u0,u1,u2,u3⟩:=qk hpush.2.1;clear hown8 hb8 hg8 hpush)
   obtain⟨w9,hw9⟩:∃w9,w9=w8.setCell ⟨P,0,none⟩ (.slice A8 (n+1) cap8):=⟨_,rfl⟩
   have HP8:=zU HPUSH;rw[<-hw9]at HP8 ⊢;obtain⟨hS9,_,hoth⟩:=HP8;have HS9:=zH hS9
   have HT9:=zH (show w9.ownsRow (B+2) 9 1 (.slice A1 k c1) k ((qE a).map qaE)by
    have ht:=(zU HT7)
    refine⟨ht.1,?_⟩
    rcases ht.2 with hn|⟨g,cap,cur,hv,hbb,hgg,rest⟩
    ·exact .inl hn
    ·have hgE:=hTE g (by rw[hv];rfl);have hgl:=(zE hgg).1;refine .inr ⟨g,cap,cur,hv,hbb,?_,rest⟩;rw[hoth g (by simp;omega) (by have:=(zU S7).ep;omega) (fun e=>by have:=((zU HOD).lt g e.symm).1;omega)];exact (Below.heap_alloc _ _ g hgl).trans hgg)
   clear hS9 hoth hw9 HPUSH u0 u1 u2 u3 p0 p1 p2 p3;obtain⟨q0,q1,_,_⟩:=qk (zU HS9).b;go_wp2_with fail;go_loopw [67,15,16] (fun iv _ _ wr=>∃j:Nat,j<=n2/\iv=.int .i64 j/\CompS w wr B E P #[.slice A n cap,.slice A2 n2 cap2] (.slice A8 (n+1) cap8) (.slice A2' n2 cap2') ⟨a.ds++[td],(a.fs.take j).map (fun f=>qy (a.ds++[td]) f.name (qH a.ds f) ((a.ds.length+1:Nat):Int))++a.fs.drop j⟩/\wr.ownsRow (B+2) 9 1 (.slice A1 k c1) k ((qE a).map qaE)) (fun iv _ _ _=>n2-(intOf iv).toNat)
   case atStart=>exact⟨0,Nat.zero_le _,rfl,by simpa using zU HS9,zU HT9⟩
   case round =>
    have hkk:n2<=k:=by omega
    clear q0 q1 hk hkn hk3 hk4;obtain⟨j,hj,rfl,hS,hT⟩:=hrel;have HSX:=zH hS;have HTX:=zH hT;obtain⟨q0,q1,_,_⟩:=qk hS.b;obtain⟨p0,p1,p2,p3⟩:=hS.cells
    by_cases hjn:j<n2
    ·have hin:=(zU HI).up (by rw[<-zU HB];exact hS.bel);obtain⟨b,off,f,rfl,hb,hf,x0,x1,x2,x3,x4⟩:=hin.f.at_ (k:=j) hjn;have hds:=qm9 (g:=fun f=>qy (a.ds++[td]) f.name (qH a.ds f) ((a.ds.length+1:Nat):Int)) hf;obtain⟨l,hl⟩:∃l,l=(a.fs.take j).map (fun f=>qy (a.ds++[td]) f.name (qH a.ds f) ((a.ds.length+1:Nat):Int))++a.fs.drop j:=⟨_,rfl⟩
     rw[<-hl]at hds hS;have hll:l.length=n2:=by rw[hl];simp;omega
     obtain⟨gf,hgf⟩:∃gf,gf=qy (a.ds++[td]) f.name (qH a.ds f) ((a.ds.length+1:Nat):Int):=⟨_,rfl⟩
     obtain⟨hds1,hds2⟩:=hds;simp only[<-hgf]at hds2
     have hof:wr.ownsRow E 89 5 (.slice A2' n2 cap2') n2 (qb l):=by
      have:=hS.o.f;rw[show (⟨a.ds++[td],l⟩:Arc).fs.length=n2 from hll]at this;exact this
     obtain⟨g,rfl⟩:∃g,A2'=some ⟨g,0,none⟩:=by
      rcases qck hof with⟨_,h0,_⟩|⟨g,gc,hv⟩
      ·omega
      ·injection hv with hv;exact⟨g,hv⟩
     obtain⟨A9,c9,he9,hat9,hl9⟩:=qat hT;injection he9 with e9a _ e9b
     subst e9a;subst e9b;obtain⟨tb,tof,t,rfl,htb,htx,ht0⟩:=hat9.at_ (k:=j) (by omega)
     have htf:t=qH a.ds f:=by
      have:(qE a)[j]?=some (qH a.ds f):=by unfold qE;rw[List.getElem?_map,hf];rfl
      rw[this]at htx;injection htx with htx;exact htx.symm
     have htl5:t.length<=512:=by rw[htf];exact qeC
     -- the file's variable
     obtain⟨w2,hw2⟩:∃w2,w2=wr.alloc (.cells #[S f.name,I f.dict,I f.size,I f.sum,S f.block] 89):=⟨_,rfl⟩
     obtain⟨D,hD⟩:∃D,D=wr.heap.size:=⟨_,rfl⟩
     have hbw2:Below wr.heap.size wr w2:=by rw[hw2];exact (Below.refl _ _).alloc (Nat.le_refl _) _
     have hS2:=hS.below hbw2;have hT2:=qo hT hbw2;have hof2:=qo hof hbw2;have hRT:RT w2 P D tb (tof+j) (.slice A8 (n+1) cap8) (.slice (some ⟨g,0,none⟩) n2 cap2') f.name t:=⟨hS2.cells.1,hS2.cells.2.1,by rw[hw2,hD,World.cell?_alloc_new];rfl,(hbw2.cell (p:=⟨tb,tof+j,none⟩) htb).trans ht0⟩
     have harc:ArcIn w2 A8 (n+1) (some ⟨g,0,none⟩) n2 ⟨a.ds++[td],l⟩:=by
      obtain⟨Aa,ca,ea,ha,_⟩:=qat hS2.o.s;obtain⟨Ab,cb,eb,hb,_⟩:=qbg hof2;injection ea with ea1 ea2 _
      injection eb with eb1 _ _
      subst ea1;subst eb1;rw[<-ea2]at ha;exact⟨ha,hb⟩
     have hdo:qL (a.ds++[td]) ((a.ds.length+1:Nat):Int)=some td:=by
      have:=qhM (ds:=a.ds++[td]) (j:=a.ds.length) (t:=td) (by simp);rw[show ((a.ds.length+1:Nat):Int)=(a.ds.length:Int)+1 from by omega];exact this
     have KP:∀W,Below w2.heap.size w2 W->Calls Tryz.prog 60 #[.agg #[.slice A8 (n+1) cap8,.slice (some ⟨g,0,none⟩) n2 cap2'],S f.name,S t,I ((n:Int)+1)] W fun e w'=>e=.returned (qfn gf)/\Below W.heap.size W w':=fun W hW=>by
      have:=qla A8 (n+1) cap8 (some ⟨g,0,none⟩) n2 cap2' ⟨a.ds++[td],l⟩ f.name t ((a.ds.length+1:Nat):Int) td W (harc.up hW) (by omega) (by omega) (by omega) hdo htl htl5;rw[show (n:Int)+1=((a.ds.length+1:Nat):Int)from by omega,hgf,<-htf];exact this
     have hset:∀W4,Below w2.heap.size w2 W4->(∀i v,(qr f)[i]?=some v->W4.cell? ⟨g,j*5+i,none⟩=some v/\W4.frozen? ⟨g,j*5+i,none⟩=false)/\CompS w (W4.setCells g (j*5) (qr gf)) B E P #[.slice A n cap,.slice (some ⟨b,off,none⟩) n2 cap2] (.slice A8 (n+1) cap8) (.slice (some ⟨g,0,none⟩) n2 cap2') ⟨a.ds++[td],(a.fs.take (j+1)).map (fun f=>qy (a.ds++[td]) f.name (qH a.ds f) ((a.ds.length+1:Nat):Int))++a.fs.drop (j+1)⟩/\(W4.setCells g (j*5) (qr gf)).ownsRow (B+2) 9 1 (.slice (some ⟨tb,tof,none⟩) k c1) k ((qE a).map qaE)/\RT (W4.setCells g (j*5) (qr gf)) P D tb (tof+j) (.slice A8 (n+1) cap8) (.slice (some ⟨g,0,none⟩) n2 cap2') f.name t:=fun W4 hW4=>by
      have hS4:=hS2.below hW4;have hT4:=qo hT2 hW4;have hof4:=qo hof2 hW4;obtain⟨s1,s2,s3,_⟩:=qlc hof4 hjn gf;have hgD:D≠g:=by have:=(hof.lt g rfl).2;omega
      have hgT:tb≠g:=by
       rcases qcx hT4 hof4 (by decide)with h0|h0
       ·simp[Value.ownBlock]at h0
       ·intro e;apply h0;simp[Value.ownBlock,e]
      have hgP:P≠g:=by
       intro e;apply hS4.ownP2;simp[Value.ownBlock,e]
      have hR4:=hRT.below hW4;refine⟨fun i v hv=>?_,?_,hT4.kept s3 (qcx hT4 hof4 (by decide)),⟨?_,?_,?_,?_⟩⟩
      rotate_left 2
      ·rw[World.cell?_setCells_out _ _ _ _ _ (fun h _=>absurd h hgP)];exact hR4.p0
      ·rw[World.cell?_setCells_out _ _ _ _ _ (fun h _=>absurd h hgP)];exact hR4.p1
      ·rw[World.cell?_setCells_out _ _ _ _ _ (fun h _=>absurd h hgD)];exact hR4.d0
      ·rw[World.cell?_setCells_out _ _ _ _ _ (fun h _=>absurd h hgT)];exact hR4.t0
      ·obtain⟨cur,_,hg,hnc,_,hsz,ht⟩:=qbr hof4;have hi5:i<5:=(List.getElem?_eq_some_iff.1 hv).1;refine⟨?_,by simp[World.frozen?,hg]⟩;rw[cell_of_row _ _ _ cur _ _ hg];have hx:=qct l j f hds1
       have:(qb l)[j*5+i]?=some v:=by
        obtain⟨y0,y1,y2,y3,y4⟩:=hx
        rcases (show i=0\/i=1\/i=2\/i=3\/i=4 by omega)with h|h|h|h|h <;> subst h <;> simp[qr]at hv <;> subst hv <;> assumption
       rw[<-ht,List.getElem?_take]at this
       split at this
       ·simpa using this
       ·cases this
      ·have hlen2:((a.fs.take (j+1)).map (fun f=>qy (a.ds++[td]) f.name (qH a.ds f) ((a.ds.length+1:Nat):Int))++a.fs.drop (j+1)).length=n2:=by simp;omega
       rw[hds2]at s2;refine hS4.turn s3 ?_;rw[hlen2];exact s2
     have KP:=zH KP;have HSET:=zH hset;have HRT:=zH hRT;have R:=zH (show (∀W:World,RT W P D tb (tof+j) (.slice A8 (n+1) cap8) (.slice (some ⟨g,0,none⟩) n2 cap2') f.name t->W.cell? ⟨P,0,none⟩=some (.slice A8 (n+1) cap8))/\(∀W:World,RT W P D tb (tof+j) (.slice A8 (n+1) cap8) (.slice (some ⟨g,0,none⟩) n2 cap2') f.name t->W.cell? ⟨P,1,none⟩=some (.slice (some ⟨g,0,none⟩) n2 cap2'))/\(∀W:World,RT W P D tb (tof+j) (.slice A8 (n+1) cap8) (.slice (some ⟨g,0,none⟩) n2 cap2') f.name t->W.cell? ⟨D,0,none⟩=some (S f.name))/\(∀W:World,RT W P D tb (tof+j) (.slice A8 (n+1) cap8) (.slice (some ⟨g,0,none⟩) n2 cap2') f.name t->W.cell? ⟨tb,tof+j,none⟩=some (S t))from ⟨fun W h=>h.p0,fun W h=>h.p1,fun W h=>h.d0,fun W h=>h.t0⟩);have hw2':=hw2.symm;have hD':=hD.symm;have z1:(j:Int)<(n2:Int):=by omega
     have z2:(j:Int)<(k:Int):=by omega
     clear hset hRT harc hof hof2 hT2 hS2 hbw2 hds1 hds2 hl hll hf hin hat9 hl9 htx ht0 htf hgf hw2 hD hS hT p0 p1 p2 p3;go_upto_region 21 with fail
     try rw[hw2']
     try rw[hD']
     clear x0 x1 x2 x3 x4 q0 q1;obtain⟨r1,r2,r3,r4⟩:=zU R;go_wp2_with fail
     go_region_held3 (fun w'=>RT w' P D tb (tof+j) (.slice A8 (n+1) cap8) (.slice (some ⟨g,0,none⟩) n2 cap2') f.name t) (first|exact (zU HRT).drew|assumption|exact RT.drew (by assumption)|exact (zU HS4).2.2|exact RT.below (by assumption) (by assumption))
      ((first
       | (go_at_call 60;refine (zU KP _ (by first | exact (Below.refl _ _).drew | exact Below.refl _ _)).mono ?_;rintro e w4 ⟨rfl,hb4⟩;have hs4:=zU HSET w4 (by first | exact (Below.refl _ _).drew.trans hb4 | exact hb4);have HS4:=zH hs4.2;have y0:=hs4.1 0 _ rfl;have y1:=hs4.1 1 _ rfl;have y2:=hs4.1 2 _ rfl;have y3:=hs4.1 3 _ rfl;have y4:=hs4.1 4 _ rfl;clear hs4;obtain⟨y0,v0⟩:=y0;obtain⟨y1,v1⟩:=y1;obtain⟨y2,v2⟩:=y2;obtain⟨y3,v3⟩:=y3;obtain⟨y4,v4⟩:=y4;rw[Nat.add_zero]at y0 v0)))
     go_wp2_with fail;go_roundw
     case rel=>exact⟨j+1,by omega,by go_num,(zU HS4).1,(zU HS4).2.1⟩
     case measure=>simp[intOf];omega
    ·have hall:(a.fs.take j).map (fun f=>qy (a.ds++[td]) f.name (qH a.ds f) ((a.ds.length+1:Nat):Int))++a.fs.drop j=a.fs.map (fun f=>qy (a.ds++[td]) f.name (qH a.ds f) ((a.ds.length+1:Nat):Int)):=by
      rw[List.take_of_length_le (by omega),List.drop_of_length_le (by omega),List.append_nil]
     rw[hall]at hS;obtain⟨e1,e2,e3⟩:=qdm hS.z hS.be hS.o hS.bel;have E1:=zH e1;have E2:=zH e2;have E3:=zH e3;have HZR:=zH hS.z;have z1:¬(j:Int)<(n2:Int):=by omega
     have z2:decide ((j:Int)<(n2:Int))=false:=by simp;omega
     clear hall hS hT e1 e2 e3;go_wp2_with (refine wpList_store_row rfl 33 (.tmp 4) (.tmp 88) rfl (B+1) #[.slice A8 (n+1) cap8,.slice A2' n2 cap2'] rfl rfl 33 _ (zU HZR) qd rfl (qN _ _ _ _ _ _) ?_);refine bodyPost_ret (qc rfl _ _ (B+1) 33 #[.slice A8 (n+1) cap8,.slice A2' n2 cap2'] (0,0) _ rfl (zU E1) Tryz.underlying33 rfl qd) rfl ?_;rw[zU HP];exact⟨⟨_,_,rfl,zU E2⟩,zU E3⟩
theorem qcy(args:Array Value)(w:World):(callFunc 29 args).run Tryz.prog w=.ok (.enter 29 args) w :=
 qbn Tryz.func29 (by kernel_rfl) (by kernel_rfl) args w
theorem qew(args:Array Value)(w:World):(callFunc 27 args).run Tryz.prog w=.ok (.enter 27 args) w :=
 qbn Tryz.func27 (by kernel_rfl) (by kernel_rfl) args w
theorem qqf(args:Array Value)(w:World):(callFunc 28 args).run Tryz.prog w=.ok (.enter 28 args) w :=
 qbn Tryz.func28 (by kernel_rfl) (by kernel_rfl) args w
theorem qlR(args:Array Value)(w:World):(callFunc 33 args).run Tryz.prog w=.ok (.enter 33 args) w :=
 qbn Tryz.func33 (by kernel_rfl) (by kernel_rfl) args w
theorem qnS(args:Array Value)(w:World):(callFunc 35 args).run Tryz.prog w=.ok (.enter 35 args) w :=
 qbn Tryz.func35 (by kernel_rfl) (by kernel_rfl) args w
structure LV(w W:World)(p B:Nat)(Q:Nat->Prop)(A:Option Addr)(n cap:Nat)(A2:Option Addr)(n2 cap2:Nat)(a:Arc):Prop where
 v:TabV W p A n cap A2 n2 cap2 a
 f:qf5 (fun k=>Q k\/k=B) A A2
 j:LJ w W p B Q a
section
variable {w W W' : World} {p B : Nat} {A A2 : Option Addr} {n cap n2 cap2 : Nat} {a b : Arc} {Q : Nat -> Prop}
theorem LV.up(h:LV w W p B Q A n cap A2 n2 cap2 a)(hb:Below W.heap.size W W'):LV w W' p B Q A n cap A2 n2 cap2 a:=⟨h.v.up hb,h.f,h.j.up hb⟩
theorem LV.q(h:LV w W p B Q A n cap A2 n2 cap2 a)(hQ:∀k,Q k->k<w.heap.size):∀k,(Q k\/k=B)->k<W.heap.size:=fun k hk=>by
 have h1:=(zE h.j.c).1;have h2:=h.j.g.size
 rcases hk with hk|hk
 ·have:=hQ k hk;omega
 ·omega
theorem LV.sz(h:LV w W p B Q A n cap A2 n2 cap2 a):ArcSz a:=qgj h.v.ra
theorem LV.turn(h:LV w W p B Q A n cap A2 n2 cap2 a){C:Option Addr}{m k:Nat}{C2:Option Addr}{m2 k2:Nat}(ht:TabV W' p C m k C2 m2 k2 b)(hg:W.grownBy W' (some p))(hf:qf5 (fun k=>Q k\/k=B) C C2):LJ w W' p B Q b :=
 h.j.step ⟨_,_,_,_,_,_,ht,hf⟩ hg
end
theorem quy(p:Nat)(A:Option Addr)(n cap:Nat)(A2:Option Addr)(n2 cap2:Nat)(a:Arc)(s:qa)(w:World)(h:TabV w p A n cap A2 n2 cap2 a)(Q:Nat->Prop)(hQ:∀k,Q k->k<w.heap.size)(hfr:qf5 Q A A2)(hs:s.length<=16384) :
  Calls Tryz.prog 11 #[.pointer (some ⟨p,0,none⟩),S s] w fun e w'=>e=.returned (S (qhp a (qc9 a s)).2)/\Tab w' p Q (qhp a (qc9 a s)).1/\w.grownBy w' (some p):=by
 have hmf:∀(fn:Fn) (first cap:Array Value) (w:World),(Instr.makeFunc fn first cap).run Tryz.prog w=.ok (.func fn first cap) w:=fun _ _ _ _=>rfl;obtain⟨B,hB⟩:∃B,B=w.heap.size:=⟨_,rfl⟩
 obtain⟨w0,hw0⟩:∃w0,w0=w.alloc (.cells #[S []] 9):=⟨_,rfl⟩
 have hb0:Below w.heap.size w w0:=by rw[hw0];exact (Below.refl _ _).alloc (Nat.le_refl _) _
 have L0:=zH (show LV w w0 p B Q A n cap A2 n2 cap2 a from ⟨h.up hb0,h.free hfr (Nat.le_of_eq hB.symm),by rw[hw0,hB];exact heap_alloc_new w _,⟨_,_,_,_,_,_,h.up hb0,h.free hfr (Nat.le_of_eq hB.symm)⟩,qX hb0 _,Nat.le_of_eq hB.symm,by rw[hB];exact h.lt,h.hp⟩);have HQ:=zH hQ;have HB:=zH hB;have HW0:=zH hw0;obtain⟨r,hr⟩:∃r,r=qc9 a s:=⟨_,rfl⟩
 have hr5:=qkn a s;rw[<-hr]at hr5;rw[<-hr];have HR5:=zH hr5;have CC:=qhO s w0 (zU L0).v.dw hs;have hwl:=qcE s;unfold qc9 at hr;obtain⟨op,hop⟩:∃op,op=(qi s).1:=⟨_,rfl⟩
 obtain⟨rest,hrest⟩:∃rest,rest=(qi s).2.1:=⟨_,rfl⟩
 obtain⟨m,hm⟩:∃m,m=(qi s).2.2:=⟨_,rfl⟩
 rw[<-hop,<-hrest,<-hm]at CC;rw[<-hop,<-hrest,<-hm]at hr;rw[<-hop,<-hrest]at hwl;have CC:=zH CC;have HR:=zH hr;have hrl:rest.length<=16384:=by omega
 have HRL:=zH hrl;clear h hQ hfr hs hB hw0 hb0 hr hr5 hwl hop hrest hm hrl;go_enter_defers Tryz.func11,Tryz.ntmps11;go_upto_region 2 with fail
 rw[<-zU HW0,<-zU HB];go_wp2_with fail;refine (zU CC).mono ?_;rintro e w1 ⟨rfl,hb1⟩;have L1:=zH ((zU L0).up hb1);clear hb1;have CM:=zH (fun (e:Nat) (W:World) (he:e≠0)=>qfl e W he);have CM0:=zH (fun (W:World)=>qma W);cases m with
 | false =>
  have hr:=zU HR;rw[if_neg (by decide)]at hr;have CA:=qtI p A n cap A2 n2 cap2 a s w1 (zU L1).v _ ((zU L1).q (zU HQ)) (zU L1).f;rw[<-hr]at CA;have CA:=zH CA;clear hr;go_wp2_with fail;refine (zU CA).mono ?_;rintro e w2 ⟨hres,hg⟩
  by_cases he:r.1≠0
  ·rw[if_pos he]at hres;obtain⟨rfl,ht⟩:=hres;have J2:=zH ((zU L1).j.step ht hg);have HE:=zH he;clear hg ht he;go_wp2_with fail;exact qaf (zU J2) (by have:=zU HR5;omega) rfl rfl (fun x w' h=>by rw[qsW a (zU HE)];exact h)
  ·rw[if_neg he]at hres;obtain⟨rfl,ht⟩:=hres;have J2:=zH ((zU L1).j.step ht hg);have HE:=zH he;obtain⟨y0,y1⟩:=(zU J2).y;clear hg ht he;go_wp2_with fail;exact qeI (zU J2) rfl rfl (fun x w' h=>by rw[qul a (Decidable.not_not.1 (zU HE))];exact h)
 | true =>
  have hr:=zU HR;rw[if_pos rfl]at hr;unfold qlh at hr;have HR:=zH hr;clear hr
  by_cases h1:op=qfg
  ·have d1:(op == qfg)=true:=by simpa using h1
   unfold qfg at d1
   by_cases c1:(qi rest).2.2=true
   rotate_left
   ·have c1:(qi rest).2.2=false:=by simpa using c1
    have hrr:r=(1,a,wOk):=by
     rw[zU HR];rw[if_pos (.inl h1)];unfold qa7;rw[if_pos h1,if_pos (.inl c1)]
    have HRR:=zH hrr;clear hrr;have CU:=zH (qfc rest w1 (zU L1).v.dw (zU HRL) c1);clear h1 c1;go_wp2_with fail;refine (zU CU).mono ?_;rintro e w2 ⟨rfl,hb2⟩;have L2:=zH ((zU L1).up hb2);clear hb2;go_wp2_with fail;have J2:=zH (zU L2).j;exact qaf (zU J2) (by decide) rfl rfl (fun x w' h=>by rw[zU HRR,qam a _ _ (Nat.one_ne_zero)];exact h)
   have CU:=qfb rest w1 (zU L1).v.dw (zU HRL) c1;obtain⟨nm,hnm⟩:∃x,x=(qi rest).1:=⟨_,rfl⟩
   obtain⟨r2,hr2⟩:∃x,x=(qi rest).2.1:=⟨_,rfl⟩
   rw[<-hnm,<-hr2]at CU;have CU:=zH CU;have hl2:=qcE rest;rw[<-hnm,<-hr2]at hl2;have HL2:=zH hl2
   have hch:qa7 a op rest=if (qi r2).2.2=false\/qz (qi r2).1<0 then (a,1)else put a nm (qi r2).2.1 (qz (qi r2).1):=by
    unfold qa7;rw[if_pos h1,c1,hnm,hr2];simp
   have hr0:r=((qa7 a op rest).2,(qa7 a op rest).1,wOk):=by rw[zU HR,if_pos (.inl h1)]
   rw[hch]at hr0;have HR0:=zH hr0;have C2:=zH (fun (W:World) (hW:DW W)=>qhO r2 W hW (by have:=zU HRL;omega));clear h1 c1 hl2 hch hr0 hnm hr2;go_wp2_with fail;refine (zU CU).mono ?_;rintro e w2 ⟨rfl,hb2⟩;have L2:=zH ((zU L1).up hb2);clear hb2
   by_cases c2:(qi r2).2.2=true
   rotate_left
   ·have c2:(qi r2).2.2=false:=by simpa using c2
    have hrr:r=(1,a,wOk):=by rw[zU HR0,if_pos (.inl c2)]
    have HRR:=zH hrr;have CU2:=zH (qfc r2 w2 (zU L2).v.dw (by have:=zU HRL;have:=zU HL2;omega) c2);clear hrr c2;go_wp2_with fail;refine (zU CU2).mono ?_;rintro e w3 ⟨rfl,hb3⟩;have J3:=zH ((zU L2).up hb3).j;clear hb3;go_wp2_with fail;exact qaf (zU J3) (by decide) rfl rfl (fun x w' h=>by rw[zU HRR,qam a _ _ (Nat.one_ne_zero)];exact h)
   have CU2:=qfb r2 w2 (zU L2).v.dw (by have:=zU HRL;have:=zU HL2;omega) c2;obtain⟨dc,hdc⟩:∃x,x=(qi r2).1:=⟨_,rfl⟩
   obtain⟨tx,htx⟩:∃x,x=(qi r2).2.1:=⟨_,rfl⟩
   rw[<-hdc,<-htx]at CU2;have CU2:=zH CU2;have hl3:=qcE r2;rw[<-hdc,<-htx]at hl3;have HL3:=zH hl3;have hr1:=zU HR0;rw[c2,<-hdc,<-htx]at hr1;have HR1:=zH (show r=((if qz dc<0 then (a,1)else put a nm tx (qz dc)).2,(if qz dc<0 then (a,1)else put a nm tx (qz dc)).1,wOk)by rw[hr1];simp);clear hl3 hr1 c2 hdc htx;go_wp2_with fail;refine (zU CU2).mono ?_;rintro e w3 ⟨rfl,hb3⟩;have L3:=zH ((zU L2).up hb3);clear hb3;go_upto_region 9 with fail
   refine AnyK.begin (fun W=>W.cell? ⟨p,0,none⟩=some (.slice A n cap)/\W.cell? ⟨p,1,none⟩=some (.slice A2 n2 cap2)) 12 14 (by kernel_rfl) rfl ?_;have hs3:=(zU L3).v.c;refine AnyK.t 0 14 ?_ hs3 ?_ ?_ (hQ:=fun _ _ _ h=>qM rfl (by decide) h)
   rotate_left
   ·rintro W ⟨hS1,hS2⟩;go_simp
    try with_reducible rfl
   refine AnyK.t 1 14 ?_ hs3 ?_ ?_ (hQ:=fun _ _ _ h=>qM rfl (by decide) h)
   rotate_left
   ·rintro W ⟨hS1,hS2⟩;go_simp
    try with_reducible rfl
   refine AnyK.t 2 14 ?_ hs3 ?_ ?_ (hQ:=fun _ _ _ h=>qM rfl (by decide) h)
   rotate_left
   ·rintro W ⟨hS1,hS2⟩;go_simp
    try with_reducible rfl
   refine AnyK.t 3 14 ?_ hs3 ?_ ?_ (hQ:=fun _ _ _ h=>qM rfl (by decide) h)
   rotate_left
   ·rintro W ⟨hS1,hS2⟩;go_simp
    try with_reducible rfl
   refine AnyK.t 4 14 ?_ hs3 ?_ ?_ (hQ:=fun _ _ _ h=>qM rfl (by decide) h)
   rotate_left
   ·rintro W ⟨hS1,hS2⟩;go_simp
    try with_reducible rfl
   refine AnyK.t 5 14 ?_ hs3 ?_ ?_ (hQ:=fun _ _ _ h=>qM rfl (by decide) h)
   rotate_left
   ·rintro W ⟨hS1,hS2⟩;go_simp
    try with_reducible rfl
   refine AnyK.t 6 14 ?_ hs3 ?_ ?_ (hQ:=fun _ _ _ h=>qM rfl (by decide) h)
   rotate_left
   ·rintro W ⟨hS1,hS2⟩;go_simp
    try with_reducible rfl
   refine AnyK.t 7 14 ?_ hs3 ?_ ?_ (hQ:=fun _ _ _ h=>qM rfl (by decide) h)
   rotate_left
   ·rintro W ⟨hS1,hS2⟩;go_simp
    try with_reducible rfl
   refine AnyK.one 8 rfl (by kernel_rfl) (fun K hK=>?_)
   by_cases hn:0<=qz dc
   rotate_left
   ·have hrr:r=(1,a,wOk):=by rw[zU HR1,if_pos (by omega)]
    have HRR:=zH hrr;refine qC rfl 29 _ _ rfl #[S dc] (by simp[Act.eval]) qcy ((qe2 dc _ ((zU L3).v.dw.up (Below.refl _ _).drew) (by have:=zU HRL;have:=zU HL2;have:=zU HL3;omega) hn).mono ?_);rintro e w4 ⟨rfl,hb4⟩;have J4:=zH ((zU L3).up ((show Below w3.heap.size w3 w3.drew from (Below.refl _ _).drew).trans hb4)).j;refine .inr ⟨_,rfl,?_⟩;exact qaf (zU J4) (by decide) rfl rfl (fun x w' h=>by rw[zU HRR,qam a _ _ (Nat.one_ne_zero)];exact h)
   have hr1:=zU HR1;rw[if_neg (by omega)]at hr1;obtain⟨N,hN⟩:∃N,N=qz dc:=⟨_,rfl⟩
   have hN6:=(qgp hn).2.2.2;have CN:=qe1 dc w3.drew ((zU L3).v.dw.up (Below.refl _ _).drew) (by have:=zU HRL;have:=zU HL2;have:=zU HL3;omega) hn;rw[<-hN]at hr1 hn hN6 CN;have CP:=zH (fun (W:World) (hL:LV w W p B Q A n cap A2 n2 cap2 a)=>qvu A n cap A2 n2 cap2 a nm tx N W hL.v.inn hL.sz (by have:=zU HRL;have:=zU HL2;omega) (by have:=zU HRL;have:=zU HL2;have:=zU HL3;omega) (by omega) (by omega));have hra:=qsH a nm tx N;obtain⟨u,hu⟩:∃u,u=put a nm tx N:=⟨_,rfl⟩
   rw[<-hu]at hr1 CP hra;have HR2:=zH hr1;clear hr1 hN hn hN6 hu;refine qC rfl 29 _ _ rfl #[S dc] (by simp[Act.eval]) qcy (CN.mono ?_);rintro e w4 ⟨rfl,hb4⟩;refine .inl ⟨_,rfl,?_⟩;have L4:=zH ((zU L3).up ((show Below w3.heap.size w3 w3.drew from (Below.refl _ _).drew).trans hb4));have hs4:=(zU L4).v.c;clear hb4 hs3 CN;refine AnyK.o hK (fun _=>hs4) ?_;clear hK K;refine AnyK.one 9 rfl (by kernel_rfl) (fun K hK=>?_);refine qC rfl 28 _ _ rfl #[qv A n cap A2 n2 cap2,S nm,S tx,I N] (by simp[Act.eval]) qqf ((zU CP _ (zU L4)).mono ?_);rintro e w5 ⟨hres,hb5⟩;obtain⟨C1,m1,k1,C2',m2,k2,rfl,hin,hmk,hown⟩:=hres.open;refine .inl ⟨_,rfl,?_⟩;have L5:=zH ((zU L4).up hb5);have HF:=zH (hown.free ((zU L4).q (zU HQ)));have HO:=zH (hown.mono (show p+1<=w4.heap.size from (zU L4).v.lt));have hs5:=(zU L5).v.c;clear hb5 hs4 hres hin hmk hown;refine AnyK.o hK (fun _=>hs5) ?_;clear hK K;refine AnyK.t 10 14 ?_ hs5 ?_ ?_ (hQ:=fun _ _ _ h=>qM rfl (by decide) h)
   rotate_left
   ·rintro W ⟨hS1,hS2⟩;go_simp
    try with_reducible rfl
   refine AnyK.t 11 14 ?_ hs5 ?_ ?_ (hQ:=fun _ _ _ h=>qM rfl (by decide) h)
   rotate_left
   ·rintro W ⟨hS1,hS2⟩;go_simp
    try with_reducible rfl
   refine AnyK.one 12 rfl (by kernel_rfl) (fun K hK=>?_)
   by_cases he:u.2=0
   rotate_left
   ·have HRR:=zH (zU HR2);have HE:=zH he;refine qC rfl 27 _ _ rfl #[.pointer (some ⟨p,0,none⟩),qv C1 m1 k1 C2' m2 k2,I u.2] (by simp[Act.eval]) qew ((qf4 p (.slice C1 m1 k1) (.slice C2' m2 k2) u.2 w5 he).mono ?_);rintro e w6 ⟨rfl,hb6⟩;have J6:=zH ((zU L5).up hb6).j;refine .inr ⟨_,rfl,?_⟩;exact qaf (zU J6) (by have:=zU HR5;rw[zU HRR]at this;exact Nat.le_trans this (by decide)) rfl rfl (fun x w' h=>by rw[zU HRR,qam a _ _ (zU HE)];exact h)
   rw[he];have HRR:=zH (show r=(0,u.1,wOk)by rw[zU HR2,he]);refine qC rfl 27 _ _ rfl #[.pointer (some ⟨p,0,none⟩),qv C1 m1 k1 C2' m2 k2,I 0] (by simp[Act.eval]) qew ((qfF p w5 (zU L5).v (zU HO) hra).mono ?_);rintro e w6 ⟨rfl,ht6,hg6⟩;refine .inl ⟨_,rfl,?_⟩;have J6:=zH ((zU L5).turn ht6 hg6 (zU HF));obtain⟨y0,y1⟩:=(zU J6).y;clear ht6 hg6 hs5 he hra;refine AnyK.o hK (fun h=>absurd h (by decide)) ?_;clear hK K;refine AnyK.one 13 rfl (by kernel_rfl) (fun K hK=>?_);go_simp;refine AnyK.o hK (fun h=>absurd h (by decide)) ?_;clear hK K;refine AnyK.done (by kernel_rfl) ?_;go_wp2_with fail;exact qeI (zU J6) rfl rfl (fun x w' h=>by rw[zU HRR,qcS];exact h)
  have d1:(op == qfg)=false:=qaD h1;unfold qfg at d1
  by_cases h2:op=qdS
  ·have d2:(op == qdS)=true:=by simpa using h2
   unfold qdS at d2;have C2:=zH (qoV rest w1 (zU L1).v.dw (zU HRL))
   by_cases c1:(qi rest).2.2=true
   ·rw[c1]at C2;have C2:=zH (zU C2)
    have hrr:r=(1,a,wOk):=by
     rw[zU HR];rw[if_pos (.inr (.inl h2))];unfold qa7;rw[if_neg h1,if_pos h2,if_pos c1]
    have HRR:=zH hrr;clear hrr;clear c1 h1 h2;go_wp2_with fail;refine (zU C2).mono ?_;rintro e w2 ⟨rfl,hb2⟩;have J2:=zH ((zU L1).up hb2).j;clear hb2;go_wp2_with fail;refine (zU CM 1 _ (by decide)).mono ?_;rintro e wz ⟨rfl,rfl⟩;go_wp2_with fail;exact qaf (zU J2) (by decide) rfl rfl (fun x w' h=>by rw[zU HRR,qam a _ _ (Nat.one_ne_zero)];exact h)
   have c1:(qi rest).2.2=false:=by simpa using c1
   rw[c1]at C2;have C2:=zH (zU C2);have hr0:r=((drop a rest).2,(drop a rest).1,wOk):=by rw[zU HR,if_pos (.inr (.inl h2))];unfold qa7;rw[if_neg h1,if_pos h2,if_neg (by simp[c1])]
   have CP:=zH (fun (W:World) (hL:LV w W p B Q A n cap A2 n2 cap2 a)=>quU A n cap A2 n2 cap2 a rest W hL.v.inn hL.sz);have hra:=qqB a rest;obtain⟨u,hu⟩:∃u,u=drop a rest:=⟨_,rfl⟩
   rw[<-hu]at hr0 CP hra;have HRR:=zH hr0;clear hr0 hu c1 h1 h2;go_wp2_with fail;refine (zU C2).mono ?_;rintro e w2 ⟨rfl,hb2⟩;have L2:=zH ((zU L1).up hb2);obtain⟨x0,x1⟩:=(zU L2).v.c;clear hb2;go_wp2_with fail;refine (zU CP _ (zU L2)).mono ?_;rintro e w5 ⟨hres,hb5⟩;obtain⟨C1,m1,k1,C2',m2,k2,rfl,hin,hmk,hown⟩:=hres.open;have L5:=zH ((zU L2).up hb5);have HF:=zH (hown.free ((zU L2).q (zU HQ)));have HO:=zH (hown.mono (show p+1<=w2.heap.size from (zU L2).v.lt));clear hb5 hres hin hmk hown x0 x1
   by_cases he:u.2=0
   rotate_left
   ·have HE:=zH he;have CB:=zH (qf4 p (.slice C1 m1 k1) (.slice C2' m2 k2) u.2 w5 he);clear he;go_wp2_with fail;refine (zU CB).mono ?_;rintro e w6 ⟨rfl,hb6⟩;have J6:=zH ((zU L5).up hb6).j;clear hb6;go_wp2_with fail;exact qaf (zU J6) (by have:=zU HR5;rw[zU HRR]at this;exact Nat.le_trans this (by decide)) rfl rfl (fun x w' h=>by rw[zU HRR,qam a _ _ (zU HE)];exact h)
   have CB:=zH (qfF p w5 (zU L5).v (zU HO) hra);have HR2:=zH (show r=(0,u.1,wOk)by rw[zU HRR,he]);rw[he];clear he hra;go_wp2_with fail;refine (zU CB).mono ?_;rintro e w6 ⟨rfl,ht6,hg6⟩;have J6:=zH ((zU L5).turn ht6 hg6 (zU HF));obtain⟨y0,y1⟩:=(zU J6).y;clear ht6 hg6;go_wp2_with fail;exact qeI (zU J6) rfl rfl (fun x w' h=>by rw[zU HR2,qcS];exact h)
  have d2:(op == qdS)=false:=qaD h2;unfold qdS at d2
  by_cases h3:op=qgd
  ·have d3:(op == qgd)=true:=by simpa using h3
   unfold qgd at d3
   have hr0:r=((if qz rest<0 then (a,1)else qaO a (qz rest)).2,(if qz rest<0 then (a,1)else qaO a (qz rest)).1,wOk):=by
    rw[zU HR,if_pos (.inr (.inr h3))];unfold qa7;rw[if_neg h1,if_neg h2]
   have HR1:=zH hr0;clear h1 h2 h3 hr0;go_upto_region 15 with fail
   refine AnyK.begin (fun W=>W.cell? ⟨p,0,none⟩=some (.slice A n cap)/\W.cell? ⟨p,1,none⟩=some (.slice A2 n2 cap2)) 10 12 (by kernel_rfl) rfl ?_;have hs1:=(zU L1).v.c;refine AnyK.t 0 12 ?_ hs1 ?_ ?_ (hQ:=fun _ _ _ h=>qM rfl (by decide) h)
   rotate_left
   ·rintro W ⟨hS1,hS2⟩;go_simp
    try with_reducible rfl
   refine AnyK.t 1 12 ?_ hs1 ?_ ?_ (hQ:=fun _ _ _ h=>qM rfl (by decide) h)
   rotate_left
   ·rintro W ⟨hS1,hS2⟩;go_simp
    try with_reducible rfl
   refine AnyK.t 2 12 ?_ hs1 ?_ ?_ (hQ:=fun _ _ _ h=>qM rfl (by decide) h)
   rotate_left
   ·rintro W ⟨hS1,hS2⟩;go_simp
    try with_reducible rfl
   refine AnyK.t 3 12 ?_ hs1 ?_ ?_ (hQ:=fun _ _ _ h=>qM rfl (by decide) h)
   rotate_left
   ·rintro W ⟨hS1,hS2⟩;go_simp
    try with_reducible rfl
   refine AnyK.t 4 12 ?_ hs1 ?_ ?_ (hQ:=fun _ _ _ h=>qM rfl (by decide) h)
   rotate_left
   ·rintro W ⟨hS1,hS2⟩;go_simp
    try with_reducible rfl
   refine AnyK.t 5 12 ?_ hs1 ?_ ?_ (hQ:=fun _ _ _ h=>qM rfl (by decide) h)
   rotate_left
   ·rintro W ⟨hS1,hS2⟩;go_simp
    try with_reducible rfl
   refine AnyK.one 6 rfl (by kernel_rfl) (fun K hK=>?_)
   by_cases hn:0<=qz rest
   rotate_left
   ·have hrr:r=(1,a,wOk):=by rw[zU HR1,if_pos (by omega)]
    have HRR:=zH hrr;refine qC rfl 29 _ _ rfl #[S rest] (by simp[Act.eval]) qcy ((qe2 rest _ ((zU L1).v.dw.up (Below.refl _ _).drew) (zU HRL) hn).mono ?_);rintro e w4 ⟨rfl,hb4⟩;have J4:=zH ((zU L1).up ((show Below w1.heap.size w1 w1.drew from (Below.refl _ _).drew).trans hb4)).j;refine .inr ⟨_,rfl,?_⟩;exact qaf (zU J4) (by decide) rfl rfl (fun x w' h=>by rw[zU HRR,qam a _ _ (Nat.one_ne_zero)];exact h)
   have hr1:=zU HR1;rw[if_neg (by omega)]at hr1;obtain⟨N,hN⟩:∃N,N=qz rest:=⟨_,rfl⟩
   have CN:=qe1 rest w1.drew ((zU L1).v.dw.up (Below.refl _ _).drew) (zU HRL) hn;rw[<-hN]at hr1 CN;have CP:=zH (fun (W:World) (hL:LV w W p B Q A n cap A2 n2 cap2 a)=>qpC A n cap A2 n2 cap2 a N W hL.v.inn hL.sz hL.v.dw.ml);have hra:=qkZ a N;obtain⟨u,hu⟩:∃u,u=qaO a N:=⟨_,rfl⟩
   rw[<-hu]at hr1 CP hra;have HR2:=zH hr1;clear hr1 hN hn hu;refine qC rfl 29 _ _ rfl #[S rest] (by simp[Act.eval]) qcy (CN.mono ?_);rintro e w4 ⟨rfl,hb4⟩;refine .inl ⟨_,rfl,?_⟩;have L4:=zH ((zU L1).up ((show Below w1.heap.size w1 w1.drew from (Below.refl _ _).drew).trans hb4));have hs4:=(zU L4).v.c;clear hb4 hs1 CN;refine AnyK.o hK (fun _=>hs4) ?_;clear hK K;refine AnyK.one 7 rfl (by kernel_rfl) (fun K hK=>?_);refine qC rfl 33 _ _ rfl #[qv A n cap A2 n2 cap2,I N] (by simp[Act.eval]) qlR ((zU CP _ (zU L4)).mono ?_);rintro e w5 ⟨hres,hb5⟩;obtain⟨C1,m1,k1,C2',m2,k2,rfl,hin,hmk,hown⟩:=hres.open;refine .inl ⟨_,rfl,?_⟩;have L5:=zH ((zU L4).up hb5);have HF:=zH (hown.free ((zU L4).q (zU HQ)));have HO:=zH (hown.mono (show p+1<=w4.heap.size from (zU L4).v.lt));have hs5:=(zU L5).v.c;clear hb5 hs4 hres hin hmk hown;refine AnyK.o hK (fun _=>hs5) ?_;clear hK K;refine AnyK.t 8 12 ?_ hs5 ?_ ?_ (hQ:=fun _ _ _ h=>qM rfl (by decide) h)
   rotate_left
   ·rintro W ⟨hS1,hS2⟩;go_simp
    try with_reducible rfl
   refine AnyK.t 9 12 ?_ hs5 ?_ ?_ (hQ:=fun _ _ _ h=>qM rfl (by decide) h)
   rotate_left
   ·rintro W ⟨hS1,hS2⟩;go_simp
    try with_reducible rfl
   refine AnyK.one 10 rfl (by kernel_rfl) (fun K hK=>?_)
   by_cases he:u.2=0
   rotate_left
   ·have HRR:=zH (zU HR2);have HE:=zH he;refine qC rfl 27 _ _ rfl #[.pointer (some ⟨p,0,none⟩),qv C1 m1 k1 C2' m2 k2,I u.2] (by simp[Act.eval]) qew ((qf4 p (.slice C1 m1 k1) (.slice C2' m2 k2) u.2 w5 he).mono ?_);rintro e w6 ⟨rfl,hb6⟩;have J6:=zH ((zU L5).up hb6).j;refine .inr ⟨_,rfl,?_⟩;exact qaf (zU J6) (by have:=zU HR5;rw[zU HRR]at this;exact Nat.le_trans this (by decide)) rfl rfl (fun x w' h=>by rw[zU HRR,qam a _ _ (zU HE)];exact h)
   rw[he];have HRR:=zH (show r=(0,u.1,wOk)by rw[zU HR2,he]);refine qC rfl 27 _ _ rfl #[.pointer (some ⟨p,0,none⟩),qv C1 m1 k1 C2' m2 k2,I 0] (by simp[Act.eval]) qew ((qfF p w5 (zU L5).v (zU HO) hra).mono ?_);rintro e w6 ⟨rfl,ht6,hg6⟩;refine .inl ⟨_,rfl,?_⟩;have J6:=zH ((zU L5).turn ht6 hg6 (zU HF));obtain⟨y0,y1⟩:=(zU J6).y;clear ht6 hg6 hs5 he hra;refine AnyK.o hK (fun h=>absurd h (by decide)) ?_;clear hK K;refine AnyK.one 11 rfl (by kernel_rfl) (fun K hK=>?_);go_simp;refine AnyK.o hK (fun h=>absurd h (by decide)) ?_;clear hK K;refine AnyK.done (by kernel_rfl) ?_;go_wp2_with fail;exact qeI (zU J6) rfl rfl (fun x w' h=>by rw[zU HRR,qcS];exact h)
  have d3:(op == qgd)=false:=qaD h3;unfold qgd at d3
  by_cases h4:op=qfh
  ·have d4:(op == qfh)=true:=by simpa using h4
   unfold qfh at d4;have C2:=zH (qoV rest w1 (zU L1).v.dw (zU HRL))
   by_cases c1:(qi rest).2.2=true
   ·rw[c1]at C2;have C2:=zH (zU C2)
    have hrr:r=(1,a,[]):=by
     rw[zU HR];rw[if_neg (by rintro (h|h|h) <;> contradiction),if_pos (.inl h4)];unfold qb3;rw[if_pos h4,if_pos c1]
    have HRR:=zH hrr;clear hrr;clear c1 h1 h2 h3 h4;go_wp2_with fail;refine (zU C2).mono ?_;rintro e w2 ⟨rfl,hb2⟩;have J2:=zH ((zU L1).up hb2).j;clear hb2;go_wp2_with fail;refine (zU CM 1 _ (by decide)).mono ?_;rintro e wz ⟨rfl,rfl⟩;go_wp2_with fail;exact qaf (zU J2) (by decide) rfl rfl (fun x w' h=>by rw[zU HRR,qam a _ _ (Nat.one_ne_zero)];exact h)
   have c1:(qi rest).2.2=false:=by simpa using c1
   rw[c1]at C2;have C2:=zH (zU C2);have hr0:r=((Pl.get a rest).2,a,(Pl.get a rest).1):=by rw[zU HR,if_neg (by rintro (h|h|h) <;> contradiction),if_pos (.inl h4)];unfold qb3;rw[if_pos h4,if_neg (by simp[c1])]
   have CP:=zH (fun (W:World) (hL:LV w W p B Q A n cap A2 n2 cap2 a)=>qqz A n cap A2 n2 cap2 a rest W hL.v.inn hL.sz);obtain⟨u,hu⟩:∃u,u=Pl.get a rest:=⟨_,rfl⟩
   rw[<-hu]at hr0 CP;have HRR:=zH hr0;clear hr0 hu c1 h1 h2 h3 h4;go_wp2_with fail;refine (zU C2).mono ?_;rintro e w2 ⟨rfl,hb2⟩;have L2:=zH ((zU L1).up hb2);obtain⟨x0,x1⟩:=(zU L2).v.c;clear hb2;go_wp2_with fail;refine (zU CP _ (zU L2)).mono ?_;rintro e w6 ⟨rfl,hb6⟩;have L6:=zH ((zU L2).up hb6);clear hb6 x0 x1
   by_cases he:u.2=0
   rotate_left
   ·have HE:=zH he;have CB:=zH (zU CM u.2 w6 he);clear he;go_wp2_with fail;refine (zU CB).mono ?_;rintro e w7 ⟨rfl,rfl⟩;have J6:=zH (zU L6).j;go_wp2_with fail;exact qaf (zU J6) (by have:=zU HR5;rw[zU HRR]at this;exact Nat.le_trans this (by decide)) rfl rfl (fun x w' h=>by rw[zU HRR,qam a _ _ (zU HE)];exact h)
   have HR2:=zH (show r=(0,a,u.1)by rw[zU HRR,he]);rw[he];have J6:=zH (zU L6).j;obtain⟨y0,y1⟩:=(zU J6).y;clear he;go_wp2_with fail;refine (zU CM0 _).mono ?_;rintro e w7 ⟨rfl,rfl⟩;go_wp2_with fail;exact qeI (zU J6) rfl rfl (fun x w' h=>by rw[zU HR2,qcS];exact h)
  have d4:(op == qfh)=false:=qaD h4;unfold qfh at d4
  by_cases h5:op=qge
  ·have d5:(op == qge)=true:=by simpa using h5
   unfold qge at d5;have hr0:r=((qb3 a op rest).2,a,(qb3 a op rest).1):=by rw[zU HR,if_neg (by rintro (h|h|h) <;> contradiction),if_pos (.inr h5)]
   unfold qb3 at hr0;rw[if_neg h4]at hr0;have hl2:=qcE rest
   by_cases c1:(qi rest).2.2=true
   rotate_left
   ·have c1:(qi rest).2.2=false:=by simpa using c1
    have HRR:=zH (show r=(1,a,[])by rw[hr0,if_pos (.inl c1)]);have CU:=zH (qfc rest w1 (zU L1).v.dw (zU HRL) c1);clear h1 h2 h3 h4 h5 c1 hr0 hl2;go_wp2_with fail;refine (zU CU).mono ?_;rintro e w2 ⟨rfl,hb2⟩;have J2:=zH ((zU L1).up hb2).j;clear hb2;go_wp2_with fail;exact qaf (zU J2) (by decide) rfl rfl (fun x w' h=>by rw[zU HRR,qam a _ _ (Nat.one_ne_zero)];exact h)
   have CU:=qfb rest w1 (zU L1).v.dw (zU HRL) c1;rw[c1]at hr0;obtain⟨nm,hnm⟩:∃x,x=(qi rest).1:=⟨_,rfl⟩
   obtain⟨r2,hr2⟩:∃x,x=(qi rest).2.1:=⟨_,rfl⟩
   rw[<-hnm,<-hr2]at CU hl2 hr0;have hl3:=qcE r2;have CU:=zH CU;have HL2:=zH hl2;have HR0:=zH hr0;have HL3:=zH hl3;clear h1 h2 h3 h4 h5 c1 hl2 hl3 hr0 hnm hr2;go_wp2_with fail;refine (zU CU).mono ?_;rintro e w2 ⟨rfl,hb2⟩;have L2:=zH ((zU L1).up hb2);clear hb2;have hr0:=zU HR0
   by_cases c2:(qi r2).2.2=true
   rotate_left
   ·have c2:(qi r2).2.2=false:=by simpa using c2
    have HRR:=zH (show r=(1,a,[])by rw[hr0,if_pos (.inr (.inl c2))]);have CU2:=zH (qfc r2 w2 (zU L2).v.dw (by have:=zU HRL;have:=zU HL2;omega) c2);clear hr0 c2;go_wp2_with fail;refine (zU CU2).mono ?_;rintro e w3 ⟨rfl,hb3⟩;have J3:=zH ((zU L2).up hb3).j;clear hb3;go_wp2_with fail;exact qaf (zU J3) (by decide) rfl rfl (fun x w' h=>by rw[zU HRR,qam a _ _ (Nat.one_ne_zero)];exact h)
   have CU2:=qfb r2 w2 (zU L2).v.dw (by have:=zU HRL;have:=zU HL2;omega) c2;have hl3:=zU HL3;rw[c2]at hr0;obtain⟨fr,hfr⟩:∃x,x=(qi r2).1:=⟨_,rfl⟩
   obtain⟨nn,hnn⟩:∃x,x=(qi r2).2.1:=⟨_,rfl⟩
   rw[<-hfr,<-hnn]at CU2 hl3 hr0;have CU2:=zH CU2;have hb5':fr.length<=16384/\nn.length<=16384:=by have:=zU HRL;have:=zU HL2;omega
   have HLL:=zH hb5';have HR1:=zH (show r=((if qz fr<0\/qz nn<0 then ([],1)else range a nm (qz fr) (qz nn)).2,a,(if qz fr<0\/qz nn<0 then ([],1)else range a nm (qz fr) (qz nn)).1)by rw[hr0];simp);clear hl3 hr0 c2 hfr hnn hb5' HL3;go_wp2_with fail;refine (zU CU2).mono ?_;rintro e w3 ⟨rfl,hb3⟩;have L3:=zH ((zU L2).up hb3);clear hb3;go_upto_region 25 with fail
   refine AnyK.begin (fun W=>W.cell? ⟨p,0,none⟩=some (.slice A n cap)/\W.cell? ⟨p,1,none⟩=some (.slice A2 n2 cap2)) 15 15 (by kernel_rfl) rfl ?_;have hs3:=(zU L3).v.c;refine AnyK.t 0 15 ?_ hs3 ?_ ?_ (hQ:=fun _ _ _ h=>qM rfl (by decide) h)
   rotate_left
   ·rintro W ⟨hS1,hS2⟩;go_simp
    try with_reducible rfl
   refine AnyK.t 1 15 ?_ hs3 ?_ ?_ (hQ:=fun _ _ _ h=>qM rfl (by decide) h)
   rotate_left
   ·rintro W ⟨hS1,hS2⟩;go_simp
    try with_reducible rfl
   refine AnyK.t 2 15 ?_ hs3 ?_ ?_ (hQ:=fun _ _ _ h=>qM rfl (by decide) h)
   rotate_left
   ·rintro W ⟨hS1,hS2⟩;go_simp
    try with_reducible rfl
   refine AnyK.t 3 15 ?_ hs3 ?_ ?_ (hQ:=fun _ _ _ h=>qM rfl (by decide) h)
   rotate_left
   ·rintro W ⟨hS1,hS2⟩;go_simp
    try with_reducible rfl
   refine AnyK.t 4 15 ?_ hs3 ?_ ?_ (hQ:=fun _ _ _ h=>qM rfl (by decide) h)
   rotate_left
   ·rintro W ⟨hS1,hS2⟩;go_simp
    try with_reducible rfl
   refine AnyK.t 5 15 ?_ hs3 ?_ ?_ (hQ:=fun _ _ _ h=>qM rfl (by decide) h)
   rotate_left
   ·rintro W ⟨hS1,hS2⟩;go_simp
    try with_reducible rfl
   refine AnyK.t 7 15 ?_ hs3 ?_ ?_ (hQ:=fun _ _ _ h=>qM rfl (by decide) h)
   rotate_left
   ·rintro W ⟨hS1,hS2⟩;go_simp
    try with_reducible rfl
   refine AnyK.one 6 rfl (by kernel_rfl) (fun K hK=>?_)
   by_cases hn:0<=qz fr
   rotate_left
   ·have HRR:=zH (show r=(1,a,[])by rw[zU HR1,if_pos (.inl (by omega))]);refine qC rfl 29 _ _ rfl #[S fr] (by simp[Act.eval]) qcy ((qe2 fr _ ((zU L3).v.dw.up (Below.refl _ _).drew) (zU HLL).1 hn).mono ?_);rintro e w4 ⟨rfl,hb4⟩;have J4:=zH ((zU L3).up ((show Below w3.heap.size w3 w3.drew from (Below.refl _ _).drew).trans hb4)).j;refine .inr ⟨_,rfl,?_⟩;exact qaf (zU J4) (by decide) rfl rfl (fun x w' h=>by rw[zU HRR,qam a _ _ (Nat.one_ne_zero)];exact h)
   have hN6:=(qgp hn).2.2.2;have CN:=qe1 fr w3.drew ((zU L3).v.dw.up (Below.refl _ _).drew) (zU HLL).1 hn;refine qC rfl 29 _ _ rfl #[S fr] (by simp[Act.eval]) qcy (CN.mono ?_);rintro e w4 ⟨rfl,hb4⟩;refine .inl ⟨_,rfl,?_⟩;have L4:=zH ((zU L3).up ((show Below w3.heap.size w3 w3.drew from (Below.refl _ _).drew).trans hb4));have hs4:=(zU L4).v.c;clear hb4 hs3 CN;refine AnyK.o hK (fun _=>hs4) ?_;clear hK K;refine AnyK.one 8 rfl (by kernel_rfl) (fun K hK=>?_)
   by_cases hn2:0<=qz nn
   rotate_left
   ·have HRR:=zH (show r=(1,a,[])by rw[zU HR1,if_pos (.inr (by omega))]);refine qC rfl 29 _ _ rfl #[S nn] (by simp[Act.eval]) qcy ((qe2 nn _ (zU L4).v.dw (zU HLL).2 hn2).mono ?_);rintro e w5 ⟨rfl,hb5⟩;have J5:=zH ((zU L4).up hb5).j;refine .inr ⟨_,rfl,?_⟩;exact qaf (zU J5) (by decide) rfl rfl (fun x w' h=>by rw[zU HRR,qam a _ _ (Nat.one_ne_zero)];exact h)
   have hM6:=(qgp hn2).2.2.2;have hr1:=zU HR1;rw[if_neg (by omega)]at hr1;have CP:=zH (fun (W:World) (hL:LV w W p B Q A n cap A2 n2 cap2 a)=>qsF A n cap A2 n2 cap2 a nm (qz fr) (qz nn) W hL.v.inn hL.sz (by omega) (by omega) (by omega) (by omega));have CN:=qe1 nn w4 (zU L4).v.dw (zU HLL).2 hn2;obtain⟨u,hu⟩:∃u,u=range a nm (qz fr) (qz nn):=⟨_,rfl⟩
   rw[<-hu]at hr1 CP;have HRR:=zH hr1;clear hr1 hu hN6 hM6 hn hn2;refine qC rfl 29 _ _ rfl #[S nn] (by simp[Act.eval]) qcy (CN.mono ?_);rintro e w5 ⟨rfl,hb5⟩;refine .inl ⟨_,rfl,?_⟩;have L5:=zH ((zU L4).up hb5);have hs5:=(zU L5).v.c;clear hb5 hs4 CN;refine AnyK.o hK (fun _=>hs5) ?_;clear hK K;refine AnyK.one 9 rfl (by kernel_rfl) (fun K hK=>?_);refine qC rfl 35 _ _ rfl #[qv A n cap A2 n2 cap2,S nm,I (qz fr),I (qz nn)] (by simp[Act.eval]) qnS ((zU CP _ (zU L5)).mono ?_);rintro e w6 ⟨rfl,hb6⟩;refine .inl ⟨_,rfl,?_⟩;have L6:=zH ((zU L5).up hb6);have hs6:=(zU L6).v.c;clear hb6 hs5;refine AnyK.o hK (fun _=>hs6) ?_;clear hK K;refine AnyK.t 10 15 ?_ hs6 ?_ ?_ (hQ:=fun _ _ _ h=>qM rfl (by decide) h)
   rotate_left
   ·rintro W ⟨hS1,hS2⟩;go_simp
    try with_reducible rfl
   refine AnyK.t 11 15 ?_ hs6 ?_ ?_ (hQ:=fun _ _ _ h=>qM rfl (by decide) h)
   rotate_left
   ·rintro W ⟨hS1,hS2⟩;go_simp
    try with_reducible rfl
   refine AnyK.t 12 15 ?_ hs6 ?_ ?_ (hQ:=fun _ _ _ h=>qM rfl (by decide) h)
   rotate_left
   ·rintro W ⟨hS1,hS2⟩;go_simp
    try with_reducible rfl
   refine AnyK.t 13 15 ?_ hs6 ?_ ?_ (hQ:=fun _ _ _ h=>qM rfl (by decide) h)
   rotate_left
   ·rintro W ⟨hS1,hS2⟩;go_simp
    try with_reducible rfl
   refine AnyK.t 14 15 ?_ hs6 ?_ ?_ (hQ:=fun _ _ _ h=>qM rfl (by decide) h)
   rotate_left
   ·rintro W ⟨hS1,hS2⟩;go_simp
    try with_reducible rfl
   refine AnyK.done (by kernel_rfl) ?_;clear hs6
   by_cases he:u.2=0
   rotate_left
   ·have HE:=zH he;have CB:=zH (zU CM u.2 w6 he);clear he;go_wp2_with fail;refine (zU CB).mono ?_;rintro e w7 ⟨rfl,rfl⟩;have J6:=zH (zU L6).j;go_wp2_with fail;exact qaf (zU J6) (by have:=zU HR5;rw[zU HRR]at this;exact Nat.le_trans this (by decide)) rfl rfl (fun x w' h=>by rw[zU HRR,qam a _ _ (zU HE)];exact h)
   have HR2:=zH (show r=(0,a,u.1)by rw[zU HRR,he]);rw[he];have J6:=zH (zU L6).j;obtain⟨y0,y1⟩:=(zU J6).y;clear he;go_wp2_with fail;refine (zU CM0 _).mono ?_;rintro e w7 ⟨rfl,rfl⟩;go_wp2_with fail;exact qeI (zU J6) rfl rfl (fun x w' h=>by rw[zU HR2,qcS];exact h)
  have d5:(op == qge)=false:=qaD h5;unfold qge at d5
  have hrr:r=(1,a,[]):=by
   rw[zU HR];rw[if_neg (by rintro (h|h|h) <;> contradiction),if_neg (by rintro (h|h) <;> contradiction)]
  have HRR:=zH hrr;clear hrr;have J1:=zH (zU L1).j;clear h1 h2 h3 h4 h5;go_wp2_with fail;refine (zU CM 1 _ (by decide)).mono ?_;rintro e wz ⟨rfl,rfl⟩;go_wp2_with fail;exact qaf (zU J1) (by decide) rfl rfl (fun x w' h=>by rw[zU HRR,qam a _ _ (Nat.one_ne_zero)];exact h)
end
section
open Go.RowKit Go.Lib Go.Shelf Pl
attribute [local go_sem] qf qe Oper.semAt_some
theorem qjz(s:qa):Lib.hasSuffix s [10]=decide (s.getLast? = some 10):=by
 unfold Lib.hasSuffix;rw[Bool.eq_iff_iff,List.isSuffixOf_iff_suffix,decide_eq_true_eq];constructor
 ·rintro⟨t,rfl⟩;simp
 ·intro h;obtain⟨t,ht⟩:=List.getLast?_eq_some_iff.1 h;exact⟨t,ht.symm⟩
theorem qlz(s:qa)(w:World):Calls Tryz.prog 7 #[S s,S [10]] w fun e w'=>e=.returned (I (s.count 10))/\w'=w :=
 Tryz.strings_Count_one ⟨s.toArray⟩ 10 w
theorem qtX(s:qa)(w:World)(hs:s.length<=16384):Calls Tryz.prog 8 #[S s,S [10]] w fun e w'=>e=.returned (.bool (decide (s.getLast? = some 10)))/\w'=w:=by
 refine (Tryz.strings_HasSuffix ⟨s.toArray⟩ ⟨#[10]⟩ w (by have e:(⟨s.toArray⟩:ByteArray).size=s.length:=rfl;rw[e];omega)).mono fun e w' ⟨h1,h2⟩=>⟨?_,h2⟩
 rw[h1,<-qjz]
theorem qsf(x:qa)(w:World)(hs:x.length<=16384):Calls Tryz.prog 12 #[S (x++[10]),S [10]] w fun e w'=>e=.returned (S x)/\w'=w:=by
 obtain⟨y,hy⟩:∃y,y=x++[10]:=⟨_,rfl⟩
 have hyl:y.length=x.length+1:=by rw[hy];simp
 have hts:Lib.trimSuffix y [10]=x:=by
  unfold Lib.trimSuffix;rw[qjz,hy,if_pos (by simp)];simp
 rw[<-hy];clear hy;refine (Tryz.strings_TrimSuffix ⟨y.toArray⟩ ⟨#[10]⟩ w (by have e:(⟨y.toArray⟩:ByteArray).size=y.length:=rfl;rw[e];omega)).mono fun e w' ⟨h1,h2⟩=>⟨?_,h2⟩
 rw[h1];show Ending.returned (S (Lib.trimSuffix y [10]))=_;rw[hts]
theorem qrr(s:qa)(w:World):Calls Tryz.prog 9 #[S s] w fun e w'=>e=.returned (.func (.func 19) #[] #[.pointer (some ⟨w.heap.size,0,none⟩)])/\w'=w.alloc (.cells #[S s] 9):=by
 have hmf:∀(fn:Fn) (first cap:Array Value) (w:World),(Instr.makeFunc fn first cap).run Tryz.prog w=.ok (.func fn first cap) w:=fun _ _ _ _=>rfl;go_enter Tryz.func9,Tryz.ntmps9;go_wp2_with fail;go_ret;exact⟨rfl,rfl⟩
theorem KeepsOthers.freeze(w:World){g:Nat}{cs:Array Value}{T:TypeId}{fz:Nat×Nat}(hg:w.heap[g]?=some (.cells cs T fz))(n:Nat):KeepsOthers w (w.freeze ⟨g,0,none⟩ n):=by
 unfold World.freeze
 split
 ·exact KeepsOthers.refl _
 ·refine⟨by simp,fun k o ho hn=>?_⟩;have hne:g≠k:=fun e=>by subst e;rw[hg]at ho;injection ho with ho;subst ho;cases hn
  simp only[Array.getElem?_modify];rw[if_neg hne];exact ho
theorem KeepsOthers.of_below{W W':World}(h:Below W.heap.size W W'):KeepsOthers W W':=⟨h.size,fun k _ ho _=>(h.block k (zE ho).1).trans ho⟩
theorem qrZ(B b:Nat)(l:List UInt8)(w:World)(h:IsB B b l w)(hBw:B<=w.heap.size) :
  Calls Tryz.prog 13 #[.pointer (some ⟨b,0,none⟩)] w fun e w'=>e=.returned (S l)/\Below B w w'/\KeepsOthers w w':=by
 obtain⟨p,hB,v,hbk,hown,hne⟩:∃p,Lib.BuilderAt 39 5 B b p (Lib.byteCells l) w:=h.elim (fun h=>⟨_,h⟩) (fun h=>⟨_,h⟩)
 by_cases h0:l=[]
 ·subst h0
  have key:Calls Tryz.prog 13 #[.pointer (some ⟨b,0,none⟩)] w fun e w'=>e=.returned (.string ⟨#[]⟩)/\Below w.heap.size w w':=by
   rcases hown.2 with⟨rfl,_⟩|⟨g,cap,cur,rfl,hbg,hg,_,_,_,_⟩
   ·exact Any.Builder_String_nil Tryz.lays169 Tryz.Builder_Extra_169 _ b p w hbk
   ·by_cases hc0:cap=0
    ·subst hc0;exact Any.Builder_String_noroom Tryz.lays169 Tryz.Builder_Extra_169 _ b g p cur w (Nat.le_refl _) hbk hg
    ·exact Any.Builder_String_room Tryz.lays169 Tryz.Builder_Extra_169 _ b g cap p w hc0 hbk
  exact key.mono fun e w' ⟨h1,h2⟩=>⟨h1,h2.mono hBw,KeepsOthers.of_below h2⟩
 ·have hl0:l.length≠0:=by simpa using h0
  rw[Lib.byteCells_length]at hown
  obtain⟨g,cap,cur,rfl,hbg,hg,hnc,hcm,hcs,htake⟩:∃g cap cur,v=.slice (some ⟨g,0,none⟩) l.length cap/\B<=g/\w.heap[g]?=some (.cells cur 5 (0,0))/\l.length<=cap/\cap<=maxLen/\cur.size=cap*1/\cur.toList.take (l.length*1)=Lib.byteCells l:=by
   rcases hown.2 with⟨_,hz⟩|⟨g,cap,cur,hv,r⟩
   ·exact absurd hz hl0
   ·exact⟨g,cap,cur,hv,r⟩
  have c1:w.drew.cell? ⟨b,1,none⟩=some (.slice (some ⟨g,0,none⟩) l.length cap):=by
   have:w.drew.heap[b]?=some (.cells #[p,.slice (some ⟨g,0,none⟩) l.length cap] 39 (0,0)):=hbk;rw[Lib.cell_of_heap this];rfl
  have hSD:(Builtin.unsafeSliceData_ #[37] 70 #[.slice (some ⟨g,0,none⟩) l.length cap]).run Tryz.prog w.drew=.ok (.pointer (some ⟨g,0,none⟩)) w.drew :=
   Lib.run_unsafeSliceData_row _ _ _ _ _ _ (by omega)
  have hUS:(Builtin.unsafeString_ #[70,3] 9 #[.pointer (some ⟨g,0,none⟩),.int .i64 l.length]).run Tryz.prog w.drew=.ok (.string ⟨l.toArray⟩) (w.drew.freeze ⟨g,0,none⟩ l.length):=by
   refine Lib.run_unsafeString_row w.drew 70 3 9 5 Tryz.underlying70 (by kernel_rfl) g cur.size (by have hg':w.drew.heap[g]?=some (.cells cur 5 (0,0)):=hg;simp[World.shape?,hg']) l h0 (by omega) (by unfold maxLen at hcm;omega) ?_;intro j x hx;have:=hown.cells (g:=g) rfl j (.int .u8 x.toNat) (by simp[Lib.byteCells,hx]);exact this
  have HKO:=zH (show KeepsOthers w (w.drew.freeze ⟨g,0,none⟩ l.length)from (KeepsOthers.drew w).trans (KeepsOthers.freeze w.drew (show w.drew.heap[g]?=_ from hg) _));go_enter Tryz.func13,Tryz.ntmps13;go_wp2;go_region
  all_goals (go_wp2;go_ret;exact⟨rfl,Lib.below_freeze (Below.drew (Below.refl B w)) (p:=⟨g,0,none⟩) hbg _,zU HKO⟩)
theorem qnx(args:Array Value)(w:World):(callFunc 19 args).run Tryz.prog w=.ok (.enter 19 args) w :=
 qbn Tryz.func19 (by kernel_rfl) (by kernel_rfl) args w
theorem qsA:RightA qG:=(qak qG).1 (by decide)
theorem PI.first(s:qa)(w:World)(h6:DW w) :
  PI w w.heap.size (qG,[]) s ((((w.alloc (.cells #[.slice none 0 0,.slice none 0 0] 35)).alloc (.cells #[.pointer (some ⟨w.heap.size,0,none⟩)] 29)).alloc (.cells #[.pointer none,.slice none 0 0] 39)).alloc (.cells #[S s] 9)):=by
 obtain⟨w1,hw1⟩:∃w1,w1=w.alloc (.cells #[.slice none 0 0,.slice none 0 0] 35):=⟨_,rfl⟩
 obtain⟨w2,hw2⟩:∃w2,w2=w1.alloc (.cells #[.pointer (some ⟨w.heap.size,0,none⟩)] 29):=⟨_,rfl⟩
 obtain⟨w3,hw3⟩:∃w3,w3=w2.alloc (.cells #[.pointer none,.slice none 0 0] 39):=⟨_,rfl⟩
 obtain⟨w4,hw4⟩:∃w4,w4=w3.alloc (.cells #[S s] 9):=⟨_,rfl⟩
 rw[<-hw1,<-hw2,<-hw3,<-hw4];have s1:w1.heap.size=w.heap.size+1:=by rw[hw1];simp
 have s2:w2.heap.size=w.heap.size+2:=by rw[hw2];simp[s1]
 have s3:w3.heap.size=w.heap.size+3:=by rw[hw3];simp[s2]
 have b1:Below w.heap.size w w1:=by rw[hw1];exact (Below.refl _ _).alloc (Nat.le_refl _) _
 have b2:Below w1.heap.size w1 w2:=by rw[hw2];exact (Below.refl _ _).alloc (Nat.le_refl _) _
 have b3:Below w2.heap.size w2 w3:=by rw[hw3];exact (Below.refl _ _).alloc (Nat.le_refl _) _
 have b4:Below w3.heap.size w3 w4:=by rw[hw4];exact (Below.refl _ _).alloc (Nat.le_refl _) _
 have b34:Below w2.heap.size w2 w4:=b3.trans (b4.mono (by omega));have b24:Below w1.heap.size w1 w4:=b2.trans (b34.mono (by omega));have h1:w1.heap[w.heap.size]?=some (.cells #[.slice none 0 0,.slice none 0 0] 35 (0,0)):=by rw[hw1];exact heap_alloc_new w _
 have h2:w2.heap[w.heap.size+1]?=some (.cells #[.pointer (some ⟨w.heap.size,0,none⟩)] 29 (0,0)):=by rw[hw2,<-s1];exact heap_alloc_new w1 _
 have h4:w4.heap[w.heap.size+3]?=some (.cells #[S s] 9 (0,0)):=by rw[hw4,<-s3];exact heap_alloc_new w3 _
 have hB:=IsB.new w2;rw[<-hw3,s2]at hB;have hd:=h6.sz;refine⟨⟨none,0,0,none,0,0,⟨(b24.block _ (by omega)).trans h1,OwnA.nil _ _,h6.up (b1.trans (b24.mono (by omega))),by omega,qsA⟩,⟨fun x e=>(by cases e),fun x e=>(by cases e)⟩⟩,(b34.block _ (by omega)).trans h2,IsB.kept hB b4,h4,b1.trans (b24.mono (by omega)),by omega,Nat.le_refl _⟩
theorem qsQ{w W:World}{H:Nat}{t:Arc×qa}{r:qa}(h:PI w H t r W)(x:qa)(hx:x.length<=16384) :
  Calls Tryz.prog 11 #[.pointer (some ⟨H,0,none⟩),S x] W fun e W'=>e=.returned (S (qaK t.1 x).2)/\PI w H ((qaK t.1 x).1,t.2) r W'/\KeepsOthers W W':=by
 obtain⟨A,n,cap,A2,n2,cap2,tv,hf⟩:=h.tb;exact (quy H A n cap A2 n2 cap2 t.1 x W tv _ (fun k e=>by rw[e];exact (zE h.x).1) hf hx).mono fun e W' ⟨h1,h2,h3⟩=>⟨h1,h.line h3 h2,KeepsOthers.of_tab h h3⟩
theorem qra{w W:World}{H:Nat}{t:Arc×qa}{r:qa}(h:PI w H t r W)(o:qa)(ho:(t.2++o).length<=10000000) :
  Calls Tryz.prog 10 #[.pointer (some ⟨H+2,0,none⟩),S o] W fun e W'=>e=.returned (.tuple #[I o.length,.nilIface])/\PI w H (t.1,t.2++o) r W'/\KeepsOthers W W' :=
 (qi2 (H+2) (H+2) t.2 o W h.b (by rw[zL]at ho;omega) (by have:=(zE h.x).1;omega)).mono fun e W' ⟨h1,h2,h3,h4⟩=>⟨h1,h.write h2 h3 h4,KeepsOthers.of_keeps h4⟩
theorem qmJ(s:qa)(w:World)(h:DW w) :
  Calls Tryz.prog 4 #[S s] w fun e w'=>e=.returned (.tuple #[S (qeZ s).1,I (qeZ s).2])/\Below w.heap.size w w':=by
 obtain⟨pr,hpr⟩:∃pr,pr=qeZ s:=⟨_,rfl⟩
 rw[<-hpr];unfold qeZ at hpr;refine (callsIn_wide (n:=9)).1 ?_;have CCt:=zH (fun (W:World)=>qlz s W)
 by_cases h1:16384<s.length
 ·rw[if_pos (.inl h1)]at hpr;subst hpr;have z1:(16384:Int)<(s.length:Int):=by omega
  clear h1;refine callsIn_of_wp_marks Tryz.func4 rfl trivial ?_ rfl;simp only[Tryz.ntmps4,List.size_toArray,List.length_cons,List.length_nil,Nat.reduceAdd,Nat.reduceSub,Array.replicate_succ,Array.replicate_zero,List.push_toArray,List.append_toArray,List.nil_append,List.cons_append];refine wpIn_wide.2 ?_;go_wp2_with fail;exact⟨_,results_tmp2 rfl _ _ _,rfl,Below.refl _ _⟩
 have hs:s.length<=16384:=by omega
 have z1:¬(16384:Int)<(s.length:Int):=by omega
 obtain⟨c,hc⟩:∃c,c=s.count 10:=⟨_,rfl⟩
 rw[<-hc]at CCt hpr;have CCt:=zH (zU CCt)
 by_cases h2:100<c
 ·rw[if_pos (.inr h2)]at hpr;subst hpr;have z2:(100:Int)<(c:Int):=by omega
  clear h1 h2 hc;refine callsIn_of_wp_marks Tryz.func4 rfl trivial ?_ rfl;simp only[Tryz.ntmps4,List.size_toArray,List.length_cons,List.length_nil,Nat.reduceAdd,Nat.reduceSub,Array.replicate_succ,Array.replicate_zero,List.push_toArray,List.append_toArray,List.nil_append,List.cons_append];refine wpIn_wide.2 ?_;go_wp2_with fail;refine (zU CCt _).mono ?_;rintro e w1 ⟨rfl,rfl⟩;go_wp2_with fail;exact⟨_,results_tmp2 rfl _ _ _,rfl,Below.refl _ _⟩
 have z2:¬(100:Int)<(c:Int):=by omega
 rw[if_neg (by rintro (h|h) <;> omega)]at hpr;have CS:=zH (fun (W:World)=>qtX s W hs)
 by_cases h3:s≠[]/\s.getLast?≠some 10
 ·rw[if_pos h3]at hpr;subst hpr;rw[decide_eq_false h3.2]at CS;have CS:=zH (zU CS);have d3:(s == [])=false:=by rw[zB];exact h3.1
  have d3':(s != [])=true:=by rw[bne_iff_ne];exact h3.1
  clear h1 h2 h3 hc;refine callsIn_of_wp_marks Tryz.func4 rfl trivial ?_ rfl;simp only[Tryz.ntmps4,List.size_toArray,List.length_cons,List.length_nil,Nat.reduceAdd,Nat.reduceSub,Array.replicate_succ,Array.replicate_zero,List.push_toArray,List.append_toArray,List.nil_append,List.cons_append];refine wpIn_wide.2 ?_;go_wp2_with fail;refine (zU CCt _).mono ?_;rintro e w1 ⟨rfl,rfl⟩;go_wp2_with fail;refine (zU CS _).mono ?_;rintro e w2 ⟨rfl,rfl⟩;go_wp2_with fail;exact⟨_,results_tmp2 rfl _ _ _,rfl,Below.refl _ _⟩
 rw[if_neg h3]at hpr
 have hcase:s=[]\/s.getLast? = some 10:=by
  by_cases h:s=[]
  ·exact .inl h
  ·exact .inr (Decidable.not_not.1 fun h'=>h3 ⟨h,h'⟩)
 have HPR:=zH hpr;have HCASE:=zH hcase;have HD:=zH h;have CL:=zH (fun (W:World)=>qrr s W);have CI:=zH (fun (W:World)=>qlz s W);clear h hpr h1 h2 h3 hc;refine callsIn_of_wp_marks Tryz.func4 rfl trivial ?_ rfl;simp only[Tryz.ntmps4,List.size_toArray,List.length_cons,List.length_nil,Nat.reduceAdd,Nat.reduceSub,Array.replicate_succ,Array.replicate_zero,List.push_toArray,List.append_toArray,List.nil_append,List.cons_append];refine wpIn_wide.2 ?_
 by_cases h0:s=[]
 have d3:(s == [])=true:=by rw[beq_iff_eq];exact h0
 have d3':(s != [])=false:=by rw[h0];rfl
 obtain⟨a1,ha1⟩:∃a1:Nat->qa->Act,a1=fun H x=>{ tmps:=#[S s,undef,S [],.int .i64 0,.pointer (some ⟨H+1,0,none⟩),.pointer (some ⟨H+2,0,none⟩),S (x++[10]),S s,.int .i64 (s.length:Int),.bool false,.bool false,S s,I c,.bool (decide (100<(c:Int))),.bool (decide (100<(c:Int))),S s,.bool false,.bool false,undef,undef,undef,.bool false,.agg #[.slice none 0 0,.slice none 0 0],.pointer (some ⟨H,0,none⟩),S s,.func (.func 19) #[] #[.pointer (some ⟨H+3,0,none⟩)],S (x++[10]),undef,undef,undef,undef,undef,undef,undef],defers:=[] }:=⟨_,rfl⟩
 have HA1:=zH ha1;clear h0 hcase ha1
 rotate_left
 have d3:(s == [])=false:=by rw[zB];exact h0
 have d3':(s != [])=true:=by rw[bne_iff_ne];exact h0
 have h5:=hcase.resolve_left h0;rw[decide_eq_true h5]at CS;have CS:=zH (zU CS);obtain⟨a1,ha1⟩:∃a1:Nat->qa->Act,a1=fun H x=>{ tmps:=#[S s,undef,S [],.int .i64 0,.pointer (some ⟨H+1,0,none⟩),.pointer (some ⟨H+2,0,none⟩),S (x++[10]),S s,.int .i64 (s.length:Int),.bool false,.bool false,S s,I c,.bool (decide (100<(c:Int))),.bool (decide (100<(c:Int))),S s,.bool true,.bool true,S s,.bool true,.bool false,.bool false,.agg #[.slice none 0 0,.slice none 0 0],.pointer (some ⟨H,0,none⟩),S s,.func (.func 19) #[] #[.pointer (some ⟨H+3,0,none⟩)],S (x++[10]),undef,undef,undef,undef,undef,undef,undef],defers:=[] }:=⟨_,rfl⟩
 have HA1:=zH ha1;clear h0 hcase h5 ha1
 all_goals
  go_wp2_with fail;refine (zU CCt _).mono ?_;rintro e w1 ⟨rfl,rfl⟩;go_wp2_with fail
  try
   refine (zU CS _).mono ?_;rintro e w1 ⟨rfl,rfl⟩;go_wp2_with fail
  refine (zU CL _).mono ?_;rintro e w3 ⟨rfl,rfl⟩;go_wp2_with fail;have I0:=PI.first s w1 (zU HD)
  have hsz:((((w1.alloc (.cells #[.slice none 0 0,.slice none 0 0] 35)).alloc (.cells #[.pointer (some ⟨w1.heap.size,0,none⟩)] 29)).alloc (.cells #[.pointer none,.slice none 0 0] 39)).alloc (.cells #[S s] 9)).heap.size=w1.heap.size+4:=by simp
  obtain⟨W0,hW0⟩:∃W0,W0=(((w1.alloc (.cells #[.slice none 0 0,.slice none 0 0] 35)).alloc (.cells #[.pointer (some ⟨w1.heap.size,0,none⟩)] 29)).alloc (.cells #[.pointer none,.slice none 0 0] 39)).alloc (.cells #[S s] 9):=⟨_,rfl⟩
  rw[<-hW0]at I0 hsz ⊢;obtain⟨H,hH⟩:∃H,H=w1.heap.size:=⟨_,rfl⟩
  have HH:=zH hH;rw[<-hH]at I0 hsz ⊢;simp only[Nat.add_assoc,Nat.reduceAdd];clear hW0 hH;refine (wpIn_wide (n:=9)).1 ?_;refine qub (F:=Fence.wide) (n:=9) (P:=Tryz.prog) (w:=W0) rfl (by decide) (gf:=19) (lb:=#[.pointer (some ⟨H+3,0,none⟩)]) rfl trivial qnx (encs:=fun x:qa=>#[S (x++[10])]) (fun _=>rfl) (fun st W=>PI w1 H st.1 st.2 W) (PI.own w1 H (by omega)) (fun st x=>(∀c∈x,c≠10)/\x.length<=16384/\qJ qbt (qG,[]) [] s=qJ qbt st.1 [] (x++10::st.2)) (fun st x=>(qbt st.1 x,st.2)) ((qG,[]),s) (qJ qbt (qG,[]) [] s,[]) I0 ?_ (a1 H) ?_ ?_ ?_
  ·intro l Rec W hRec hYr hI hR;exact qrs (9-1) l (H+3) (by decide) (fun t r W=>PI w1 H t r W) Rec qbt (fun t r W h=>h.x) (fun t r r' W h=>h.set r') (fun t r W k h=>h.drewN k) hRec s (qG,[]) (fun t1 x r W1 hx hl hz h hr=>hYr (t1,r) x W1 ⟨hx,hl,hz⟩ h hr) W hs (zU HCASE) hI hR
  ·intro l x W K hK;rw[zU HA1]at hK
   gi_wp2
   exact hK
  ·rintro l ⟨t,r⟩ x W ⟨hx,hxl,hz⟩ hI;rw[zU HA1];have hroom:(qbt t x).2.length<=10000000:=qm4 hs qsA hx hz;have HI:=zH hI;have y0:W.cell? ⟨H+1,0,none⟩=some (.pointer (some ⟨H,0,none⟩)):=by rw[cell_of_row _ _ _ _ _ _ hI.pt];rfl
   have CT:=zH (fun (V:World)=>qsf x V hxl);have CN:=zH (fun (V:World) (hV:PI w1 H t r V)=>qsQ hV x hxl);have CW:=zH (fun (V:World) (hV:PI w1 H ((qaK t.1 x).1,t.2) r V)=>qra hV ((qaK t.1 x).2++[10]) hroom);obtain⟨g,hg⟩:∃g,g=qaK t.1 x:=⟨_,rfl⟩
   have hgl:g.2.length<=10000000:=by rw[hg];rw[zL,zL]at hroom;omega
   show Code.wpIn _ _ _ _ (qs3 (fun (st:(Arc×qa)×qa) W=>PI w1 H st.1 st.2 W) (((qaK t.1 x).1,t.2++((qaK t.1 x).2++[10])),r) W) _ _;rw[<-hg]at CN CW ⊢;have CN:=zH (zU CN);have CW:=zH (zU CW);clear hroom hI hz hx hg;have hmx:Tryz.prog.follows .mixedOrders=true:=by kernel_rfl
   have hd:1<=9-1-1:=by decide
   gi_wp2
   gi_region_with_o (first
    | (refine⟨trivial,?_⟩;gi_at_call 12;refine (CallsIn.inRound l (callsIn_wide.2 (zU CT _))).mono ?_;rintro e W2 ⟨rfl,rfl⟩)
    | (refine⟨trivial,?_⟩;gi_at_call 11;refine (CallsIn.inRound l (callsIn_wide.2 (zU CN _ ((zU HI).up (Below.refl _ _).drew)))).mono ?_;rintro e W3 ⟨rfl,hI3,hk3⟩)
    | (refine⟨trivial,?_⟩;gi_at_call 10;refine (CallsIn.inRound l (callsIn_wide.2 (zU CW _ hI3))).mono ?_;rintro e W4 ⟨rfl,hI4,hk4⟩))
   all_goals exact⟨((KeepsOthers.drew W).trans hk3).trans hk4,hI4⟩
  ·intro D W hD hI hK;have hI:PI w1 H (qJ qbt (qG,[]) [] s) [] W:=hI;have CB:=zH (qrZ (H+2) (H+2) _ W hI.b (by have:=(zE hI.x).1;omega));have HI:=zH hI;have HK:=zH hK;clear hI hK I0;go_wp2_with fail;refine (zU CB).mono ?_;rintro e W2 ⟨rfl,hb2,hk2⟩;have HB2:=zH hb2;have HK2:=zH hk2;clear hb2 hk2;go_wp2_with fail;refine⟨by simp,.inl ⟨_,_,rfl,run_takeDeferred ((zU HK2).same D _ (zU HK) rfl),_,results_tmp2 rfl _ _ _,?_,?_⟩⟩
   ·rw[zU HPR,qmz];rfl
   ·rw[<-zU HH];have hbl:=(zU HI).bel.trans ((zU HB2).mono (Nat.le_add_right H 2));exact hbl.grown (grownBy_putObj' W2 D _) (Nat.le_trans (Nat.le_of_eq (zU HH)) hbl.size) (fun k e=>by cases e;omega)
end
section
open Go.RowKit Go.Lib Pl
attribute [local go_sem] qf qe
theorem qiW(n:Nat)(w:World)(hn:n<10) :
  Calls Tryz.prog 39 #[I n] w fun e w'=>e=.returned (S (dig n))/\Below w.heap.size w w':=by
 obtain⟨b,hbb,hx⟩:=qjl (48+n) (by omega);rw[Int.natCast_add]at hx;have hx:(b.toNat:Int)=48+(n:Int):=hx;have HX:=zH hx;have ht:(n:Int).tmod 10=(n:Int):=by rw[Int.tmod_eq_emod_of_nonneg (by omega)];omega
 have hw1:IntKind.i64.wrap (48+(n:Int))=48+(n:Int):=IntWalk.i64_in _ ⟨by omega,by omega⟩;have hw2:IntKind.u8.wrap (48+(n:Int))=48+(n:Int):=by rw[IntKind.wrap_u8];omega
 have hcv:=fun (W:World)=>qbZ (P:=Tryz.prog) W b hx 5 37 9 5 Tryz.underlying37 Tryz.underlying5 Tryz.underlying9
 have hd:=Lib.decDigits_one hn;rw[<-hbb]at hd;have HD:=zH hd;have g1:decide ((n:Int)<10)=true:=by simp;omega
 clear hd hx hbb;go_enter Tryz.func39,Tryz.ntmps39;go_wp2_with fail;go_ret;exact⟨by show Ending.returned (S [b])=Ending.returned (S (dig n));rw[show dig n=[b]from zU HD],(Below.refl _ _).alloc (Nat.le_refl _) _⟩
theorem quV(k:Nat):∀(n:Nat) (w:World),n<10 ^ (k+1)->n<=9223372036854775807 ->
  Calls Tryz.prog 39 #[I n] w fun e w'=>e=.returned (S (dig n))/\Below w.heap.size w w':=by
 induction k with
 | zero=>exact fun n w hk _=>qiW n w (by simpa using hk)
 | succ k ih =>
  intro n w hk h1
  by_cases hn:n<10
  ·exact qiW n w hn
  obtain⟨r,hr⟩:∃r,r=n % 10:=⟨_,rfl⟩
  obtain⟨q,hq⟩:∃q,q=n / 10:=⟨_,rfl⟩
  have ht:(n:Int).tmod 10=(r:Int):=by rw[Int.tmod_eq_emod_of_nonneg (by omega)];omega
  have hw1:IntKind.i64.wrap (48+(r:Int))=48+(r:Int):=IntWalk.i64_in _ ⟨by omega,by omega⟩;have hw2:IntKind.u8.wrap (48+(r:Int))=48+(r:Int):=by rw[IntKind.wrap_u8];omega
  have hw3:IntKind.i64.wrap ((n:Int) / 10)=(q:Int):=by
   have e:(n:Int) / 10=(q:Int):=by omega
   rw[e];exact IntWalk.i64_in _ ⟨by omega,by omega⟩
  obtain⟨b,hbb,hx⟩:=qjl (48+r) (by omega);rw[Int.natCast_add]at hx;have hx:(b.toNat:Int)=48+(r:Int):=hx;have HX:=zH hx;have hcv:=fun (W:World)=>qbZ (P:=Tryz.prog) W b hx 5 37 9 5 Tryz.underlying37 Tryz.underlying5 Tryz.underlying9
  clear hx;have c1:=fun (W:World)=>ih q W (by rw[Nat.pow_succ]at hk;omega) (by omega);have C1:=zH c1
  have hlen:(dig q).length<=19:=qel 18 q (by
    have:(10:Nat) ^ 19=10000000000000000000:=by decide
    omega)
  have g1:decide ((n:Int)<10)=false:=by simp;omega
  have hd:dig n=dig q++[b]:=by unfold dig;rw[Lib.decDigits,dif_neg hn,hbb,hr,hq]
  have HD:=zH hd;obtain⟨l,hl⟩:∃l,l=dig q:=⟨_,rfl⟩
  rw[<-hl]at HD hlen C1;clear c1 ih hr hq hk hd hbb hn hl;go_enter Tryz.func39,Tryz.ntmps39;go_wp2_with fail;refine (zU C1 _).mono ?_;rintro e w1 ⟨rfl,hb1⟩;have HB:=zH (((Below.refl w.heap.size w).alloc (Nat.le_refl _) (.cells #[.int .u8 (48+(r:Int))] 5)).trans (hb1.mono (by simp)));clear hb1;go_wp2_with fail;go_ret;exact⟨by show Ending.returned (S (l++[b]))=Ending.returned (S (dig n));rw[show dig n=l++[b]from zU HD],zU HB⟩
theorem qe9(n:Nat)(w:World)(h1:n<=9223372036854775807) :
  Calls Tryz.prog 39 #[I n] w fun e w'=>e=.returned (S (dig n))/\Below w.heap.size w w' :=
 quV 18 n w (by
   have:(10:Nat) ^ 19=10000000000000000000:=by decide
   omega) h1
theorem qiq:∀(s:qa) (i:Nat),(∀k,k<i->s[k]?≠some 32)->i<=s.length->qi s=(s.take i++(qi (s.drop i)).1,(qi (s.drop i)).2.1,(qi (s.drop i)).2.2)
 | s,0,_,_=>by simp
 | [],i+1,_,h=>by simp at h
 | c::s,i+1,h,hi=>by
  have hc:c≠32:=by simpa using h 0 (by omega)
  have ih:=qiq s i (fun k hk=>by simpa using h (k+1) (by omega)) (by simpa using hi);simp only[List.take_succ_cons,List.drop_succ_cons,List.cons_append];rw[qi,if_neg hc,ih]
theorem qtL{s:qa}{i:Nat}(h:∀k,k<i->s[k]?≠some 32)(hi:s[i]?=some 32):qi s=(s.take i,s.drop (i+1),true):=by
 have hlt:=(List.getElem?_eq_some_iff.1 hi)
 obtain⟨hl,he⟩:=hlt;rw[qiq s i h (by omega),List.drop_eq_getElem_cons hl,he];simp[qi]
theorem qr8{s:qa}(h:∀k,k<s.length->s[k]?≠some 32):qi s=(s,[],false):=by
 rw[qiq s s.length h (Nat.le_refl _)];simp[qi]
theorem qeP(s:qa)(w:World)(hs:s.length<=16384) :
  Calls Tryz.prog 37 #[S s] w fun e w'=>e=.returned (.tuple #[S (qi s).1,S (qi s).2.1,.bool (qi s).2.2])/\Below w.heap.size w w':=by
 obtain⟨r,hr⟩:∃r,r=qi s:=⟨_,rfl⟩
 rw[<-hr];have HR:=zH hr;clear hr;go_enter Tryz.func37,Tryz.ntmps37;go_wp2_with fail;go_loopw [5] (fun iv wr=>∃k:Nat,k<=s.length/\iv=.int .i64 k/\(∀j,j<k->s[j]?≠some 32)/\Below w.heap.size w wr) (fun iv _=>s.length-(intOf iv).toNat)
 case atStart=>exact⟨0,by omega,rfl,fun j hj=>by omega,Below.refl _ _⟩
 case round =>
  obtain⟨k,hk,rfl,hno,hbel⟩:=hrel;have HNO:=zH hno;have HB:=zH hbel;clear hno hbel
  by_cases hks:k<s.length
  ·obtain⟨c,hcc⟩:∃c,(⟨s.toArray⟩:ByteArray)[k]'hks=c:=⟨_,rfl⟩
   have hsc:s[k]?=some c:=by rw[zG hks];exact congrArg some hcc
   have HC:=zH hsc;have hc256:=c.toNat_lt;obtain⟨x,hx⟩:∃x,x=c.toNat:=⟨_,rfl⟩
   have HX:=zH hx;rw[<-hx]at hc256;have hx':=hx.symm;clear hsc hx
   by_cases h32:x=32
   ·have hw:=qtL (zU HNO) (by rw[zU HC,show c=32 from UInt8.toNat_inj.1 (by rw[hx',h32];rfl)]);rw[<-zU HR]at hw;subst h32;have HW:=zH hw;clear hw;go_wp2_with fail;go_quiet (fail);go_wp2_with fail;go_ret3;rw[zU HW,show (s.take k,s.drop (k+1),true)=(slice s 0 k,slice s (k+1) s.length,true)by simp[slice]];exact⟨rfl,zD (zU HB) _⟩
   ·have d1:((x:Int) == 32)=false:=by rw[zB];omega
    clear h32;go_wp2_with fail;go_roundw
    case rel =>
     refine⟨k+1,by omega,by simp,fun j hj=>?_,zU HB⟩
     rcases Nat.lt_or_ge j k with h|h
     ·exact zU HNO j h
     ·obtain rfl:j=k:=by omega
      rw[zU HC];intro e;injection e with e
      have h5:=zU HX;rw[e]at h5;subst h5;simp at d1
    case measure=>simp[intOf];omega
  ·obtain rfl:k=s.length:=by omega
   have hw:=qr8 (zU HNO);rw[<-zU HR]at hw;have HW:=zH hw;clear hw;go_wp2_with fail;go_ret3;rw[zU HW];exact⟨rfl,zU HB⟩
theorem qp4{l:qa}{k:Nat}{b:UInt8}(hb:l[k]?=some b)(hd:Lib.digitVal b=none):∀acc,Lib.decFrom acc l=none:=by
 intro acc;cases h:Lib.decFrom acc l with
 | none=>rfl
 | some n=>obtain⟨d,e⟩:=Lib.digit_of_decFrom l acc n h k b hb;rw[hd]at e;cases e
theorem qvy{s:qa}(h:¬(1<=s.length/\s.length<=6)):qz s = -1:=by
 unfold qz;cases hd:Lib.decNat s with
 | none=>rfl
 | some n =>
  simp only;rw[if_neg];rintro⟨h1,h2⟩;have:=qp0 n;rw[h2]at this;exact h ⟨this,h1⟩
theorem qqq{s:qa}{k:Nat}{b:UInt8}(hb:s[k]?=some b)(hd:Lib.digitVal b=none):qz s = -1:=by
 unfold qz Lib.decNat;rw[qp4 hb hd];cases s.isEmpty <;> rfl
theorem qvz{s:qa}{n:Nat}(hl:1<=s.length/\s.length<=6)(h:Lib.decFrom 0 (s.take s.length)=some n):qz s=if dig n=s then (n:Int)else -1:=by
 rw[List.take_length]at h;unfold qz Lib.decNat;have he:s.isEmpty=false:=by cases s <;> simp_all
 rw[he,h];simp only[Bool.false_eq_true,if_false]
 by_cases hd:dig n=s
 ·rw[if_pos hd,if_pos ⟨hl.2,hd⟩]
 ·rw[if_neg hd,if_neg (fun h=>hd h.2)]
theorem qgq(s:qa)(w:World)(hs:s.length<=16384) :
  Calls Tryz.prog 69 #[S s] w fun e w'=>e=.returned (I (qz s))/\Below w.heap.size w w':=by
 have CW:=(qb4 (s.length:Int) 1 6 w).mono fun e w' ⟨h1,h2⟩=>(⟨h1,h2.symm⟩:e=Ending.returned (.bool (decide (1<=(s.length:Int)/\(s.length:Int)<=6)))/\w'=w)
 obtain⟨r,hr⟩:∃r,r=qz s:=⟨_,rfl⟩
 rw[<-hr]
 by_cases hl:¬(1<=s.length/\s.length<=6)
 ·rw[decide_eq_false (by omega)]at CW;rw[qvy hl]at hr;subst hr;have CW:=zH CW;clear hl;go_enter Tryz.func69,Tryz.ntmps69;go_wp2_with fail;refine (zU CW).mono ?_;rintro e w1 ⟨rfl,rfl⟩;go_wp2_with fail;go_ret;exact⟨rfl,Below.refl _ _⟩
 ·have hl:1<=s.length/\s.length<=6:=Decidable.not_not.1 hl;rw[decide_eq_true (by omega)]at CW;have CW:=zH CW;have HR:=zH hr;have HL:=zH hl;have CD:=zH (fun (n:Nat) (W:World) (h:n<=1000000)=>qe9 n W (by omega));clear hl hr;go_enter Tryz.func69,Tryz.ntmps69;go_wp2_with fail;refine (zU CW).mono ?_;rintro e w1 ⟨rfl,rfl⟩;go_wp2_with fail;go_loopw [3,4] (fun nv iv wr=>∃k n:Nat,k<=s.length/\iv=.int .i64 k/\nv=.int .i64 n/\Lib.decFrom 0 (s.take k)=some n/\n<10 ^ k/\Below w1.heap.size w1 wr) (fun _ iv _=>s.length-(intOf iv).toNat)
  case atStart=>exact⟨0,0,by omega,rfl,rfl,by simp[Lib.decFrom],by decide,Below.refl _ _⟩
  case round =>
   obtain⟨k,n,hk,rfl,rfl,hdec,hn,hbel⟩:=hrel
   have hn6:n<1000000:=by
    have hp:10 ^ k<=10 ^ 6:=Nat.pow_le_pow_right (by decide) (by have:=(zU HL).2;omega);have e6:(10:Nat) ^ 6=1000000:=by decide
    omega
   have HDEC:=zH hdec;have HN:=zH hn;have HB:=zH hbel;clear hdec hbel hn
   by_cases hks:k<s.length
   ·obtain⟨c,hcc⟩:∃c,(⟨s.toArray⟩:ByteArray)[k]'hks=c:=⟨_,rfl⟩
    have hsc:s[k]?=some c:=by rw[zG hks];exact congrArg some hcc
    have HC:=zH hsc;have hc256:=c.toNat_lt;obtain⟨x,hx⟩:∃x,x=c.toNat:=⟨_,rfl⟩
    rw[<-hx]at hc256;have HX:=zH hx;have hx':=hx.symm;clear hsc hx
    by_cases h48:x<48
    ·have hb:=qqq (zU HC) (by unfold Lib.digitVal;rw[if_neg (by rw[hx'];omega)]);rw[<-zU HR]at hb;have d1:decide ((x:Int)<48)=true:=by simp;omega
     have HBD:=zH hb;clear h48 hb;go_wp2_with fail;go_ret;rw[zU HBD];exact⟨rfl,zU HB⟩
    ·have d1:decide ((x:Int)<48)=false:=by simp;omega
     by_cases h57:57<x
     ·have hb:=qqq (zU HC) (by unfold Lib.digitVal;rw[if_neg (by rw[hx'];omega)]);rw[<-zU HR]at hb;have d2:decide ((57:Int)<(x:Int))=true:=by simp;omega
      have HBD:=zH hb;clear h48 h57 hb;go_wp2_with fail;go_ret;rw[zU HBD];exact⟨rfl,zU HB⟩
     ·have d2:decide ((57:Int)<(x:Int))=false:=by simp;omega
      have hst:=Lib.decFrom_take s k 0 n c (x-48) (zU HDEC) (zU HC) (by unfold Lib.digitVal;rw[if_pos (by rw[hx'];omega),hx']);have HST:=zH hst;obtain⟨y,hy⟩:∃y:Nat,x=y+48:=⟨x-48,by omega⟩
      subst hy;have hy9:y<=9:=by omega
      have w1:IntKind.i64.wrap (10*(n:Int))=10*(n:Int):=IntWalk.i64_in _ ⟨by omega,by omega⟩;have w2:IntKind.u8.wrap (((y+48:Nat):Int)-48)=(y:Int):=by rw[IntKind.wrap_u8];omega
      have w3:IntKind.i64.wrap (y:Int)=(y:Int):=IntWalk.i64_in _ ⟨by omega,by omega⟩;have w4:IntKind.i64.wrap (10*(n:Int)+(y:Int))=10*(n:Int)+(y:Int):=IntWalk.i64_in _ ⟨by omega,by omega⟩;clear h48 h57 hst;go_wp2_with fail;go_roundw
      case rel =>
       refine⟨k+1,10*n+y,by omega,by simp,by simp,?_,?_,zU HB⟩
       ·rw[show Lib.decFrom 0 (s.take (k+1))=some (n*10+(y+48-48))from zU HST]
        congr 1;omega
       ·have:=zU HN;rw[Nat.pow_succ];omega
      case measure=>simp[intOf];omega
   ·obtain rfl:k=s.length:=by omega
    have he:=qvz (zU HL) (zU HDEC);rw[<-zU HR]at he;obtain⟨d,hd⟩:∃d,d=dig n:=⟨_,rfl⟩
    have CD1:=zH (zU CD n wr (by omega));rw[<-hd]at he CD1;have HE:=zH he;clear he hd
    by_cases hds:d=s
    ·have d1:(d == s)=true:=by simpa using hds
     rw[if_pos hds]at HE;clear hds;go_wp2_with fail;refine (zU CD1).mono ?_;rintro e w2 ⟨rfl,hb2⟩;have HB2:=zH ((zU HB).trans (hb2.mono (zU HB).size));clear hb2;go_wp2_with fail;go_ret;rw[zU HE];exact⟨rfl,zU HB2⟩
    ·have d1:(d == s)=false:=by simpa using hds
     rw[if_neg hds]at HE;clear hds;go_wp2_with fail;refine (zU CD1).mono ?_;rintro e w2 ⟨rfl,hb2⟩;have HB2:=zH ((zU HB).trans (hb2.mono (zU HB).size));clear hb2;go_wp2_with fail;go_ret;rw[zU HE];exact⟨rfl,zU HB2⟩
def qd3(l:List Fil)(k:Nat):qa:=qau (l.take k)
theorem qln:∀(l:List Fil) (f:Fil),qau (l++[f])=if l=[]then qbR f else qau l++32::qbR f
 | [],f=>by simp[qau]
 | [g],f=>by simp[qau]
 | g::h::r,f=>by
  have ih:=qln (h::r) f;simp only[List.cons_append]at ih ⊢;rw[qau,ih];simp[qau]
theorem qrq{l:List Fil}{k:Nat}{f:Fil}(h:l[k]?=some f):qd3 l (k+1)=if k=0 then qbR f else qd3 l k++32::qbR f:=by
 have hk:k<l.length:=(List.getElem?_eq_some_iff.1 h).1;unfold qd3;rw[List.take_add_one,h];show qau (l.take k++[f])=_;rw[qln]
 by_cases h0:k=0
 ·subst h0;simp
 ·have hne:¬l.take k=[]:=fun e=>by
   rcases List.take_eq_nil_iff.1 e with h1|h1
   ·exact h0 h1
   ·rw[h1]at hk;simp at hk
  rw[if_neg h0,if_neg hne]
theorem quM:∀l:List Fil,l≠[]->qau l≠[]
 | [],h=>absurd rfl h
 | [f],_=>by simp[qau,qbR]
 | f::g::r,_=>by simp[qau,qbR]
theorem qev(args:Array Value)(w:World):(callFunc 39 args).run Tryz.prog w=.ok (.enter 39 args) w :=
 qbn Tryz.func39 (by kernel_rfl) (by kernel_rfl) args w
theorem qpZ(x:Int)(w:World)(h0:0<=x)(h1:x<=9223372036854775807) :
  Calls Tryz.prog 39 #[I x] w fun e w'=>e=.returned (S (dig x.toNat))/\Below w.heap.size w w':=by
 obtain⟨n,rfl⟩:=Int.eq_ofNat_of_zero_le h0;exact qe9 n w (by omega)
attribute [local go_sem ↓] qba in
theorem qrp(A:Option Addr)(n cap:Nat)(A2:Option Addr)(n2 cap2:Nat)(a:Arc)(w:World)(h:ArcIn w A n A2 n2 a)(hra:RightA a) :
  Calls Tryz.prog 40 #[qv A n cap A2 n2 cap2] w fun e w'=>e=.returned (S (qcg a))/\Below w.heap.size w w':=by
 obtain⟨B,hB⟩:∃B,B=w.heap.size:=⟨_,rfl⟩
 obtain⟨w0,hw0⟩:∃w0,w0=w.alloc (.cells #[.slice A n cap,.slice A2 n2 cap2] 33):=⟨_,rfl⟩
 have H0:=zH (show ABox A n cap A2 n2 cap2 a w w0 B by rw[hw0,hB];exact ABox.new h cap cap2);have hl2:=h.f.1;have hn12:=hra.nf;have HNUM:=zH (fun f (hf:f∈a.fs)=>qce hra.nd hra.sd (hra.fr.each f hf));rw[<-hB];have HB:=zH hB;have HW0:=zH hw0;have hsz:n2<=12:=by omega
 have HL2:=zH hl2;clear hB hw0 h hra hl2 hn12;go_enter Tryz.func40,Tryz.ntmps40;go_upto_region 1 with fail
 rw[<-zU HW0,<-zU HB];go_wp2_with fail;go_loopw [3,4] (fun sv iv wr=>∃j:Nat,j<=n2/\iv=.int .i64 j/\sv=S (qd3 a.fs j)/\(qd3 a.fs j).length<=31*j/\ABox A n cap A2 n2 cap2 a w wr B) (fun _ iv _=>n2-(intOf iv).toNat)
 case atStart=>exact⟨0,Nat.zero_le _,rfl,rfl,by simp[qd3,qau],zU H0⟩
 case round =>
  obtain⟨j,hj,rfl,rfl,hlj,hAB⟩:=hrel;have HAB:=zH hAB;obtain⟨q0,q1⟩:=hAB.c
  by_cases hjn:j<n2
  ·obtain⟨b,off,f,rfl,hb,hf,x0,x1,x2,x3,x4⟩:=hAB.i.f.at_ (k:=j) hjn;have hs:=qrq hf;obtain⟨g1,g2,g3,g4,g5,g6,g7,g8⟩:=zU HNUM f (List.mem_of_getElem? hf);have hil:=qkp g1 g5 g8;have l1:=qel 3 f.size.toNat (by omega);have l2:=qel 3 f.block.length (by omega)
   have hlj1:(qd3 a.fs (j+1)).length<=31*(j+1):=by
    rw[hs];split
    ·omega
    ·simp only[zL,List.length_cons];omega
   have HLJ:=zH hlj1;have z1:(j:Int)<(n2:Int):=by omega
   obtain⟨lk,hlk⟩:∃x,x=qd3 a.fs j:=⟨_,rfl⟩
   obtain⟨nm,hnm⟩:∃x,x=f.name:=⟨_,rfl⟩
   obtain⟨bl,hbl⟩:∃x,x=f.block:=⟨_,rfl⟩
   obtain⟨fz,hfz⟩:∃x,x=f.size:=⟨_,rfl⟩
   obtain⟨dz,hdz⟩:∃x,x=dig f.size.toNat:=⟨_,rfl⟩
   obtain⟨db,hdb⟩:∃x,x=dig f.block.length:=⟨_,rfl⟩
   have hit:qbR f=nm++58::(dz++47::db):=by unfold qbR;rw[hnm,hdz,hdb]
   have CD1:=fun (W:World)=>qpZ f.size W (by omega) (by omega);have CD2:=fun (W:World)=>qe9 f.block.length W (by omega);rw[<-hdz,<-hfz]at CD1;rw[<-hdb,<-hbl]at CD2;have CD1:=zH CD1;have CD2:=zH CD2;rw[<-hdz]at l1;rw[<-hdb]at l2;rw[<-hnm]at g1 x0;rw[<-hfz]at x2;rw[<-hbl]at x4;rw[<-hlk]at hs hlj ⊢;rw[hit]at hs;obtain⟨dc,hdc⟩:∃x,x=f.dict:=⟨_,rfl⟩
   obtain⟨sm,hsm⟩:∃x,x=f.sum:=⟨_,rfl⟩
   rw[<-hdc]at x1;rw[<-hsm]at x3;have hll:lk.length<=400:=by omega
   have hg8:bl.length<=3901:=by rw[hbl];exact g8
   have HG8:=zH hg8;clear hfz hdz hdb hit hnm hbl hdc hsm hil hf g2 g3 g4 g5 g6 g7 g8 hlj1 hg8
   by_cases h0:j=0
   rw[if_pos h0]at hs;have hl0:lk=[]:=by rw[hlk,h0];simp[qd3,qau]
   obtain⟨v0,hv0⟩:∃v,v=lk:=⟨_,rfl⟩
   have HS2:=zH (show qd3 a.fs (j+1)=v0++(nm++58::(dz++47::db))by rw[hs,hv0,hl0];rfl);have hv1:v0.length<=401:=by rw[hv0];omega
   have HV0:=zH hv0;have z0:¬(0:Int)<(j:Int):=by omega
   have z0':¬0<j:=by omega
   clear h0 hl0 hs hlk hv0
   rotate_left
   rw[if_neg h0]at hs;obtain⟨v0,hv0⟩:∃v,v=lk++[32]:=⟨_,rfl⟩
   have HS2:=zH (show qd3 a.fs (j+1)=v0++(nm++58::(dz++47::db))by rw[hs,hv0];simp);have hv1:v0.length<=401:=by rw[hv0];simp;omega
   have HV0:=zH hv0;have b0:lk.length+1<=9223372036854775807:=by omega
   have b0a:lk.length<=9223372036854775806:=by omega
   have z0:(0:Int)<(j:Int):=by omega
   have z0':0<j:=by omega
   clear h0 hs hlk hv0
   all_goals
    go_upto_region 8 with fail
    rw[<-zU HV0];obtain⟨w2,hw2⟩:∃w2,w2=wr.alloc (.cells #[S nm,I dc,I fz,I sm,S bl] 89):=⟨_,rfl⟩
    obtain⟨D,hD⟩:∃D,D=wr.heap.size:=⟨_,rfl⟩
    have HBX:=zH (show w2.heap[D]?=some (.cells #[S nm,I dc,I fz,I sm,S bl] 89 (0,0))by rw[hw2,hD];exact heap_alloc_new _ _);have HA2:=zH (show ABox A n cap (some ⟨b,off,none⟩) n2 cap2 a w w2 B by rw[hw2];exact (zU HAB).below ((Below.refl _ _).alloc (Nat.le_refl _) _));rw[<-hw2,<-hD];clear hw2 hD x0 x1 x2 x3 x4 q0 q1 hll HV0 hb;refine AnyK.begin (fun W=>W.cell? ⟨D,0,none⟩=some (S nm)/\W.cell? ⟨D,2,none⟩=some (I fz)/\W.cell? ⟨D,4,none⟩=some (S bl)) 16 16 (by kernel_rfl) rfl ?_;have HSC:=zH (fun (W:World) (h:W.heap[D]?=some (.cells #[S nm,I dc,I fz,I sm,S bl] 89 (0,0)))=>(⟨(qbA h 0 _ rfl).1,(qbA h 2 _ rfl).1,(qbA h 4 _ rfl).1⟩:W.cell? ⟨D,0,none⟩=some (S nm)/\W.cell? ⟨D,2,none⟩=some (I fz)/\W.cell? ⟨D,4,none⟩=some (S bl)));have hs3:=zU HSC w2.drew (zU HBX);refine AnyK.t 0 16 ?_ hs3 ?_ ?_
    rotate_left
    ·rintro W ⟨hS1,hS2,hS3⟩;go_simp
     first|with_reducible rfl|(rw[if_neg (by first|omega|(simp;omega))])
    refine AnyK.t 1 16 ?_ hs3 ?_ ?_
    rotate_left
    ·rintro W ⟨hS1,hS2,hS3⟩;go_simp
     first|with_reducible rfl|(rw[if_neg (by first|omega|(simp;omega))])
    refine AnyK.t 2 16 ?_ hs3 ?_ ?_
    rotate_left
    ·rintro W ⟨hS1,hS2,hS3⟩;go_simp
     first|with_reducible rfl|(rw[if_neg (by first|omega|(simp;omega))])
    refine AnyK.t 3 16 ?_ hs3 ?_ ?_
    rotate_left
    ·rintro W ⟨hS1,hS2,hS3⟩;go_simp
     first|with_reducible rfl|(rw[if_neg (by first|omega|(simp;omega))])
    refine AnyK.t 4 16 ?_ hs3 ?_ ?_
    rotate_left
    ·rintro W ⟨hS1,hS2,hS3⟩;go_simp
     first|with_reducible rfl|(rw[if_neg (by first|omega|(simp;omega))])
    refine AnyK.t 5 16 ?_ hs3 ?_ ?_
    rotate_left
    ·rintro W ⟨hS1,hS2,hS3⟩;go_simp
     first|with_reducible rfl|(rw[if_neg (by first|omega|(simp;omega))])
    refine AnyK.t 6 16 ?_ hs3 ?_ ?_
    rotate_left
    ·rintro W ⟨hS1,hS2,hS3⟩;go_simp
     first|with_reducible rfl|(rw[if_neg (by first|omega|(simp;omega))])
    refine AnyK.t 10 16 ?_ hs3 ?_ ?_
    rotate_left
    ·rintro W ⟨hS1,hS2,hS3⟩;go_simp
     first|with_reducible rfl|(rw[if_neg (by first|omega|(simp;omega))])
    refine AnyK.t 11 16 ?_ hs3 ?_ ?_
    rotate_left
    ·rintro W ⟨hS1,hS2,hS3⟩;go_simp
     first|with_reducible rfl|(rw[if_neg (by first|omega|(simp;omega))])
    refine AnyK.t 12 16 ?_ hs3 ?_ ?_
    rotate_left
    ·rintro W ⟨hS1,hS2,hS3⟩;go_simp
     first|with_reducible rfl|(rw[if_neg (by first|omega|(simp;omega))])
    refine AnyK.one 7 rfl (by kernel_rfl) (fun K hK=>?_);refine qfV rfl 39 28 _ rfl (I fz) rfl qev ((zU CD1 _).mono ?_);rintro rr w4 ⟨rfl,hb⟩;refine⟨_,rfl,?_⟩;have HBw4:=zH ((show Below w2.heap.size w2 w2.drew from (Below.refl _ _).drew).trans hb);have hs4:=zU HSC w4 (((zU HBw4).block D (zE (zU HBX)).1).trans (zU HBX));clear hb;refine AnyK.o hK (fun _=>hs4) ?_;clear hK K;refine AnyK.t 8 16 ?_ hs4 ?_ ?_
    rotate_left
    ·rintro W ⟨hS1,hS2,hS3⟩;go_simp
     first|with_reducible rfl|(rw[if_neg (by first|omega|(simp;omega))])
    refine AnyK.t 9 16 ?_ hs4 ?_ ?_
    rotate_left
    ·rintro W ⟨hS1,hS2,hS3⟩;go_simp
     first|with_reducible rfl|(rw[if_neg (by first|omega|(simp;omega))])
    refine AnyK.one 13 rfl (by kernel_rfl) (fun K hK=>?_);refine qfV rfl 39 34 _ rfl (I bl.length) rfl qev ((zU CD2 _).mono ?_);rintro rr w5 ⟨rfl,hb⟩;refine⟨_,rfl,?_⟩;have HBw5:=zH ((zU HBw4).trans (hb.mono (zU HBw4).size));have hs5:=zU HSC w5 (((zU HBw5).block D (zE (zU HBX)).1).trans (zU HBX));clear hb;refine AnyK.o hK (fun _=>hs5) ?_;clear hK K;refine AnyK.t 14 16 ?_ hs5 ?_ ?_
    rotate_left
    ·rintro W ⟨hS1,hS2,hS3⟩;go_simp
     first|with_reducible rfl|(rw[if_neg (by first|omega|(simp;omega))])
    refine AnyK.t 15 16 ?_ hs5 ?_ ?_
    rotate_left
    ·rintro W ⟨hS1,hS2,hS3⟩;go_simp
     first|with_reducible rfl|(rw[if_neg (by first|omega|(simp;omega))])
    clear hs3 hs4 hs5;refine AnyK.done (by kernel_rfl) ?_;go_wp2_with fail;go_roundw
    case rel=>exact⟨j+1,by omega,by simp,by rw[zU HS2],zU HLJ,(zU HA2).below (zU HBw5)⟩
    case measure=>simp[intOf];omega
  ·obtain rfl:j=n2:=by omega
   have z1:¬(j:Int)<(j:Int):=by omega
   have z2:decide ((j:Int)<(j:Int))=false:=by simp
   have hall:qd3 a.fs j=qau a.fs:=by unfold qd3;rw[List.take_of_length_le (by have:=zU HL2;omega)]
   have hls:qcg a=if qau a.fs=[]then qnV else qau a.fs:=by
    unfold qcg
    by_cases h0:a.fs=[]
    ·rw[if_pos h0,h0];rfl
    ·rw[if_neg h0,if_neg (quM _ h0)]
   rw[hall];obtain⟨u,hu⟩:∃u,u=qau a.fs:=⟨_,rfl⟩
   rw[<-hu]at hls ⊢;have HLS:=zH hls;clear hall hls hu hlj hjn hj
   by_cases h0:u=[]
   ·subst h0;go_wp2_with fail;go_ret;rw[zU HLS];exact⟨rfl,(zU HAB).bel⟩
   ·have d1:(u == [])=false:=by simpa using h0
    go_wp2_with fail;go_ret;rw[zU HLS,if_neg h0];exact⟨rfl,(zU HAB).bel⟩
end
end Go.Proofs.YtbnmfdlaabdlhaaGreatDoor
