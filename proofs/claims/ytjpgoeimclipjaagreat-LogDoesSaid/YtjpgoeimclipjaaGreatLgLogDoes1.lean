/- Parts of the proofs. -/
import Derived.Test.YtjpgoeimclipjaaGreatLg14
import Derived.Lib.SmallJoins
namespace Go.Proofs.YtjpgoeimclipjaaGreat
open Go.RowKit Go.Lib Pl
attribute [local go_sem] ext_list app_list
section
variable {W W' : World} {p : Nat} {A : Option Addr} {n cap : Nat} {A2 : Option Addr} {n2 cap2 : Nat} {a : Arc}
theorem AV.box (h:ArcIn W A n A2 n2 a) (cap cap2:Nat):AV (W.alloc (.cells #[.slice A n cap,.slice A2 n2 cap2] 33)) W.heap.size A n cap A2 n2 cap2 a:=⟨heap_alloc_new _ _,h.alloc _⟩
end
end Go.Proofs.YtjpgoeimclipjaaGreat
namespace Go.Proofs.YtjpgoeimclipjaaGreat
open Go.RowKit Go.Lib Pl
section
variable {w W W' : World} {B : Nat} {l : List Vr}
theorem St.box {A A2:Option Addr} {n n2:Nat} {a:Arc} (h:ArcIn w A n A2 n2 a) (cap cap2:Nat):St w (w.alloc (.cells #[.slice A n cap,.slice A2 n2 cap2] 33)) w.heap.size [⟨w.heap.size,A,n,cap,A2,n2,cap2,a⟩] :=
 ⟨by simp;exact AV.box h cap cap2,(Below.refl _ _).alloc (Nat.le_refl _) _,by simp⟩
end
end Go.Proofs.YtjpgoeimclipjaaGreat
namespace Go.Proofs.YtjpgoeimclipjaaGreat
open Go.RowKit Go.Lib Pl
attribute [local go_sem] ext_list app_list
set_option maxHeartbeats 8000000 in
set_option maxRecDepth 100000 in
theorem logDoes_any (A:Option Addr) (n cap:Nat) (A2:Option Addr) (n2 cap2:Nat) (a:Arc) (x:Act') (w:World) (h:ArcIn w A n A2 n2 a) (hz:ArcSz a) (hx:ActSz x) (hm:MaxLenIs w) :
  Calls Tryz.prog 12 #[arcV A n cap A2 n2 cap2,actV x] w fun e w'=>e = .returned (.bool true)∧Below w.heap.size w w':=by
 obtain ⟨r,hr⟩:∃ r,r=doA a x:=⟨_,rfl⟩
 have C1:=fun (W:World) (hi:ArcIn W A n A2 n2 a) (hM:MaxLenIs W)=>do_any A n cap A2 n2 cap2 a x W hi hz hx hM;have C2:=fun (W:World) (hi:ArcIn W A n A2 n2 a)=>doOf_any A n cap A2 n2 cap2 a x W hi hz hx;have hra:=doA_ra a x;rw [←hr] at C1 C2 hra;have hnd:=hra.nd;have hnf:=hra.nf;have C1:=zH C1;have C2:=zH C2;clear hr hra hz hx;obtain ⟨B,hB⟩:∃ B,B=w.heap.size:=⟨_,rfl⟩
 obtain ⟨w0,hw0⟩:∃ w0,w0=(w.alloc (.cells #[.slice A n cap,.slice A2 n2 cap2] 33)).alloc (.cells #[I x.kind,I x.n,S x.name,S x.text] 29):=⟨_,rfl⟩
 obtain ⟨B0,hB0⟩:∃ B0,B0=w0.heap.size:=⟨_,rfl⟩
 have hin:St w w0 B [⟨B,A,n,cap,A2,n2,cap2,a⟩]:=by rw [hw0,hB];exact (St.box h cap cap2).below ((Below.refl _ _).alloc (Nat.le_refl _) _)
 have hact:w0.heap[B+1]? = some (.cells #[I x.kind,I x.n,S x.name,S x.text] 29 (0,0)):=by
  have h2:=heap_alloc_new (w.alloc (.cells #[.slice A n cap,.slice A2 n2 cap2] 33)) (.cells #[I x.kind,I x.n,S x.name,S x.text] 29);rw [show (w.alloc (.cells #[.slice A n cap,.slice A2 n2 cap2] 33)).heap.size=B+1 from by rw [hB];simp,←hw0] at h2;exact h2
 have H0:=zH (show St w0 w0 B0 [⟨B,A,n,cap,A2,n2,cap2,a⟩] from ⟨hin.v,by rw [hB0];exact Below.refl _ _,by rw [hB0];exact Nat.le_refl _⟩);have HBW:=zH hin.bel;have hlt:B+1<B0:=by rw [hB0];exact (Array.getElem?_eq_some_iff.1 hact).1
 have HACT:=zH (fun (W:World) (hb:Below B0 w0 W)=>show W.heap[B+1]? = some (.cells #[I x.kind,I x.n,S x.name,S x.text] 29 (0,0)) from (hb.block _ hlt).trans hact);have HM:=zH (show MaxLenIs w0 from hm.up (by have:=zU HBW;rw [hB] at this;exact this));have HLE:=zH (show B≤B0 by omega);have HB:=zH hB;have HW0:=zH hw0;have HB0:=zH hB0;rw [←hB];clear hB hw0 hB0 hact hlt hm hin h;obtain ⟨xk,xn,xs,xt⟩:=x;go_enter Tryz.func12,Tryz.ntmps12;go_upto_region 1 with fail
 rw [←zU HW0,←zU HB];have u0x0:w0.cell? ⟨B,0,none⟩=some (.slice A n cap):=(zU H0).c0 0 rfl;have v0x0:w0.cell? ⟨B,1,none⟩=some (.slice A2 n2 cap2):=(zU H0).c1 0 rfl;obtain ⟨p00,p01,p02,p03⟩:=act_cells (zU HACT _ (zU H0).bel);go_wp2_with fail;refine (zU C1 _ ((zU H0).at_ 0 rfl).i ((zU HM).up (by have:=(zU H0).bel;rw [zU HB0] at this;exact this))).mono ?_;rintro e w1 ⟨hr1,hb1⟩;obtain ⟨Ra1,na1,ca1,Rb1,nb1,cb1,rfl,hi1,hc1,ho1⟩:=hr1.open;have H1:=zH ((zU H0).below hb1);have HI1:=zH hi1;have HC1:=zH hc1;have HO1:=zH ho1;clear hb1 hi1 hc1 hr1 ho1;go_upto_region 2 with (refine wpList_store_row rfl 33 (.tmp 5) (.tmp 13) rfl w1.heap.size #[.slice Ra1 na1 ca1,.slice Rb1 nb1 cb1] rfl rfl 33 _ (heap_alloc_new _ _) sizeArc rfl (one_two _ _ _ _ _ _) ?_)
 obtain ⟨x1,hx1⟩:∃ x,x=(w1.alloc (.cells #[.slice none 0 0,.slice none 0 0] 33)).setRow w1.heap.size #[.slice Ra1 na1 ca1,.slice Rb1 nb1 cb1]:=⟨_,rfl⟩
 obtain ⟨P1,hP1⟩:∃ P,P=w1.heap.size:=⟨_,rfl⟩
 have G1:=zH (show St w0 x1 B0 [⟨P1,Ra1,na1,ca1,Rb1,nb1,cb1,r.1⟩,⟨B,A,n,cap,A2,n2,cap2,a⟩] by rw [hx1,hP1];exact (zU H1).new (zU HI1) ca1 cb1);rw [←hx1,←hP1];clear hx1 hP1;clear u0x0 v0x0 p00 p01 p02 p03;have u1x0:x1.cell? ⟨P1,0,none⟩=some (.slice Ra1 na1 ca1):=(zU G1).c0 0 rfl;have v1x0:x1.cell? ⟨P1,1,none⟩=some (.slice Rb1 nb1 cb1):=(zU G1).c1 0 rfl;have u1x1:x1.cell? ⟨B,0,none⟩=some (.slice A n cap):=(zU G1).c0 1 rfl;have v1x1:x1.cell? ⟨B,1,none⟩=some (.slice A2 n2 cap2):=(zU G1).c1 1 rfl;obtain ⟨p10,p11,p12,p13⟩:=act_cells (zU HACT _ (zU G1).bel);go_wp2_with fail;refine (zU C2 _ ((zU G1).at_ 1 rfl).i).mono ?_;rintro e w2 ⟨hr2,hb2⟩;obtain ⟨Ra2,na2,ca2,Rb2,nb2,cb2,rfl,hi2,hc2,ho2⟩:=hr2.open;have H2:=zH ((zU G1).below hb2);have HI2:=zH hi2;have HC2:=zH hc2;have HO2:=zH ho2;clear hb2 hi2 hc2 hr2 ho2;go_upto_region 3 with (refine wpList_store_row rfl 33 (.tmp 7) (.tmp 19) rfl w2.heap.size #[.slice Ra2 na2 ca2,.slice Rb2 nb2 cb2] rfl rfl 33 _ (heap_alloc_new _ _) sizeArc rfl (one_two _ _ _ _ _ _) ?_)
 obtain ⟨x2,hx2⟩:∃ x,x=(w2.alloc (.cells #[.slice none 0 0,.slice none 0 0] 33)).setRow w2.heap.size #[.slice Ra2 na2 ca2,.slice Rb2 nb2 cb2]:=⟨_,rfl⟩
 obtain ⟨P2,hP2⟩:∃ P,P=w2.heap.size:=⟨_,rfl⟩
 have G2:=zH (show St w0 x2 B0 [⟨P2,Ra2,na2,ca2,Rb2,nb2,cb2,r.1⟩,⟨P1,Ra1,na1,ca1,Rb1,nb1,cb1,r.1⟩,⟨B,A,n,cap,A2,n2,cap2,a⟩] by rw [hx2,hP2];exact (zU H2).new (zU HI2) ca2 cb2);rw [←hx2,←hP2];clear hx2 hP2;clear u1x0 v1x0 u1x1 v1x1 p10 p11 p12 p13;have u2x0:x2.cell? ⟨P2,0,none⟩=some (.slice Ra2 na2 ca2):=(zU G2).c0 0 rfl;have v2x0:x2.cell? ⟨P2,1,none⟩=some (.slice Rb2 nb2 cb2):=(zU G2).c1 0 rfl;have u2x1:x2.cell? ⟨P1,0,none⟩=some (.slice Ra1 na1 ca1):=(zU G2).c0 1 rfl;have v2x1:x2.cell? ⟨P1,1,none⟩=some (.slice Rb1 nb1 cb1):=(zU G2).c1 1 rfl;have u2x2:x2.cell? ⟨B,0,none⟩=some (.slice A n cap):=(zU G2).c0 2 rfl;have v2x2:x2.cell? ⟨B,1,none⟩=some (.slice A2 n2 cap2):=(zU G2).c1 2 rfl;obtain ⟨p20,p21,p22,p23⟩:=act_cells (zU HACT _ (zU G2).bel);go_wp2_with fail;refine (logBegun_any _ ((zU HM).up (by have:=(zU G2).bel;rw [zU HB0] at this;exact this))).mono ?_;rintro e w3 ⟨rfl,hb3⟩;have H3:=zH ((zU G2).below hb3);clear hb3;clear u2x0 v2x0 u2x1 v2x1 u2x2 v2x2 p20 p21 p22 p23;have u3x0:w3.cell? ⟨P2,0,none⟩=some (.slice Ra2 na2 ca2):=(zU H3).c0 0 rfl;have v3x0:w3.cell? ⟨P2,1,none⟩=some (.slice Rb2 nb2 cb2):=(zU H3).c1 0 rfl;have u3x1:w3.cell? ⟨P1,0,none⟩=some (.slice Ra1 na1 ca1):=(zU H3).c0 1 rfl;have v3x1:w3.cell? ⟨P1,1,none⟩=some (.slice Rb1 nb1 cb1):=(zU H3).c1 1 rfl;have u3x2:w3.cell? ⟨B,0,none⟩=some (.slice A n cap):=(zU H3).c0 2 rfl;have v3x2:w3.cell? ⟨B,1,none⟩=some (.slice A2 n2 cap2):=(zU H3).c1 2 rfl;obtain ⟨p30,p31,p32,p33⟩:=act_cells (zU HACT _ (zU H3).bel);go_wp2_with fail;refine (sameArc _ _ _ _ _ _ _ _ _ _ _ _ _ _ ((zU H3).at_ 1 rfl).i ((zU H3).at_ 0 rfl).i hnd hnf).mono ?_;rintro e w4 ⟨rfl,hb4⟩;have H4:=zH ((zU H3).below hb4);clear hb4;clear u3x0 v3x0 u3x1 v3x1 u3x2 v3x2 p30 p31 p32 p33;have u4x0:w4.cell? ⟨P2,0,none⟩=some (.slice Ra2 na2 ca2):=(zU H4).c0 0 rfl;have v4x0:w4.cell? ⟨P2,1,none⟩=some (.slice Rb2 nb2 cb2):=(zU H4).c1 0 rfl;have u4x1:w4.cell? ⟨P1,0,none⟩=some (.slice Ra1 na1 ca1):=(zU H4).c0 1 rfl;have v4x1:w4.cell? ⟨P1,1,none⟩=some (.slice Rb1 nb1 cb1):=(zU H4).c1 1 rfl;have u4x2:w4.cell? ⟨B,0,none⟩=some (.slice A n cap):=(zU H4).c0 2 rfl;have v4x2:w4.cell? ⟨B,1,none⟩=some (.slice A2 n2 cap2):=(zU H4).c1 2 rfl;obtain ⟨p40,p41,p42,p43⟩:=act_cells (zU HACT _ (zU H4).bel);go_wp2_with fail;go_ret;exact ⟨rfl,(zU HBW).trans ((zU H4).bel.mono (zU HLE))⟩
end Go.Proofs.YtjpgoeimclipjaaGreat
namespace Go.Proofs.YtjpgoeimclipjaaGreat
open Go.ChangeShapes Go.WideShapes Go.Deep Go.RowKit Pl
set_option maxRecDepth 100000 in
theorem open_strsW {H:Type} {enc:TypeId×Value→H} {w:World} {fuel:Nat} {v:Value} {d:DataW H} {p:List MemPlace}
  (hf:DataW.trod enc Tryz.prog w 0 (fun _=>true) true fuel 30 [v]=some (d,p)) (hlt:∀ x∈p,x.block<w.heap.size) (hwt:∀ n∈d.weights Tryz.prog 30,n≤reachBytes) :
  ∃ A n cap l,v = .slice A n cap∧StrsAt w w.heap.size A n l∧(∀ t∈l,t.length≤140737488355328)∧n≤4611686018427387904∧n≤cap:=by
 rcases open_slice1 Tryz.underlying30 (by kernel_rfl) hf with ⟨hcs,hx⟩ | ⟨a,len,cap',m,k,V,D,Pl,hcs,_,hlc,hcm,hm,hx,hi⟩
 ·injection hcs with hcs
  exact ⟨_,_,_,[],hcs,⟨rfl,fun h=>absurd h (by omega)⟩,by simp,by omega,by omega⟩
 ·injection hcs with hcs
  have hm:m=cap':=by simpa using hm
  subst hm;injection hx with hd hp
  have hbt:Tryz.prog.bytesOf 9=16:=by kernel_rfl
  have hrb:reachBytes=140737488351232:=rfl
  have hn:len≤4611686018427387904:=by
   have:=hwt (((List.range len).map D).length*16+((List.range (m-len)).map fun j=>D (len+j)).length*16) (by
    rw [hd];simp only [DataW.weights,Tryz.underlying30,hbt,Nat.add_mul];exact List.mem_cons_self)
   simp at this;omega
  have hl:∀ i,i<len→∃ t:Bytes,w.cell? (a.add i)=some (S t)∧t.length≤140737488355328:=by
   intro i hin;obtain ⟨c0,t0⟩:=hi i (by omega);obtain ⟨s,hs,hy,_⟩:=DataW.trod_string Tryz.underlying9 t0;injection hs with hs
   injection hy with hy _
   rw [hs] at c0;refine ⟨s.data.toList,c0,?_⟩;have hmem:D i∈(List.range len).map D:=List.mem_map.2 ⟨i,List.mem_range.2 hin,rfl⟩
   have:=hwt s.data.toList.length (by
    rw [hd];simp only [DataW.weights,Tryz.underlying30,List.mem_cons,List.mem_append];exact .inr (.inl (weights_all_mem hmem _ (by rw [hy];simp [DataW.weights]))))
   omega
  obtain ⟨l,hll,hlp⟩:=list_of len _ hl;refine ⟨_,len,m,l,hcs,⟨hll,fun hn=>?_⟩,fun t ht=>?_,hn,by omega⟩
  ·obtain ⟨b,off,spot⟩:=a
   have hspot:spot=none:=by
    obtain ⟨t,c0,_⟩:=hl 0 hn;simpa [Addr.add] using World.cell?_spot c0
   subst hspot
   have hb:b<w.heap.size:=by
    refine hlt (.cell b off) ?_;rw [hp];exact List.mem_append_left _ (MemPlace.mem_row.2 ⟨0,by omega,rfl⟩)
   refine ⟨b,off,rfl,hb,fun i t ht=>?_⟩;have:=(hlp i t ht).1;simpa only [Go.WideShapes.add_plain] using this
  ·obtain ⟨i,hi2⟩:=List.mem_iff_getElem?.1 ht;exact (hlp i t hi2).2
set_option maxRecDepth 100000 in
theorem open_filsW {H:Type} {enc:TypeId×Value→H} {w:World} {fuel:Nat} {v:Value} {d:DataW H} {p:List MemPlace}
  (hf:DataW.trod enc Tryz.prog w 0 (fun _=>true) true fuel 31 [v]=some (d,p)) (hlt:∀ x∈p,x.block<w.heap.size) (hwt:∀ n∈d.weights Tryz.prog 31,n≤reachBytes) :
  ∃ A n cap l,v = .slice A n cap∧filsAt w w.heap.size A n l∧(∀ t∈l,FilSz t)∧n≤4611686018427387904:=by
 rcases open_slice_fields Tryz.underlying31 Tryz.underlying61 (by kernel_rfl) (by kernel_rfl) hf with ⟨hcs,hx⟩ | ⟨a,len,cap',m,D,Pl,hcs,_,hlc,hcm,hm,hx,hi⟩
 ·injection hcs with hcs
  exact ⟨_,_,_,[],hcs,⟨rfl,fun h=>absurd h (by omega)⟩,by simp,by omega⟩
 ·injection hcs with hcs
  have hm:m=cap':=by simpa using hm
  subst hm;injection hx with hd hp
  have hbt:Tryz.prog.bytesOf 61=56:=by kernel_rfl
  have hrb:reachBytes=140737488351232:=rfl
  have hn:len≤4611686018427387904:=by
   have:=hwt (((List.range len).map D).length*56+((List.range (m-len)).map fun j=>D (len+j)).length*56) (by
    rw [hd];simp only [DataW.weights,Tryz.underlying31,hbt,Nat.add_mul];exact List.mem_cons_self)
   simp at this;omega
  have hl:∀ i,i<len→∃ t:Fil,(w.cell? (a.add (i*5))=some (S t.name)∧w.cell? (a.add (i*5+1))=some (I t.dict)∧w.cell? (a.add (i*5+2))=some (I t.size)∧w.cell? (a.add (i*5+3))=some (I t.sum)∧w.cell? (a.add (i*5+4))=some (S t.block))∧FilSz t:=by
   intro i hin;obtain ⟨ys,k,hD,_,_,hf⟩:=hi i (by omega);obtain ⟨v0,y0,c0,e0,t0⟩:=hf 0 _ rfl;obtain ⟨v1,y1,c1,e1,t1⟩:=hf 1 _ rfl;obtain ⟨v2,y2,c2,e2,t2⟩:=hf 2 _ rfl;obtain ⟨v3,y3,c3,e3,t3⟩:=hf 3 _ rfl;obtain ⟨v4,y4,c4,e4,t4⟩:=hf 4 _ rfl;obtain ⟨s,hs,hys,_⟩:=DataW.trod_string Tryz.underlying9 t0;obtain ⟨x1,hx1,hy1,hw1⟩:=DataW.trod_int Tryz.underlying3 t1;obtain ⟨x2,hx2,hy2,hw2⟩:=DataW.trod_int Tryz.underlying3 t2;obtain ⟨x3,hx3,hy3,hw3⟩:=DataW.trod_int Tryz.underlying3 t3;obtain ⟨u,hu,hyu,_⟩:=DataW.trod_string Tryz.underlying9 t4;injection hs with hs
   injection hx1 with hx1
   injection hx2 with hx2
   injection hx3 with hx3
   injection hu with hu
   subst hs;subst hx1;subst hx2;subst hx3;subst hu;have hmem:D i∈(List.range len).map D:=List.mem_map.2 ⟨i,List.mem_range.2 hin,rfl⟩
   have hwi:∀ n∈(D i).weights Tryz.prog 61,n≤reachBytes:=fun n hn=>hwt n (by
    rw [hd];simp only [DataW.weights,Tryz.underlying31,List.mem_cons,List.mem_append];exact .inr (.inl (weights_all_mem hmem _ hn)))
   have hwj:∀ (j:Nat) (t:TypeId) (y:DataW H),(Tryz.prog.underlying 61).map (fun d=>match d with | .struct fs=>(fs.toList.map (·.type))[j]? | _=>none)=some (some t)→(ys.map (·.1))[j]? = some y→∀ n∈y.weights Tryz.prog t,n≤reachBytes:=by
    intro j t y ht hy n hn;refine hwi n ?_;rw [hD];simp only [Tryz.underlying61,Option.map_some,Option.some.injEq] at ht;simp only [DataW.weights,Tryz.underlying61];exact DataW.weights_mem_each ht hy n hn
   have b0:=hwj 0 9 y0.1 (by rw [Tryz.underlying61];rfl) (by rw [List.getElem?_map,e0];rfl) s.data.toList.length (by rw [hys];simp [DataW.weights]);have b4:=hwj 4 9 y4.1 (by rw [Tryz.underlying61];rfl) (by rw [List.getElem?_map,e4];rfl) u.data.toList.length (by rw [hyu];simp [DataW.weights]);obtain ⟨r1,r1'⟩:=lit_range hw1;obtain ⟨r2,r2'⟩:=lit_range hw2;obtain ⟨r3,r3'⟩:=lit_range hw3;exact ⟨⟨s.data.toList,x1,x2,x3,u.data.toList⟩,⟨c0,c1,c2,c3,c4⟩,⟨by show s.data.toList.length≤_;omega,by show u.data.toList.length≤_;omega,r1,r1',r2,r2',r3,r3'⟩⟩
  obtain ⟨l,hll,hlp⟩:=list_of len _ hl;refine ⟨_,len,m,l,hcs,⟨hll,fun hn=>?_⟩,fun t ht=>?_,hn⟩
  ·obtain ⟨b,off,spot⟩:=a
   have hspot:spot=none:=by
    obtain ⟨t,⟨c0,_⟩,_⟩:=hl 0 hn;simpa [Addr.add] using World.cell?_spot c0
   subst hspot
   have hb:b<w.heap.size:=by
    refine hlt (.cell b off) ?_;rw [hp];exact List.mem_append_left _ (MemPlace.mem_row.2 ⟨0,by simp;omega,rfl⟩)
   refine ⟨b,off,rfl,hb,fun i t ht=>?_⟩;have:=(hlp i t ht).1;simpa only [Go.WideShapes.add_plain,Nat.add_assoc] using this
  ·obtain ⟨i,hi2⟩:=List.mem_iff_getElem?.1 ht;exact (hlp i t hi2).2
set_option maxRecDepth 100000 in
theorem open_arc {H:Type} {enc:TypeId×Value→H} {w:World} {base:Nat} {v:Value} {d:DataW H} {p:List MemPlace}
  (hok:Value.okWide Tryz.prog w .any base 33 v) (h:DataW.Trod enc Tryz.prog w 0 (fun _=>true) true 33 v d p) (hlt:∀ x∈p,x.block<w.heap.size) (hwt:∀ n∈d.weights Tryz.prog 33,n≤reachBytes) :
  ∃ A n cap A2 n2 cap2 a,v=arcV A n cap A2 n2 cap2∧ArcIn w A n A2 n2 a∧ArcSz a∧n≤cap:=by
 obtain ⟨cs,rfl,hcs⟩:=okWide_struct Tryz.underlying33 hok;have hc2:cs.size=2:=hcs.trans (by kernel_rfl)
 obtain ⟨v0,v1,rfl⟩:∃ v0 v1,cs=#[v0,v1]:=by
  obtain ⟨l⟩:=cs
  match l,hc2 with
  | [x,y],_=>exact ⟨x,y,rfl⟩
 obtain ⟨fuel,hf⟩:=h;have hf:DataW.trod enc Tryz.prog w 0 (fun _=>true) true fuel 33 [v0,v1]=some (d,p):=hf;obtain ⟨⟨d0,p0⟩,⟨d1,p1⟩,k,hx,_,t0,t1⟩:=trod_struct2 Tryz.underlying33 hf;injection hx with hd hp
 subst hd;subst hp;have t0:DataW.trod enc Tryz.prog w 0 (fun _=>true) true k 30 (([v0,v1].drop 0).take (Tryz.prog.cellsOf 30))=some (d0,p0):=t0;have t1:DataW.trod enc Tryz.prog w 0 (fun _=>true) true k 31 (([v0,v1].drop 1).take (Tryz.prog.cellsOf 31))=some (d1,p1):=t1;rw [show Tryz.prog.cellsOf 30=1 from by kernel_rfl] at t0;rw [show Tryz.prog.cellsOf 31=1 from by kernel_rfl] at t1;have t0:DataW.trod enc Tryz.prog w 0 (fun _=>true) true k 30 [v0]=some (d0,p0):=t0;have t1:DataW.trod enc Tryz.prog w 0 (fun _=>true) true k 31 [v1]=some (d1,p1):=t1
 have hw0:∀ n∈d0.weights Tryz.prog 30,n≤reachBytes:=fun n hn=>hwt n (by
  simp only [DataW.weights,Tryz.underlying33];exact DataW.weights_mem_each (j:=0) rfl rfl n hn)
 have hw1:∀ n∈d1.weights Tryz.prog 31,n≤reachBytes:=fun n hn=>hwt n (by
  simp only [DataW.weights,Tryz.underlying33];exact DataW.weights_mem_each (j:=1) rfl rfl n hn)
 obtain ⟨A,n,cap,l,rfl,hs,hsz,hn,hnc⟩:=open_strsW t0 (fun x hx=>hlt x (by simp [hx])) hw0;obtain ⟨A2,n2,cap2,l2,rfl,hs2,hsz2,hn2⟩:=open_filsW t1 (fun x hx=>hlt x (by simp [hx])) hw1;exact ⟨A,n,cap,A2,n2,cap2,⟨l,l2⟩,rfl,⟨hs,hs2⟩,⟨by have:=hs.1;show l.length≤_;omega,by have:=hs2.1;show l2.length≤_;omega,hsz,hsz2⟩,hnc⟩
end Go.Proofs.YtjpgoeimclipjaaGreat
