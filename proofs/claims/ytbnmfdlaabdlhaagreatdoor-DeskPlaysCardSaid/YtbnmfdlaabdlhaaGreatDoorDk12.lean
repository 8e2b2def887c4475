/- Parts of the proofs. -/
import Derived.Test.YtbnmfdlaabdlhaaGreatDoorDk11
import Derived.Recover
import Derived.RangeFuncNested
import Derived.RangeFuncBound
import Derived.RangeFuncCalls
import Derived.RangeFuncLeaves
import Derived.Shelf.Abstract
import Derived.Shelf.RegionOpen
import Derived.OwnWalkIn
import Derived.TacticsInMore
import Derived.LoopNIn
import Derived.LoopIn
set_option maxHeartbeats 16000000
set_option maxRecDepth 100000
namespace Go.Proofs.YtbnmfdlaabdlhaaGreatDoor
section
open Go.RowKit Go.Lib Pl
attribute [local go_sem] qf qe
structure OpD(w W:World)(B D:Nat)(v1 v2:Value)(x:Arc)(s:qa)(cs:Array Value):Prop where
 a:OpS w W B v1 v2 x s
 d:W.heap[D]?=some (.cells cs 89 (0,0))
 bd:B+3<D
 n1:∀k,v1.ownBlock=some k->k<D
 n2:∀k,v2.ownBlock=some k->k<D
section
variable {w W W' : World} {B D : Nat} {v1 v2 : Value} {x : Arc} {s : qa} {cs : Array Value}
theorem OpD.lt(h:OpD w W B D v1 v2 x s cs):D<W.heap.size:=(zE h.d).1
theorem OpD.new(h:OpS w W B v1 v2 x s)(cs:Array Value):OpD w ((W.alloc (.cells qcY 89)).setRow W.heap.size cs) B W.heap.size v1 v2 x s cs:=by
 have hb:Below W.heap.size W ((W.alloc (.cells qcY 89)).setRow W.heap.size cs):=below_setRow ((Below.refl _ _).alloc (Nat.le_refl _) _) (Nat.le_refl _) _;exact⟨h.below hb,setRow_heap _ _ _ _ _ _ (heap_alloc_new _ _),h.lt,fun k hk=>(h.o.s.lt k hk).2,fun k hk=>(h.o.f.lt k hk).2⟩
theorem OpD.glass(h:OpD w W B D v1 v2 x s cs){s':qa}(hq:GlassAt W' (B+2) s')(hg:W.grownBy W' (some (B+2))):OpD w W' B D v1 v2 x s' cs:=by
 have:=h.bd;exact⟨h.a.glass hq hg,(hg.block D h.lt (fun e=>by injection e with e;omega)).trans h.d,h.bd,h.n1,h.n2⟩
theorem OpD.set(h:OpD w W B D v1 v2 x s cs)(k:Nat)(v:Value):OpD w (W.setCell ⟨D,k,none⟩ v) B D v1 v2 x s (cs.setIfInBounds k v):=by
 have hbd:=h.bd;have hr:W.setCell ⟨D,k,none⟩ v=W.setRow D (cs.setIfInBounds k v):=setCell_eq_setRow W D k _ _ _ _ h.d;rw[hr];have ho:∀j,j≠D->(W.setRow D (cs.setIfInBounds k v)).heap[j]?=W.heap[j]?:=fun j hj=>setRow_other W D j _ hj;exact⟨⟨(ho _ (by omega)).trans h.a.p,(ho _ (by omega)).trans h.a.e,(ho _ (by omega)).trans h.a.q,(ho _ (by omega)).trans h.a.g,⟨qT h.a.o.s (fun k hk=>by have:=h.n1 k hk;omega) _,qT h.a.o.f (fun k hk=>by have:=h.n2 k hk;omega) _⟩,below_setRow h.a.bel (by omega) _⟩,setRow_heap _ _ _ _ _ _ h.d,hbd,h.n1,h.n2⟩
end
def qvb(w:World)(B:Nat)(ds:List qa)(s:qa)(l:List Fil)(W:World):Prop:=s.length+l.length<=16384/\(∀f∈l,FilSz f)/\∃v1 v2,OpS w W B v1 v2 ⟨ds,l⟩ s
theorem qoB(w:World)(B:Nat)(ds:List qa)(s:qa)(l:List Fil)(W:World)(h:qvb w B ds s l W) :
  Calls Tryz.prog 89 #[.pointer (some ⟨B+3,0,none⟩),.pointer (some ⟨B,0,none⟩)] W fun e w'=>match qbM s with|some (x,r)=>e=.returned (.tuple #[])/\qvb w B ds r (l++[x]) w'|none=>e=.panicked qdb/\OpJ w B w':=by
 obtain⟨hsl,hdl,v1,v2,h⟩:=h
 obtain⟨A,c,A2,c2,rfl,rfl⟩:∃A c A2 c2,v1=.slice A ds.length c/\v2=.slice A2 l.length c2:=by
  obtain⟨A,c,A2,c2,e,e2,_⟩:=h.o.form;exact⟨A,c,A2,c2,e,e2⟩
 have H:=zH h;have HDL:=zH hdl;have pg:=h.gc;clear h hdl;unfold qbM;cases h1:qcn s with
 | none =>
  have C1:=zH (show ∀W,GlassAt W (B+2) s->Calls Tryz.prog 88 #[.pointer (some ⟨B+2,0,none⟩)] W fun r w'=>r=.panicked qdb/\W.grownBy w' (some (B+2))from fun W hW=>by have hc:=qde (B+2) s W hW (by omega);rw[h1]at hc;exact hc);clear h1;go_enter Tryz.func89,Tryz.ntmps89;go_wp2_with fail;refine (zU C1 _ (zU H).q).mono ?_;rintro rr vz ⟨rfl,hg⟩;have J:=zH ((zU H).throw hg);clear hg;go_wp2_with fail;exact⟨rfl,rfl,zU J⟩
 | some p =>
  obtain⟨x,s1⟩:=p;have l1:=qkE h1;have m1:x.length<=s.length:=by have e:=qdN h1;rw[e];unfold qQ;simp only[zL];omega
  have C1:=zH (show ∀W,GlassAt W (B+2) s->Calls Tryz.prog 88 #[.pointer (some ⟨B+2,0,none⟩)] W fun r w'=>r=.returned (S x)/\GlassAt w' (B+2) s1/\W.grownBy w' (some (B+2))from fun W hW=>by have hc:=qde (B+2) s W hW (by omega);rw[h1]at hc;exact hc.mono fun _ _ h=>⟨h.1.1,h.1.2,h.2⟩);simp only;clear h1;cases h2:take s1 with
  | none =>
   have C2:=zH (show ∀W,GlassAt W (B+2) s1->Calls Tryz.prog 90 #[.pointer (some ⟨B+2,0,none⟩)] W fun r w'=>r=.panicked qdb/\W.grownBy w' (some (B+2))from fun W hW=>qdg (B+2) s1 W hW (by omega) h2);clear h2;go_enter Tryz.func89,Tryz.ntmps89;go_wp2_with fail;refine (zU C1 _ (zU H).q).mono ?_;rintro rr w1 ⟨rfl,hq,hg⟩;have A1:=zH ((zU H).glass hq hg);clear hq hg;go_upto_region 1 with (refine wpList_store_row rfl 89 (.tmp 2) (.tmp 5) rfl w1.heap.size #[S x,I 0,I 0,I 0,S []] rfl rfl 89 _ (heap_alloc_new _ _) qcs rfl (qcJ ⟨x,0,0,0,[]⟩) ?_)
   obtain⟨w2,hw2⟩:∃w2,w2=(w1.alloc (.cells qcY 89)).setRow w1.heap.size #[S x,I 0,I 0,I 0,S []]:=⟨_,rfl⟩
   obtain⟨D,hD⟩:∃D,D=w1.heap.size:=⟨_,rfl⟩
   have D1:=zH (show OpD w w2 B D (.slice A ds.length c) (.slice A2 l.length c2) ⟨ds,l⟩ s1 #[S x,I 0,I 0,I 0,S []]by rw[hw2,hD];exact OpD.new (zU A1) _);rw[<-hw2,<-hD];clear hw2 hD pg;have pg:=(zU D1).a.gc;go_wp2_with fail;refine (zU C2 _ (zU D1).a.q).mono ?_;rintro rr vz ⟨rfl,hg⟩;have J:=zH ((zU D1).a.throw hg);clear hg;go_wp2_with fail;exact⟨rfl,rfl,zU J⟩
  | some p =>
   obtain⟨d,s2⟩:=p;have l2:=(take_len h2).1;have m2:=(take_len h2).2;have C2:=zH (show ∀W,GlassAt W (B+2) s1->Calls Tryz.prog 90 #[.pointer (some ⟨B+2,0,none⟩)] W fun r w'=>r=.returned (I d)/\GlassAt w' (B+2) s2/\W.grownBy w' (some (B+2))from fun W hW=>qdf (B+2) s1 s2 d W hW (by omega) h2);simp only;clear h2;cases h3:take s2 with
   | none =>
    have C3:=zH (show ∀W,GlassAt W (B+2) s2->Calls Tryz.prog 90 #[.pointer (some ⟨B+2,0,none⟩)] W fun r w'=>r=.panicked qdb/\W.grownBy w' (some (B+2))from fun W hW=>qdg (B+2) s2 W hW (by omega) h3);clear h3;go_enter Tryz.func89,Tryz.ntmps89;go_wp2_with fail;refine (zU C1 _ (zU H).q).mono ?_;rintro rr w1 ⟨rfl,hq,hg⟩;have A1:=zH ((zU H).glass hq hg);clear hq hg;go_upto_region 1 with (refine wpList_store_row rfl 89 (.tmp 2) (.tmp 5) rfl w1.heap.size #[S x,I 0,I 0,I 0,S []] rfl rfl 89 _ (heap_alloc_new _ _) qcs rfl (qcJ ⟨x,0,0,0,[]⟩) ?_)
    obtain⟨w2,hw2⟩:∃w2,w2=(w1.alloc (.cells qcY 89)).setRow w1.heap.size #[S x,I 0,I 0,I 0,S []]:=⟨_,rfl⟩
    obtain⟨D,hD⟩:∃D,D=w1.heap.size:=⟨_,rfl⟩
    have D1:=zH (show OpD w w2 B D (.slice A ds.length c) (.slice A2 l.length c2) ⟨ds,l⟩ s1 #[S x,I 0,I 0,I 0,S []]by rw[hw2,hD];exact OpD.new (zU A1) _);rw[<-hw2,<-hD];clear hw2 hD pg;have pg:=(zU D1).a.gc;go_wp2_with fail;refine (zU C2 _ (zU D1).a.q).mono ?_;rintro rr v1 ⟨rfl,hq,hg⟩;have E1:=zH ((zU D1).glass hq hg);clear hq hg pg;have pg:=(zU E1).a.gc;obtain⟨⟨d0,d1,d2,d3,d4⟩,k0,k1,k2,k3,k4⟩:=qaM (zU E1).d;go_upto_region 2 with fail
    obtain⟨w3,hw3⟩:∃wx,wx=v1.setCell ⟨D,1,none⟩ (I (d:Nat)):=⟨_,rfl⟩
    have D2:=zH (show OpD w w3 B D (.slice A ds.length c) (.slice A2 l.length c2) ⟨ds,l⟩ s2 #[S x,I (d:Nat),I 0,I 0,S []]by rw[hw3];exact (zU E1).set 1 _);rw[<-hw3];clear hw3 d0 d1 d2 d3 d4 k0 k1 k2 k3 k4 pg;have pg:=(zU D2).a.gc;go_wp2_with fail;refine (zU C3 _ (zU D2).a.q).mono ?_;rintro rr vz ⟨rfl,hg⟩;have J:=zH ((zU D2).a.throw hg);clear hg;go_wp2_with fail;exact⟨rfl,rfl,zU J⟩
   | some p =>
    obtain⟨z,s3⟩:=p;have l3:=(take_len h3).1;have m3:=(take_len h3).2;have C3:=zH (show ∀W,GlassAt W (B+2) s2->Calls Tryz.prog 90 #[.pointer (some ⟨B+2,0,none⟩)] W fun r w'=>r=.returned (I z)/\GlassAt w' (B+2) s3/\W.grownBy w' (some (B+2))from fun W hW=>qdf (B+2) s2 s3 z W hW (by omega) h3);simp only;clear h3;cases h4:take s3 with
    | none =>
     have C4:=zH (show ∀W,GlassAt W (B+2) s3->Calls Tryz.prog 90 #[.pointer (some ⟨B+2,0,none⟩)] W fun r w'=>r=.panicked qdb/\W.grownBy w' (some (B+2))from fun W hW=>qdg (B+2) s3 W hW (by omega) h4);clear h4;go_enter Tryz.func89,Tryz.ntmps89;go_wp2_with fail;refine (zU C1 _ (zU H).q).mono ?_;rintro rr w1 ⟨rfl,hq,hg⟩;have A1:=zH ((zU H).glass hq hg);clear hq hg;go_upto_region 1 with (refine wpList_store_row rfl 89 (.tmp 2) (.tmp 5) rfl w1.heap.size #[S x,I 0,I 0,I 0,S []] rfl rfl 89 _ (heap_alloc_new _ _) qcs rfl (qcJ ⟨x,0,0,0,[]⟩) ?_)
     obtain⟨w2,hw2⟩:∃w2,w2=(w1.alloc (.cells qcY 89)).setRow w1.heap.size #[S x,I 0,I 0,I 0,S []]:=⟨_,rfl⟩
     obtain⟨D,hD⟩:∃D,D=w1.heap.size:=⟨_,rfl⟩
     have D1:=zH (show OpD w w2 B D (.slice A ds.length c) (.slice A2 l.length c2) ⟨ds,l⟩ s1 #[S x,I 0,I 0,I 0,S []]by rw[hw2,hD];exact OpD.new (zU A1) _);rw[<-hw2,<-hD];clear hw2 hD pg;have pg:=(zU D1).a.gc;go_wp2_with fail;refine (zU C2 _ (zU D1).a.q).mono ?_;rintro rr v1 ⟨rfl,hq,hg⟩;have E1:=zH ((zU D1).glass hq hg);clear hq hg pg;have pg:=(zU E1).a.gc;obtain⟨⟨d0,d1,d2,d3,d4⟩,k0,k1,k2,k3,k4⟩:=qaM (zU E1).d;go_upto_region 2 with fail
     obtain⟨w3,hw3⟩:∃wx,wx=v1.setCell ⟨D,1,none⟩ (I (d:Nat)):=⟨_,rfl⟩
     have D2:=zH (show OpD w w3 B D (.slice A ds.length c) (.slice A2 l.length c2) ⟨ds,l⟩ s2 #[S x,I (d:Nat),I 0,I 0,S []]by rw[hw3];exact (zU E1).set 1 _);rw[<-hw3];clear hw3 d0 d1 d2 d3 d4 k0 k1 k2 k3 k4 pg;have pg:=(zU D2).a.gc;go_wp2_with fail;refine (zU C3 _ (zU D2).a.q).mono ?_;rintro rr v2 ⟨rfl,hq,hg⟩;have E2:=zH ((zU D2).glass hq hg);clear hq hg pg;have pg:=(zU E2).a.gc;obtain⟨⟨d0,d1,d2,d3,d4⟩,k0,k1,k2,k3,k4⟩:=qaM (zU E2).d;go_upto_region 3 with fail
     obtain⟨w4,hw4⟩:∃wx,wx=v2.setCell ⟨D,2,none⟩ (I (z:Nat)):=⟨_,rfl⟩
     have D3:=zH (show OpD w w4 B D (.slice A ds.length c) (.slice A2 l.length c2) ⟨ds,l⟩ s3 #[S x,I (d:Nat),I (z:Nat),I 0,S []]by rw[hw4];exact (zU E2).set 2 _);rw[<-hw4];clear hw4 d0 d1 d2 d3 d4 k0 k1 k2 k3 k4 pg;have pg:=(zU D3).a.gc;go_wp2_with fail;refine (zU C4 _ (zU D3).a.q).mono ?_;rintro rr vz ⟨rfl,hg⟩;have J:=zH ((zU D3).a.throw hg);clear hg;go_wp2_with fail;exact⟨rfl,rfl,zU J⟩
    | some p =>
     obtain⟨u,s4⟩:=p;have l4:=(take_len h4).1;have m4:=(take_len h4).2;have C4:=zH (show ∀W,GlassAt W (B+2) s3->Calls Tryz.prog 90 #[.pointer (some ⟨B+2,0,none⟩)] W fun r w'=>r=.returned (I u)/\GlassAt w' (B+2) s4/\W.grownBy w' (some (B+2))from fun W hW=>qdf (B+2) s3 s4 u W hW (by omega) h4);simp only;clear h4;cases h5:qcn s4 with
     | none =>
      have C5:=zH (show ∀W,GlassAt W (B+2) s4->Calls Tryz.prog 88 #[.pointer (some ⟨B+2,0,none⟩)] W fun r w'=>r=.panicked qdb/\W.grownBy w' (some (B+2))from fun W hW=>by have hc:=qde (B+2) s4 W hW (by omega);rw[h5]at hc;exact hc);clear h5;go_enter Tryz.func89,Tryz.ntmps89;go_wp2_with fail;refine (zU C1 _ (zU H).q).mono ?_;rintro rr w1 ⟨rfl,hq,hg⟩;have A1:=zH ((zU H).glass hq hg);clear hq hg;go_upto_region 1 with (refine wpList_store_row rfl 89 (.tmp 2) (.tmp 5) rfl w1.heap.size #[S x,I 0,I 0,I 0,S []] rfl rfl 89 _ (heap_alloc_new _ _) qcs rfl (qcJ ⟨x,0,0,0,[]⟩) ?_)
      obtain⟨w2,hw2⟩:∃w2,w2=(w1.alloc (.cells qcY 89)).setRow w1.heap.size #[S x,I 0,I 0,I 0,S []]:=⟨_,rfl⟩
      obtain⟨D,hD⟩:∃D,D=w1.heap.size:=⟨_,rfl⟩
      have D1:=zH (show OpD w w2 B D (.slice A ds.length c) (.slice A2 l.length c2) ⟨ds,l⟩ s1 #[S x,I 0,I 0,I 0,S []]by rw[hw2,hD];exact OpD.new (zU A1) _);rw[<-hw2,<-hD];clear hw2 hD pg;have pg:=(zU D1).a.gc;go_wp2_with fail;refine (zU C2 _ (zU D1).a.q).mono ?_;rintro rr v1 ⟨rfl,hq,hg⟩;have E1:=zH ((zU D1).glass hq hg);clear hq hg pg;have pg:=(zU E1).a.gc;obtain⟨⟨d0,d1,d2,d3,d4⟩,k0,k1,k2,k3,k4⟩:=qaM (zU E1).d;go_upto_region 2 with fail
      obtain⟨w3,hw3⟩:∃wx,wx=v1.setCell ⟨D,1,none⟩ (I (d:Nat)):=⟨_,rfl⟩
      have D2:=zH (show OpD w w3 B D (.slice A ds.length c) (.slice A2 l.length c2) ⟨ds,l⟩ s2 #[S x,I (d:Nat),I 0,I 0,S []]by rw[hw3];exact (zU E1).set 1 _);rw[<-hw3];clear hw3 d0 d1 d2 d3 d4 k0 k1 k2 k3 k4 pg;have pg:=(zU D2).a.gc;go_wp2_with fail;refine (zU C3 _ (zU D2).a.q).mono ?_;rintro rr v2 ⟨rfl,hq,hg⟩;have E2:=zH ((zU D2).glass hq hg);clear hq hg pg;have pg:=(zU E2).a.gc;obtain⟨⟨d0,d1,d2,d3,d4⟩,k0,k1,k2,k3,k4⟩:=qaM (zU E2).d;go_upto_region 3 with fail
      obtain⟨w4,hw4⟩:∃wx,wx=v2.setCell ⟨D,2,none⟩ (I (z:Nat)):=⟨_,rfl⟩
      have D3:=zH (show OpD w w4 B D (.slice A ds.length c) (.slice A2 l.length c2) ⟨ds,l⟩ s3 #[S x,I (d:Nat),I (z:Nat),I 0,S []]by rw[hw4];exact (zU E2).set 2 _);rw[<-hw4];clear hw4 d0 d1 d2 d3 d4 k0 k1 k2 k3 k4 pg;have pg:=(zU D3).a.gc;go_wp2_with fail;refine (zU C4 _ (zU D3).a.q).mono ?_;rintro rr v3 ⟨rfl,hq,hg⟩;have E3:=zH ((zU D3).glass hq hg);clear hq hg pg;have pg:=(zU E3).a.gc;obtain⟨⟨d0,d1,d2,d3,d4⟩,k0,k1,k2,k3,k4⟩:=qaM (zU E3).d;go_upto_region 4 with fail
      obtain⟨w5,hw5⟩:∃wx,wx=v3.setCell ⟨D,3,none⟩ (I (u:Nat)):=⟨_,rfl⟩
      have D4:=zH (show OpD w w5 B D (.slice A ds.length c) (.slice A2 l.length c2) ⟨ds,l⟩ s4 #[S x,I (d:Nat),I (z:Nat),I (u:Nat),S []]by rw[hw5];exact (zU E3).set 3 _);rw[<-hw5];clear hw5 d0 d1 d2 d3 d4 k0 k1 k2 k3 k4 pg;have pg:=(zU D4).a.gc;go_wp2_with fail;refine (zU C5 _ (zU D4).a.q).mono ?_;rintro rr vz ⟨rfl,hg⟩;have J:=zH ((zU D4).a.throw hg);clear hg;go_wp2_with fail;exact⟨rfl,rfl,zU J⟩
     | some p =>
      obtain⟨b,s5⟩:=p;have l5:=qkE h5;have m5:b.length<=s4.length:=by have e:=qdN h5;rw[e];unfold qQ;simp only[zL];omega
      have C5:=zH (show ∀W,GlassAt W (B+2) s4->Calls Tryz.prog 88 #[.pointer (some ⟨B+2,0,none⟩)] W fun r w'=>r=.returned (S b)/\GlassAt w' (B+2) s5/\W.grownBy w' (some (B+2))from fun W hW=>by have hc:=qde (B+2) s4 W hW (by omega);rw[h5]at hc;exact hc.mono fun _ _ h=>⟨h.1.1,h.1.2,h.2⟩);simp only;clear h5;have hfz:FilSz ⟨x,(d:Nat),(z:Nat),(u:Nat),b⟩:=⟨by show x.length<=_;omega,by show b.length<=_;omega,by show _<=((d:Nat):Int);omega,by show ((d:Nat):Int)<=_;omega,by show _<=((z:Nat):Int);omega,by show ((z:Nat):Int)<=_;omega,by show _<=((u:Nat):Int);omega,by show ((u:Nat):Int)<=_;omega⟩
      have HFZ:=zH hfz;clear hfz;go_enter Tryz.func89,Tryz.ntmps89;go_wp2_with fail;refine (zU C1 _ (zU H).q).mono ?_;rintro rr w1 ⟨rfl,hq,hg⟩;have A1:=zH ((zU H).glass hq hg);clear hq hg;go_upto_region 1 with (refine wpList_store_row rfl 89 (.tmp 2) (.tmp 5) rfl w1.heap.size #[S x,I 0,I 0,I 0,S []] rfl rfl 89 _ (heap_alloc_new _ _) qcs rfl (qcJ ⟨x,0,0,0,[]⟩) ?_)
      obtain⟨w2,hw2⟩:∃w2,w2=(w1.alloc (.cells qcY 89)).setRow w1.heap.size #[S x,I 0,I 0,I 0,S []]:=⟨_,rfl⟩
      obtain⟨D,hD⟩:∃D,D=w1.heap.size:=⟨_,rfl⟩
      have D1:=zH (show OpD w w2 B D (.slice A ds.length c) (.slice A2 l.length c2) ⟨ds,l⟩ s1 #[S x,I 0,I 0,I 0,S []]by rw[hw2,hD];exact OpD.new (zU A1) _);rw[<-hw2,<-hD];clear hw2 hD pg;have pg:=(zU D1).a.gc;go_wp2_with fail;refine (zU C2 _ (zU D1).a.q).mono ?_;rintro rr v1 ⟨rfl,hq,hg⟩;have E1:=zH ((zU D1).glass hq hg);clear hq hg pg;have pg:=(zU E1).a.gc;obtain⟨⟨d0,d1,d2,d3,d4⟩,k0,k1,k2,k3,k4⟩:=qaM (zU E1).d;go_upto_region 2 with fail
      obtain⟨w3,hw3⟩:∃wx,wx=v1.setCell ⟨D,1,none⟩ (I (d:Nat)):=⟨_,rfl⟩
      have D2:=zH (show OpD w w3 B D (.slice A ds.length c) (.slice A2 l.length c2) ⟨ds,l⟩ s2 #[S x,I (d:Nat),I 0,I 0,S []]by rw[hw3];exact (zU E1).set 1 _);rw[<-hw3];clear hw3 d0 d1 d2 d3 d4 k0 k1 k2 k3 k4 pg;have pg:=(zU D2).a.gc;go_wp2_with fail;refine (zU C3 _ (zU D2).a.q).mono ?_;rintro rr v2 ⟨rfl,hq,hg⟩;have E2:=zH ((zU D2).glass hq hg);clear hq hg pg;have pg:=(zU E2).a.gc;obtain⟨⟨d0,d1,d2,d3,d4⟩,k0,k1,k2,k3,k4⟩:=qaM (zU E2).d;go_upto_region 3 with fail
      obtain⟨w4,hw4⟩:∃wx,wx=v2.setCell ⟨D,2,none⟩ (I (z:Nat)):=⟨_,rfl⟩
      have D3:=zH (show OpD w w4 B D (.slice A ds.length c) (.slice A2 l.length c2) ⟨ds,l⟩ s3 #[S x,I (d:Nat),I (z:Nat),I 0,S []]by rw[hw4];exact (zU E2).set 2 _);rw[<-hw4];clear hw4 d0 d1 d2 d3 d4 k0 k1 k2 k3 k4 pg;have pg:=(zU D3).a.gc;go_wp2_with fail;refine (zU C4 _ (zU D3).a.q).mono ?_;rintro rr v3 ⟨rfl,hq,hg⟩;have E3:=zH ((zU D3).glass hq hg);clear hq hg pg;have pg:=(zU E3).a.gc;obtain⟨⟨d0,d1,d2,d3,d4⟩,k0,k1,k2,k3,k4⟩:=qaM (zU E3).d;go_upto_region 4 with fail
      obtain⟨w5,hw5⟩:∃wx,wx=v3.setCell ⟨D,3,none⟩ (I (u:Nat)):=⟨_,rfl⟩
      have D4:=zH (show OpD w w5 B D (.slice A ds.length c) (.slice A2 l.length c2) ⟨ds,l⟩ s4 #[S x,I (d:Nat),I (z:Nat),I (u:Nat),S []]by rw[hw5];exact (zU E3).set 3 _);rw[<-hw5];clear hw5 d0 d1 d2 d3 d4 k0 k1 k2 k3 k4 pg;have pg:=(zU D4).a.gc;go_wp2_with fail;refine (zU C5 _ (zU D4).a.q).mono ?_;rintro rr v4 ⟨rfl,hq,hg⟩;have E4:=zH ((zU D4).glass hq hg);clear hq hg pg;have pg:=(zU E4).a.gc;obtain⟨⟨d0,d1,d2,d3,d4⟩,k0,k1,k2,k3,k4⟩:=qaM (zU E4).d;go_upto_region 5 with fail
      obtain⟨w6,hw6⟩:∃wx,wx=v4.setCell ⟨D,4,none⟩ (S b):=⟨_,rfl⟩
      have D5:=zH (show OpD w w6 B D (.slice A ds.length c) (.slice A2 l.length c2) ⟨ds,l⟩ s5 #[S x,I (d:Nat),I (z:Nat),I (u:Nat),S b]by rw[hw6];exact (zU E4).set 4 _);rw[<-hw6];clear hw6 d0 d1 d2 d3 d4 k0 k1 k2 k3 k4 pg;have pg:=(zU D5).a.gc;obtain⟨⟨d0,d1,d2,d3,d4⟩,_,_,_,_,_⟩:=qaM (zU D5).d;obtain⟨p0,p1,p2,p3⟩:=(zU D5).a.c;have hlt6:=(zU D5).a.lt;go_wp2_with (at_builtin;refine qkK rfl (.tmp 19) (.tmp 21) rfl (B+4) _ l.length l rfl (zU D5).a.o.f ⟨x,(d:Nat),(z:Nat),(u:Nat),b⟩ w6.heap.size rfl rfl (by omega) (by omega) ?_;intro A7 c7 w7 hown7 _ hg7;have hpush:=OpS.pushF ((zU D5).a.alloc _) hg7 hown7;have HPUSH:=zH hpush;obtain⟨u0,u1,u2,u3⟩:=qk hpush.2;clear hown7 hg7 hpush p0 p1 p2 p3);go_end0
      exact⟨rfl,by rw[zL];simp;omega,fun f hf=>by
       rcases List.mem_append.1 hf with hf|hf
       ·exact zU HDL f hf
       ·obtain rfl:=List.mem_singleton.1 hf;exact zU HFZ,_,_,(zU HPUSH).1⟩
theorem qld(args:Array Value)(w:World):(callFunc 89 args).run Tryz.prog w=.ok (.enter 89 args) w :=
 qbn Tryz.func89 (by kernel_rfl) (by kernel_rfl) args w
theorem qle(args:Array Value)(w:World):(callFunc 87 args).run Tryz.prog w=.ok (.enter 87 args) w :=
 qbn Tryz.func87 (by kernel_rfl) (by kernel_rfl) args w
theorem qpf(B:Nat)(v1 v2:Value)(x:Int)(u:TypeId)(pv:Value)(older:List PanicEntry)(W:World)(hp:W.heap[B]?=some (.cells #[v1,v2] 33 (0,0)))(he:W.heap[B+1]?=some (.cells #[.int .i64 x] 22 (0,0))) :
  CallsD Tryz.prog 84 #[.pointer (some ⟨B,0,none⟩),.pointer (some ⟨B+1,0,none⟩)] (.panicking ({ v:=.iface u pv,recovered:=false }::older)) W fun e u' w' =>
   e=.returned (.tuple #[])/\u'=.panicking ({ v:=.iface u pv,recovered:=true }::older)/\w'=(W.setRow B #[.slice none 0 0,.slice none 0 0]).setCell ⟨B+1,0,none⟩ (.int .i64 1):=by
 have c0:(W.setRow B #[.slice none 0 0,.slice none 0 0]).heap[B+1]?=some (.cells #[.int .i64 x] 22 (0,0)):=(setRow_other _ _ _ _ (by omega)).trans he;have c1:(W.setRow B #[.slice none 0 0,.slice none 0 0]).cell? ⟨B+1,0,none⟩=some (.int .i64 x):=by rw[cell_of_row _ _ _ _ _ _ c0];rfl
 have c2:(W.setRow B #[.slice none 0 0,.slice none 0 0]).frozen? ⟨B+1,0,none⟩=false:=by simp[World.frozen?,c0]
 refine callsD_of_wpS Tryz.func84 rfl fun c₀ cs hu=>?_;apply wpS_seq;apply wpS_region;simp[wpOpsS,go_sem,recoverD,hu,Tryz.ntmps84,Exit.thenS];refine wpS_cond (t:=true) (by simp[Act.eval,Array.replicate]) ?_;simp only[if_true];refine wpS_of_wp ?_;go_wp2_with (refine wpList_store_row rfl 33 (.tmp 0) (.tmp 4) rfl B #[.slice none 0 0,.slice none 0 0] rfl rfl 33 _ hp qd rfl qae ?_);simp[bodyPostS,results,Tryz.results84]
theorem qrT(B:Nat)(W:World) :
  CallsD Tryz.prog 84 #[.pointer (some ⟨B,0,none⟩),.pointer (some ⟨B+1,0,none⟩)] .returning W fun e u' w'=>e=.returned (.tuple #[])/\u'=.returning/\w'=W:=by
 refine callsD_of_wpS Tryz.func84 rfl fun c₀ cs hu=>?_;apply wpS_seq;apply wpS_region;simp[wpOpsS,go_sem,recoverD,hu,Tryz.ntmps84,Exit.thenS];refine wpS_cond (t:=false) (by simp[Act.eval,Array.replicate]) ?_;simp only[Bool.false_eq_true,if_false];refine wpS_of_wp (wp_skip ?_);cases c₀
 simp_all [bodyPostS,results,Tryz.results84]
theorem qjq{fn:Func}{p u:Tmp}{ty ty2:TypeId}(h:fn.results=#[.cell p ty,.cell u ty2])(tmps:Array Value)(P:Program)(w:World) :
  (results fn tmps).run P w =
   ((asAddr (tmps.getD p undef)).run P w).andThen fun a w₁=>((loadVar ty a).run P w₁).andThen fun v w₂=>((asAddr (tmps.getD u undef)).run P w₂).andThen fun b w₃=>((loadVar ty2 b).run P w₃).andThen fun x w₄=>.ok (.tuple #[v,x]) w₄:=by
 simp only[results,h];simp[Sem.run_bind,Result.andThen]
theorem qgk{fn:Func}{p u:Tmp}(h:fn.results=#[.cell p 33,.cell u 22])(tmps:Array Value)(w:World)(B:Nat)(v1 v2:Value)(x:Int)
  (hp:tmps.getD p undef=.pointer (some ⟨B,0,none⟩)) (hu:tmps.getD u undef=.pointer (some ⟨B+1,0,none⟩)) (hg:w.heap[B]?=some (.cells #[v1,v2] 33 (0,0))) (he:w.heap[B+1]?=some (.cells #[.int .i64 x] 22 (0,0))) :
  (results fn tmps).run Tryz.prog w=.ok (.tuple #[.agg #[v1,v2],.int .i64 x]) w:=by
 have hc:w.cell? ⟨B+1,0,none⟩=some (.int .i64 x):=by rw[cell_of_row _ _ _ _ _ _ he];rfl
 rw[qjq h tmps _ w,hp,hu];simp[asAddr,run_loadVar_row w B 33 33 #[v1,v2] (0,0) _ hg Tryz.underlying33 rfl qd,Result.andThen];simp[go_sem,hc]
theorem qeh{w W:World}{B:Nat}{fn:Func}{tmps:Array Value}{R:Ending->World->Prop}(_hB:B=w.heap.size)(hJ:OpJ w B W)(h:fn.results=#[.cell 2 33,.cell 3 22])
  (hp:tmps.getD 2 undef=.pointer (some ⟨B,0,none⟩)) (hu:tmps.getD 3 undef=.pointer (some ⟨B+1,0,none⟩)) (hR:∀e w',ArcRes B (qG,1) e w'/\Below B w w'->R e w') :
  Leaves Tryz.prog fn tmps R [{ target:=.fn (.func 84) #[.pointer (some ⟨B,0,none⟩),.pointer (some ⟨B+1,0,none⟩)],args:=#[] }] (.panicking qdb) W:=by
 obtain⟨v1,v2,h1,h2,h3⟩:=hJ;refine leaves_cons (f:=84) (args:=#[.pointer (some ⟨B,0,none⟩),.pointer (some ⟨B+1,0,none⟩)]) (by simp) (by simp[go_sem]) ?_;refine (qpf B v1 v2 0 _ _ [] W h1 h2).mono ?_;rintro e u' w'' ⟨rfl,rfl,rfl⟩;have c0:(W.setRow B #[.slice none 0 0,.slice none 0 0]).heap[B+1]?=some (.cells #[.int .i64 0] 22 (0,0)):=(setRow_other _ _ _ _ (by omega)).trans h2;have hr:(W.setRow B #[.slice none 0 0,.slice none 0 0]).setCell ⟨B+1,0,none⟩ (.int .i64 1)=(W.setRow B #[.slice none 0 0,.slice none 0 0]).setRow (B+1) #[.int .i64 1]:=by rw[setCell_eq_setRow _ (B+1) 0 _ _ _ _ c0];rfl
 rw[hr];have g1:((W.setRow B #[.slice none 0 0,.slice none 0 0]).setRow (B+1) #[.int .i64 1]).heap[B]?=some (.cells #[.slice none 0 0,.slice none 0 0] 33 (0,0)):=(setRow_other _ _ _ _ (by omega)).trans (setRow_heap _ _ _ _ _ _ h1);have g2:((W.setRow B #[.slice none 0 0,.slice none 0 0]).setRow (B+1) #[.int .i64 1]).heap[B+1]?=some (.cells #[.int .i64 1] 22 (0,0)):=setRow_heap _ _ _ _ _ _ c0;exact⟨_,qgk h tmps _ B _ _ 1 hp hu g1 g2,hR _ _ ⟨⟨_,_,rfl,OwnA.nil _ _⟩,below_setRow (below_setRow h3 (Nat.le_refl _) _) (by omega) _⟩⟩
theorem OpS.first{w W:World}{B:Nat}(t:qa)(h1:W.heap[B]?=some (.cells #[.slice none 0 0,.slice none 0 0] 33 (0,0)))(h2:W.heap[B+1]?=some (.cells #[.int .i64 0] 22 (0,0)))(h3:Below B w W)(hs:W.heap.size=B+2) :
  OpS w ((W.alloc (.cells #[S t] 112)).alloc (.cells #[.pointer (some ⟨B+2,0,none⟩)] 110)) B (.slice none 0 0) (.slice none 0 0) ⟨[],[]⟩ t:=by
 have e1:(W.alloc (.cells #[S t] 112)).heap.size=B+3:=by simp[hs]
 have k1:∀j,j<B+2->((W.alloc (.cells #[S t] 112)).alloc (.cells #[.pointer (some ⟨B+2,0,none⟩)] 110)).heap[j]?=W.heap[j]?:=fun j hj=>by
  rw[Below.heap_alloc _ _ _ (by rw[e1];omega),Below.heap_alloc _ _ _ (by rw[hs];omega)]
 have q1:=heap_alloc_new W (.cells #[S t] 112);rw[hs]at q1;have q2:=heap_alloc_new (W.alloc (.cells #[S t] 112)) (.cells #[.pointer (some ⟨B+2,0,none⟩)] 110);rw[e1]at q2;exact⟨(k1 _ (by omega)).trans h1,(k1 _ (by omega)).trans h2,(Below.heap_alloc _ _ _ (by rw[e1];omega)).trans q1,q2,⟨World.ownsRow_nil _ _ _ _,World.ownsRow_nil _ _ _ _⟩,(h3.alloc (by omega) _).alloc (by omega) _⟩
theorem qt9(s:qa):qeF s=if s.take 5≠pressB then none else match qhJ qcn (s.drop 5)with|none=>none|some (ds,s2)=>match qhJ qbM s2 with|none=>none|some (fs,s4)=>some (⟨ds,fs⟩,s4):=by
 unfold qeF qhJ
 split
 ·rfl
 ·cases take (s.drop 5)with
  | none=>rfl
  | some p =>
   obtain⟨n,s1⟩:=p;simp only;cases qar qcn n s1 with
   | none=>rfl
   | some p =>
    obtain⟨ds,s2⟩:=p;simp only;cases take s2 with
    | none=>rfl
    | some p =>
     obtain⟨m,s3⟩:=p;simp only;cases qar qbM m s3 <;> rfl
theorem qsK(s:qa):Lib.hasPrefix s pressB=decide (s.take 5=pressB):=by
 unfold Lib.hasPrefix;rw[Bool.eq_iff_iff,List.isPrefixOf_iff_prefix,List.prefix_iff_eq_take,decide_eq_true_eq];exact eq_comm
theorem qup(s:qa)(w:World)(hs:s.length<=140737488355328) :
  Calls Tryz.prog 54 #[S s] w fun e w'=>ArcRes w.heap.size (qlf s) e w'/\Below w.heap.size w w':=by
 have hmf:∀(fn:Fn) (first cap:Array Value) (w:World),(Instr.makeFunc fn first cap).run Tryz.prog w=.ok (.func fn first cap) w:=fun _ _ _ _=>rfl;obtain⟨B,hB⟩:∃B,B=w.heap.size:=⟨_,rfl⟩
 obtain⟨r,hr⟩:∃r,r=qlf s:=⟨_,rfl⟩
 rw[<-hr,<-hB];unfold qlf at hr
 by_cases hbig:16384<s.length
 ·rw[if_pos hbig]at hr;subst hr;subst hB;have z1:(16384:Int)<(s.length:Int):=by omega
  have e1:(w.alloc (.cells #[.slice none 0 0,.slice none 0 0] 33)).heap.size=w.heap.size+1:=by simp
  have g2:((w.alloc (.cells #[.slice none 0 0,.slice none 0 0] 33)).alloc (.cells #[.int .i64 2] 22)).heap[w.heap.size+1]?=some (.cells #[.int .i64 2] 22 (0,0)):=by
   have:=heap_alloc_new (w.alloc (.cells #[.slice none 0 0,.slice none 0 0] 33)) (.cells #[.int .i64 2] 22)
   rwa [e1]at this
  have g1:((w.alloc (.cells #[.slice none 0 0,.slice none 0 0] 33)).alloc (.cells #[.int .i64 2] 22)).heap[w.heap.size]?=some (.cells #[.slice none 0 0,.slice none 0 0] 33 (0,0)):=by
   rw[Below.heap_alloc _ _ _ (by rw[e1];omega)];exact heap_alloc_new w _
  have G1:=zH g1;have G2:=zH g2;clear hbig g1 g2 e1;go_enter_defers Tryz.func54,Tryz.ntmps54;go_wp2_with fail;exact⟨_,qgk rfl _ _ w.heap.size _ _ 2 rfl rfl (zU G1) (zU G2),⟨_,_,rfl,OwnA.nil _ _⟩,((Below.refl _ _).alloc (Nat.le_refl _) _).alloc (by simp) _⟩
 rw[if_neg hbig]at hr;have z1:¬(16384:Int)<(s.length:Int):=by omega
 unfold qjm at hr;rw[qt9]at hr;have hpre:=qsK s
 have hcp:∀W,Calls Tryz.prog 85 #[S s,S pressB] W fun e w'=>e=.returned (.tuple #[S (if s.take 5=pressB then s.drop 5 else s),.bool (decide (s.take 5=pressB))])/\w'=W:=fun W=>(Tryz.strings_CutPrefix ⟨s.toArray⟩ ⟨pressB.toArray⟩ W).mono fun e w' ⟨h1,h2⟩=>⟨by
  rw[h1];show Ending.returned (.tuple #[.string ⟨(Lib.trimPrefix s pressB).toArray⟩,.bool (Lib.hasPrefix s pressB)])=_;unfold Lib.trimPrefix;rw[hpre]
  by_cases h5:s.take 5=pressB
  ·rw[if_pos h5,if_pos (by simpa using h5)];rfl
  ·rw[if_neg h5,if_neg (by simpa using h5)],h2⟩
 have JB:=zH (fun (W:World) (h:OpJ w B W)=>h);have HB:=zH hB;obtain⟨w0,hw0⟩:∃w0,w0=(w.alloc (.cells #[.slice none 0 0,.slice none 0 0] 33)).alloc (.cells #[.int .i64 0] 22):=⟨_,rfl⟩
 have HW0:=zH hw0
 have Z0:=zH (show w0.heap[B]?=some (.cells #[.slice none 0 0,.slice none 0 0] 33 (0,0))/\w0.heap[B+1]?=some (.cells #[.int .i64 0] 22 (0,0))/\Below B w w0 by
  have e1:(w.alloc (.cells #[.slice none 0 0,.slice none 0 0] 33)).heap.size=w.heap.size+1:=by simp
  refine⟨?_,?_,?_⟩
  ·rw[hw0,hB,Below.heap_alloc _ _ _ (by rw[e1];omega)];exact heap_alloc_new w _
  ·have:=heap_alloc_new (w.alloc (.cells #[.slice none 0 0,.slice none 0 0] 33)) (.cells #[.int .i64 0] 22);rw[e1]at this;rw[hw0,hB];exact this
  ·rw[hw0,hB];exact ((Below.refl _ _).alloc (Nat.le_refl _) _).alloc (by simp) _)
 have J0:=zH (show OpJ w B w0 from ⟨_,_,zU Z0⟩);clear hB hw0 hpre
 by_cases h5:s.take 5≠pressB
 ·rw[if_pos h5]at hr;simp only at hr;subst hr;simp only[show ¬s.take 5=pressB from h5,if_false,decide_false]at hcp;have CP:=zH hcp;clear hcp h5 hbig;go_enter_defers Tryz.func54,Tryz.ntmps54;go_upto_region 1 with fail
  rw[<-zU HW0,<-zU HB];go_wp2_with fail;refine (zU CP _).mono ?_;rintro e w1 ⟨rfl,rfl⟩;go_wp2_with fail;exact qeh (zU HB) (zU J0) rfl rfl rfl (fun _ _ h=>h)
 ·rw[if_neg h5]at hr;have h50:s.take 5=pressB:=Decidable.not_not.1 h5;simp only[h50,if_true,decide_true]at hcp;have CP:=zH hcp;obtain⟨t,ht⟩:∃t,t=s.drop 5:=⟨_,rfl⟩
  have htl:t.length<=16384:=by rw[ht,List.length_drop];omega
  rw[<-ht]at CP hr;have hsz:w0.heap.size=B+2:=by rw[zU HW0,zU HB];simp
  have HSZ:=zH hsz;have HR:=zH hr;clear hcp h5 hbig h50 ht hr hsz;go_enter_defers Tryz.func54,Tryz.ntmps54;go_upto_region 1 with fail
  rw[<-zU HW0,<-zU HB];go_wp2_with fail;refine (zU CP _).mono ?_;rintro e w1 ⟨rfl,rfl⟩;go_upto_region 8 with fail
  obtain⟨w2,hw2⟩:∃w2,w2=(w1.alloc (.cells #[S t] 112)).alloc (.cells #[.pointer (some ⟨B+2,0,none⟩)] 110):=⟨_,rfl⟩
  have O2:=zH (show OpS w w2 B (.slice none 0 0) (.slice none 0 0) ⟨[],[]⟩ t by rw[hw2];exact OpS.first t (zU Z0).1 (zU Z0).2.1 (zU Z0).2.2 (zU HSZ));rw[zU HSZ,<-hw2];clear hw2
  have CE1:=zH (qo3 (α:=qa) (B+2) 87 #[.pointer (some ⟨B,0,none⟩),.pointer (some ⟨B+3,0,none⟩)] qle qcn (qvc w B) (OpJ w B)
   (fun _ _ _ ⟨_,_,_,h⟩=>h.q) (fun _ _ _ ⟨h,_⟩=>by omega) (fun _ _ _ _ _ ⟨h1,h2,v1,h3⟩ hr hq hg=>⟨by omega,h2,v1,h3.glass hq hg⟩) (fun _ _ _ _ ⟨_,_,_,h⟩ hg=>h.throw hg) (fun s l W h=>by have hh:=qoC w B s l W h;cases hc:qcn s <;> (rw[hc]at hh;exact hh)) t w2 ⟨by simp;omega,by simp,_,zU O2⟩)
  obtain⟨R1,hR1⟩:∃R,R=qhJ qcn t:=⟨_,rfl⟩
  have hr:=zU HR;rw[<-hR1]at hr;rw[<-hR1]at CE1;have pg:=(zU O2).gc;clear hR1;cases R1 with
  | none =>
   simp only at hr;subst hr;go_wp2_with fail;refine (zU CE1).mono ?_;rintro e w3 ⟨rfl,hj⟩;have HJ:=zH hj;clear hj;go_wp2_with fail;exact qeh (zU HB) (zU HJ) rfl rfl rfl (fun _ _ h=>h)
  | some p =>
   obtain⟨ds,s2⟩:=p;simp only at hr;have HR:=zH hr;clear hr;go_wp2_with fail;refine (zU CE1).mono ?_;rintro e w3 ⟨rfl,hi1,hi2,v1,hi3⟩;have HDL:=zH hi2;have hs2:s2.length+ds.length<=16384:=hi1;have O3:=zH hi3
   have CE2:=zH (qo3 (α:=Fil) (B+2) 89 #[.pointer (some ⟨B+3,0,none⟩),.pointer (some ⟨B,0,none⟩)] qld qbM (qvb w B ds) (OpJ w B)
    (fun _ _ _ ⟨_,_,_,_,h⟩=>h.q) (fun _ _ _ ⟨h,_⟩=>by omega) (fun _ _ _ _ _ ⟨h1,h2,v1,v2,h3⟩ hr hq hg=>⟨by omega,h2,v1,v2,h3.glass hq hg⟩) (fun _ _ _ _ ⟨_,_,_,_,h⟩ hg=>h.throw hg) (fun s l W h=>by have hh:=qoB w B ds s l W h;cases hc:qbM s <;> (rw[hc]at hh;exact hh)) s2 w3 ⟨by simp;omega,by simp,_,_,hi3⟩)
   obtain⟨R2,hR2⟩:∃R,R=qhJ qbM s2:=⟨_,rfl⟩
   have hr:=zU HR;rw[<-hR2]at hr;rw[<-hR2]at CE2;clear hR2 pg hi1 hi2 hi3 CE1;have pg:=(zU O3).gc;cases R2 with
   | none =>
    simp only at hr;subst hr;go_wp2_with fail;refine (zU CE2).mono ?_;rintro e w4 ⟨rfl,hj⟩;have HJ:=zH hj;clear hj;go_wp2_with fail;exact qeh (zU HB) (zU HJ) rfl rfl rfl (fun _ _ h=>h)
   | some p =>
    obtain⟨fs,s4⟩:=p;simp only at hr;have HR:=zH hr;clear hr;go_wp2_with fail;refine (zU CE2).mono ?_;rintro e w4 ⟨rfl,hi1,hi2,v1,v2,hi3⟩
    obtain⟨A,c,A2,c2,rfl,rfl⟩:∃A c A2 c2,v1=.slice A ds.length c/\v2=.slice A2 fs.length c2:=by
     obtain⟨A,c,A2,c2,e,e2,_⟩:=hi3.o.form;exact⟨A,c,A2,c2,e,e2⟩
    have O4:=zH hi3;have hsz:ArcSz ⟨ds,fs⟩:=⟨by show ds.length<=_;omega,by show fs.length<=_;omega,fun d hd=>by have:=zU HDL d hd;omega,hi2⟩
    have CK:=fun (W:World) (h:OpS w W B (.slice A ds.length c) (.slice A2 fs.length c2) ⟨ds,fs⟩ s4)=>qcB A _ c A2 _ c2 _ W (OwnA.inn h.o) hsz;clear pg hi1 hi2 hi3 hsz CE2;have pg:=(zU O4).gc;obtain⟨y0,y1⟩:=(zU O4).q.c;obtain⟨p0,p1,p2,p3⟩:=(zU O4).c
    by_cases h4:s4=[]
    ·subst h4;have n1:(([]:qa) == [])=true:=rfl;obtain⟨k,hk⟩:∃k,k=qh ⟨ds,fs⟩:=⟨_,rfl⟩
     have hr:=zU HR;rw[<-hk]at CK hr;have CK:=zH CK;clear hk
     by_cases hk0:k=0
     ·subst hk0;rw[if_pos ⟨rfl,rfl⟩]at hr;subst hr;go_wp2_with fail;refine (zU CK _ (zU O4)).mono ?_;rintro e w5 ⟨rfl,hb5⟩;have O5:=zH ((zU O4).below hb5);clear hb5 p0 p1 p2 p3 pg y0 y1;obtain⟨p0,p1,p2,p3⟩:=(zU O5).c;have e0:(w5.setRow B #[.slice A ds.length c,.slice A2 fs.length c2]).heap[B+1]?=some (.cells #[.int .i64 0] 22 (0,0)):=(setRow_other _ _ _ _ (by omega)).trans (zU O5).e;have e1:(w5.setRow B #[.slice A ds.length c,.slice A2 fs.length c2]).cell? ⟨B+1,0,none⟩=some (.int .i64 0):=by rw[cell_of_row _ _ _ _ _ _ e0];rfl
      have e2:(w5.setRow B #[.slice A ds.length c,.slice A2 fs.length c2]).frozen? ⟨B+1,0,none⟩=false:=by simp[World.frozen?,e0]
      have E0:=zH e0;clear e0;go_wp2_with (refine wpList_store_row rfl 33 (.tmp 2) (.tmp 42) rfl B #[.slice A ds.length c,.slice A2 fs.length c2] rfl rfl 33 _ (zU O5).p qd rfl (qN _ _ _ _ _ _) ?_);have e0:=zU E0;have hr:(w5.setRow B #[.slice A ds.length c,.slice A2 fs.length c2]).setCell ⟨B+1,0,none⟩ (.int .i64 0)=(w5.setRow B #[.slice A ds.length c,.slice A2 fs.length c2]).setRow (B+1) #[.int .i64 0]:=by rw[setCell_eq_setRow _ (B+1) 0 _ _ _ _ e0];rfl
      rw[hr];have g1:((w5.setRow B #[.slice A ds.length c,.slice A2 fs.length c2]).setRow (B+1) #[.int .i64 0]).heap[B]?=some (.cells #[.slice A ds.length c,.slice A2 fs.length c2] 33 (0,0)):=(setRow_other _ _ _ _ (by omega)).trans (setRow_heap _ _ _ _ _ _ (zU O5).p);have g2:((w5.setRow B #[.slice A ds.length c,.slice A2 fs.length c2]).setRow (B+1) #[.int .i64 0]).heap[B+1]?=some (.cells #[.int .i64 0] 22 (0,0)):=setRow_heap _ _ _ _ _ _ e0;refine leaves_cons (f:=84) (args:=#[.pointer (some ⟨B,0,none⟩),.pointer (some ⟨B+1,0,none⟩)]) (by simp) (by simp[go_sem]) ?_;refine (qrT B _).mono ?_;rintro e u' w'' ⟨rfl,rfl,rfl⟩;have ho:=(zU O5).o;have hbl:=(zU O5).bel;exact⟨_,qgk rfl _ _ B _ _ 0 rfl rfl g1 g2,⟨_,_,rfl,⟨qdG (qT (qT ho.s (fun k hk=>by have:=(ho.s.lt k hk).1;omega) _) (fun k hk=>by have:=(ho.s.lt k hk).1;omega) _) (by omega),qdG (qT (qT ho.f (fun k hk=>by have:=(ho.f.lt k hk).1;omega) _) (fun k hk=>by have:=(ho.f.lt k hk).1;omega) _) (by omega)⟩⟩,below_setRow (below_setRow hbl (Nat.le_refl _) _) (by omega) _⟩
     ·rw[if_neg (fun h=>hk0 h.2)]at hr;subst hr;have d1:((k:Int) != 0)=true:=by rw[bne_iff_ne];omega
      have d2:((k:Int) == 0)=false:=by rw[zB];omega
      have d3:¬(k:Int)=0:=by omega
      clear hk0;go_wp2_with fail;refine (zU CK _ (zU O4)).mono ?_;rintro e w5 ⟨rfl,hb5⟩;have O5:=zH ((zU O4).below hb5);clear hb5 p0 p1 p2 p3 pg y0 y1;go_wp2_with fail;exact qeh (zU HB) (zU O5).j rfl rfl rfl (fun _ _ h=>h)
    ·have hr:=zU HR;rw[if_neg (fun h=>h4 h.1)]at hr;subst hr;have n1:(s4 == [])=false:=by rw[zB];exact h4
     have n2:(s4 != [])=true:=by rw[bne_iff_ne];exact h4
     clear CK;go_wp2_with fail;exact qeh (zU HB) (zU O4).j rfl rfl rfl (fun _ _ h=>h)
end
section
open Go.RowKit Go.Lib Pl
def qr3:Obj->Bool
 | .cells _ t _=>t == 103 || t == 5
 | _=>false
theorem qoy:∃j,Tryz.prog.info? 39=some j/\j.size=2:=by
 have h:(Tryz.prog.info? 39).map (·.size)=some 2:=by kernel_rfl
 obtain⟨j,hj,hs⟩:=Option.map_eq_some_iff.1 h;exact⟨j,hj,hs⟩
theorem quf:liesAt Tryz.prog Tryz.prog.depth 103 (2 / Tryz.prog.cellsOf 103) 0 39 1=true:=by kernel_rfl
section
variable (b : Nat) (w : World)
theorem ql6(h0:w.cell? ⟨b,0,none⟩=some (.pointer (some ⟨b,0,none⟩))) :
  Calls Tryz.prog 21 #[.pointer (some ⟨b,0,none⟩)] w fun e w'=>e=.returned (.tuple #[])/\w'=w:=by
 obtain⟨j,hj,hjs⟩:=qoy;go_enter Tryz.func21,Tryz.ntmps21;go_wp2;rw[Lib.run_neq_ptr_same w _ Tryz.underlying36 hj];go_wp2;go_end0;exact⟨rfl,rfl⟩
theorem qk9(h0:w.cell? ⟨b,0,none⟩=some (.pointer none))(hsh:w.shape? b=some (103,2))(hfz:w.frozen? ⟨b,0,none⟩=false) :
  Calls Tryz.prog 21 #[.pointer (some ⟨b,0,none⟩)] w fun e w'=>e=.returned (.tuple #[])/\w'=w.setCell ⟨b,0,none⟩ (.pointer (some ⟨b,0,none⟩)):=by
 obtain⟨j,hj,hjs⟩:=qoy;go_enter Tryz.func21,Tryz.ntmps21;go_wp2;rw[Lib.run_to_unsafe w ⟨b,0,none⟩ Tryz.underlying36 Tryz.underlying79 hj (by rw[hjs];decide) hsh (Nat.zero_lt_succ 1)];simp only[Result.andThen];rw[Oper.upon_value];go_wp2;rw[run_callFunc_extern Tryz.func48 (by kernel_rfl) (by kernel_rfl) (by kernel_rfl) (e:=Extern.AbiNoEscape.same) (by kernel_rfl)];rw[Lib.run_noEscape];simp only[Result.andThen];rw[Oper.upon_value];go_wp2;rw[Lib.run_from_unsafe w ⟨b,0,none⟩ Tryz.underlying79 Tryz.underlying36 hj hsh quf];simp only[Result.andThen];rw[Oper.upon_value];go_wp2;go_end0;exact⟨rfl,rfl⟩
end
abbrev IsP(B b:Nat)(l:List UInt8)(w:World):Prop:=Lib.IsBuilder 103 5 B b (Lib.byteCells l) w
theorem qsR(B b:Nat)(bs:List Value)(w:World)(h:Lib.IsBuilder 103 5 B b bs w) :
  Calls Tryz.prog 21 #[.pointer (some ⟨b,0,none⟩)] w fun e w'=>e=.returned (.tuple #[])/\(Lib.BuilderAt 103 5 B b (.pointer (some ⟨b,0,none⟩)) bs w'/\Below B w w'/\Keeps qr3 w w'):=by
 rcases h with h|h
 ·refine (qk9 b w h.cell0 h.shape h.frozen0).mono ?_;rintro e w' ⟨rfl,rfl⟩;obtain⟨_,v,hb,_⟩:=id h;exact⟨rfl,h.used _,(Below.refl B w).setCell (p:=⟨b,0,none⟩) h.1 _,(Keeps.refl _ _).setCell (p:=⟨b,0,none⟩) _ hb rfl⟩
 ·refine (ql6 b w h.cell0).mono ?_;rintro e w' ⟨rfl,rfl⟩;exact⟨rfl,h,Below.refl B _,Keeps.refl _ _⟩
theorem qnu(B b:Nat)(bs:List Value)(s:ByteArray)(w:World)(h:Lib.IsBuilder 103 5 B b bs w)(hlen:bs.length+s.size<=140737488355328)(hBw:B<=w.heap.size) :
  Calls Tryz.prog 10 #[.pointer (some ⟨b,0,none⟩),.string s] w fun e w'=>e=.returned (.tuple #[.int .i64 s.size,.nilIface])/\(Lib.BuilderAt 103 5 B b (.pointer (some ⟨b,0,none⟩)) (bs++Lib.strCells s) w'/\Below B w w'/\Keeps qr3 w w'):=by
 obtain⟨i0,hi,hz0,hz1,hz2⟩:=info_parts qdn;go_enter Tryz.func10,Tryz.ntmps10;go_wp2_with (go_at_call 21;refine (qsR B b bs _ h).mono ?_);rintro e w1 ⟨rfl,h1,hb1,hk1⟩;obtain⟨hB,v,hbk,hown,hne⟩:=h1;have c0:w1.cell? ⟨b,0,none⟩=some (.pointer (some ⟨b,0,none⟩)):=by rw[Lib.cell_of_heap hbk];rfl
 have c1:w1.cell? ⟨b,1,none⟩=some v:=by rw[Lib.cell_of_heap hbk];rfl
 go_wp2_with (at_builtin;refine Lib.wpList_append_own_string _ rfl _ _ 37 9 rfl B 5 i0 Tryz.underlying37 Tryz.underlying9 hi hz0 hz1 hz2 _ _ _ rfl hown s rfl ?c3 ?c4 ?c5 ?_)
 case c3=>unfold maxLen;omega
 case c4=>omega
 case c5=>have:=hb1.size;omega
 intro v' w2 hown' hgrow _
 have hlt:b<w1.heap.size:=by
  rcases Nat.lt_or_ge b w1.heap.size with h'|h'
  ·exact h'
  ·simp[Array.getElem?_eq_none h']at hbk
 have hb2:w2.heap[b]?=some (.cells #[.pointer (some ⟨b,0,none⟩),v] 103 (0,0)):=by
  rw[hgrow.block b hlt (fun e=>hne e.symm)];exact hbk
 have d0:w2.cell? ⟨b,0,none⟩=some (.pointer (some ⟨b,0,none⟩)):=by rw[Lib.cell_of_heap hb2];rfl
 have d1:w2.cell? ⟨b,1,none⟩=some v:=by rw[Lib.cell_of_heap hb2];rfl
 have f1:w2.frozen? ⟨b,1,none⟩=false:=Lib.frozen_of_heap hb2 1
 obtain⟨ao,n',cap,rfl⟩:∃ao n' cap,v'=.slice ao n' cap:=by
  rcases hown'.2 with⟨hv,_⟩|⟨g,cap,cur,hv,_⟩
  ·exact⟨_,_,_,hv⟩
  ·exact⟨_,_,_,hv⟩
 go_wp2;go_ret2;refine⟨rfl,?_,?_,?_⟩
 ·exact Lib.BuilderAt.put (T:=103) (e:=5) hB hb2 (bs':=bs++Lib.strCells s) (by simpa[Lib.strCells_length]using hown') (by decide)
 ·exact (hb1.grown hgrow (by have:=hb1.size;omega) (fun k hk=>(hown.lt k hk).1)).setCell (p:=⟨b,1,none⟩) hB _
 ·refine (hk1.grown hgrow (fun g hg=>?_)).setCell (p:=⟨b,1,none⟩) _ hb2 rfl
  rcases hown.2 with⟨rfl,_⟩|⟨g',cap',cur,rfl,_,hgg,_⟩
  ·simp[Value.ownBlock]at hg
  ·simp[Value.ownBlock]at hg;subst hg;exact⟨_,hgg,rfl⟩
theorem qiG(B b:Nat)(l s:List UInt8)(w:World)(h:IsP B b l w)(hlen:l.length+s.length<=140737488355328)(hBw:B<=w.heap.size) :
  Calls Tryz.prog 10 #[.pointer (some ⟨b,0,none⟩),S s] w fun e w'=>e=.returned (.tuple #[I s.length,.nilIface])/\IsP B b (l++s) w'/\Below B w w'/\Keeps qr3 w w':=by
 refine (qnu B b (Lib.byteCells l) ⟨s.toArray⟩ w h (by have e:(⟨s.toArray⟩:ByteArray).size=s.length:=rfl;rw[e];simpa[Lib.byteCells]using hlen) hBw).mono ?_;rintro e w' ⟨he,h1,h2,h3⟩;refine⟨he,.inr ?_,h2,h3⟩;have e1:Lib.byteCells l++Lib.strCells ⟨s.toArray⟩=Lib.byteCells (l++s):=by simp[Lib.byteCells,Lib.strCells]
 rw[<-e1];exact h1
theorem qoO{B b:Nat}{l:List UInt8}{w:World}(h:IsP B b l w):∃p,Lib.BuilderAt 103 5 B b p (Lib.byteCells l) w:=by
 rcases h with h|h
 ·exact⟨_,h⟩
 ·exact⟨_,h⟩
theorem qvv(B b:Nat)(l:List UInt8)(w:World)(h:IsP B b l w) :
  Calls Tryz.prog 83 #[.pointer (some ⟨b,0,none⟩)] w fun e w'=>e=.returned (I l.length)/\w'=w:=by
 obtain⟨p,hB,v,hbk,hown,hne⟩:=qoO h;rw[Lib.byteCells_length]at hown
 obtain⟨ao,cap,rfl⟩:∃ao cap,v=.slice ao l.length cap:=by
  rcases hown.2 with⟨hv,h0⟩|⟨g,cap,cur,hv,_⟩
  ·exact⟨none,0,by rw[hv,h0]⟩
  ·exact⟨_,_,hv⟩
 have c1:w.cell? ⟨b,1,none⟩=some (.slice ao l.length cap):=by rw[Lib.cell_of_heap hbk];rfl
 go_enter Tryz.func83,Tryz.ntmps83;go_wp2;go_ret;exact⟨rfl,rfl⟩
theorem qrd(B b:Nat)(l:List UInt8)(w:World)(h:IsP B b l w)(h0:l≠[]) :
  Calls Tryz.prog 13 #[.pointer (some ⟨b,0,none⟩)] w fun e w'=>e=.returned (S l)/\Below B w w':=by
 obtain⟨p,hB,v,hbk,hown,hne⟩:=qoO h;have hl0:l.length≠0:=by simpa using h0
 rw[Lib.byteCells_length]at hown
 obtain⟨g,cap,cur,rfl,hbg,hg,hnc,hcm,hcs,htake⟩:∃g cap cur,v=.slice (some ⟨g,0,none⟩) l.length cap/\B<=g/\w.heap[g]?=some (.cells cur 5 (0,0))/\l.length<=cap/\cap<=maxLen/\cur.size=cap*1/\cur.toList.take (l.length*1)=Lib.byteCells l:=by
  rcases hown.2 with⟨_,hz⟩|⟨g,cap,cur,hv,r⟩
  ·exact absurd hz hl0
  ·exact⟨g,cap,cur,hv,r⟩
 have c1:w.drew.cell? ⟨b,1,none⟩=some (.slice (some ⟨g,0,none⟩) l.length cap):=by
  have:w.drew.heap[b]?=some (.cells #[p,.slice (some ⟨g,0,none⟩) l.length cap] 103 (0,0)):=hbk;rw[Lib.cell_of_heap this];rfl
 have hSD:(Builtin.unsafeSliceData_ #[37] 70 #[.slice (some ⟨g,0,none⟩) l.length cap]).run Tryz.prog w.drew=.ok (.pointer (some ⟨g,0,none⟩)) w.drew :=
  Lib.run_unsafeSliceData_row _ _ _ _ _ _ (by omega)
 have hUS:(Builtin.unsafeString_ #[70,3] 9 #[.pointer (some ⟨g,0,none⟩),.int .i64 l.length]).run Tryz.prog w.drew=.ok (.string ⟨l.toArray⟩) (w.drew.freeze ⟨g,0,none⟩ l.length):=by
  refine Lib.run_unsafeString_row w.drew 70 3 9 5 Tryz.underlying70 (by kernel_rfl) g cur.size (by have hg':w.drew.heap[g]?=some (.cells cur 5 (0,0)):=hg;simp[World.shape?,hg']) l h0 (by omega) (by unfold maxLen at hcm;omega) ?_;intro j x hx;have:=hown.cells (g:=g) rfl j (.int .u8 x.toNat) (by simp[Lib.byteCells,hx]);exact this
 go_enter Tryz.func13,Tryz.ntmps13;go_wp2;go_region
 all_goals (go_wp2;go_ret;exact⟨rfl,Lib.below_freeze (Below.drew (Below.refl B w)) (p:=⟨g,0,none⟩) hbg _⟩)
end
section
open Go.RowKit Go.Lib Pl
attribute [local go_sem] qf qe
theorem qje{B b:Nat}{l:List UInt8}{w:World}(h:IsP B b l w):B<=b/\b<w.heap.size:=by
 obtain⟨p,hB,v,hbk,_⟩:=qoO h;exact⟨hB,(zE hbk).1⟩
theorem qsS{b:Nat}{l:List UInt8}{w w':World}(h:IsP b b l w)(hb:Below w.heap.size w w'):IsP b b l w':=by
 rcases h with⟨h1,v,hbk,ho,hne⟩|⟨h1,v,hbk,ho,hne⟩
 ·exact .inl ⟨h1,v,(hb.block _ (zE hbk).1).trans hbk,qo ho hb,hne⟩
 ·exact .inr ⟨h1,v,(hb.block _ (zE hbk).1).trans hbk,qo ho hb,hne⟩
theorem qjO{bad:Obj->Bool}{w w':World}(hb:Below w.heap.size w w'):Keeps bad w w':=⟨hb.size,fun k _ hk _=>(hb.block k (zE hk).1).trans hk⟩
structure PS(b:Nat)(w W:World)(l:List UInt8):Prop where
 p:IsP b b l W
 b:Below b w W
 k:Keeps qr3 w W
section
variable {b : Nat} {w W W' : World} {l l' : List UInt8}
theorem PS.below(h:PS b w W l)(hb:Below W.heap.size W W'):PS b w W' l:=⟨qsS h.p hb,h.b.trans (hb.mono (Nat.le_of_lt (qje h.p).2)),h.k.trans (qjO hb)⟩
theorem PS.alloc(h:PS b w W l)(o:Obj):PS b w (W.alloc o) l:=h.below ((Below.refl _ _).alloc (Nat.le_refl _) _)
theorem PS.step(h:PS b w W l)(h1:PS b W W' l'):PS b w W' l':=⟨h1.p,h.b.trans h1.b,h.k.trans h1.k⟩
end
theorem qhm(b:Nat)(l:List UInt8)(ns:List Nat)(H:Nat)(w:World)(h:IsP b b l w)(hH:w.heap[H]?=some (.cells (ns.map fun n=>I (n:Nat)).toArray 3 (0,0)))(hns:∀n∈ns,n<=2147483647)(hlen:l.length+ns.length*5<=140737488355328) :
  Calls Tryz.prog 81 #[.pointer (some ⟨b,0,none⟩),.slice (some ⟨H,0,none⟩) ns.length ns.length] w fun e w'=>e=.returned (.tuple #[])/\PS b w w' (l++ns.flatMap nb):=by
 have P0:=zH (show PS b w w l from ⟨h,Below.refl _ _,Keeps.refl _ _⟩);have HH:=zH hH;have HNS:=zH hns
 have hfl:∀k,k<=ns.length->((ns.take k).flatMap nb).length<=k*5:=fun k _=>by
  have:∀(xs:List Nat),(∀n∈xs,n<=2147483647)->(xs.flatMap nb).length<=xs.length*5:=by
   intro xs
   induction xs with
   | nil=>intro _;simp
   | cons x xs ih =>
    intro hx;have h1:=ih fun n hn=>hx n (by simp[hn]);have h2:=qb1 4 x (by have:=hx x (by simp);omega);rw[List.flatMap_cons,zL,List.length_cons];omega
  have h1:=this (ns.take k) fun n hn=>hns n (List.mem_of_mem_take hn);have h2:(ns.take k).length<=k:=by rw[List.length_take];omega
  have h3:(ns.take k).length*5<=k*5:=Nat.mul_le_mul_right _ h2;omega
 have HFL:=zH hfl;obtain⟨m,hm⟩:∃m,m=ns.length:=⟨_,rfl⟩
 have HM:=zH hm;rw[<-hm]at hlen ⊢;obtain⟨r,hr⟩:∃r,r=l++ns.flatMap nb:=⟨_,rfl⟩
 rw[<-hr];have HR:=zH hr;clear h hH hns hfl hm hr;go_enter Tryz.func81,Tryz.ntmps81;go_wp2_with fail;go_loopw [10] (fun iv wr=>∃k:Nat,k<=m/\iv=.int .i64 k/\PS b w wr (l++(ns.take k).flatMap nb)) (fun iv _=>m-(RowKit.intOf iv).toNat)
 case atStart=>exact⟨0,Nat.zero_le _,rfl,by simpa using zU P0⟩
 case round =>
  obtain⟨k,hk,rfl,hP⟩:=hrel;have HP:=zH hP;have hfl:=zU HFL k (by rw[<-zU HM];exact hk)
  by_cases hkm:k<m
  ·obtain⟨x,hx⟩:∃x,ns[k]?=some x:=⟨_,zG (by rw[<-zU HM];exact hkm)⟩
   have hxl:=zU HNS x (List.mem_of_getElem? hx)
   have hcell:wr.cell? ⟨H,k,none⟩=some (I (x:Nat)):=by
    rw[cell_of_row _ _ _ _ _ _ (hP.k.block H _ (zU HH) rfl)];simp[hx]
   have hstep:l++(ns.take (k+1)).flatMap nb=(l++(ns.take k).flatMap nb)++nb x:=by
    rw[List.take_add_one,hx];simp
   have HST:=zH hstep;have hxn:=qb1 4 x (by omega);obtain⟨y,hy⟩:∃y,y=l++(ns.take k).flatMap nb:=⟨_,rfl⟩
   have hyl:y.length+5<=140737488355328:=by rw[hy,zL];omega
   rw[<-hy]at HP HST;have hkz:(k:Int)<(m:Int):=by omega
   clear hP hfl hstep hx hy;go_wp2_with fail;refine (qsI x wr hxl).mono ?_;rintro e w1 ⟨rfl,hb1⟩;have P1:=zH ((zU HP).below hb1);clear hb1;go_wp2_with fail;refine (qiG b b y (nb x) w1 (zU P1).p (by omega) (Nat.le_of_lt (qje (zU P1).p).2)).mono ?_;rintro e w2 ⟨rfl,h1,h2,h3⟩;have P2:=zH ((zU P1).step ⟨h1,h2,h3⟩);clear h1 h2 h3;go_wp2_with fail;go_roundw
   case rel=>exact⟨k+1,by omega,by go_num,by rw[zU HST];exact zU P2⟩
   case measure=>simp[RowKit.intOf];omega
  ·have hall:ns.take k=ns:=List.take_of_length_le (by rw[<-zU HM];omega);rw[hall]at hP;have HP:=zH hP;have hkz:¬(k:Int)<(m:Int):=by omega
   have hkd:decide ((k:Int)<(m:Int))=false:=by simp;omega
   clear hP hfl hall;go_wp2_with fail;go_end0;exact⟨rfl,by rw[zU HR];exact zU HP⟩
theorem qkf(b:Nat)(l:List UInt8)(t:qa)(w:World)(h:IsP b b l w)(ht:t.length<=2147483647)(hlen:l.length+t.length+5<=140737488355328) :
  Calls Tryz.prog 82 #[.pointer (some ⟨b,0,none⟩),S t] w fun e w'=>e=.returned (.tuple #[])/\PS b w w' (l++qQ t):=by
 have P0:=zH (show PS b w w l from ⟨h,Below.refl _ _,Keeps.refl _ _⟩);have hxn:=qb1 4 t.length (by omega);clear h;go_enter Tryz.func82,Tryz.ntmps82;go_wp2_with fail;obtain⟨w1,hw1⟩:∃w1,w1=w.alloc (.cells #[I (t.length:Nat)] 3):=⟨_,rfl⟩
 have P1:=zH (show PS b w w1 l by rw[hw1];exact (zU P0).alloc _);have C:=zH (qhm b l [t.length] w.heap.size w1 (zU P1).p (by rw[hw1];exact heap_alloc_new _ _) (by simp;omega) (by simp;omega));rw[<-hw1];clear hw1;refine (zU C).mono ?_;rintro e w2 ⟨rfl,h1⟩;have P2:=zH ((zU P1).step h1);clear h1;go_wp2_with fail;refine (qiG b b (l++[t.length].flatMap nb) t w2 (zU P2).p (by simp;omega) (Nat.le_of_lt (qje (zU P2).p).2)).mono ?_;rintro e w3 ⟨rfl,h1,h2,h3⟩;have P3:=zH ((zU P2).step ⟨h1,h2,h3⟩);clear h1 h2 h3;go_wp2_with fail;go_end0;exact⟨rfl,by simpa[qQ]using zU P3⟩
theorem PS.new(w:World):PS w.heap.size w (w.alloc (.cells #[.pointer none,.slice none 0 0] 103)) [] :=
 ⟨.inl ⟨Nat.le_refl _,.slice none 0 0,heap_alloc_new _ _,World.ownsRow_nil _ _ _ _,by simp[Value.ownBlock]⟩,(Below.refl _ _).alloc (Nat.le_refl _) _,qjO ((Below.refl _ _).alloc (Nat.le_refl _) _)⟩
theorem PS.box{b:Nat}{w1 W:World}{l:List UInt8}{A:Option Addr}{n cap:Nat}{A2:Option Addr}{n2 cap2:Nat}{a:Arc}{w:World}{B:Nat}(h:PS b w1 W l)(hb:b=w1.heap.size)(hA:ABox A n cap A2 n2 cap2 a w w1 B):ABox A n cap A2 n2 cap2 a w W B :=
 hA.below (by rw[<-hb];exact h.b)
theorem qt3(A:Option Addr)(n cap:Nat)(A2:Option Addr)(n2 cap2:Nat)(a:Arc)(w:World)(h:ArcIn w A n A2 n2 a)(hz:ArcSz a) :
  Calls Tryz.prog 53 #[qv A n cap A2 n2 cap2] w fun e w'=>e=.returned (.tuple #[S (qbu a).1,I (qbu a).2])/\Below w.heap.size w w':=by
 obtain⟨B,hB⟩:∃B,B=w.heap.size:=⟨_,rfl⟩
 obtain⟨w0,hw0⟩:∃w0,w0=w.alloc (.cells #[.slice A n cap,.slice A2 n2 cap2] 33):=⟨_,rfl⟩
 have H0:=zH (show ABox A n cap A2 n2 cap2 a w w0 B by rw[hw0,hB];exact ABox.new h cap cap2);have CK:∀W,ABox A n cap A2 n2 cap2 a w W B->Calls Tryz.prog 56 #[qv A n cap A2 n2 cap2] W fun e w'=>e=.returned (I (qh a))/\Below W.heap.size W w':=fun W hW=>qcB A n cap A2 n2 cap2 a W hW.i hz;obtain⟨r,hr⟩:∃r,r=qbu a:=⟨_,rfl⟩
 rw[<-hr,<-hB];unfold qbu at hr;have HB:=zH hB;have HW0:=zH hw0;have hl1:=h.s.1;have hl2:=h.f.1;clear hB hw0 h hz
 by_cases hck:qh a≠0
 ·rw[if_pos hck]at hr;obtain⟨c,hc⟩:∃c,c=qh a:=⟨_,rfl⟩
  rw[<-hc]at CK hr hck;have CK:=zH CK;have d1:((c:Int) != 0)=true:=by rw[bne_iff_ne];omega
  have d2:((c:Int) == 0)=false:=by rw[zB];omega
  have d3:¬(c:Int)=0:=by omega
  subst hr;clear hck hc;go_enter Tryz.func53,Tryz.ntmps53;go_upto_region 1 with fail
  rw[<-zU HW0,<-zU HB];obtain⟨q0,q1⟩:=(zU H0).c;go_wp2_with fail;refine (zU CK _ (zU H0)).mono ?_;rintro e w1 ⟨rfl,hb1⟩;have H1:=zH ((zU H0).below hb1);clear hb1 q0 q1;go_wp2_with fail;go_ret2;exact⟨rfl,(zU H1).bel⟩
 have hck0:qh a=0:=Decidable.not_not.1 hck;have hra:=(qak a).1 hck0;rw[if_neg hck]at hr;rw[hck0]at CK;have CK:=zH CK;have hn4:=hra.nd;have hn12:=hra.nf;have HLD:=zH (qkv hra);have HLF:=zH (qkt hra);have HSD:=zH hra.sd;have HNUM:=zH (fun f (hf:f∈a.fs)=>qce hra.nd hra.sd (hra.fr.each f hf));have hil:=qmY hra;have hz:=qmW a;rw[hl1]at hz;have HZ:=zH hz;obtain⟨im,him⟩:∃im,im=qbm a:=⟨_,rfl⟩
 rw[<-him]at hr hil;have HIM:=zH him;have HR:=zH hr;clear hck hck0 hra him hr hz;go_enter Tryz.func53,Tryz.ntmps53;go_upto_region 1 with fail
 rw[<-zU HW0,<-zU HB];obtain⟨q0,q1⟩:=(zU H0).c;go_wp2_with fail;refine (zU CK _ (zU H0)).mono ?_;rintro e w1 ⟨rfl,hb1⟩;have H1:=zH ((zU H0).below hb1);clear hb1 q0 q1;go_upto_region 5 with fail
 obtain⟨w2,hw2⟩:∃w2,w2=w1.alloc (.cells #[.pointer none,.slice none 0 0] 103):=⟨_,rfl⟩
 obtain⟨b,hb⟩:∃b,b=w1.heap.size:=⟨_,rfl⟩
 have P2:=zH (show PS b w1 w2 []by rw[hw2,hb];exact PS.new w1);have HBB:=zH hb;rw[<-hw2,<-hb];clear hw2 hb;go_wp2_with fail;refine (qiG b b [] pressB w2 (zU P2).p (by simp[pressB]) (Nat.le_of_lt (qje (zU P2).p).2)).mono ?_;rintro e w3 ⟨rfl,h1,h2,h3⟩;have P3:=zH (show PS b w1 w3 pressB from (zU P2).step ⟨h1,h2,h3⟩);clear h1 h2 h3;obtain⟨q0,q1⟩:=((zU P3).box (zU HBB) (zU H1)).c;go_wp2_with fail;obtain⟨w4,hw4⟩:∃w4,w4=w3.alloc (.cells #[I n] 3):=⟨_,rfl⟩
 have P4:=zH (show PS b w1 w4 pressB by rw[hw4];exact (zU P3).alloc _);have C:=zH (qhm b pressB [n] w3.heap.size w4 (zU P4).p (by rw[hw4];exact heap_alloc_new _ _) (by simp;omega) (by simp[pressB]));rw[<-hw4];clear hw4 q0 q1;refine (zU C).mono ?_;rintro e w5 ⟨rfl,h1⟩;have P5:=zH (show PS b w1 w5 (qdt a 0)by rw[zU HZ];simpa using (zU P4).step h1);clear h1 C;obtain⟨q0,q1⟩:=((zU P5).box (zU HBB) (zU H1)).c;go_wp2_with fail;clear q0 q1;go_loopw [30] (fun iv wr=>∃k:Nat,k<=n/\iv=.int .i64 k/\PS b w1 wr (qdt a k)) (fun iv _=>n-(RowKit.intOf iv).toNat)
 case atStart=>exact⟨0,Nat.zero_le _,rfl,zU P5⟩
 case round =>
  obtain⟨k,hk,rfl,hP⟩:=hrel;have HP:=zH hP;have hAB:=hP.box (zU HBB) (zU H1);obtain⟨q0,q1⟩:=hAB.c;have hls:=zU HLD k
  by_cases hkn:k<n
  ·obtain⟨g,off,t,rfl,hg,ht,hc⟩:=hAB.i.s.at_ (k:=k) hkn;have hs:=qmX ht;have htl:=zU HSD t (List.mem_of_getElem? ht);obtain⟨s,hs0⟩:∃s,s=qdt a k:=⟨_,rfl⟩
   rw[<-hs0]at hs hls HP;have HS:=zH hs;have z1:(k:Int)<(n:Int):=by omega
   clear hs ht hs0 hAB hP;go_wp2_with fail;refine (qkf b s t wr (zU HP).p (by omega) (by omega)).mono ?_;rintro e w6 ⟨rfl,h1⟩;have P6:=zH ((zU HP).step h1);clear h1;go_wp2_with fail;go_roundw
   case rel=>exact⟨k+1,by omega,by go_num,by rw[zU HS];exact zU P6⟩
   case measure=>simp[RowKit.intOf];omega
  ·have hkk:k=a.ds.length:=by omega
   have hzf:=qmU a;rw[<-hkk,hl2]at hzf;have HZF:=zH hzf;obtain⟨s,hs0⟩:∃s,s=qdt a k:=⟨_,rfl⟩
   rw[<-hs0]at hls HP HZF;have z1:¬(k:Int)<(n:Int):=by omega
   have z2:decide ((k:Int)<(n:Int))=false:=by simp;omega
   clear hkk hzf hs0 hAB hP;go_wp2_with fail;obtain⟨w6,hw6⟩:∃w6,w6=wr.alloc (.cells #[I n2] 3):=⟨_,rfl⟩
   have P6:=zH (show PS b w1 w6 s by rw[hw6];exact (zU HP).alloc _);have C:=zH (qhm b s [n2] wr.heap.size w6 (zU P6).p (by rw[hw6];exact heap_alloc_new _ _) (by simp;omega) (by simp;omega));rw[<-hw6];clear hw6 q0 q1;refine (zU C).mono ?_;rintro e w7 ⟨rfl,h1⟩;have P7:=zH (show PS b w1 w7 (qed a 0)by rw[zU HZF];simpa using (zU P6).step h1);clear h1 C;obtain⟨q0,q1⟩:=((zU P7).box (zU HBB) (zU H1)).c;go_wp2_with fail;clear q0 q1 z1 z2 hls;go_loopw [47] (fun iv wr=>∃j:Nat,j<=n2/\iv=.int .i64 j/\PS b w1 wr (qed a j)) (fun iv _=>n2-(RowKit.intOf iv).toNat)
   case atStart=>exact⟨0,Nat.zero_le _,rfl,zU P7⟩
   case round =>
    obtain⟨j,hj,rfl,hP⟩:=hrel;have HP:=zH hP;have hAB:=hP.box (zU HBB) (zU H1);obtain⟨q0,q1⟩:=hAB.c;have hlf:=zU HLF j
    by_cases hjn:j<n2
    ·obtain⟨g,off,f,rfl,hg,hf,x0,x1,x2,x3,x4⟩:=hAB.i.f.at_ (k:=j) hjn;have hs:=qmV hf;obtain⟨g1,g2,g3,g4,g5,g6,g7,g8⟩:=zU HNUM f (List.mem_of_getElem? hf);obtain⟨nm,di,sz,su,bl⟩:=f;simp only at hs g1 g2 g3 g4 g5 g6 g7 g8 x0 x1 x2 x3 x4;obtain⟨d,rfl⟩:=Int.eq_ofNat_of_zero_le g2;obtain⟨z,rfl⟩:=Int.eq_ofNat_of_zero_le g4;obtain⟨u,rfl⟩:=Int.eq_ofNat_of_zero_le g6;simp only[Int.toNat_natCast]at hs;obtain⟨s,hs0⟩:∃s,s=qed a j:=⟨_,rfl⟩
     rw[<-hs0]at hs hlf HP;have HS:=zH hs;have z1:(j:Int)<(n2:Int):=by omega
     have t1:=qcV nm (by omega);have t2:=qcV bl (by omega);clear hs hf hs0 hAB hP;go_upto_region 16 with fail
     obtain⟨w8,hw8⟩:∃w8,w8=wr.alloc (.cells #[S nm,I (d:Nat),I (z:Nat),I (u:Nat),S bl] 89):=⟨_,rfl⟩
     obtain⟨D,hD⟩:∃D,D=wr.heap.size:=⟨_,rfl⟩
     have P8:=zH (show PS b w1 w8 s by rw[hw8];exact (zU HP).alloc _);have F8:=zH (show w8.heap[D]?=some (.cells #[S nm,I (d:Nat),I (z:Nat),I (u:Nat),S bl] 89 (0,0))by rw[hw8,hD];exact heap_alloc_new _ _);rw[<-hw8,<-hD];clear hw8 hD q0 q1 x0 x1 x2 x3 x4;obtain⟨⟨x0,x1,x2,x3,x4⟩,_⟩:=qaM (zU F8);go_wp2_with fail;refine (qkf b s nm w8 (zU P8).p (by omega) (by omega)).mono ?_;rintro e w9 ⟨rfl,h1⟩;have P9:=zH ((zU P8).step h1);have F9:=zH (h1.k.block D _ (zU F8) rfl);clear h1 x0 x1 x2 x3 x4;obtain⟨⟨x0,x1,x2,x3,x4⟩,_⟩:=qaM (zU F9);go_wp2_with fail;obtain⟨v0,hv0⟩:∃v0,v0=w9.alloc (.cells #[I (d:Nat),I (z:Nat),I (u:Nat)] 3):=⟨_,rfl⟩
     have Q0:=zH (show PS b w1 v0 (s++qQ nm)by rw[hv0];exact (zU P9).alloc _);have F10:=zH (show v0.heap[D]?=some (.cells #[S nm,I (d:Nat),I (z:Nat),I (u:Nat),S bl] 89 (0,0))by rw[hv0];exact ((Below.refl _ _).alloc (Nat.le_refl _) _).block _ (zE (zU F9)).1 |>.trans (zU F9));have C:=zH (qhm b (s++qQ nm) [d,z,u] w9.heap.size v0 (zU Q0).p (by rw[hv0];exact heap_alloc_new _ _) (by simp;omega) (by simp;omega));rw[<-hv0];clear hv0 x0 x1 x2 x3 x4;refine (zU C).mono ?_;rintro e v1 ⟨rfl,h1⟩;have Q1:=zH ((zU Q0).step h1);have F11:=zH (h1.k.block D _ (zU F10) rfl);clear h1 C;obtain⟨⟨x0,x1,x2,x3,x4⟩,_⟩:=qaM (zU F11);have t3:=qbL (n:=d) (by omega);have t4:=qbL (n:=z) (by omega);have t5:=qbL (n:=u) (by omega);go_wp2_with fail;refine (qkf b _ bl v1 (zU Q1).p (by omega) (by simp;omega)).mono ?_;rintro e v2 ⟨rfl,h1⟩;have Q2:=zH ((zU Q1).step h1);clear h1 x0 x1 x2 x3 x4;go_wp2_with fail;go_roundw
     case rel=>exact⟨j+1,by omega,by go_num,by rw[zU HS];simpa using zU Q2⟩
     case measure=>simp[RowKit.intOf];omega
    ·have hjj:j=a.fs.length:=by omega
     have hfin:qed a j=im:=by rw[hjj,qku];exact (zU HIM).symm
     rw[hfin]at HP;have z1:¬(j:Int)<(n2:Int):=by omega
     have z2:decide ((j:Int)<(n2:Int))=false:=by simp;omega
     have him0:im≠[]:=by rw[zU HIM];unfold qbm pressB;simp
     have CL:=zH (qvv b b im wr (zU HP).p);have CS:=zH (qrd b b im wr (zU HP).p him0);clear hfin hjj hAB hlf hP him0
     by_cases hbig:16384<im.length
     ·have hr:=zU HR;rw[if_pos hbig]at hr;subst hr;have d1:(16384:Int)<(im.length:Int):=by omega
      clear hbig;go_wp2_with fail;refine (zU CL).mono ?_;rintro e v3 ⟨rfl,rfl⟩;go_wp2_with fail;go_ret2;exact⟨rfl,((zU HP).box (zU HBB) (zU H1)).bel⟩
     ·have hr:=zU HR;rw[if_neg hbig]at hr;subst hr;have d1:¬(16384:Int)<(im.length:Int):=by omega
      clear hbig;go_wp2_with fail;refine (zU CL).mono ?_;rintro e v3 ⟨rfl,rfl⟩;go_wp2_with fail;refine (zU CS).mono ?_;rintro e v4 ⟨rfl,hb4⟩;have HB4:=zH (show Below B w v4 from ((zU HP).box (zU HBB) (zU H1)).bel.trans (hb4.mono (by have:=(zU H1).lt;have:=zU HBB;omega)));clear hb4;go_wp2_with fail;go_ret2;exact⟨rfl,zU HB4⟩
def qf5(Q:Nat->Prop)(A A2:Option Addr):Prop:=(∀x,A=some x->¬Q x.block)/\(∀x,A2=some x->¬Q x.block)
def Tab(W:World)(p:Nat)(Q:Nat->Prop)(a:Arc):Prop:=∃A n cap A2 n2 cap2,TabV W p A n cap A2 n2 cap2 a/\qf5 Q A A2
def qjo(p:Nat)(Q:Nat->Prop)(a:Arc)(r:qkJ)(w:World)(e:Ending)(w':World):Prop :=
 (if r.1≠0 then e=.panicked (qfk r.1)/\Tab w' p Q a else e=.returned (S r.2.2)/\Tab w' p Q r.2.1)/\w.grownBy w' (some p)
theorem OwnA.free{w:World}{base:Nat}{A A2:Option Addr}{n cap n2 cap2:Nat}{a:Arc}{Q:Nat->Prop}(h:OwnA w base (.slice A n cap) (.slice A2 n2 cap2) a)(hQ:∀k,Q k->k<base):qf5 Q A A2 :=
 ⟨fun x e hq=>by subst e;have h1:=qkh h.s (k:=x.block) rfl;have h2:=hQ _ hq;omega,fun x e hq=>by subst e;have h1:=qkh h.f (k:=x.block) rfl;have h2:=hQ _ hq;omega⟩
theorem qaD{s t:qa}(h:s≠t):(s == t)=false:=by simpa using h
theorem qoo{a:Arc}(h:(qbu a).2=0):(qbu a).1.length<=16384:=by
 unfold qbu at h ⊢
 split at h
 ·rename_i h1;exact absurd h h1
 ·rename_i h1
  rw[if_neg h1]
  split at h
  ·exact absurd h (by decide)
  ·rename_i h2;rw[if_neg h2];show (qbm a).length<=16384;omega
theorem qlY{M:Nat} : ∀l:List Nat,(∀x∈l,x<=M)->l.sum<=M*l.length
 | [],_=>by simp
 | x::l,h=>by
  have h1:=h x (by simp);have h2:=qlY l (fun y hy=>h y (by simp[hy]));rw[List.sum_cons,List.length_cons,Nat.mul_add,Nat.mul_one];omega
theorem qhh{a:Arc}(h:RightA a):qdZ a<=9223372036854775807:=by
 have h1:=qlY (M:=256) (a.ds.map List.length) (fun x hx=>by
  obtain⟨d,hd,rfl⟩:=List.mem_map.1 hx;exact h.sd d hd)
 have h2:=qlY (M:=3901) (a.fs.map fun f=>f.block.length) (fun x hx=>by
  obtain⟨f,hf,rfl⟩:=List.mem_map.1 hx;exact (qce h.nd h.sd (h.fr.each f hf)).2.2.2.2.2.2.2)
 rw[List.length_map]at h1 h2;have h3:=h.nd;have h4:=h.nf;unfold qdZ;omega
theorem qtI(p:Nat)(A:Option Addr)(n cap:Nat)(A2:Option Addr)(n2 cap2:Nat)(a:Arc)(s:qa)(w:World)(h:TabV w p A n cap A2 n2 cap2 a)(Q:Nat->Prop)(hQ:∀k,Q k->k<w.heap.size)(hfr:qf5 Q A A2) :
  Calls Tryz.prog 25 #[.pointer (some ⟨p,0,none⟩),S s] w (qjo p Q a (qbV a s) w):=by
 obtain⟨y0,y1⟩:=h.c;have H:=zH h;have HFR:=zH hfr;have HQ:=zH hQ;clear hfr hQ;have hsz:=qgj h.ra;have hck:=(qak a).2 h.ra;have hcap:n<=cap:=by have h9:=h.own.s;rw[h.inn.s.1]at h9;exact ql7 h9
 by_cases h1:s=qdR
 ·have hr:qbV a s=(0,a,qcg a):=by unfold qbV;rw[if_pos h1]
  rw[hr];have d1:(s == qdR)=true:=by simpa using h1
  have C:=zH (qux p A n cap A2 n2 cap2 a w h);unfold qdR at d1;clear h hr h1 hsz hck hcap y0 y1;go_enter Tryz.func25,Tryz.ntmps25;go_wp2_with fail;refine (zU C).mono ?_;rintro e w1 ⟨rfl,hb1⟩;have HB:=zH hb1;clear hb1;go_wp2_with fail;go_ret;exact⟨⟨rfl,_,_,_,_,_,_,(zU H).up (zU HB),zU HFR⟩,qX (zU HB) _⟩
 have d1:(s == qdR)=false:=qaD h1;unfold qdR at d1
 by_cases h2:s=qdP
 ·have hr:qbV a s=(0,a,dig (qdZ a)):=by unfold qbV;rw[if_neg h1,if_pos h2]
  rw[hr];have d2:(s == qdP)=true:=by simpa using h2
  unfold qdP at d2;have C:=qqd A n cap A2 n2 cap2 a w h.inn hsz hcap;rw[hck,if_pos rfl]at C;have C:=zH C;have hle:qdZ a<=9223372036854775807:=qhh h.ra;have CI:=zH (fun (W:World) (hW:DW W)=>qfE (qdZ a) W hW hle);clear h hr h1 h2 hsz hck hcap hle;go_enter Tryz.func25,Tryz.ntmps25;go_wp2_with fail;refine (zU C).mono ?_;rintro e w1 ⟨rfl,hb1⟩;have H1:=zH ((zU H).up hb1);have HB:=zH hb1;clear hb1 y0 y1;go_wp2_with fail;refine (zU CI _ (zU H1).dw).mono ?_;rintro e w2 ⟨rfl,hb2⟩;have HB2:=zH ((zU HB).trans (hb2.mono (zU HB).size));clear hb2;go_wp2_with fail;go_ret;exact⟨⟨rfl,_,_,_,_,_,_,(zU H).up (zU HB2),zU HFR⟩,qX (zU HB2) _⟩
 have d2:(s == qdP)=false:=qaD h2;unfold qdP at d2
 by_cases h3:s=qdQ
 ·have d3:(s == qdQ)=true:=by simpa using h3
  unfold qdQ at d3;have C:=qt3 A n cap A2 n2 cap2 a w h.inn hsz
  by_cases he:(qbu a).2=0
  ·have hr:qbV a s=(0,a,dig (qbu a).1.length):=by unfold qbV;rw[if_neg h1,if_neg h2,if_pos h3,if_neg (by simpa using he)]
   rw[hr];have hop:=qs2 he;have hsl:=qoo he;rw[he]at C;obtain⟨q,hq⟩:∃q,q=(qbu a).1:=⟨_,rfl⟩
   rw[<-hq]at C hop hsl;rw[<-hq];have C:=zH C;have CM:=zH (fun (W:World)=>qma W);have CO:=zH (fun (W:World)=>qup q W (by omega));rw[hop]at CO;have CI:=zH (fun (W:World) (hW:DW W)=>qfE q.length W hW (by omega));have hra:=h.ra;clear h hr h1 h2 h3 hsz hck hcap he hop hq;go_enter Tryz.func25,Tryz.ntmps25;go_wp2_with fail;refine (zU C).mono ?_;rintro e w1 ⟨rfl,hb1⟩;have H1:=zH ((zU H).up hb1);have HB1:=zH hb1;clear hb1 y0 y1;go_wp2_with fail;refine (zU CM _).mono ?_;rintro e w2 ⟨rfl,rfl⟩;go_wp2_with fail;refine (zU CO _).mono ?_;rintro e w3 ⟨hres,hb3⟩;obtain⟨C1,m,k,C2,m2,k2,rfl,hin,hmk,hown⟩:=hres.open;have H3:=zH ((zU H1).up hb3);have HB3:=zH ((zU HB1).trans (hb3.mono (zU HB1).size));have HO:=zH (hown.mono (show p+1<=w2.heap.size from (zU H1).lt));have HF2:=zH (hown.free (Q:=Q) (fun k hk=>Nat.lt_of_lt_of_le (zU HQ k hk) (zU HB1).size));obtain⟨w4,hw4⟩:∃w4,w4=(w3.alloc (.cells #[.slice none 0 0,.slice none 0 0] 33)).setRow w3.heap.size #[.slice C1 m k,.slice C2 m2 k2]:=⟨_,rfl⟩
   have hv:=AV.new hin k k2;rw[<-hw4]at hv;obtain⟨hv,hb4⟩:=hv;have HW4:=zH hw4;have HV:=zH hv;have H4:=zH ((zU H3).up hb4);have HB4:=zH ((zU HB3).trans (hb4.mono (zU HB3).size));have HO4:=zH ((zU HO).below hb4);clear hb3 hres hin hown hw4 hv hb4;go_upto_region 11 with (refine wpList_store_row rfl 33 (.tmp 9) (.tmp 42) rfl w3.heap.size #[.slice C1 m k,.slice C2 m2 k2] rfl rfl 33 _ (heap_alloc_new _ _) qd rfl (qN _ _ _ _ _ _) ?_)
   rw[<-zU HW4];obtain⟨q0,q1⟩:=(zU HV).c;have CC:=zH (qfF p w4 (zU H4) (zU HO4) hra);go_wp2_with fail;refine (zU CC).mono ?_;rintro e w5 ⟨rfl,ht,hg⟩;have HT:=zH ht;have HG:=zH (qcd (qX (zU HB4) (some p)) hg);clear ht hg q0 q1;go_wp2_with fail;refine (zU CI _ (zU HT).dw).mono ?_;rintro e w6 ⟨rfl,hb6⟩;have HT6:=zH ((zU HT).up hb6);have HG6:=zH (qcd (zU HG) (qX hb6 (some p)));clear hb6;go_wp2_with fail;go_ret;exact⟨⟨rfl,_,_,_,_,_,_,zU HT6,zU HF2⟩,zU HG6⟩
  ·have hr:qbV a s=((qbu a).2,a,[]):=by unfold qbV;rw[if_neg h1,if_neg h2,if_pos h3,if_pos he]
   rw[hr];obtain⟨q,hq⟩:∃q,q=(qbu a).1:=⟨_,rfl⟩
   obtain⟨x,hx⟩:∃x,x=(qbu a).2:=⟨_,rfl⟩
   rw[<-hq,<-hx]at C;rw[<-hx]at he;rw[<-hx];have C:=zH C;have CM:=zH (fun (W:World)=>qfl x W he);have HE:=zH he;clear h hr h1 h2 h3 hsz hck hcap he hq hx;go_enter Tryz.func25,Tryz.ntmps25;go_wp2_with fail;refine (zU C).mono ?_;rintro e w1 ⟨rfl,hb1⟩;have H1:=zH ((zU H).up hb1);have HB1:=zH hb1;clear hb1 y0 y1;go_wp2_with fail;refine (zU CM _).mono ?_;rintro e w2 ⟨rfl,rfl⟩;go_wp2_with fail;refine⟨rfl,?_⟩;unfold qjo;rw[if_pos (zU HE)];exact⟨⟨rfl,_,_,_,_,_,_,zU H1,zU HFR⟩,qX (zU HB1) _⟩
 have d3:(s == qdQ)=false:=qaD h3;unfold qdQ at d3;have CM:=zH (fun (e:Nat) (W:World) (he:e≠0)=>qfl e W he)
 by_cases h4:s=qbI
 ·have hr:qbV a s=((qaH a).2,(qaH a).1,wOk):=by unfold qbV;rw[if_neg h1,if_neg h2,if_neg h3,if_pos h4]
  rw[hr];have d4:(s == qbI)=true:=by simpa using h4
  unfold qbI at d4;have C:=zH (qp5 A n cap A2 n2 cap2 a w h.inn hsz);have hra:=qlC a;obtain⟨r,hrr⟩:∃r,r=qaH a:=⟨_,rfl⟩
  rw[<-hrr]at C hra;rw[<-hrr];clear h hr h1 h2 h3 h4 hsz hck hcap hrr;go_enter Tryz.func25,Tryz.ntmps25;go_wp2_with fail;refine (zU C).mono ?_;rintro e w1 ⟨hres,hb1⟩;obtain⟨C1,m,k,C2,m2,k2,rfl,hin,hmk,hown⟩:=hres.open;have H1:=zH ((zU H).up hb1);have HB:=zH hb1;have HO:=zH (hown.mono (show p+1<=w.heap.size from (zU H).lt));have HF2:=zH (hown.free (Q:=Q) (fun k hk=>zU HQ k hk));clear hb1 y0 y1 hres hin hown
  by_cases he:r.2=0
  ·have CC:=zH (qfF p w1 (zU H1) (zU HO) hra);rw[he];go_wp2_with fail;refine (zU CC).mono ?_;rintro e w2 ⟨rfl,ht,hg⟩;have HT:=zH ht;have HG:=zH (qcd (qX (zU HB) (some p)) hg);clear ht hg;go_wp2_with fail;go_ret;unfold qjo;rw[if_neg (by simpa using he)];exact⟨⟨rfl,_,_,_,_,_,_,zU HT,zU HF2⟩,zU HG⟩
  ·have CC:=zH (qf4 p (.slice C1 m k) (.slice C2 m2 k2) r.2 w1 he);go_wp2_with fail;refine (zU CC).mono ?_;rintro e w2 ⟨rfl,hb2⟩;have H2:=zH ((zU H1).up hb2);have HG:=zH (qX ((zU HB).trans (hb2.mono (zU HB).size)) (some p));clear hb2;go_wp2_with fail;refine⟨rfl,?_⟩;unfold qjo;rw[if_pos he];exact⟨⟨rfl,_,_,_,_,_,_,zU H2,zU HFR⟩,zU HG⟩
 have d4:(s == qbI)=false:=qaD h4;unfold qbI at d4;have hr:qbV a s=(1,a,[]):=by unfold qbV;rw[if_neg h1,if_neg h2,if_neg h3,if_neg h4]
 rw[hr];clear h hr h1 h2 h3 h4 hsz hck hcap;go_enter Tryz.func25,Tryz.ntmps25;go_wp2_with fail;refine (zU CM 1 _ (by decide)).mono ?_;rintro e w1 ⟨rfl,rfl⟩;go_wp2_with fail;refine⟨rfl,?_⟩;exact⟨⟨rfl,_,_,_,_,_,_,zU H,zU HFR⟩,qX (Below.refl _ _) _⟩
theorem qvW(v:Value)(W:World):(Instr.typeAssert (.iface 55 v) 20 55 true).run Tryz.prog W=.ok (.tuple #[v,.bool true]) W:=by
 simp[Instr.typeAssert,run_underlying Tryz.underlying55]
theorem qwu(W:World):(Instr.typeAssert .nilIface 20 55 true).run Tryz.prog W=.ok (.tuple #[.agg #[I 0],.bool false]) W:=by
 simp[Instr.typeAssert,run_underlying Tryz.underlying55]
attribute [local go_sem] qvW qwu
theorem qru(B:Nat)(s0:qa)(e:Nat)(older:List PanicEntry)(W:World)(hp:W.heap[B]?=some (.cells #[S s0] 9 (0,0)))(hd:DW W)(he:e<=9223372036854775807) :
  CallsD Tryz.prog 22 #[.pointer (some ⟨B,0,none⟩)] (.panicking ({ v:=.iface 55 (.agg #[I e]),recovered:=false }::older)) W fun x u' w' =>
   x=.returned (.tuple #[])/\u'=.panicking ({ v:=.iface 55 (.agg #[I e]),recovered:=true }::older)/\w'.heap[B]?=some (.cells #[S (qez e)] 9 (0,0))/\W.grownBy w' (some B):=by
 obtain⟨w1,hw1⟩:∃w1,w1=W.alloc (.cells #[I e] 55):=⟨_,rfl⟩
 have hb1:Below W.heap.size W w1:=by rw[hw1];exact (Below.refl _ _).alloc (Nat.le_refl _) _
 have CI:=qfE e w1 (hd.up hb1) he;obtain⟨d,hdd⟩:∃d,d=dig e:=⟨_,rfl⟩
 have h19:(10:Nat) ^ 19=10000000000000000000:=by decide
 have hdl:d.length<=19:=by rw[hdd];exact qel 18 e (by omega)
 clear h19;have hed:qez e=qeQ++d:=by rw[hdd];rfl
 rw[<-hdd]at CI;rw[hed];have CI:=zH CI;have HB1:=zH hb1;have HP:=zH hp;have HW1:=zH hw1;clear hd hdd hed hb1 hp hw1;refine callsD_of_wpS Tryz.func22 rfl fun c₀ cs hu=>?_;apply wpS_seq;apply wpS_region;simp[wpOpsS,go_sem,recoverD,hu,Tryz.ntmps22,Exit.thenS];refine wpS_of_wp ?_;simp only[Array.replicate_succ,Array.replicate_zero,List.push_toArray,List.append_toArray,List.nil_append,List.cons_append,List.setIfInBounds_toArray,List.set_cons_zero,List.set_cons_succ];go_wp2_with fail;rw[<-zU HW1];refine (zU CI).mono ?_;rintro x w2 ⟨rfl,hb2⟩;have hbb:=(zU HB1).trans (hb2.mono (zU HB1).size);have hp2:=(hbb.block B (zE (zU HP)).1).trans (zU HP);have y0:w2.cell? ⟨B,0,none⟩=some (S s0):=by rw[cell_of_row _ _ _ _ _ _ hp2];rfl
 have y1:w2.frozen? ⟨B,0,none⟩=false:=by simp[World.frozen?,hp2]
 have hset:w2.setCell ⟨B,0,none⟩ (S (qeQ++d))=w2.setRow B #[S (qeQ++d)]:=by rw[setCell_eq_setRow w2 B 0 _ _ _ _ hp2];rfl
 have HS:=zH hset;have HP2:=zH hp2;have HBB:=zH hbb;clear hb2 hbb hp2 hset;go_wp2_with fail
 have hfin:(w2.setRow B #[S (qeQ++d)]).heap[B]?=some (.cells #[S (qeQ++d)] 9 (0,0))/\W.grownBy (w2.setRow B #[S (qeQ++d)]) (some B) :=
  ⟨setRow_heap _ _ _ _ _ _ (zU HP2),qdL (qX (zU HBB) _)⟩
 rw[<-zU HS]at hfin;simp[bodyPostS,results,Tryz.results22];exact hfin
theorem qtb(B:Nat)(W:World) :
  CallsD Tryz.prog 22 #[.pointer (some ⟨B,0,none⟩)] .returning W fun x u' w'=>x=.returned (.tuple #[])/\u'=.returning/\Below W.heap.size W w':=by
 have HB:=zH (show Below W.heap.size W (W.alloc (.cells #[I 0] 55))from (Below.refl _ _).alloc (Nat.le_refl _) _);refine callsD_of_wpS Tryz.func22 rfl fun c₀ cs hu=>?_;apply wpS_seq;apply wpS_region;simp[wpOpsS,go_sem,recoverD,hu,Tryz.ntmps22,Exit.thenS];refine wpS_of_wp ?_;simp only[Array.replicate_succ,Array.replicate_zero,List.push_toArray,List.append_toArray,List.nil_append,List.cons_append,List.setIfInBounds_toArray,List.set_cons_zero,List.set_cons_succ];go_wp2_with fail;cases c₀
 simp_all [bodyPostS,results,Tryz.results22]
 exact zU HB
end
section
open Go.RowKit Go.Lib Pl
attribute [local go_sem] qf qe
theorem qeM(a:Arc):qh a<=5:=by
  unfold qh;repeat' split
  all_goals omega
theorem qv3(a:Arc)(name text:qa)(n:Int):(put a name text n).2<=5:=by
 have:=qeM a;unfold put;repeat' split
 all_goals first|assumption|exact Nat.le_of_ble_eq_true rfl
theorem qvH(a:Arc)(name:qa):(drop a name).2<=5:=by
 have:=qeM a;unfold drop;repeat' split
 all_goals first|assumption|exact Nat.le_of_ble_eq_true rfl
theorem qtm(a:Arc)(name:qa):(Pl.get a name).2<=5:=by
 have:=qeM a;unfold Pl.get;repeat' split
 all_goals first|assumption|exact Nat.le_of_ble_eq_true rfl
theorem qua(a:Arc)(name:qa)(m n:Int):(range a name m n).2<=5:=by
 have:=qtm a name;unfold range qo5;repeat' split
 all_goals first|assumption|exact Nat.le_of_ble_eq_true rfl
theorem qq3(a:Arc)(n:Int):(qaO a n).2<=5:=by
 have:=qeM a;unfold qaO qbs;repeat' split
 all_goals first|assumption|exact Nat.le_of_ble_eq_true rfl
theorem qvs(a:Arc):(qbu a).2<=5:=by
 have:=qeM a;unfold qbu;repeat' split
 all_goals first|assumption|exact Nat.le_of_ble_eq_true rfl
theorem qrL(a:Arc):(qaH a).2<=5:=by
 have:=qeM a;unfold qaH;repeat' split
 all_goals first|assumption|exact Nat.le_of_ble_eq_true rfl
theorem qrO(a:Arc)(op rest:qa):(qa7 a op rest).2<=5:=by
 unfold qa7;repeat' split
 all_goals first|exact Nat.le_of_ble_eq_true rfl|exact qv3 _ _ _ _|exact qvH _ _|exact qq3 _ _
theorem qtG(a:Arc)(op rest:qa):(qb3 a op rest).2<=5:=by
 unfold qb3;repeat' split
 all_goals first|exact Nat.le_of_ble_eq_true rfl|exact qtm _ _|exact qua _ _ _ _
theorem qkn(a:Arc)(s:qa):(qc9 a s).1<=5:=by
 have:=qvs a;have:=qrL a;unfold qc9 qlh qbV;repeat' split
 all_goals first|assumption|exact Nat.le_of_ble_eq_true rfl|exact qrO _ _ _|exact qtG _ _ _
theorem qsW(a:Arc){r:qkJ}(h:r.1≠0):qhp a r=(a,qez r.1):=if_pos h
theorem qul(a:Arc){r:qkJ}(h:r.1=0):qhp a r=(r.2.1,r.2.2):=if_neg (by simp[h])
theorem qam(a b:Arc)(x:qa){e:Nat}(h:e≠0):qhp a (e,b,x)=(a,qez e):=if_pos h
theorem qcS(a b:Arc)(x:qa):qhp a (0,b,x)=(b,x):=rfl
section
variable {w W W' : World} {p B : Nat} {A A2 : Option Addr} {n cap n2 cap2 : Nat} {a b : Arc} {Q : Nat -> Prop}
theorem qg7{w w':World}{base e size n:Nat}{v:Value}{xs:List Value}(h:w.ownsRow base e size v n xs)(hk:∀k,v.ownBlock=some k->w'.heap[k]?=w.heap[k]?):w'.ownsRow base e size v n xs:=by
 refine⟨h.1,?_⟩
 rcases h.2 with hn|⟨g,cap,cur,rfl,hbb,hgg,rest⟩
 ·exact .inl hn
 ·exact .inr ⟨g,cap,cur,rfl,hbb,(hk g rfl).trans hgg,rest⟩
theorem qtD{A:Option Addr}{n cap j:Nat}(h:(Value.slice A n cap).ownBlock=some j):∃x,A=some x/\x.block=j:=by
 cases A with
 | none=>simp[Value.ownBlock]at h
 | some x=>exact⟨x,rfl,by injection h⟩
theorem TabV.far(h:TabV W p A n cap A2 n2 cap2 a){k:Nat}(hg:W.grownBy W' (some k))(hkp:k≠p)(hk6:6<=k)(hf:qf5 (fun j=>j=k) A A2):TabV W' p A n cap A2 n2 cap2 a:=by
 have ho:∀j,j≠k->j<W.heap.size->W'.heap[j]?=W.heap[j]?:=fun j hj hl=>hg.block j hl (fun e=>hj (by injection e));refine⟨(ho _ (Ne.symm hkp) h.lt).trans h.o,⟨qg7 h.own.s fun j hj=>?_,qg7 h.own.f fun j hj=>?_⟩,h.dw.keep (fun j hj=>ho _ (by omega) (by have:=h.dw.sz;omega)) hg.size,h.hp,h.ra⟩
 ·obtain⟨x,e,hx⟩:=qtD hj;exact ho _ (by rw[<-hx];exact hf.1 x e) (h.own.s.lt j hj).2
 ·obtain⟨x,e,hx⟩:=qtD hj;exact ho _ (by rw[<-hx];exact hf.2 x e) (h.own.f.lt j hj).2
theorem TabV.free(h:TabV W p A n cap A2 n2 cap2 a)(hQ:qf5 Q A A2){k:Nat}(hk:W.heap.size<=k):qf5 (fun j=>Q j\/j=k) A A2 :=
 ⟨fun x e hq=>by subst e;have h1:=(h.own.s.lt x.block rfl).2;exact hq.elim (hQ.1 x rfl) (fun e=>by omega),fun x e hq=>by subst e;have h1:=(h.own.f.lt x.block rfl).2;exact hq.elim (hQ.2 x rfl) (fun e=>by omega)⟩
theorem Tab.up(h:Tab W p Q a)(hb:Below W.heap.size W W'):Tab W' p Q a:=let ⟨_,_,_,_,_,_,t,f⟩:=h;⟨_,_,_,_,_,_,t.up hb,f⟩
theorem Tab.dw(h:Tab W p Q a):DW W:=let ⟨_,_,_,_,_,_,t,_⟩:=h;t.dw
theorem Tab.mono{Q':Nat->Prop}(h:Tab W p Q a)(hq:∀k,Q' k->Q k):Tab W p Q' a:=let ⟨_,_,_,_,_,_,t,f⟩:=h;⟨_,_,_,_,_,_,t,fun x e hx=>f.1 x e (hq _ hx),fun x e hx=>f.2 x e (hq _ hx)⟩
theorem Tab.far(h:Tab W p Q a){k:Nat}(hq:Q k)(hg:W.grownBy W' (some k))(hkp:k≠p)(hk6:6<=k):Tab W' p Q a :=
 let ⟨_,_,_,_,_,_,t,f⟩:=h;⟨_,_,_,_,_,_,t.far hg hkp hk6 ⟨fun x e hx=>f.1 x e (hx ▸ hq),fun x e hx=>f.2 x e (hx ▸ hq)⟩,f⟩
theorem qm0{r:Option Nat}(h:w.grownBy W r)(h2:W.grownBy W' (some B))(hB:w.heap.size<=B):w.grownBy W' r :=
 ⟨h2.os.trans h.os,h2.tape.trans h.tape,h2.output.trans h.output,Nat.le_trans h.size h2.size,fun k hk hne=>(h2.block k (Nat.lt_of_lt_of_le hk h.size) (fun e=>by injection e;omega)).trans (h.block k hk hne)⟩
structure LJ(w W:World)(p B:Nat)(Q:Nat->Prop)(a:Arc):Prop where
 c:W.heap[B]?=some (.cells #[S []] 9 (0,0))
 t:Tab W p (fun k=>Q k\/k=B) a
 g:w.grownBy W (some p)
 e:w.heap.size<=B
 l:p<B
 p6:6<=p
theorem LJ.step(h:LJ w W p B Q a)(ht:Tab W' p (fun k=>Q k\/k=B) b)(hg:W.grownBy W' (some p)):LJ w W' p B Q b :=
 ⟨(hg.block B (zE h.c).1 (fun e=>by injection e with e;have:=h.l;omega)).trans h.c,ht,qcd h.g hg,h.e,h.l,h.p6⟩
theorem LJ.up(h:LJ w W p B Q a)(hb:Below W.heap.size W W'):LJ w W' p B Q a:=h.step (h.t.up hb) (qX hb _)
theorem LJ.y(h:LJ w W p B Q a):W.cell? ⟨B,0,none⟩=some (S [])/\W.frozen? ⟨B,0,none⟩=false:=⟨by rw[cell_of_row _ _ _ _ _ _ h.c];rfl,by simp[World.frozen?,h.c]⟩
end
theorem qiD{fn:Func}{u:Tmp}(h:fn.results=#[.cell u 9])(tmps:Array Value)(w:World)(B:Nat)(s:qa)(hu:tmps.getD u undef=.pointer (some ⟨B,0,none⟩))(hg:w.heap[B]?=some (.cells #[S s] 9 (0,0))) :
  (results fn tmps).run Tryz.prog w=.ok (S s) w:=by
 have hc:w.cell? ⟨B,0,none⟩=some (S s):=by rw[cell_of_row _ _ _ _ _ _ hg];rfl
 have hu2:tmps[u]?.getD undef=.pointer (some ⟨B,0,none⟩):=by rw[<-hu];simp
 simp only[results,h];simp[Sem.run_bind,Result.andThen,hu2,asAddr,go_sem,hc]
theorem qaf{w W:World}{p B e:Nat}{Q:Nat->Prop}{a:Arc}{fn:Func}{tmps:Array Value}{R:Ending->World->Prop}(h:LJ w W p B Q a)(he:e<=9223372036854775807)(hr:fn.results=#[.cell 4 9])
  (hu:tmps.getD 4 undef=.pointer (some ⟨B,0,none⟩)) (hR:∀x w',x=.returned (S (qez e))/\Tab w' p Q a/\w.grownBy w' (some p)->R x w') :
  Leaves Tryz.prog fn tmps R [{ target:=.fn (.func 22) #[.pointer (some ⟨B,0,none⟩)],args:=#[] }] (.panicking (qfk e)) W:=by
 refine leaves_cons (f:=22) (args:=#[.pointer (some ⟨B,0,none⟩)]) (by simp) (by simp[go_sem]) ?_;refine (qru B [] e [] W h.c h.t.dw he).mono ?_;rintro x u' w'' ⟨rfl,rfl,hc,hg⟩;have:=h.l;have:=h.p6;exact⟨_,qiD hr tmps _ B _ hu hc,hR _ _ ⟨rfl,(h.t.far (.inr rfl) hg (by omega) (by omega)).mono (fun k hk=>.inl hk),qm0 h.g hg h.e⟩⟩
theorem qeI{w W:World}{p B:Nat}{Q:Nat->Prop}{a:Arc}{x:qa}{fn:Func}{tmps:Array Value}{R:Ending->World->Prop}(h:LJ w W p B Q a)(hr:fn.results=#[.cell 4 9])
  (hu:tmps.getD 4 undef=.pointer (some ⟨B,0,none⟩)) (hR:∀y w',y=.returned (S x)/\Tab w' p Q a/\w.grownBy w' (some p)->R y w') :
  Leaves Tryz.prog fn tmps R [{ target:=.fn (.func 22) #[.pointer (some ⟨B,0,none⟩)],args:=#[] }] .returning (W.setCell ⟨B,0,none⟩ (S x)):=by
 have hs:W.setCell ⟨B,0,none⟩ (S x)=W.setRow B #[S x]:=by rw[setCell_eq_setRow W B 0 _ _ _ _ h.c];rfl
 rw[hs];have hg:W.grownBy (W.setRow B #[S x]) (some B):=qdL (World.grownBy.refl _ _);have hc:(W.setRow B #[S x]).heap[B]?=some (.cells #[S x] 9 (0,0)):=setRow_heap _ _ _ _ _ _ h.c;have:=h.l;have:=h.p6;have ht:=h.t.far (.inr rfl) hg (by omega) (by omega);refine leaves_cons (f:=22) (args:=#[.pointer (some ⟨B,0,none⟩)]) (by simp) (by simp[go_sem]) ?_;refine (qtb B _).mono ?_;rintro y u' w'' ⟨rfl,rfl,hb⟩;exact⟨_,qiD hr tmps _ B _ hu ((hb.block B (zE hc).1).trans hc),hR _ _ ⟨rfl,(ht.up hb).mono (fun k hk=>.inl hk),qcd (qm0 h.g hg h.e) (qX hb _)⟩⟩
theorem qgV{P:Program}{fn:Func}{R:Ending->World->Prop}{t t':Array Value}(h:results fn t=results fn t'):∀(ds:List Deferred) (u:FrameMode) (w:World),Leaves P fn t R ds u w->Leaves P fn t' R ds u w
 | [],.returning,_,⟨v,h1,h2⟩=>⟨v,by rw[<-h];exact h1,h2⟩
 | [],.panicking _,_,hr=>hr
 | [],.run,_,hf=>hf.elim
 | _::ds,_,_,⟨hu,fv,cap,f,args,e1,e2,hc⟩=>⟨hu,fv,cap,f,args,e1,e2,hc.mono fun e u' w' hh=>by
  cases e with
  | returned v=>exact qgV h ds _ _ hh
  | panicked c=>exact qgV h ds _ _ hh
  | outgrown=>exact hh⟩
theorem qM{fn:Func}{R:Ending->World->Prop}{c:List PanicEntry}{a:Act}{w:World}{d:Option Tmp}{v:Value}(hr:fn.results=#[.cell 4 9])(hd:d≠some 4)
  (h:Leaves Tryz.prog fn (a.put d v).tmps R (a.put d v).defers (.panicking c) w):Leaves Tryz.prog fn a.tmps R a.defers (.panicking c) w:=by
 cases d with
 | none=>exact h
 | some d =>
  refine qgV ?_ _ _ _ h;have hd4:d≠4:=fun e=>hd (by rw[e]);simp only[results,hr];have:(a.put (some d) v).tmps[4]?.getD undef=a.tmps[4]?.getD undef:=by simp[Act.put,hd4]
  simp[this]
theorem qC{w:World}{ops:Array Oper}{o:Oper}{a:Act}{K:Act->World->Prop}{Q:Exit->Act->World->Prop}{E:Prop}(hgd:o.guard=none)(f:Nat)(xs:Array Operand)(ts:Array TypeId)
  (ho:o.op=.call { callee:=.value (.func f),args:=xs,argTypes:=ts }) (vs:Array Value) (hv:xs.map a.eval=vs)
  (hcall:∀vals w,(callFunc f vals).run Tryz.prog w=.ok (.enter f vals) w) (h:Calls Tryz.prog f vs w fun e w'=>(∃v,e=.returned v/\K (a.put o.dst v) w')\/(∃c,e=.panicked c/\Q (.panic c) a w')) :
  if Region.wanted o (yielded ops a.tmps)=true then Oper.wp Tryz.prog o a w K Q else E:=by
 have hw:Region.wanted o (yielded ops a.tmps)=true:=by simp[Region.wanted,hgd]
 rw[if_pos hw]
 have hm:=h.mono (R':=fun e w'=>match e,w' with
  | .returned v,w''=>K (a.put o.dst v) w''
  | .panicked chain,w''=>Q (.panic chain) a w''
  | .outgrown,_=>LetsOut Q) (fun e w' hh=>by
   rcases hh with⟨v,he,hk⟩|⟨c,he,hk⟩
   ·subst he;exact hk
   ·subst he;exact hk)
 unfold Oper.wp execOp;simp only[ho,resolve,invoke,go_sem];simp[go_sem,hv];rw[hcall];exact hm
end
section
open Go Go.RowKit
variable {F : Fence} {n : Nat} {P : Program}
def qs3{σ:Type}(I:σ->World->Prop)(st:σ)(W:World):Exit->Act->World->Prop
 | .normal,_,W'=>KeepsOthers W W'/\I st W'
 | _,_,_=>False
theorem qub{α σ:Type}{g:Operand}{ps:Array Tmp}{assign body:Code}{Q:Exit->Act->World->Prop}{a:Act}{w:World}
  (hro:F.round=none) (h1:1<=n) {gf:Nat} {lb:Array Value} (hg:a.eval g=.func (.func gf) #[] lb) (hFg:F.fn gf) (eg:∀args w,(callFunc gf args).run P w=.ok (.enter gf args) w)
  {encs:α->Array Value} (hps:∀x,(encs x).size=ps.size)
  (I:σ->World->Prop) (hI:OwnFrom w.heap.size I) (Ok:σ->α->Prop) (next:σ->α->σ) (s0 s1:σ) (h0:I s0 w)
  (hseq:∀(l:Nat) (Rec:World->Prop) (W:World),(∀A B,KeepsOthers A B->Rec A->Rec B) ->
   (∀st x W1,Ok st x->I st W1->Rec W1->YieldAt F (n-1-1) P l (encs x) W1 fun e W'=>e=.returned (.bool true)/\I (next st x) W'/\Rec W') ->
   I s0 W->Rec W->CallsIn F (n-1) P gf (#[.func (.yield l) #[] #[]]++lb) W fun e W'=>(∃v,e=.returned v)/\I s1 W'/\Rec W')
  (a₁:α->Act)
  (hassign:∀(l:Nat) (x:α) (W:World) (K:Act->World->Prop),K (a₁ x) W ->
   assign.wpIn (F.inRound l) (n-1-1) P (Exit.then K (fun _ _ _=>False)) { tmps:=(ps.zip (encs x)).foldl (fun t (p,v)=>t.setIfInBounds p v) a.tmps,defers:=[] } W)
  (hbody:∀(l:Nat) (st:σ) (x:α) (W:World),Ok st x->I st W->body.wpIn (F.inRound l) (n-1-1) P (qs3 I (next st x) W) (a₁ x) W)
  (hdone:∀(D:Nat) (W:World),w.heap.size<=D->I s1 W->W.heap[D]?=some (.deferred (some []))->Q .normal { a with defers:={ target:=.collected D,args:=#[] }::a.defers } W) :
  (Code.rangeFunc g ps assign body).wpIn F n P Q a w:=by
 refine wpIn_rangeFunc ?_;intro fn hfn;rw[hro];obtain⟨rec,hrec⟩:∃rec:LoopState->Option Code->Loop,rec=fun st pe=>{ state:=st,pending:=pe,fn,tmps:=a.tmps,params:=ps,assign,body,defers:=w.heap.size }:=⟨_,rfl⟩
 obtain⟨W1,hW1⟩:∃W1,(w.alloc (.deferred (some []))).alloc (.loop (rec .ready none))=W1:=⟨_,rfl⟩
 have hL1:W1.heap[w.heap.size+1]?=some (.loop (rec .ready none)):=by
  rw[<-hW1];have:=World.alloc_heap_new (w.alloc (.deferred (some []))) (.loop (rec .ready none));rwa [World.size_alloc]at this
 have hK1:W1.heap[w.heap.size]?=some (.deferred (some [])):=by
  rw[<-hW1];exact (Below.heap_alloc _ _ _ (by simp)).trans (World.alloc_heap_new w _)
 have hI1:I s0 W1:=by rw[<-hW1];exact hI.alloc _ (hI.alloc _ h0)
 refine⟨w.heap.size+1,[{ target:=.collected w.heap.size,args:=#[] }],W1,{ target:=.fn (.func gf) lb,args:=#[.func (.yield (w.heap.size+1)) #[] #[]] },W1,gf,
  #[.func (.yield (w.heap.size+1)) #[] #[]]++lb,W1,?_,?_,?_,?_,fun _=>h1,?_⟩
 ·rw[<-hW1,hrec];exact run_enterLoop_outer _ _ _ _ _
 ·simp only[resolve,hg];simp[go_sem]
 ·intro f' hf';simp[Target.leads]at hf';subst hf';exact hFg
 ·simp[invoke,go_sem,eg]
 ·refine (hseq (w.heap.size+1) (fun W=>W.heap[w.heap.size+1]?=some (.loop (rec .ready none))/\W.heap[w.heap.size]?=some (.deferred (some []))) W1
   (fun A B hk hs=>⟨hk.same _ _ hs.1 rfl,hk.same _ _ hs.2 rfl⟩) ?_ hI1 ⟨hL1,hK1⟩).mono ?_
  ·rintro st x W hok hi ⟨hl,hk⟩;have hlt:w.heap.size+1<W.heap.size:=(zE hl).1;have hy:=run_yield (P:=P) (args:=encs x) hl (by rw[hrec];exact hps x);rw[hrec]at hy;refine⟨fn,_,assign,body,hy,roundIn_of_wpIn hfn (hassign _ x W _ ⟨_,run_beginRound hl (by rw[hrec]),?_⟩)⟩;have hl2:(W.putObj (w.heap.size+1) (.loop { rec .ready none with state:=.busy })).heap[w.heap.size+1]?=some (.loop { rec .ready none with state:=.busy }):=World.putObj_heap_same hlt;have hk2:(W.putObj (w.heap.size+1) (.loop { rec .ready none with state:=.busy })).heap[w.heap.size]?=some (.deferred (some [])):=(World.putObj_heap_other (by omega)).trans hk;refine wpIn_mono (hbody _ st x _ hok (hI.putObj _ hi (by omega) hl rfl)) ?_;rintro e a3 W3 hp;cases e with
   | normal =>
    obtain⟨hk3,hi3⟩:=hp;have hl3:=hk3.same _ _ hl2 rfl;have hr:=run_endRound (P:=P) none hl3;rw[hrec]at hr hl3;refine⟨_,_,hr,rfl,hI.putObj _ hi3 (by omega) hl3 rfl,?_,?_⟩
    ·rw[hrec];exact World.putObj_heap_same (zE hl3).1
    ·exact (World.putObj_heap_other (by omega)).trans (hk3.same _ _ hk2 rfl)
   | ret=>exact hp.elim
   | exit id=>exact hp.elim
   | goto t=>exact hp.elim
   | panic ch=>exact hp.elim
   | outgrown=>exact hp.elim
  ·rintro e W2 ⟨⟨v,rfl⟩,hi,hl,hk⟩;exact⟨none,_,by have:=run_endLoop (P:=P) hl (by rw[hrec];simp);rw[hrec]at this;exact this,hdone _ _ (Nat.le_refl _) (hI.putObj _ hi (by omega) hl rfl) ((World.putObj_heap_other (by omega)).trans hk)⟩
end
section
open Go.RowKit Go.Lib Go.Shelf Pl
attribute [local go_sem] qf qe
def qJ{τ:Type}(step:τ->qa->τ):τ->qa->qa->τ
 | t,_,[]=>t
 | t,cur,c::r=>if c=10 then qJ step (step t cur) [] r else qJ step t (cur++[c]) r
theorem qgI{τ:Type}(step:τ->qa->τ):∀(l:qa) (t:τ) (cur r:qa),(∀c∈l,c≠10)->qJ step t cur (l++10::r)=qJ step (step t (cur++l)) [] r
 | [],t,cur,r,_=>by simp[qJ]
 | c::l,t,cur,r,h=>by
  have hc:c≠10:=h c (by simp);rw[List.cons_append,qJ,if_neg hc,qgI step l t (cur++[c]) r (fun x hx=>h x (by simp[hx]))];simp
theorem qka:∀(s:qa) (a:Arc) (out cur:qa),qiC a out cur s=qJ (fun (t:Arc×qa) x=>((qaK t.1 x).1,t.2++((qaK t.1 x).2++[10]))) (a,out) cur s
 | [],_,_,_=>rfl
 | c::s,a,out,cur=>by
  rw[qiC,qJ]
  by_cases hc:c=10
  ·rw[if_pos hc,if_pos hc,qka s]
  ·rw[if_neg hc,if_neg hc,qka s]
theorem qrt{s:qa}(h0:s≠[])(hl:s.getLast? = some 10):∃ (l r:qa),s=l++10::r/\(∀c∈l,c≠10)/\Lib.indexByte s 10=(l.length:Nat)/\(r=[]\/r.getLast? = some 10):=by
 have hne:Lib.indexByte s 10≠-1:=fun e=>by
  have hlt:0<s.length:=List.length_pos_iff.2 h0;refine Lib.indexByte_none e (s.length-1) ?_;rw[List.getLast?_eq_getElem?]at hl;exact hl
 have hge:=Lib.indexByte_ge s 10;obtain⟨k,hk⟩:∃k:Nat,Lib.indexByte s 10=k:=⟨(Lib.indexByte s 10).toNat,by omega⟩
 obtain⟨h1,h2⟩:=Lib.indexByte_some hk;obtain⟨hlt,he⟩:=List.getElem?_eq_some_iff.1 h1
 have hs:s=s.take k++10::s.drop (k+1):=by
  conv=>lhs;rw[<-List.take_append_drop k s,List.drop_eq_getElem_cons hlt,he]
 refine⟨s.take k,s.drop (k+1),hs,fun c hc e=>?_,by rw[hk,List.length_take];congr 1;omega,?_⟩
 ·obtain⟨j,hj,hjc⟩:=List.getElem_of_mem hc;have hjk:j<k:=by rw[List.length_take]at hj;omega
  refine h2 j hjk ?_;rw[List.getElem_take]at hjc;rw[zG (by omega),hjc,e]
 ·by_cases hr:s.drop (k+1)=[]
  ·exact .inl hr
  ·refine .inr ?_;rw[hs,List.getLast?_append]at hl;rw[List.getLast?_cons]at hl;cases hd:(s.drop (k+1)).getLast? with
   | none=>exact absurd (List.getLast?_eq_none_iff.1 hd) hr
   | some x=>rw[hd]at hl;simpa using hl
theorem qeU(x r:qa):slice (x++10::r) 0 (x.length+1)=x++[10]:=by
 unfold slice;rw[show x++10::r=(x++[10])++r by simp,List.take_left' (by simp),List.drop_zero]
theorem qqS(x r:qa):slice (x++10::r) (x.length+1) (x++10::r).length=r:=by
 unfold slice;rw[List.take_length,show x++10::r=(x++[10])++r by simp,List.drop_left' (by simp)]
def qph(Bx:Nat)(W:World):Nat:=match W.heap[Bx]? with|some (.cells #[.string b] _ _)=>b.size|_=>0
theorem qnd{Bx:Nat}{W:World}{r:qa}{T:TypeId}{fz:Nat×Nat}(h:W.heap[Bx]?=some (.cells #[S r] T fz)):qph Bx W=r.length:=by
 unfold qph;rw[h];show r.toArray.size=r.length;simp
theorem qnC(s:qa)(w:World):Calls Tryz.prog 20 #[S s,.int .u8 10] w fun e w'=>e=.returned (I (Lib.indexByte s 10))/\w'=w :=
 Tryz.strings_IndexByte ⟨s.toArray⟩ 10 w
theorem qrs(n l Bx:Nat)(hn:1<=n){τ:Type}(I':τ->qa->World->Prop)(Rec:World->Prop)(step:τ->qa->τ)
  (hbox:∀t r W,I' t r W->W.heap[Bx]?=some (.cells #[S r] 9 (0,0)))
  (hset:∀t r r' W,I' t r W->I' t r' (W.setCell ⟨Bx,0,none⟩ (S r')))
  (hdr:∀t r W k,I' t r W->I' t r (W.drewN k))
  (hrec:∀A B,KeepsOthers A B->Rec A->Rec B)
  (s:qa) (t:τ)
  (hY:∀t1 (x r:qa) W1,(∀c∈x,c≠10)->x.length<=16384->qJ step t [] s=qJ step t1 [] (x++10::r)->I' t1 r W1->Rec W1->YieldAt Fence.wide (n-1) Tryz.prog l #[S (x++[10])] W1 fun e W'=>e=.returned (.bool true)/\I' (step t1 x) r W'/\Rec W')
  (w:World) (hs:s.length<=16384) (hl:s=[]\/s.getLast? = some 10) (hI:I' t s w) (hR:Rec w) :
  CallsIn Fence.wide n Tryz.prog 19 #[.func (.yield l) #[] #[],.pointer (some ⟨Bx,0,none⟩)] w fun e W'=>(∃v,e=.returned v)/\I' (qJ step t [] s) [] W'/\Rec W':=by
 obtain⟨z,hz⟩:∃z,z=qJ step t [] s:=⟨_,rfl⟩
 rw[<-hz]at hY ⊢;have HBOX:=zH hbox;have HSET:=zH hset;have HDR:=zH hdr;have HREC:=zH hrec;have HY:=zH hY;have HI:=zH hI;have HRW:=zH hR;have HZ:=zH hz;clear hbox hset hdr hrec hY hI hR hz;refine callsIn_of_wp Tryz.func19 rfl trivial ?_ rfl;simp only[Tryz.ntmps19,List.size_toArray,List.length_cons,List.length_nil,Nat.reduceAdd,Nat.reduceSub,Array.replicate_succ,Array.replicate_zero,List.push_toArray,List.append_toArray,List.nil_append,List.cons_append]
 gi_wp2
 gi_loopw [4] (fun _ wr=>∃ (t1:τ) (r:qa),r.length<=16384/\(r=[]\/r.getLast? = some 10)/\I' t1 r wr/\Rec wr/\z=qJ step t1 [] r)
  (fun _ wr=>qph Bx wr)
 case atStart=>exact⟨t,s,hs,hl,zU HI,zU HRW,zU HZ⟩
 case round =>
  obtain⟨t1,r,hr1,hr2,hI1,hR1,hz1⟩:=hrel;have hb:=zU HBOX _ _ _ hI1;have y0:wr.cell? ⟨Bx,0,none⟩=some (S r):=by rw[cell_of_row _ _ _ _ _ _ hb];rfl
  have y1:wr.frozen? ⟨Bx,0,none⟩=false:=by simp[World.frozen?,hb]
  have HB:=zH hb;have HI1:=zH hI1;have HR1:=zH hR1;have HZ1:=zH hz1;clear hb hI1 hR1 hz1
  by_cases h0:r=[]
  ·subst h0;have hlen:((List.length ([]:qa):Nat):Int)=0:=rfl
   gi_wp2
   go_end0;exact⟨⟨_,rfl⟩,by rw[zU HZ1];exact zU HI1,zU HR1⟩
  ·obtain⟨x,r2,hrx,hx10,hix,hr2⟩:=qrt h0 (hr2.resolve_left h0);have hlt:x.length<r.length:=by rw[hrx];simp
   have hlt2:r2.length<r.length:=by rw[hrx];simp;omega
   have hw1:IntKind.i64.wrap ((x.length:Int)+1)=(x.length:Int)+1:=IntWalk.i64_in _ ⟨by omega,by omega⟩;have b1:(x.length:Int)+1<=(r.length:Int):=by omega
   have b0:(0:Int)<=(x.length:Int)+1:=by omega
   have b2:((x.length:Int)+1).toNat=x.length+1:=by omega
   have C:=zH (fun (W:World)=>qnC r W);rw[hix]at C;have HRX:=zH hrx;have HX10:=zH hx10;have HR2:=zH hr2;have g0:decide ((0:Int)<(r.length:Int))=true:=by simp;omega
   have g1:decide ((0:Int)<=(x.length:Int))=true:=by simp
   clear hrx hx10 hix hr2 h0;refine wpIn_wide.2 ?_;go_wp2_with fail;refine (zU C _).mono ?_;rintro e w1 ⟨rfl,rfl⟩;go_wp2_with fail;have hsl:slice r 0 (x.length+1)=x++[10]:=by rw[zU HRX];exact qeU _ _
   have hsr:slice r (x.length+1) r.length=r2:=by rw[zU HRX];exact qqS _ _
   have q1:=zU HSET _ _ r2 _ (zU HI1);have q2:=zU HREC _ _ (KeepsOthers.setCell w1 ⟨Bx,0,none⟩ (S r2)) (zU HR1);have q3:w1.drew.cell? ⟨Bx,0,none⟩=some (S r):=y0;have q4:w1.drew.frozen? ⟨Bx,0,none⟩=false:=y1;have HFIN:∀W,I' t1 r2 W->Rec W->YieldAt Fence.wide (n-1) Tryz.prog l #[S (x++[10])] W fun e W'=>e=.returned (.bool true)/\I' (step t1 x) r2 W'/\Rec W':=fun W h1 h2=>zU HY t1 x r2 W (zU HX10) (by omega) (by rw[zU HZ1,zU HRX]) h1 h2;have HF:=zH HFIN;have Q1:=zH q1;have Q2:=zH q2;have HSL:=zH hsl;have HSR:=zH hsr;clear q1 q2 HFIN hsl hsr;go_region_law (fail)
   all_goals
    rw[zU HSL,zU HSR];obtain⟨fn,tm,asg,bd,hy,hRd⟩:=zU HF ((w1.setCell ⟨Bx,0,none⟩ (S r2)).drew) (zU HDR _ _ _ 1 (zU Q1)) (zU HREC _ _ (KeepsOthers.drew _) (zU Q2));go_upto_region 6 with fail
    refine (wpIn_wide (n:=n)).1 ?_
    gi_wp2
    refine hRd.mono ?_;rintro e W2 ⟨rfl,hI2,hR2⟩
    gi_wp2
    go_wp2_with fail;go_roundw
    case rel=>exact⟨step t1 x,r2,by omega,zU HR2,hI2,hR2,by rw[zU HZ1,zU HRX];exact qgI step x t1 [] r2 (zU HX10)⟩
    case measure =>
     rw[qnd (zU HBOX _ _ _ hI2),qnd (zU HB)];omega
end
section
open Go.RowKit Go.Lib Pl
theorem qro{a:Arc}(h:RightA a):(qcg a).length<=512:=by
 unfold qcg
 split
 ·unfold qnV;decide
 ·have h1:=qiP a.fs (fun f hf=>by
   obtain⟨g1,_,_,g2,g3,_,_,g4⟩:=qce h.nd h.sd (h.fr.each f hf);exact qkp g1 g3 g4)
  have h2:=h.nf;omega
theorem qnY{n:Nat}(h:n<=9223372036854775807):(dig n).length<=512:=by
 have h1:n<10 ^ (18+1):=by
   have:(10:Nat) ^ (18+1)=10000000000000000000:=by decide
   omega
 have:=qel 18 n h1;omega
theorem qsE(a:Arc)(name:qa)(m n:Int):(range a name m n).1.length<=512:=by
 have h1:=qjh a name;unfold range qo5 slice
 repeat' split
 all_goals simp
 all_goals omega
theorem quz{a:Arc}(h:RightA a)(s:qa):RightA (qc9 a s).2.1/\(qc9 a s).2.2.length<=512:=by
 have hok:wOk.length<=512:=by unfold wOk;decide
 have hp:=fun n t k=>qsH a n t k;have hd:=fun n=>qqB a n;have hr:=fun n=>qkZ a n;have hc:=qlC a;have hl:=qro h;have hs:=qnY (qhh h);have hg:=fun n=>qjh a n;have hrg:=fun n m k=>qsE a n m k
 have hch:∀op rest,RightA (qa7 a op rest).1:=fun op rest=>by
  unfold qa7
  repeat' split
  all_goals first|exact h|exact hp _ _ _|exact hd _|exact hr _
 have has:∀op rest,(qb3 a op rest).1.length<=512:=fun op rest=>by
  unfold qb3
  repeat' split
  all_goals first|exact hg _|exact hrg _ _ _|exact Nat.zero_le _
 unfold qc9
 split
 ·unfold qlh
  repeat' split
  ·exact⟨hch _ _,hok⟩
  ·exact⟨h,has _ _⟩
  ·exact⟨h,Nat.zero_le _⟩
 ·unfold qbV
  split
  ·exact⟨h,hl⟩
  ·split
   ·exact⟨h,hs⟩
   ·split
    ·split
     ·exact⟨h,Nat.zero_le _⟩
     ·rename_i hsv
      have:=qoo (Decidable.not_not.1 hsv);exact⟨h,qnY (by omega)⟩
    ·split
     ·exact⟨hc,hok⟩
     ·exact⟨h,Nat.zero_le _⟩
theorem qoY{a:Arc}(h:RightA a)(s:qa):RightA (qaK a s).1/\(qaK a s).2.length<=600:=by
 obtain⟨h1,h2⟩:=quz h s;have h5:=qkn a s;unfold qaK qhp
 split
 ·refine⟨h,?_⟩;have:=qnY (n:=(qc9 a s).1) (by omega);unfold qez qeQ;simp only[zL,List.length_cons,List.length_nil];omega
 ·exact⟨h1,by show (qc9 a s).2.2.length<=600;omega⟩
abbrev qbt(t:Arc×qa)(x:qa):Arc×qa:=((qaK t.1 x).1,t.2++((qaK t.1 x).2++[10]))
theorem qiU:∀(s:qa) (t:Arc×qa) (cur:qa),t.2.length<=(qJ qbt t cur s).2.length
 | [],t,cur=>Nat.le_refl _
 | c::s,t,cur=>by
  rw[qJ]
  split
  ·refine Nat.le_trans ?_ (qiU s _ _);simp
  ·exact qiU s _ _
theorem qky:∀(s:qa) (t:Arc×qa) (cur:qa),RightA t.1->(qJ qbt t cur s).2.length<=t.2.length+601*s.length
 | [],t,cur,_=>by simp[qJ]
 | c::s,t,cur,h=>by
  rw[qJ]
  split
  ·obtain⟨h1,h2⟩:=qoY h cur;have:=qky s (qbt t cur) [] h1;simp only[qbt,zL,List.length_cons,List.length_nil]at this ⊢;omega
  ·have:=qky s t (cur++[c]) h;simp only[List.length_cons];omega
theorem qmz(s:qa):(qiC qG [] [] s).2=(qJ qbt (qG,[]) [] s).2:=by rw[qka]
theorem qm4{s x r:qa}{t:Arc×qa}(hs:s.length<=16384)(h0:RightA qG)(hx:∀c∈x,c≠10)(h:qJ qbt (qG,[]) [] s=qJ qbt t [] (x++10::r)):(qbt t x).2.length<=10000000:=by
 have h1:=qky s (qG,[]) [] h0;rw[h,qgI qbt x t [] r hx]at h1;have h2:=qiU r (qbt t ([]++x)) [];simp only[List.nil_append,List.length_nil]at h1 h2;show (t.2++((qaK t.1 x).2++[10])).length<=10000000;omega
end
section
open Go.RowKit Go.Lib Pl
attribute [local go_sem] qf qe
theorem IsB.same{B b:Nat}{l:List UInt8}{W W':World}(h:IsB B b l W)(hc:∀(k:Nat) (cs:Array Value) (T:TypeId),W.heap[k]?=some (.cells cs T (0,0))->(k=b\/T=5)->W'.heap[k]?=some (.cells cs T (0,0))):IsB B b l W':=by
 have key:∀p,Lib.BuilderAt 39 5 B b p (Lib.byteCells l) W->Lib.BuilderAt 39 5 B b p (Lib.byteCells l) W':=by
  rintro p ⟨hB,v,hb,hown,hne⟩;refine⟨hB,v,hc _ _ _ hb (.inl rfl),qg7 hown (fun k hk=>?_),hne⟩;obtain⟨cs,hcs⟩:=qcR hown hk;rw[hcs];exact hc _ _ _ hcs (.inr rfl)
 exact h.elim (fun x=>.inl (key _ x)) (fun x=>.inr (key _ x))
section
variable {w W W' : World} {p H : Nat} {A A2 : Option Addr} {n cap n2 cap2 : Nat} {a b : Arc} {Q : Nat -> Prop} {t : Arc × qa} {r : qa}
theorem TabV.types(h:TabV W p A n cap A2 n2 cap2 a)(hs:W.heap.size<=W'.heap.size)(h6:∀k,k<6->W'.heap[k]?=W.heap[k]?)
  (hc:∀(k:Nat) (cs:Array Value) (T:TypeId),W.heap[k]?=some (.cells cs T (0,0))->T≠39->T≠5->W'.heap[k]?=some (.cells cs T (0,0))):TabV W' p A n cap A2 n2 cap2 a:=by
 refine⟨hc _ _ _ h.o (by decide) (by decide),⟨qg7 h.own.s fun k hk=>?_,qg7 h.own.f fun k hk=>?_⟩,h.dw.keep h6 hs,h.hp,h.ra⟩
 ·obtain⟨cs,hcs⟩:=qcR h.own.s hk;rw[hcs];exact hc _ _ _ hcs (by decide) (by decide)
 ·obtain⟨cs,hcs⟩:=qcR h.own.f hk;rw[hcs];exact hc _ _ _ hcs (by decide) (by decide)
theorem Tab.types(h:Tab W p Q a)(hs:W.heap.size<=W'.heap.size)(h6:∀k,k<6->W'.heap[k]?=W.heap[k]?)
  (hc:∀(k:Nat) (cs:Array Value) (T:TypeId),W.heap[k]?=some (.cells cs T (0,0))->T≠39->T≠5->W'.heap[k]?=some (.cells cs T (0,0))):Tab W' p Q a :=
 let ⟨_,_,_,_,_,_,t,f⟩:=h;⟨_,_,_,_,_,_,t.types hs h6 hc,f⟩
structure PI(w:World)(H:Nat)(t:Arc×qa)(r:qa)(W:World):Prop where
 tb:Tab W H (fun k=>k=H+3) t.1
 pt:W.heap[H+1]?=some (.cells #[.pointer (some ⟨H,0,none⟩)] 29 (0,0))
 b:IsB (H+2) (H+2) t.2 W
 x:W.heap[H+3]?=some (.cells #[S r] 9 (0,0))
 bel:Below H w W
 h6:6<=H
 hw:H<=w.heap.size
theorem PI.up(h:PI w H t r W)(hb:Below W.heap.size W W'):PI w H t r W' :=
 have k:∀{j:Nat} {o:Obj},W.heap[j]?=some o->W'.heap[j]?=some o:=fun hj=>(hb.block _ (zE hj).1).trans hj
 ⟨h.tb.up hb,k h.pt,IsB.kept h.b hb,k h.x,h.bel.trans (hb.mono (Nat.le_trans h.hw h.bel.size)),h.h6,h.hw⟩
theorem PI.drewN(h:PI w H t r W)(k:Nat):PI w H t r (W.drewN k):=h.up (zD (Below.refl _ _) k)
theorem PI.set(h:PI w H t r W)(r':qa):PI w H t r' (W.setCell ⟨H+3,0,none⟩ (S r')):=by
 have hs:W.setCell ⟨H+3,0,none⟩ (S r')=W.setRow (H+3) #[S r']:=by rw[setCell_eq_setRow W (H+3) 0 _ _ _ _ h.x];rfl
 rw[hs];have:=h.h6;refine⟨h.tb.far rfl (qdL (World.grownBy.refl _ _)) (by omega) (by omega),(setRow_other _ _ _ _ (by omega)).trans h.pt,h.b.same fun k cs T hk hor=>?_,setRow_heap _ _ _ _ _ _ h.x,below_setRow h.bel (by omega) _,h.h6,h.hw⟩;refine (setRow_other _ _ _ _ fun e=>?_).trans hk
 rcases hor with rfl|rfl
 ·omega
 ·subst e;rw[h.x]at hk;injection hk with hk;injection hk with _ hk _;exact absurd hk (by decide)
theorem PI.own{B:Nat}(w:World)(H:Nat)(hB:H+4<=B):OwnFrom B (fun (st:(Arc×qa)×qa) W=>PI w H st.1 st.2 W):=by
 intro st W W' row h hg hr
 have hc:∀(k:Nat) (o:Obj),W.heap[k]?=some o->o.isCells=true->W'.heap[k]?=some o:=fun k o hk ho=>(hg.block k (zE hk).1 (fun e=>by
  obtain⟨_,o2,h2,h3⟩:=hr k e.symm;rw[hk]at h2;injection h2 with h2;subst h2;rw[ho]at h3;cases h3)).trans hk
 have hlo:∀k,k<B->k<W.heap.size->W'.heap[k]?=W.heap[k]?:=fun k hk hl=>hg.block k hl (fun e=>by have:=(hr k e.symm).1;omega);have hx:=(zE h.x).1;have:=h.h6
 exact⟨h.tb.types hg.size (fun k hk=>hlo k (by omega) (by omega)) (fun k cs T hk _ _=>hc _ _ hk rfl),hc _ _ h.pt rfl,h.b.same (fun k cs T hk _=>hc _ _ hk rfl),hc _ _ h.x rfl,
  h.bel.grown hg (Nat.le_trans h.hw h.bel.size) (fun k e=>by have:=(hr k e).1;omega),h.h6,h.hw⟩
theorem PI.line(h:PI w H t r W)(hg:W.grownBy W' (some H))(ht:Tab W' H (fun k=>k=H+3) b):PI w H (b,t.2) r W':=by
 have ho:∀(k:Nat) (o:Obj),W.heap[k]?=some o->k≠H->W'.heap[k]?=some o:=fun k o hk hne=>(hg.block k (zE hk).1 (fun e=>by injection e with e;exact hne e)).trans hk;obtain⟨A,n,cap,A2,n2,cap2,tv,_⟩:=h.tb;refine⟨ht,ho _ _ h.pt (by omega),h.b.same fun k cs T hk hor=>ho _ _ hk fun e=>?_,ho _ _ h.x (by omega),h.bel.grown hg (Nat.le_trans h.hw h.bel.size) (fun k e=>by injection e with e;omega),h.h6,h.hw⟩
 rcases hor with h1|rfl
 ·omega
 ·subst e;rw[tv.o]at hk;injection hk with hk;injection hk with _ hk _;exact absurd hk (by decide)
theorem PI.write(h:PI w H t r W){o:qa}(hb:IsB (H+2) (H+2) o W')(hl:Below (H+2) W W')(hk:Keeps qi5 W W'):PI w H (t.1,o) r W':=by
 have hc:∀(k:Nat) (cs:Array Value) (T:TypeId),W.heap[k]?=some (.cells cs T (0,0))->T≠39->T≠5->W'.heap[k]?=some (.cells cs T (0,0)):=fun k cs T hh h1 h2=>hk.block _ _ hh (by simp[qi5,h1,h2]);have hx:=(zE h.x).1;have:=h.h6;exact⟨h.tb.types hk.size (fun k hlt=>hl.block k (by omega)) hc,hc _ _ _ h.pt (by decide) (by decide),hb,hc _ _ _ h.x (by decide) (by decide),h.bel.trans (hl.mono (by omega)),h.h6,h.hw⟩
theorem KeepsOthers.of_tab(h:PI w H t r W)(hg:W.grownBy W' (some H)):KeepsOthers W W':=by
 obtain⟨A,n,cap,A2,n2,cap2,tv,_⟩:=h.tb;exact KeepsOthers.of_grownBy hg (fun j o e ho=>by injection e with e;subst e;rw[tv.o]at ho;injection ho with ho;subst ho;rfl)
theorem KeepsOthers.of_keeps(hk:Keeps qi5 W W'):KeepsOthers W W':=⟨hk.size,fun k o ho hn=>hk.block k o ho (by cases o <;> simp_all [qi5,Obj.isCells])⟩
end
theorem quU(A:Option Addr)(n cap:Nat)(A2:Option Addr)(n2 cap2:Nat)(a:Arc)(file:qa)(w:World)(h:ArcIn w A n A2 n2 a)(hz:ArcSz a) :
  Calls Tryz.prog 32 #[qv A n cap A2 n2 cap2,S file] w fun e w'=>ArcRes w.heap.size (drop a file) e w'/\Below w.heap.size w w':=by
 obtain⟨B,hB⟩:∃B,B=w.heap.size:=⟨_,rfl⟩
 obtain⟨w0,hw0⟩:∃w0,w0=(w.alloc (.cells #[.slice A n cap,.slice A2 n2 cap2] 33)).alloc (.cells #[.slice none 0 0,.slice none 0 0] 33):=⟨_,rfl⟩
 have H0:=zH (show AR A n cap A2 n2 cap2 a w w0 B by rw[hw0,hB];exact AR.new h cap cap2);have hl1:=h.s.1;have hl2:=h.f.1;have CK:∀W,AR A n cap A2 n2 cap2 a w W B->Calls Tryz.prog 56 #[qv A n cap A2 n2 cap2] W fun e w'=>e=.returned (I (qh a))/\Below W.heap.size W w':=fun W hW=>qcB A n cap A2 n2 cap2 a W hW.ab.i hz;obtain⟨r,hr⟩:∃r,r=drop a file:=⟨_,rfl⟩
 rw[<-hr,<-hB];have hput:r=if qh a≠0 then (qG,qh a)else if qbB file a.fs=none then (qG,5)else (⟨a.ds,a.fs.filter fun f=>decide (f.name≠file)⟩,0):=hr
 have HB:=zH hB;have HW0:=zH hw0;clear hB hw0 h hr hz
 by_cases hck:qh a≠0
 ·rw[if_pos hck]at hput;obtain⟨c,hc⟩:∃c,c=qh a:=⟨_,rfl⟩
  rw[<-hc]at CK hput hck;have CK:=zH CK;have d1:((c:Int) != 0)=true:=by rw[bne_iff_ne];omega
  have d2:((c:Int) == 0)=false:=by rw[zB];omega
  have d3:¬(c:Int)=0:=by omega
  subst hput;clear hck hc;go_enter Tryz.func32,Tryz.ntmps32;go_upto_region 1 with fail
  rw[<-zU HW0,<-zU HB];obtain⟨q0,q1⟩:=(zU H0).ab.c;go_wp2_with fail;refine (zU CK _ (zU H0)).mono ?_;rintro e w1 ⟨rfl,hb1⟩;have H1:=zH ((zU H0).below hb1);clear hb1 q0 q1;obtain⟨q0,q1⟩:=(zU H1).ab.c;go_wp2_with (refine wpList_store_row rfl 33 (.tmp 4) (.tmp 14) rfl (B+1) #[.slice none 0 0,.slice none 0 0] rfl rfl 33 _ (zU H1).z qd rfl qae ?_);refine bodyPost_ret (qc rfl _ _ (B+1) 33 #[.slice none 0 0,.slice none 0 0] (0,0) _ rfl ((zU H1).end_ _).1 Tryz.underlying33 rfl qd) rfl ⟨⟨_,_,rfl,?_⟩,((zU H1).end_ _).2⟩;exact OwnA.nil _ _
 have hck0:qh a=0:=Decidable.not_not.1 hck;have hra:=(qak a).1 hck0;rw[if_neg hck]at hput;rw[hck0]at CK;have CK:=zH CK;clear hck hck0;have CF:∀W,AR A n cap A2 n2 cap2 a w W B->Calls Tryz.prog 61 #[qv A n cap A2 n2 cap2,S file] W fun e w'=>e=.returned (.tuple #[I (qa1 file a.fs),.bool (qaU file a.fs)])/\Below W.heap.size W w':=fun W hW=>qkA A n cap A2 n2 cap2 a file W hW.ab.i (by have:=hra.nf;omega) hra.fr.asc
 have CC:∀W,AR A n cap A2 n2 cap2 a w W B->Calls Tryz.prog 59 #[qv A n cap A2 n2 cap2] W fun e w'=>∃A' cap' A2' cap2',e=.returned (.agg #[.slice A' n cap',.slice A2' n2 cap2'])/\OwnA w' W.heap.size (.slice A' n cap') (.slice A2' n2 cap2') a/\Below W.heap.size W w':=fun W hW=>by
  refine (qhQ A n cap A2 n2 cap2 a W hW.ab.i (by have:=hra.nd;omega) (by have:=hra.nf;omega)).mono ?_;rintro e w' ⟨v1,v2,he,ho,hb⟩;obtain⟨A',cap',A2',cap2',rfl,rfl,_⟩:=ho.form;rw[hl1]at he ho;rw[hl2]at he ho;exact⟨A',cap',A2',cap2',he,ho,hb⟩
 have CC:=zH CC;have hfp:=qkz (name:=file) hra.fr.asc;have h12:=hra.nf;cases hth:qaU file a.fs with
 | false =>
  rw[hth,if_neg (by simp)]at hfp;rw[if_pos hfp]at hput;rw[hth]at CF;have CF:=zH CF;subst hput;clear hfp hra hth;go_enter Tryz.func32,Tryz.ntmps32;go_upto_region 1 with fail
  rw[<-zU HW0,<-zU HB];obtain⟨q0,q1⟩:=(zU H0).ab.c;go_wp2_with fail;refine (zU CK _ (zU H0)).mono ?_;rintro e w1 ⟨rfl,hb1⟩;have H1:=zH ((zU H0).below hb1);clear hb1 q0 q1;obtain⟨q0,q1⟩:=(zU H1).ab.c;go_wp2_with fail;refine (zU CF _ (zU H1)).mono ?_;rintro e w2 ⟨rfl,hb2⟩;have H2:=zH ((zU H1).below hb2);clear hb2 q0 q1;obtain⟨q0,q1⟩:=(zU H2).ab.c;go_wp2_with (refine wpList_store_row rfl 33 (.tmp 4) (.tmp 24) rfl (B+1) #[.slice none 0 0,.slice none 0 0] rfl rfl 33 _ (zU H2).z qd rfl qae ?_);refine bodyPost_ret (qc rfl _ _ (B+1) 33 #[.slice none 0 0,.slice none 0 0] (0,0) _ rfl ((zU H2).end_ _).1 Tryz.underlying33 rfl qd) rfl ⟨⟨_,_,rfl,?_⟩,((zU H2).end_ _).2⟩;exact OwnA.nil _ _
 | true =>
  obtain⟨f0,hf0,_⟩:=qj5 hth;rw[hth,if_pos rfl,hf0]at hfp;rw[if_neg (by rw[hfp];simp),qlu hra.fr.asc hth]at hput;have hpt:=qj4 hth;rw[hth]at CF;obtain⟨i,hi⟩:∃i,i=qa1 file a.fs:=⟨_,rfl⟩
  rw[<-hi]at CF hput hpt;have CF:=zH CF;have e1:IntKind.i64.wrap ((i:Int)+1)=(i:Int)+1:=IntWalk.i64_in _ ⟨by omega,by omega⟩;have hin:i<n2:=by omega
  subst hput;clear hfp hra hi hth hf0;go_enter Tryz.func32,Tryz.ntmps32;go_upto_region 1 with fail
  rw[<-zU HW0,<-zU HB];obtain⟨q0,q1⟩:=(zU H0).ab.c;go_wp2_with fail;refine (zU CK _ (zU H0)).mono ?_;rintro e w1 ⟨rfl,hb1⟩;have H1:=zH ((zU H0).below hb1);clear hb1 q0 q1;obtain⟨q0,q1⟩:=(zU H1).ab.c;go_wp2_with fail;refine (zU CF _ (zU H1)).mono ?_;rintro e w2 ⟨rfl,hb2⟩;have H2:=zH ((zU H1).below hb2);clear hb2 q0 q1;obtain⟨q0,q1⟩:=(zU H2).ab.c;go_wp2_with fail;refine (zU CC _ (zU H2)).mono ?_;rintro e w4 ⟨A',cap',A2',cap2',rfl,ho4,hb4⟩;have H4:=zH ((zU H2).below hb4);have HO4:=zH ho4;have HS4:=zH hb4.size;clear hb4 ho4 q0 q1;go_upto_region 8 with (refine wpList_store_row rfl 33 (.tmp 9) (.tmp 26) rfl w4.heap.size #[.slice A' n cap',.slice A2' n2 cap2'] rfl rfl 33 _ (heap_alloc_new _ _) qd rfl (qN _ _ _ _ _ _) ?_)
  obtain⟨w5,hw5⟩:∃w5,w5=(w4.alloc (.cells #[.slice none 0 0,.slice none 0 0] 33)).setRow w4.heap.size #[.slice A' n cap',.slice A2' n2 cap2']:=⟨_,rfl⟩
  obtain⟨P,hP⟩:∃P,P=w4.heap.size:=⟨_,rfl⟩
  have S8:=zH (show PutS A n cap A2 n2 cap2 a w w5 B w2.heap.size P (.slice A' n cap') (.slice A2' n2 cap2')by rw[hw5,hP];exact PutS.new (zU H4) (zU HO4) (zU H2).lt (zU HS4));rw[<-hw5,<-hP];obtain⟨E,hE⟩:∃E,E=w2.heap.size:=⟨_,rfl⟩
  rw[<-hE]at S8;clear hw5 hP hE;obtain⟨q0,q1⟩:=(zU S8).r.ab.c;obtain⟨p0,p1,p2,p3⟩:=(zU S8).cells
  obtain⟨g,gc,hgv⟩:∃g gc,(Value.slice A2' n2 cap2')=.slice (some ⟨g,0,none⟩) n2 gc:=by
   have hof:=(zU S8).o.f;rw[hl2]at hof
   rcases qck hof with⟨_,h0,_⟩|h1
   ·omega
   ·exact h1
  injection hgv with hg1 _ hg2
  subst hg1;subst hg2;have CI:=qnI g cap2' n2 i a.fs E w5 (by have:=(zU S8).o.f;rw[hl2]at this;exact this) hin (by omega);have CI:=zH CI;go_wp2_with fail;refine (zU CI).mono ?_;rintro e w9 ⟨rfl,ho9,hg9⟩;have hbe:=(zU S8).be;have hep:=(zU S8).ep;have hPl:=(zU S8).lt;have hgE:=((zU S8).o.f.lt g rfl).1;have hgP:=(zU S8).ob g (.inr rfl);have hP9:w9.heap[P]?=some (.cells #[.slice A' n cap',.slice (some ⟨g,0,none⟩) n2 cap2'] 33 (0,0)):=by rw[hg9.block P hPl (by simp;omega)];exact (zU S8).p
  have hB9:w9.heap[B+1]?=some (.cells #[.slice none 0 0,.slice none 0 0] 33 (0,0)):=by rw[hg9.block (B+1) (zU S8).r.lt (by simp;omega)];exact (zU S8).r.z
  have hds9:w9.ownsRow E 9 1 (.slice A' n cap') a.ds.length (a.ds.map qaE):=by
   refine (zU S8).o.s.kept hg9 (.inr (fun e=>?_));have hds:=(zU S8).o.s
   rcases hds.2 with⟨hv,_⟩|⟨g2,c2,cu2,hv,_,hg2,_⟩
   ·rw[hv]at e;simp[Value.ownBlock]at e
   ·rw[hv]at e;simp only[Value.ownBlock,Option.some.injEq]at e;subst e;obtain⟨cu3,_,hg3,_⟩:=qbr (by have:=(zU S8).o.f;rw[hl2]at this;exact this);rw[hg2]at hg3;injection hg3 with hg3
    injection hg3 with _ hg3 _
    exact absurd hg3 (by decide)
  have hL9:Below B w w9:=(zU S8).r.ab.bel.grown hg9 (by have h9:=(zU S8).r.lt;omega) (fun j hj=>by simp at hj;omega);obtain⟨p0',p1',p2',p3'⟩:=qk hP9;obtain⟨w10,hw10⟩:∃w10,w10=w9.setCell ⟨P,1,none⟩ (.slice (some ⟨g,0,none⟩) (n2-1) cap2'):=⟨_,rfl⟩
  have hrow10:w10=w9.setRow P #[.slice A' n cap',.slice (some ⟨g,0,none⟩) (n2-1) cap2']:=by rw[hw10,setCell_eq_setRow w9 P 1 _ _ _ _ hP9];rfl
  have hP10:w10.heap[P]?=some (.cells #[.slice A' n cap',.slice (some ⟨g,0,none⟩) (n2-1) cap2'] 33 (0,0)):=by rw[hrow10];exact setRow_heap _ _ _ _ _ _ hP9
  have hB10:w10.heap[B+1]?=some (.cells #[.slice none 0 0,.slice none 0 0] 33 (0,0)):=by rw[hrow10,setRow_other _ P (B+1) _ (by omega)];exact hB9
  have hO10:OwnA w10 E (.slice A' n cap') (.slice (some ⟨g,0,none⟩) (n2-1) cap2') ⟨a.ds,a.fs.take i++a.fs.drop (i+1)⟩:=by
   rw[hrow10];refine⟨qT hds9 (fun g hg=>by have:=(zU S8).ob g (.inl hg);omega) _,?_⟩;have hlen:(a.fs.take i++a.fs.drop (i+1)).length=n2-1:=by simp;omega
   show (w9.setRow P _).ownsRow E 89 5 (.slice (some ⟨g,0,none⟩) (n2-1) cap2') (a.fs.take i++a.fs.drop (i+1)).length _;rw[hlen];exact qT ho9 (fun j hj=>by simp[Value.ownBlock]at hj;omega) _
  have hL10:Below B w w10:=by rw[hrow10];exact below_setRow hL9 (by omega) _
  obtain⟨e1',e2,e3⟩:=qdm hB10 hbe hO10 hL10;obtain⟨r0,r1,_,_⟩:=qk hP10;have E1:=zH e1';have E2:=zH e2;have E3:=zH e3;have HB10:=zH hB10;have HW10:=zH hw10;clear hP9 hB9 hds9 hL9 hrow10 hP10 hB10 hO10 hL10 e1' e2 e3 hw10 ho9 hg9;go_upto_region 9 with fail
  rw[<-zU HW10];go_wp2_with (refine wpList_store_row rfl 33 (.tmp 4) (.tmp 34) rfl (B+1) #[.slice A' n cap',.slice (some ⟨g,0,none⟩) (n2-1) cap2'] rfl rfl 33 _ (zU HB10) qd rfl (qN _ _ _ _ _ _) ?_);refine bodyPost_ret (qc rfl _ _ (B+1) 33 #[.slice A' n cap',.slice (some ⟨g,0,none⟩) (n2-1) cap2'] (0,0) _ rfl (zU E1) Tryz.underlying33 rfl qd) rfl ⟨⟨_,_,rfl,zU E2⟩,zU E3⟩
end
end Go.Proofs.YtbnmfdlaabdlhaaGreatDoor
