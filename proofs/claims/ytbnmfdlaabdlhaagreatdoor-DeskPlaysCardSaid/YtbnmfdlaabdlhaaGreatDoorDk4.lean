/- Parts of the proofs. -/
import Derived.Test.YtbnmfdlaabdlhaaGreatDoorDk3
import Derived.Deep.AppendLies
import Derived.Deep.DeepCutAuto
import Derived.Laws.Rows
set_option maxHeartbeats 16000000
set_option maxRecDepth 100000
namespace Go.Proofs.YtbnmfdlaabdlhaaGreatDoor
section
open Go.RowKit Go.Lib Pl
attribute [local go_sem] qf qe
theorem qvr{W:World}{p:Nat}{x y:Value}{T:TypeId}(h:W.heap[p]?=some (.cells #[x,y] T (0,0)))(u v:Value):(W.setCell ⟨p,0,none⟩ u).setCell ⟨p,1,none⟩ v=W.setRow p #[u,v]:=by
 rw[setCell_eq_setRow W p 0 #[x,y] T (0,0) u h,setCell_eq_setRow _ p 1 (#[x,y].setIfInBounds 0 u) T (0,0) v (setRow_heap _ _ _ _ _ _ h),setRow_setRow];rfl
theorem qk{W:World}{p:Nat}{x y:Value}{T:TypeId}(h:W.heap[p]?=some (.cells #[x,y] T (0,0))):W.cell? ⟨p,0,none⟩=some x/\W.cell? ⟨p,1,none⟩=some y/\W.frozen? ⟨p,0,none⟩=false/\W.frozen? ⟨p,1,none⟩=false:=by
 refine⟨by rw[cell_of_row _ _ _ _ _ _ h];rfl,by rw[cell_of_row _ _ _ _ _ _ h];rfl,by simp[World.frozen?,h],by simp[World.frozen?,h]⟩
structure CopK(A:Option Addr)(n cap:Nat)(A2:Option Addr)(n2 cap2:Nat)(B N:Nat)(w0 W:World):Prop where
 a:W.cell? ⟨B,0,none⟩=some (.slice A n cap)
 b:W.cell? ⟨B,1,none⟩=some (.slice A2 n2 cap2)
 c:W.cell? ⟨B+1,0,none⟩=some (.slice none 0 0)
 d:W.cell? ⟨B+1,1,none⟩=some (.slice none 0 0)
 e:W.frozen? ⟨B+1,0,none⟩=false
 f:W.frozen? ⟨B+1,1,none⟩=false
 g:Below N w0 W
theorem qhQ(A:Option Addr)(n cap:Nat)(A2:Option Addr)(n2 cap2:Nat)(a:Arc)(w:World)(h:ArcIn w A n A2 n2 a)(hn:n<=1000000)(hn2:n2<=1000000) :
  Calls Tryz.prog 59 #[qv A n cap A2 n2 cap2] w fun e w'=>∃v1 v2,e=.returned (.agg #[v1,v2])/\OwnA w' w.heap.size v1 v2 a/\Below w.heap.size w w':=by
 obtain⟨B,hB⟩:∃B,B=w.heap.size:=⟨_,rfl⟩
 obtain⟨w0,hw0⟩:∃w0,w0=(w.alloc (.cells #[.slice A n cap,.slice A2 n2 cap2] 33)).alloc (.cells #[.slice none 0 0,.slice none 0 0] 33):=⟨_,rfl⟩
 obtain⟨N,hN⟩:∃N,N=w0.heap.size:=⟨_,rfl⟩
 have hBN:B<=N:=by rw[hN,hw0,hB];simp;omega
 have h0:AR A n cap A2 n2 cap2 a w w0 B:=by rw[hw0,hB];exact AR.new h cap cap2
 have kf:∀W,Below N w0 W->AR A n cap A2 n2 cap2 a w W B:=fun W hW=>h0.below (by rw[<-hN];exact hW)
 have kk:∀W,Below N w0 W->CopK A n cap A2 n2 cap2 B N w0 W:=fun W hW=>by
  have k:=kf W hW;obtain⟨k1,k2⟩:=k.ab.c;obtain⟨k3,k4,k5,k6⟩:=qk k.z;exact⟨k1,k2,k3,k4,k5,k6,hW⟩
 have CS:∀W,Below N w0 W->Calls Tryz.prog 96 #[.slice A n cap] W fun e w'=>∃A' cap',e=.returned (.slice A' n cap')/\w'.ownsRow B 9 1 (.slice A' n cap') n (a.ds.map qaE)/\Below W.heap.size W w'/\CopK A n cap A2 n2 cap2 B N w0 w':=fun W hW=>by
  have k:=kf W hW;refine (qpa A n cap a.ds W k.ab.i.s hn).mono ?_;rintro e w' ⟨v,he,h1,h2⟩;obtain⟨A',cap',rfl,_⟩:=qat h1;exact⟨A',cap',he,qdG h1 (Nat.le_of_lt k.ab.lt),h2,kk _ (hW.trans (h2.mono (by have:=hW.size;omega)))⟩
 have CF:∀W,Below N w0 W->Calls Tryz.prog 91 #[.slice A2 n2 cap2] W fun e w'=>∃A' cap',e=.returned (.slice A' n2 cap')/\w'.ownsRow B 89 5 (.slice A' n2 cap') n2 (qb a.fs)/\Below W.heap.size W w'/\CopK A n cap A2 n2 cap2 B N w0 w':=fun W hW=>by
  have k:=kf W hW;refine (qiZ A2 n2 cap2 a.fs W k.ab.i.f hn2).mono ?_;rintro e w' ⟨v,he,h1,h2⟩;obtain⟨A',cap',rfl,_⟩:=qbg h1;exact⟨A',cap',he,qdG h1 (Nat.le_of_lt k.ab.lt),h2,kk _ (hW.trans (h2.mono (by have:=hW.size;omega)))⟩
 have e0:Below N w0 w0.drew:=by rw[hN];exact (Below.refl _ _).drew
 have fin:∀(W:World) (v1 v2:Value),Below N w0 W->W.ownsRow B 9 1 v1 n (a.ds.map qaE)->W.ownsRow B 89 5 v2 n2 (qb a.fs)->(W.setCell ⟨B+1,0,none⟩ v1).setCell ⟨B+1,1,none⟩ v2=W.setRow (B+1) #[v1,v2]/\(W.setRow (B+1) #[v1,v2]).heap[B+1]?=some (.cells #[v1,v2] 33 (0,0))/\OwnA (W.setRow (B+1) #[v1,v2]) B v1 v2 a/\Below B w (W.setRow (B+1) #[v1,v2]):=fun W v1 v2 hW o1 o2=>by
  have k:=kf W hW
  have hne:∀{e size m:Nat} {v:Value} {xs:List Value},W.ownsRow B e size v m xs->e≠33->(W.setRow (B+1) #[v1,v2]).ownsRow B e size v m xs:=by
   intro e size m v xs ho hne;refine⟨ho.1,?_⟩
   rcases ho.2 with hn|⟨g,cap,cur,rfl,hb,hg,rest⟩
   ·exact .inl hn
   ·refine .inr ⟨g,cap,cur,rfl,hb,?_,rest⟩;rw[setRow_other W (B+1) g _ (fun e2=>?_)]
    ·exact hg
    ·subst e2;rw[k.z]at hg;injection hg with hg
     injection hg with _ hg
     exact hne hg.symm
  refine⟨qvr k.z v1 v2,(k.end_ _).1,⟨?_,?_⟩,(k.end_ _).2⟩
  ·rw[h.s.1];exact hne o1 (by decide)
  ·rw[h.f.1];exact hne o2 (by decide)
 have HB:=zH hB;have HW0:=zH hw0;have CS:=zH CS;have CF:=zH CF;have E0:=zH e0;have FIN:=zH fin;have k0:=kk _ (by rw[hN];exact Below.refl _ _:Below N w0 w0);clear hB hw0 kk kf h h0 e0 fin hBN hN;rw[<-zU HB];go_enter Tryz.func59,Tryz.ntmps59;go_upto_region 1 with fail
 rw[<-zU HW0,<-zU HB];obtain⟨a0,a1,a2,a3,a4,a5,a6⟩:=k0
 go_region_with (first
  | (go_at_call 96;refine (zU CS _ (by first | assumption | exact zU E0)).mono ?_;rintro e wS ⟨A',cap',rfl,hs1,hs2,⟨s0,s1,s2,s3,s4,s5,s6⟩⟩;have HS1:=zH hs1;have HS2:=zH hs2;clear hs1 hs2)
  | (go_at_call 91;refine (zU CF _ (by first | assumption | exact zU E0)).mono ?_;rintro e wF ⟨A2',cap2',rfl,hf1,hf2,⟨f0,f1,f2,f3,f4,f5,f6⟩⟩;have HF1:=zH hf1;have HF2:=zH hf2;clear hf1 hf2))
 all_goals
  first
   | (obtain⟨g1,g2,g3,g4⟩:=zU FIN wF _ _ f6 (qo (zU HS1) (zU HF2)) (zU HF1))
   | (obtain⟨g1,g2,g3,g4⟩:=zU FIN wS _ _ s6 (zU HS1) (qo (zU HF1) (zU HS2)))
  rw[g1];go_wp2_with fail;refine bodyPost_ret (results_cell_row rfl _ _ (B+1) 33 _ (0,0) _ rfl g2 Tryz.underlying33 rfl qd) rfl ⟨_,_,rfl,g3,g4⟩
theorem qa3(w:World)(b i:Nat)(c:Array Value)(t:TypeId)(h:w.heap[b]?=some (.cells c t (0,0))):w.frozen? ⟨b,i,none⟩=false:=by simp[World.frozen?,h]
theorem qqg{w w1:World}{base M n k:Nat}{o:Obj}{cs:Array Value}{fz:Nat×Nat}{v:Value}{xs:List Value}(hblk:w.heap[M]?=some (.cells cs 227 fz))(hown:OwnM w base 5 1 v n xs)
  (hg:((w.alloc o).drewN k).drew.grownBy w1 v.ownBlock):w1.heap[M]?=some (.cells cs 227 fz):=by
 have hlt:M<w.heap.size:=(zE hblk).1
 have h1:M<((w.alloc o).drewN k).drew.heap.size:=by
  show M<(w.alloc o).heap.size;simp;omega
 exact (hg.block M h1 (fun e=>qiK hblk hown e.symm)).trans ((Below.heap_alloc w o M hlt).trans hblk)
theorem qkI(w:World)(o:Obj)(k:Nat):Below w.heap.size w ((w.alloc o).drewN k).drew:=(zD ((Below.refl _ _).alloc (Nat.le_refl _) o) k).drew
theorem qsi(base M d:Nat)(lit:Bool)(s l:qa)(far len:Int)(w:World)(hM:Mk w base M d lit s)(hd:d<=s.length)(hs:s.length<=d+512)(hd2:d<=256)
  (hl:l≠[]) (h0:far=0/\len=0/\lit=false) (hr:l.length+(s.length-d)<=512) :
  Calls Tryz.prog 200 #[.pointer (some ⟨M,0,none⟩),.agg #[S l,I far,I len]] w fun e w'=>e=.returned (I 0)/\Mk w' base M d true (s++l)/\Below base w w'/\Keeps qcQ w w':=by
 obtain⟨hbM,A,cap,hblk,hown⟩:=hM;obtain⟨rfl,rfl,rfl⟩:=h0;have hlt:M<w.heap.size:=(zE hblk).1;have c0:w.cell? ⟨M,0,none⟩=some (.slice A s.length cap):=by rw[cell_of_row w M 0 _ _ _ hblk];rfl
 have c1:w.cell? ⟨M,1,none⟩=some (.int .i64 d):=by rw[cell_of_row w M 1 _ _ _ hblk];rfl
 have c2:w.cell? ⟨M,2,none⟩=some (.bool false):=by rw[cell_of_row w M 2 _ _ _ hblk];rfl
 have f0:w.frozen? ⟨M,0,none⟩=false:=by simp[World.frozen?,hblk]
 have f2:w.frozen? ⟨M,2,none⟩=false:=by simp[World.frozen?,hblk]
 have hl1:l.isEmpty=false:=by simpa using hl
 have hl2:(l == [])=false:=by simpa using hl
 have hk1:(0:Int)<=(s.length:Int)-(d:Int):=by omega
 have hk2:(s.length:Int)-(d:Int)<=512:=by omega
 have hbH:base<=w.heap.size:=by omega
 have hk3:(l.length:Int)<=512-((s.length:Int)-(d:Int)):=by omega
 obtain⟨i0,hi0,hz0,hz1,hz2⟩:=info_parts qdn;have hB:=zH hblk;have hO:=zH hown;clear hblk hown hl;go_enter Tryz.func200,Tryz.ntmps200;go_wp2_with fail;go_quiet (fail);go_wp2_with fail;go_region_law (refine qhf rfl _ _ _ _ rfl base 5 i0 Tryz.underlying37 Tryz.underlying9 hi0 hz0 hz1 hz2 _ s.length (s.map B) rfl (by first|exact ((zU hO).alloc _).drew|exact (((zU hO).alloc _).drewN _)|exact (((zU hO).alloc _).drewN _).drew) ⟨l.toArray⟩ rfl (by show s.length+l.length<=9223372036854775807;omega) (by show s.length+l.length<=140737488355328;omega) (by show base<=(w.alloc _).heap.size;simp;omega) ?_;intro A1 cap1 w1 hown1 hgrow1 hat1;have hm1:=qqg (zU hB) (zU hO) hgrow1;have c0':=cell_of_row w1 M 0 _ _ _ hm1;have c2':=cell_of_row w1 M 2 _ _ _ hm1;simp at c0' c2';have f0':=qa3 w1 M 0 _ _ hm1;have f2':=qa3 w1 M 2 _ _ hm1)
 all_goals
  go_wp2_with fail;go_ret;refine⟨rfl,?_⟩;rw[qh7,<-List.map_append]at hown1;refine qs7 hbM (zU hB) (zU hO) (qkI w _ _) hown1 hgrow1 ?_ (fun k hk=>?_) (by rw[qcj,qcj]) rfl rfl rfl
  ·rw[qd0 (qd0 hm1 _ _) _ _];rfl
  ·rw[Below.heap_setCell _ _ _ _ hk,Below.heap_setCell _ _ _ _ hk]
theorem qsl(base M d:Nat)(lit:Bool)(s:qa)(l:qa)(far len:Int)(w:World)(hM:Mk w base M d lit s)(hd:d<=s.length)(hs:s.length<=d+512)
  (hl:l≠[]) (h0:far≠0) :
  Calls Tryz.prog 200 #[.pointer (some ⟨M,0,none⟩),.agg #[S l,I far,I len]] w fun e w'=>e=.returned (I 1)/\Below base w w'/\Keeps qcQ w w':=by
 obtain⟨hbM,A,cap,hblk,hown⟩:=hM;have hlt:M<w.heap.size:=(zE hblk).1;have c0:w.cell? ⟨M,0,none⟩=some (.slice A s.length cap):=by rw[cell_of_row w M 0 _ _ _ hblk];rfl
 have c1:w.cell? ⟨M,1,none⟩=some (.int .i64 d):=by rw[cell_of_row w M 1 _ _ _ hblk];rfl
 have c2:w.cell? ⟨M,2,none⟩=some (.bool lit):=by rw[cell_of_row w M 2 _ _ _ hblk];rfl
 have hk1:(0:Int)<=(s.length:Int)-(d:Int):=by omega
 have hk2:(s.length:Int)-(d:Int)<=512:=by omega
 have hbH:base<=w.heap.size:=by omega
 have hl1:l.isEmpty=false:=by simpa using hl
 have hl2:(l == [])=false:=by simpa using hl
 clear hl;have h1:(far == 0)=false:=zB.2 h0;have h2:(far != 0)=true:=by rw[bne_iff_ne];exact h0
 clear h0;clear hblk hown;go_enter Tryz.func200,Tryz.ntmps200;go_wp2_with fail;go_quiet (fail);go_wp2_with fail;go_ret
 first|exact⟨rfl,zD ((Below.refl _ _).alloc hbH _) _,((Keeps.refl _ _).alloc _).drewN _⟩|exact⟨rfl,zD (zD ((Below.refl _ _).alloc hbH _) _) _,(((Keeps.refl _ _).alloc _).drewN _).drewN _⟩
theorem qsk(base M d:Nat)(lit:Bool)(s:qa)(l:qa)(far len:Int)(w:World)(hM:Mk w base M d lit s)(hd:d<=s.length)(hs:s.length<=d+512)
  (hl:l≠[]) (h0:far=0) (h9:len≠0) :
  Calls Tryz.prog 200 #[.pointer (some ⟨M,0,none⟩),.agg #[S l,I far,I len]] w fun e w'=>e=.returned (I 1)/\Below base w w'/\Keeps qcQ w w':=by
 obtain⟨hbM,A,cap,hblk,hown⟩:=hM;have hlt:M<w.heap.size:=(zE hblk).1;have c0:w.cell? ⟨M,0,none⟩=some (.slice A s.length cap):=by rw[cell_of_row w M 0 _ _ _ hblk];rfl
 have c1:w.cell? ⟨M,1,none⟩=some (.int .i64 d):=by rw[cell_of_row w M 1 _ _ _ hblk];rfl
 have c2:w.cell? ⟨M,2,none⟩=some (.bool lit):=by rw[cell_of_row w M 2 _ _ _ hblk];rfl
 have hk1:(0:Int)<=(s.length:Int)-(d:Int):=by omega
 have hk2:(s.length:Int)-(d:Int)<=512:=by omega
 have hbH:base<=w.heap.size:=by omega
 have hl1:l.isEmpty=false:=by simpa using hl
 have hl2:(l == [])=false:=by simpa using hl
 clear hl;subst h0;have h1:(len == 0)=false:=zB.2 h9;have h2:(len != 0)=true:=by rw[bne_iff_ne];exact h9
 clear h9;clear hblk hown;go_enter Tryz.func200,Tryz.ntmps200;go_wp2_with fail;go_quiet (fail);go_wp2_with fail;go_ret
 first|exact⟨rfl,zD ((Below.refl _ _).alloc hbH _) _,((Keeps.refl _ _).alloc _).drewN _⟩|exact⟨rfl,zD (zD ((Below.refl _ _).alloc hbH _) _) _,(((Keeps.refl _ _).alloc _).drewN _).drewN _⟩
theorem qsj(base M d:Nat)(lit:Bool)(s:qa)(l:qa)(far len:Int)(w:World)(hM:Mk w base M d lit s)(hd:d<=s.length)(hs:s.length<=d+512)
  (hl:l≠[]) (h0:far=0) (h9:len=0) (h8:lit=true) :
  Calls Tryz.prog 200 #[.pointer (some ⟨M,0,none⟩),.agg #[S l,I far,I len]] w fun e w'=>e=.returned (I 1)/\Below base w w'/\Keeps qcQ w w':=by
 obtain⟨hbM,A,cap,hblk,hown⟩:=hM;have hlt:M<w.heap.size:=(zE hblk).1;have c0:w.cell? ⟨M,0,none⟩=some (.slice A s.length cap):=by rw[cell_of_row w M 0 _ _ _ hblk];rfl
 have c1:w.cell? ⟨M,1,none⟩=some (.int .i64 d):=by rw[cell_of_row w M 1 _ _ _ hblk];rfl
 have c2:w.cell? ⟨M,2,none⟩=some (.bool lit):=by rw[cell_of_row w M 2 _ _ _ hblk];rfl
 have hk1:(0:Int)<=(s.length:Int)-(d:Int):=by omega
 have hk2:(s.length:Int)-(d:Int)<=512:=by omega
 have hbH:base<=w.heap.size:=by omega
 have hl1:l.isEmpty=false:=by simpa using hl
 have hl2:(l == [])=false:=by simpa using hl
 clear hl;subst h0 h9 h8;clear hblk hown;go_enter Tryz.func200,Tryz.ntmps200;go_wp2_with fail;go_quiet (fail);go_wp2_with fail;go_ret
 first|exact⟨rfl,zD ((Below.refl _ _).alloc hbH _) _,((Keeps.refl _ _).alloc _).drewN _⟩|exact⟨rfl,zD (zD ((Below.refl _ _).alloc hbH _) _) _,(((Keeps.refl _ _).alloc _).drewN _).drewN _⟩
theorem qtR(base M d:Nat)(lit:Bool)(s:qa)(l:qa)(far len:Int)(w:World)(hM:Mk w base M d lit s)(hd:d<=s.length)(hs:s.length<=d+512)
  (hl:l≠[]) (h0:far=0) (h9:len=0) (h8:lit=false) (hr:512<l.length+(s.length-d)) :
  Calls Tryz.prog 200 #[.pointer (some ⟨M,0,none⟩),.agg #[S l,I far,I len]] w fun e w'=>e=.returned (I 2)/\Below base w w'/\Keeps qcQ w w':=by
 obtain⟨hbM,A,cap,hblk,hown⟩:=hM;have hlt:M<w.heap.size:=(zE hblk).1;have c0:w.cell? ⟨M,0,none⟩=some (.slice A s.length cap):=by rw[cell_of_row w M 0 _ _ _ hblk];rfl
 have c1:w.cell? ⟨M,1,none⟩=some (.int .i64 d):=by rw[cell_of_row w M 1 _ _ _ hblk];rfl
 have c2:w.cell? ⟨M,2,none⟩=some (.bool lit):=by rw[cell_of_row w M 2 _ _ _ hblk];rfl
 have hk1:(0:Int)<=(s.length:Int)-(d:Int):=by omega
 have hk2:(s.length:Int)-(d:Int)<=512:=by omega
 have hbH:base<=w.heap.size:=by omega
 have hl1:l.isEmpty=false:=by simpa using hl
 have hl2:(l == [])=false:=by simpa using hl
 clear hl;subst h0 h9 h8;have hk3:512-((s.length:Int)-(d:Int))<(l.length:Int):=by omega
 clear hblk hown;go_enter Tryz.func200,Tryz.ntmps200;go_wp2_with fail;go_quiet (fail);go_wp2_with fail;go_ret
 first|exact⟨rfl,zD ((Below.refl _ _).alloc hbH _) _,((Keeps.refl _ _).alloc _).drewN _⟩|exact⟨rfl,zD (zD ((Below.refl _ _).alloc hbH _) _) _,(((Keeps.refl _ _).alloc _).drewN _).drewN _⟩
theorem qsq(base M d:Nat)(lit:Bool)(s:qa)(l:qa)(far len:Int)(w:World)(hM:Mk w base M d lit s)(hd:d<=s.length)(hs:s.length<=d+512)
  (hl:l=[]) (h0:len<3) :
  Calls Tryz.prog 200 #[.pointer (some ⟨M,0,none⟩),.agg #[S l,I far,I len]] w fun e w'=>e=.returned (I 1)/\Below base w w'/\Keeps qcQ w w':=by
 obtain⟨hbM,A,cap,hblk,hown⟩:=hM;have hlt:M<w.heap.size:=(zE hblk).1;have c0:w.cell? ⟨M,0,none⟩=some (.slice A s.length cap):=by rw[cell_of_row w M 0 _ _ _ hblk];rfl
 have c1:w.cell? ⟨M,1,none⟩=some (.int .i64 d):=by rw[cell_of_row w M 1 _ _ _ hblk];rfl
 have c2:w.cell? ⟨M,2,none⟩=some (.bool lit):=by rw[cell_of_row w M 2 _ _ _ hblk];rfl
 have hk1:(0:Int)<=(s.length:Int)-(d:Int):=by omega
 have hk2:(s.length:Int)-(d:Int)<=512:=by omega
 have hbH:base<=w.heap.size:=by omega
 subst hl;have e1:decide (len<3)=true:=by simpa using h0
 clear hblk hown;go_enter Tryz.func200,Tryz.ntmps200;go_wp2_with fail;go_quiet (fail);go_wp2_with fail;go_quiet (fail);go_wp2_with fail;go_ret
 first|exact⟨rfl,zD ((Below.refl _ _).alloc hbH _) _,((Keeps.refl _ _).alloc _).drewN _⟩|exact⟨rfl,zD (zD ((Below.refl _ _).alloc hbH _) _) _,(((Keeps.refl _ _).alloc _).drewN _).drewN _⟩
theorem qsp(base M d:Nat)(lit:Bool)(s:qa)(l:qa)(far len:Int)(w:World)(hM:Mk w base M d lit s)(hd:d<=s.length)(hs:s.length<=d+512)
  (hl:l=[]) (h0:64<len) :
  Calls Tryz.prog 200 #[.pointer (some ⟨M,0,none⟩),.agg #[S l,I far,I len]] w fun e w'=>e=.returned (I 1)/\Below base w w'/\Keeps qcQ w w':=by
 obtain⟨hbM,A,cap,hblk,hown⟩:=hM;have hlt:M<w.heap.size:=(zE hblk).1;have c0:w.cell? ⟨M,0,none⟩=some (.slice A s.length cap):=by rw[cell_of_row w M 0 _ _ _ hblk];rfl
 have c1:w.cell? ⟨M,1,none⟩=some (.int .i64 d):=by rw[cell_of_row w M 1 _ _ _ hblk];rfl
 have c2:w.cell? ⟨M,2,none⟩=some (.bool lit):=by rw[cell_of_row w M 2 _ _ _ hblk];rfl
 have hk1:(0:Int)<=(s.length:Int)-(d:Int):=by omega
 have hk2:(s.length:Int)-(d:Int)<=512:=by omega
 have hbH:base<=w.heap.size:=by omega
 subst hl;have e1:decide (len<3)=false:=by simp;omega
 have e2:decide (64<len)=true:=by simpa using h0
 clear hblk hown;go_enter Tryz.func200,Tryz.ntmps200;go_wp2_with fail;go_quiet (fail);go_wp2_with fail;go_quiet (fail);go_wp2_with fail;go_ret
 first|exact⟨rfl,zD ((Below.refl _ _).alloc hbH _) _,((Keeps.refl _ _).alloc _).drewN _⟩|exact⟨rfl,zD (zD ((Below.refl _ _).alloc hbH _) _) _,(((Keeps.refl _ _).alloc _).drewN _).drewN _⟩
theorem qso(base M d:Nat)(lit:Bool)(s:qa)(l:qa)(far len:Int)(w:World)(hM:Mk w base M d lit s)(hd:d<=s.length)(hs:s.length<=d+512)
  (hl:l=[]) (h0:3<=len) (h1:len<=64) (h2:far<1) :
  Calls Tryz.prog 200 #[.pointer (some ⟨M,0,none⟩),.agg #[S l,I far,I len]] w fun e w'=>e=.returned (I 1)/\Below base w w'/\Keeps qcQ w w':=by
 obtain⟨hbM,A,cap,hblk,hown⟩:=hM;have hlt:M<w.heap.size:=(zE hblk).1;have c0:w.cell? ⟨M,0,none⟩=some (.slice A s.length cap):=by rw[cell_of_row w M 0 _ _ _ hblk];rfl
 have c1:w.cell? ⟨M,1,none⟩=some (.int .i64 d):=by rw[cell_of_row w M 1 _ _ _ hblk];rfl
 have c2:w.cell? ⟨M,2,none⟩=some (.bool lit):=by rw[cell_of_row w M 2 _ _ _ hblk];rfl
 have hk1:(0:Int)<=(s.length:Int)-(d:Int):=by omega
 have hk2:(s.length:Int)-(d:Int)<=512:=by omega
 have hbH:base<=w.heap.size:=by omega
 subst hl;have e1:decide (len<3)=false:=by simp;omega
 have e2:decide (64<len)=false:=by simp;omega
 have e3:decide (far<1)=true:=by simpa using h2
 clear hblk hown;go_enter Tryz.func200,Tryz.ntmps200;go_wp2_with fail;go_quiet (fail);go_wp2_with fail;go_quiet (fail);go_wp2_with fail;go_ret
 first|exact⟨rfl,zD ((Below.refl _ _).alloc hbH _) _,((Keeps.refl _ _).alloc _).drewN _⟩|exact⟨rfl,zD (zD ((Below.refl _ _).alloc hbH _) _) _,(((Keeps.refl _ _).alloc _).drewN _).drewN _⟩
theorem qsn(base M d:Nat)(lit:Bool)(s:qa)(l:qa)(far len:Int)(w:World)(hM:Mk w base M d lit s)(hd:d<=s.length)(hs:s.length<=d+512)
  (hl:l=[]) (h0:3<=len) (h1:len<=64) (h2:1<=far) (h3:(s.length:Int)<far) :
  Calls Tryz.prog 200 #[.pointer (some ⟨M,0,none⟩),.agg #[S l,I far,I len]] w fun e w'=>e=.returned (I 1)/\Below base w w'/\Keeps qcQ w w':=by
 obtain⟨hbM,A,cap,hblk,hown⟩:=hM;have hlt:M<w.heap.size:=(zE hblk).1;have c0:w.cell? ⟨M,0,none⟩=some (.slice A s.length cap):=by rw[cell_of_row w M 0 _ _ _ hblk];rfl
 have c1:w.cell? ⟨M,1,none⟩=some (.int .i64 d):=by rw[cell_of_row w M 1 _ _ _ hblk];rfl
 have c2:w.cell? ⟨M,2,none⟩=some (.bool lit):=by rw[cell_of_row w M 2 _ _ _ hblk];rfl
 have hk1:(0:Int)<=(s.length:Int)-(d:Int):=by omega
 have hk2:(s.length:Int)-(d:Int)<=512:=by omega
 have hbH:base<=w.heap.size:=by omega
 subst hl;have e1:decide (len<3)=false:=by simp;omega
 have e2:decide (64<len)=false:=by simp;omega
 have e3:decide (far<1)=false:=by simp;omega
 have e4:decide ((s.length:Int)<far)=true:=by simpa using h3
 clear hblk hown;go_enter Tryz.func200,Tryz.ntmps200;go_wp2_with fail;go_quiet (fail);go_wp2_with fail;go_quiet (fail);go_wp2_with fail;go_ret
 first|exact⟨rfl,zD ((Below.refl _ _).alloc hbH _) _,((Keeps.refl _ _).alloc _).drewN _⟩|exact⟨rfl,zD (zD ((Below.refl _ _).alloc hbH _) _) _,(((Keeps.refl _ _).alloc _).drewN _).drewN _⟩
theorem qsm(base M d:Nat)(lit:Bool)(s:qa)(l:qa)(far len:Int)(w:World)(hM:Mk w base M d lit s)(hd:d<=s.length)(hs:s.length<=d+512)
  (hl:l=[]) (h0:3<=len) (h1:len<=64) (h2:1<=far) (h3:far<=(s.length:Int)) (hr:512<len+((s.length-d:Nat):Int)) :
  Calls Tryz.prog 200 #[.pointer (some ⟨M,0,none⟩),.agg #[S l,I far,I len]] w fun e w'=>e=.returned (I 2)/\Below base w w'/\Keeps qcQ w w':=by
 obtain⟨hbM,A,cap,hblk,hown⟩:=hM;have hlt:M<w.heap.size:=(zE hblk).1;have c0:w.cell? ⟨M,0,none⟩=some (.slice A s.length cap):=by rw[cell_of_row w M 0 _ _ _ hblk];rfl
 have c1:w.cell? ⟨M,1,none⟩=some (.int .i64 d):=by rw[cell_of_row w M 1 _ _ _ hblk];rfl
 have c2:w.cell? ⟨M,2,none⟩=some (.bool lit):=by rw[cell_of_row w M 2 _ _ _ hblk];rfl
 have hk1:(0:Int)<=(s.length:Int)-(d:Int):=by omega
 have hk2:(s.length:Int)-(d:Int)<=512:=by omega
 have hbH:base<=w.heap.size:=by omega
 subst hl;have e1:decide (len<3)=false:=by simp;omega
 have e2:decide (64<len)=false:=by simp;omega
 have e3:decide (far<1)=false:=by simp;omega
 have e4:decide ((s.length:Int)<far)=false:=by simp;omega
 have hk3:512-((s.length:Int)-(d:Int))<len:=by omega
 clear hblk hown;go_enter Tryz.func200,Tryz.ntmps200;go_wp2_with fail;go_quiet (fail);go_wp2_with fail;go_quiet (fail);go_wp2_with fail;go_ret
 first|exact⟨rfl,zD ((Below.refl _ _).alloc hbH _) _,((Keeps.refl _ _).alloc _).drewN _⟩|exact⟨rfl,zD (zD ((Below.refl _ _).alloc hbH _) _) _,(((Keeps.refl _ _).alloc _).drewN _).drewN _⟩
theorem qqM(base M d:Nat)(lit:Bool)(s:qa)(far len:Nat)(w:World)(hM:Mk w base M d lit s)(hd:d<=s.length)(hs:s.length<=d+512)(hd2:d<=256)
  (h0:3<=len) (h1:len<=64) (h2:1<=far) (h3:far<=s.length) (hr:len+(s.length-d)<=512) :
  Calls Tryz.prog 200 #[.pointer (some ⟨M,0,none⟩),.agg #[S [],I far,I len]] w fun e w'=>e=.returned (I 0)/\Mk w' base M d false (qcP len far s)/\Below base w w'/\Keeps qcQ w w':=by
 have hM0:=hM;obtain⟨hbM,A,cap,hblk,hown⟩:=hM;have hlt:M<w.heap.size:=(zE hblk).1;have c0:w.cell? ⟨M,0,none⟩=some (.slice A s.length cap):=by rw[cell_of_row w M 0 _ _ _ hblk];rfl
 have c1:w.cell? ⟨M,1,none⟩=some (.int .i64 d):=by rw[cell_of_row w M 1 _ _ _ hblk];rfl
 have hk1:(0:Int)<=(s.length:Int)-(d:Int):=by omega
 have hk2:(s.length:Int)-(d:Int)<=512:=by omega
 have hbH:base<=w.heap.size:=by omega
 have e1:decide ((len:Int)<3)=false:=by simp;omega
 have e2:decide (64<(len:Int))=false:=by simp;omega
 have e3:decide ((far:Int)<1)=false:=by simp;omega
 have e4:decide ((s.length:Int)<(far:Int))=false:=by simp;omega
 have e5:decide (s.length<far)=false:=by simp;omega
 have hk3:(len:Int)<=512-((s.length:Int)-(d:Int)):=by omega
 have HM:=zH hM0;obtain⟨i0,hi0,hz0,hz1,hz2⟩:=info_parts qdn;clear hblk hown hM0;go_enter Tryz.func200,Tryz.ntmps200;go_wp2_with fail;go_quiet (fail);go_wp2_with fail;go_quiet (fail);go_wp2_with fail;clear e1 e2 e3 e4 e5 c0 c1
 go_loopw [82] (fun i wr=>∃k:Nat,k<=len/\i=.int .i64 k/\Mk wr base M d lit (qcP k far s)/\Below base w wr/\Keeps qcQ w wr/\wr.heap[w.heap.size]?=some (.cells #[S [],I far,I len] 186 (0,0)))
  (fun i _=>len-(intOf i).toNat)
 case atStart =>
  refine⟨0,by omega,rfl,?_,?_,?_,?_⟩
  ·obtain⟨a1,A,cap,a2,a3⟩:=zU HM;exact⟨a1,A,cap,(Below.heap_alloc w _ M hlt).trans a2,(a3.alloc _)⟩
  ·exact zD ((Below.refl _ _).alloc hbH _) _
  ·exact ((Keeps.refl _ _).alloc _).drewN _
  ·exact heap_alloc_new w _
 case round =>
  obtain⟨k,hk,rfl,hMk,hbel,hkeep,hpar⟩:=hrel;have hlen:=qeK k far s;obtain⟨s',hs'⟩:∃s',s'=qcP k far s:=⟨_,rfl⟩
  rw[<-hs']at hlen hMk;have hMk':=hMk;obtain⟨_,A1,cap1,hblk1,hown1⟩:=hMk;have hMlt1:M<wr.heap.size:=(zE hblk1).1;have c0:wr.cell? ⟨M,0,none⟩=some (.slice A1 s'.length cap1):=by rw[cell_of_row wr M 0 _ _ _ hblk1];rfl
  have c2:wr.cell? ⟨M,2,none⟩=some (.bool lit):=by rw[cell_of_row wr M 2 _ _ _ hblk1];rfl
  have p1:wr.cell? ⟨w.heap.size,1,none⟩=some (I far):=by rw[cell_of_row wr _ 1 _ _ _ hpar];rfl
  have p2:wr.cell? ⟨w.heap.size,2,none⟩=some (I len):=by rw[cell_of_row wr _ 2 _ _ _ hpar];rfl
  have f0:wr.frozen? ⟨M,0,none⟩=false:=by simp[World.frozen?,hblk1]
  have f2:wr.frozen? ⟨M,2,none⟩=false:=by simp[World.frozen?,hblk1]
  have hln:(s'.length:Int)=(s.length:Int)+k:=by omega
  have HL:=zH hln;have hb3:s'.length<=832:=by omega
  by_cases hlk:k<len
  ·obtain⟨j,hj⟩:∃j:Nat,j=s'.length-far:=⟨_,rfl⟩
   have hjlt:j<s'.length:=by omega
   have hj2:((s'.length:Int)-(far:Int)).toNat=j:=by omega
   have hj3:(0:Int)<=(s'.length:Int)-(far:Int):=by omega
   have hj4:(s'.length:Int)-(far:Int)<(s'.length:Int):=by omega
   obtain⟨g,capg,u,hv,hbg,hu,hcell⟩:=hown1.at_ (k:=j) (by omega);injection hv with hvA _ hvc
   subst hvA hvc;obtain⟨c,hc⟩:∃c,s'[j]?=some c:=⟨_,zG hjlt⟩
   have huc:u=B c:=by
    rw[List.getElem?_map,hc]at hu;simpa using hu.symm
   subst huc;have HS:=zH hs';have HJ:=zH hj;have HC:=zH hc;have HB:=zH hblk1;have HO:=zH hown1;have HP:=zH hpar;clear hlen hs' hj hu hblk1 hown1 hpar hln hc;go_wp2_with fail;go_quiet (fail);go_wp2_with (at_builtin;refine qni rfl _ _ _ rfl base 5 i0 _ 1 Tryz.underlying37 hi0 hz0 hz1 hz2 rfl _ s'.length (s'.map B) rfl _ _ (by exact (zU HO).drewN _) rfl rfl (by unfold maxLen;omega) (by omega) (by show base<=wr.heap.size;omega) ?_;intro g1 cap2 w1 hown1 hg1 hat1;have hm1:=qut (zU HB) (zU HO) (qfR wr _ _) hg1;have c0':=cell_of_row w1 M 0 _ _ _ hm1;simp at c0';have f0':=qa3 w1 M 0 _ _ hm1);have hend:=qs7 (w2:=w1.setCell ⟨M,0,none⟩ (.slice (some ⟨g1,0,none⟩) (s'.length+1) cap2)) (s1:=s'++[c]) hbM (zU HB) (zU HO) (qfR wr _ _) (by simpa using hown1) hg1 (by rw[qd0 hm1];rfl) (fun k hk=>Below.heap_setCell _ _ _ _ hk) (qcj _ _ _) rfl rfl rfl;obtain⟨n1,n2,n3⟩:=hend;clear hown1 hg1 hat1 hm1 c0' f0';go_roundw
   case rel =>
    refine⟨k+1,by omega,by go_num,?_,hbel.trans n2,hkeep.trans n3,n3.block _ _ (zU HP) rfl⟩;rw[qf3,<-zU HS,<-zU HJ];have:s'.getD j 0=c:=by rw[List.getD_eq_getElem?_getD,zU HC];rfl
    rw[this];exact n1
   case measure=>simp[intOf];omega
  ·have hkl:k=len:=by omega
   have HS:=zH hs';have HB:=zH hblk1;have HO:=zH hown1;have HK:=zH hkl;clear hlen hs' hblk1 hown1 hpar hln hkl;go_wp2_with fail;go_ret;rw[<-zU HK,<-zU HS];refine⟨rfl,⟨hbM,A1,cap1,(qd0 (zU HB) _ _),(zU HO).setCell (qiK (zU HB) (zU HO)) _⟩,hbel.trans ?_,hkeep.trans ((Keeps.refl _ _).setCell _ (zU HB) rfl)⟩;exact (Below.refl _ _).setCell hbM _
end
section
open Go.RowKit Go.Lib Pl
theorem qlX(base M d:Nat)(lit:Bool)(s:qa)(t:Tok)(w:World)(hM:Mk w base M d lit s)(hd:d<=s.length)(hs:s.length<=d+512)(hd2:d<=256) :
  Calls Tryz.prog 200 #[.pointer (some ⟨M,0,none⟩),qwK t] w fun e w' =>
   e=.returned (I (qw d s lit t))/\(qw d s lit t=0->Mk w' base M d (qcO t) (qbj s t))/\Below base w w'/\Keeps qcQ w w':=by
 obtain⟨l,far,len⟩:=t;have noz:∀(n:Nat) (P:Prop),n≠0->(n=0->P):=fun n P h h2=>absurd h2 h
 by_cases hl:l=[]
 ·subst hl
  by_cases h1:len<3
  ·have e:qw d s lit ⟨[],far,len⟩=1:=by simp[qw,h1]
   rw[e];exact (qsq base M d lit s [] far len w hM hd hs rfl h1).mono fun _ _ ⟨a,b⟩=>⟨a,noz _ _ (by omega),b⟩
  by_cases h2:64<len
  ·have e:qw d s lit ⟨[],far,len⟩=1:=by simp[qw,h2]
   rw[e];exact (qsp base M d lit s [] far len w hM hd hs rfl h2).mono fun _ _ ⟨a,b⟩=>⟨a,noz _ _ (by omega),b⟩
  by_cases h3:far<1
  ·have e:qw d s lit ⟨[],far,len⟩=1:=by simp[qw,h3]
   rw[e];exact (qso base M d lit s [] far len w hM hd hs rfl (by omega) (by omega) h3).mono fun _ _ ⟨a,b⟩=>⟨a,noz _ _ (by omega),b⟩
  by_cases h4:(s.length:Int)<far
  ·have e:qw d s lit ⟨[],far,len⟩=1:=by simp[qw,h4]
   rw[e];exact (qsn base M d lit s [] far len w hM hd hs rfl (by omega) (by omega) (by omega) h4).mono fun _ _ ⟨a,b⟩=>⟨a,noz _ _ (by omega),b⟩
  have hbad:¬(len<3\/64<len\/far<1\/(s.length:Int)<far):=by omega
  by_cases h5:512<len+((s.length-d:Nat):Int)
  ·have e:qw d s lit ⟨[],far,len⟩=2:=by
    unfold qw;rw[if_neg (by simp),if_neg hbad,if_pos h5]
   rw[e];exact (qsm base M d lit s [] far len w hM hd hs rfl (by omega) (by omega) (by omega) (by omega) h5).mono fun _ _ ⟨a,b⟩=>⟨a,noz _ _ (by omega),b⟩
  ·have e:qw d s lit ⟨[],far,len⟩=0:=by
    unfold qw;rw[if_neg (by simp),if_neg hbad,if_neg h5]
   obtain⟨f',rfl⟩:=Int.eq_ofNat_of_zero_le (show 0<=far by omega);obtain⟨n',rfl⟩:=Int.eq_ofNat_of_zero_le (show 0<=len by omega);rw[e];refine (qqM base M d lit s f' n' w hM hd hs hd2 (by omega) (by omega) (by omega) (by omega) (by omega)).mono fun _ _ ⟨a,b,c⟩=>⟨a,fun _=>?_,c⟩
   simpa[qcO,qbj]using b
 ·by_cases h1:far=0
  ·by_cases h2:len=0
   ·by_cases h3:lit=true
    ·have e:qw d s lit ⟨l,far,len⟩=1:=by simp[qw,hl,h3]
     rw[e];exact (qsj base M d lit s l far len w hM hd hs hl h1 h2 h3).mono fun _ _ ⟨a,b⟩=>⟨a,noz _ _ (by omega),b⟩
    ·have h3:lit=false:=by simpa using h3
     by_cases h4:512<l.length+(s.length-d)
     ·have e:qw d s lit ⟨l,far,len⟩=2:=by simp[qw,hl,h1,h2,h3,h4]
      rw[e];exact (qtR base M d lit s l far len w hM hd hs hl h1 h2 h3 h4).mono fun _ _ ⟨a,b⟩=>⟨a,noz _ _ (by omega),b⟩
     ·have e:qw d s lit ⟨l,far,len⟩=0:=by simp[qw,hl,h1,h2,h3];omega
      rw[e];refine (qsi base M d lit s l far len w hM hd hs hd2 hl ⟨h1,h2,h3⟩ (by omega)).mono fun _ _ ⟨a,b,c⟩=>⟨a,fun _=>?_,c⟩
      have e1:l.isEmpty=false:=by simpa using hl
      simpa[qcO,qbj,hl,e1]using b
   ·have e:qw d s lit ⟨l,far,len⟩=1:=by simp[qw,hl,h2]
    rw[e];exact (qsk base M d lit s l far len w hM hd hs hl h1 h2).mono fun _ _ ⟨a,b⟩=>⟨a,noz _ _ (by omega),b⟩
  ·have e:qw d s lit ⟨l,far,len⟩=1:=by simp[qw,hl,h1]
   rw[e];exact (qsl base M d lit s l far len w hM hd hs hl h1).mono fun _ _ ⟨a,b⟩=>⟨a,noz _ _ (by omega),b⟩
theorem qtS{d:Nat}{s:qa}{lit:Bool}{t:Tok}(h:qw d s lit t=0)(hs:s.length<=d+512)(hd:d<=s.length):d<=(qbj s t).length/\(qbj s t).length<=d+512/\s.length<(qbj s t).length:=by
 obtain⟨l,far,len⟩:=t;unfold qw at h;unfold qbj
 by_cases hl:l=[]
 ·subst hl;simp only[ne_eq,not_true_eq_false,if_false]at h ⊢;rw[qeK]
  by_cases h1:len<3\/64<len\/far<1\/(s.length:Int)<far
  ·rw[if_pos h1]at h;cases h
  ·rw[if_neg h1]at h
   by_cases h2:512<len+((s.length-d:Nat):Int)
   ·rw[if_pos h2]at h;cases h
   ·omega
 ·have hlp:0<l.length:=List.length_pos_iff.2 hl;simp only[ne_eq,hl,not_false_eq_true,if_true]at h ⊢;rw[zL]
  by_cases h1:far≠0\/len≠0\/lit=true
  ·rw[if_pos h1]at h;cases h
  ·rw[if_neg h1]at h
   by_cases h2:512<l.length+(s.length-d)
   ·rw[if_pos h2]at h;cases h
   ·omega
def ToksAt(w:World)(Bd:Nat)(A:Option Addr)(n:Nat)(l:List Tok):Prop :=
 l.length=n/\(0<n->∃b off,A=some ⟨b,off,none⟩/\b<Bd/\∀i t,l[i]?=some t ->
  w.cell? ⟨b,off+i*3,none⟩=some (S t.lit)/\w.cell? ⟨b,off+i*3+1,none⟩=some (I t.far)/\w.cell? ⟨b,off+i*3+2,none⟩=some (I t.len))
theorem ToksAt.keep{w w':World}{Bd n:Nat}{A:Option Addr}{l:List Tok}(h:ToksAt w Bd A n l)(hk:∀p:Addr,p.block<Bd->w'.cell? p=w.cell? p):ToksAt w' Bd A n l :=
 ⟨h.1,fun hn=>by
  obtain⟨b,off,e,hb,hc⟩:=h.2 hn;refine⟨b,off,e,hb,fun i t hi=>?_⟩;obtain⟨h1,h2,h3⟩:=hc i t hi;exact⟨(hk _ hb).trans h1,(hk _ hb).trans h2,(hk _ hb).trans h3⟩⟩
theorem ToksAt.below{w w':World}{Bd n:Nat}{A:Option Addr}{l:List Tok}(h:ToksAt w Bd A n l)(hb:Below Bd w w'):ToksAt w' Bd A n l:=h.keep fun _ hp=>hb.cell hp
theorem ToksAt.at_{w:World}{Bd n k:Nat}{A:Option Addr}{l:List Tok}(h:ToksAt w Bd A n l)(hk:k<n):∃b off t,A=some ⟨b,off,none⟩/\b<Bd/\l[k]?=some t /\
  w.cell? ⟨b,off+k*3,none⟩=some (S t.lit)/\w.cell? ⟨b,off+k*3+1,none⟩=some (I t.far)/\w.cell? ⟨b,off+k*3+2,none⟩=some (I t.len):=by
 obtain⟨b,off,e,hb,hc⟩:=h.2 (by omega);have hl:k<l.length:=by have:=h.1;omega
 exact⟨b,off,l[k],e,hb,zG hl,hc k _ (zG hl)⟩
def qfi(t:Tok):List Value:=[S t.lit,I t.far,I t.len]
def qD(l:List Tok):List Value:=l.flatMap qfi
theorem qfK(l:List Tok):(qD l).length=l.length*3:=by
 induction l with
 | nil=>rfl
 | cons t l ih=>simp[qD,qfi]at ih ⊢;omega
theorem qg3(l:List Tok)(t:Tok):qD (l++[t])=qD l++qfi t:=by simp[qD]
theorem qh1:∀(l:List Tok) (i:Nat) (t:Tok),l[i]?=some t->(qD l)[i*3]?=some (S t.lit)/\(qD l)[i*3+1]?=some (I t.far)/\(qD l)[i*3+2]?=some (I t.len)
 | [],i,t,h=>by simp at h
 | u::l,0,t,h=>by simp at h;subst h;simp[qD,qfi]
 | u::l,i+1,t,h=>by
  have h':l[i]?=some t:=by simpa using h
  obtain⟨a,b,c⟩:=qh1 l i t h';have e:qD (u::l)=qfi u++qD l:=by simp[qD]
  have hl:(qfi u).length=3:=rfl;rw[e];refine⟨?_,?_,?_⟩
  ·rw[List.getElem?_append_right (by omega),hl,show (i+1)*3-3=i*3 from by omega];exact a
  ·rw[List.getElem?_append_right (by omega),hl,show (i+1)*3+1-3=i*3+1 from by omega];exact b
  ·rw[List.getElem?_append_right (by omega),hl,show (i+1)*3+2-3=i*3+2 from by omega];exact c
theorem qoR:(Tryz.prog.info? 186).map (fun i=>(i.zero,i.size,i.bytes))=some (some (.agg #[.string ByteArray.empty,.int .i64 0,.int .i64 0]),3,32):=by kernel_rfl
theorem qcr{w:World}{base n:Nat}{v:Value}{l:List Tok}(h:w.ownsRow base 186 3 v n (qD l)):∃A cap,v=.slice A n cap/\ToksAt w w.heap.size A n l/\l.length=n:=by
 have hn:l.length=n:=by have:=h.1;rw[qfK]at this;omega
 rcases h.2 with⟨rfl,h0⟩|⟨g,cap,cur,rfl,hb,hg,_⟩
 ·subst h0;exact⟨_,_,rfl,⟨hn,fun h=>absurd h (by omega)⟩,hn⟩
 ·refine⟨_,_,rfl,⟨hn,fun _=>⟨g,0,rfl,(zE hg).1,fun i t hi=>?_⟩⟩,hn⟩;obtain⟨a,b,c⟩:=qh1 l i t hi;have hc:=h.cells (g:=g) rfl;have e:∀j,(⟨g,0,none⟩:Addr).add j=⟨g,0+j,none⟩:=fun j=>by unfold Addr.add;split <;> simp_all
  have h0:=hc _ _ a;have h1:=hc _ _ b;have h2:=hc _ _ c;rw[e]at h0 h1 h2;exact⟨h0,by rw[<-h1,Nat.add_assoc],by rw[<-h2,Nat.add_assoc]⟩
theorem qeG{w:World}{base e size n:Nat}{v:Value}{xs:List Value}(h:w.ownsRow base e size v n xs):∃A cap,v=.slice A n cap:=by
 rcases h.2 with⟨rfl,rfl⟩|⟨g,cap,cur,rfl,_⟩
 ·exact⟨_,_,rfl⟩
 ·exact⟨_,_,rfl⟩
theorem qlK(w:World)(x y z:Value)(t:TypeId):∀j u,[x,y,z][j]?=some u->(w.alloc (.cells #[x,y,z] t)).cell? ((⟨w.heap.size,0,none⟩:Addr).add j)=some u:=by
 intro j u hj;have e:(⟨w.heap.size,0,none⟩:Addr).add j=⟨w.heap.size,j,none⟩:=by unfold Addr.add;split <;> simp_all
 rw[e,World.cell?_alloc_new];simpa using hj
theorem qbW{w:World}{ops:Array Oper}{rest:List Oper}{o:Oper}{a:Act}{Q:Exit->Act->World->Prop}(hgd:o.guard=none)(s x:Operand)
  (ho:o.op=.call { callee:=.builtin .append,args:=#[s,x],argTypes:=#[151,151] })
  (base:Nat) (v:Value) (n:Nat) (l:List Tok) (hs:a.eval s=v) (hown:w.ownsRow base 186 3 v n (qD l)) (b:qa) (f m:Int)
  (hx:a.eval x=.slice (some ⟨w.heap.size,0,none⟩) 1 1)
  (hn:n<=1000000) (hbase:base<=w.heap.size)
  (h:∀A' cap' w',w'.ownsRow base 186 3 (.slice A' (n+1) cap') (n+1) (qD (l++[⟨b,f,m⟩]))->Below base w w'->(w.alloc (.cells #[S b,I f,I m] 186)).grownBy w' v.ownBlock->wpList Tryz.prog ops Q rest (a.put o.dst (.slice A' (n+1) cap')) w') :
  wpList Tryz.prog ops Q (o::rest) a (w.alloc (.cells #[S b,I f,I m] 186)):=by
 obtain⟨i0,hi,hz0,hz1,hz2⟩:=info_parts qoR;refine wpList_append_own _ hgd s x _ ho base 186 i0 _ 3 32 Tryz.underlying151 hi hz0 hz1 hz2 rfl (by decide) v n (qD l) hs (hown.alloc _) ⟨w.heap.size,0,none⟩ 1 1 [S b,I f,I m] hx rfl (qlK _ _ _ _ _) ?_ (by unfold maxLen;omega) (by omega) (by simp;omega) ?_
 ·intro y hy;simp at hy
  rcases hy with rfl|rfl|rfl <;> rfl
 ·intro v' w' hown' hg _
  have hown2:w'.ownsRow base 186 3 v' (n+1) (qD (l++[⟨b,f,m⟩])):=by
   rw[qg3];exact hown'
  obtain⟨A',cap',rfl,_⟩:=qcr hown2;refine h A' cap' w' hown2 ?_ hg;exact ((Below.refl _ _).alloc hbase _).grown hg (by simp;omega) (fun k hk=>(hown.lt k hk).1)
theorem qbl{w:World}{ops:Array Oper}{rest:List Oper}{o:Oper}{a:Act}{Q:Exit->Act->World->Prop}(hgd:o.guard=none)(s x:Operand)
  (ho:o.op=.call { callee:=.builtin .append,args:=#[s,x],argTypes:=#[151,151] })
  (base:Nat) (v:Value) (n:Nat) (l:List Tok) (hs:a.eval s=v) (hown:w.ownsRow base 186 3 v n (qD l)) (b:qa) (f m:Int)
  (H:Nat) (hH:w.heap.size=H) (hx:a.eval x=.slice (some ⟨H,0,none⟩) 1 1)
  (hn:n<=1000000) (hbase:base<=w.heap.size)
  (h:∀A' cap' w',w'.ownsRow base 186 3 (.slice A' (n+1) cap') (n+1) (qD (l++[⟨b,f,m⟩]))->Below base w w'->(w.alloc (.cells #[S b,I f,I m] 186)).grownBy w' v.ownBlock->wpList Tryz.prog ops Q rest (a.put o.dst (.slice A' (n+1) cap')) w') :
  wpList Tryz.prog ops Q (o::rest) a (w.alloc (.cells #[S b,I f,I m] 186)):=by
 subst hH;exact qbW hgd s x ho base v n l hs hown b f m hx hn hbase h
def has(t:Tr)(i:Nat):Bool:=decide (i∈t.2)
def qO(t:Tr):List Value:=[.bool (has t 0),.bool (has t 1),.bool (has t 2),.bool (has t 3),.bool (has t 4),.bool (has t 5),.bool (has t 6),.bool (has t 7),.bool (has t 8),.bool (has t 9),.bool (has t 10),.bool (has t 11),.bool (has t 12),.bool (has t 13),.bool (has t 14),.bool (has t 15),I t.1]
abbrev VR(t:Tr):Value:=.agg (qO t).toArray
theorem qcK(t:Tr):(qO t).length=17:=rfl
theorem qfo(t:Tr){j:Nat}(h:j<16):(qO t)[j]?=some (.bool (has t j)):=by
 match j,h with
 | 0,_=>rfl | 1,_=>rfl | 2,_=>rfl | 3,_=>rfl | 4,_=>rfl | 5,_=>rfl | 6,_=>rfl | 7,_=>rfl
 | 8,_=>rfl | 9,_=>rfl | 10,_=>rfl | 11,_=>rfl | 12,_=>rfl | 13,_=>rfl | 14,_=>rfl | 15,_=>rfl
 | n+16,h=>exact absurd h (by omega)
theorem qlw(t:Tr):(qO t)[16]?=some (I t.1):=rfl
theorem qwf{t:Tr}(h:VT t):has t (hd t)=true:=by unfold has;simpa using qgu h
theorem qwe{t:Tr}(h:VT t){j:Nat}(hj:j<hd t):has t j=false:=by
 unfold has;rw[decide_eq_false_iff_not];intro hm;have h2:=h.asc;unfold hd at hj;cases e:t.2 with
 | nil=>rw[e]at hm;simp at hm
 | cons x l =>
  rw[e]at hm hj h2;have h3:=List.pairwise_cons.1 h2;simp at hj
  rcases List.mem_cons.1 hm with rfl|hm
  ·omega
  ·have:=h3.1 j hm;omega
theorem qfP(t:Tr)(w:World)(hv:VT t) :
  Calls Tryz.prog 227 #[VR t] w fun e w'=>e=.returned (I (hd t))/\w'=w.alloc (.cells (qO t).toArray 256):=by
 have hg:=heap_alloc_new w (.cells (qO t).toArray 256);have h16:=hv.lt _ (qgu hv);have HH:=zH (qwf hv);have HL:=zH (fun j=>@qwe t hv j);obtain⟨d,hd'⟩:∃d,d=hd t:=⟨_,rfl⟩
 rw[<-hd']at h16 HH HL ⊢;obtain⟨w0,hw0⟩:∃w0,w0=w.alloc (.cells (qO t).toArray 256):=⟨_,rfl⟩
 obtain⟨cs,hcs⟩:∃cs,cs=(qO t).toArray:=⟨_,rfl⟩
 rw[<-hw0]at hg ⊢;have HG:=zH hg;have HW:=zH hw0;have HC:=zH hcs;rw[<-hcs]at hw0;show Calls Tryz.prog 227 #[.agg (qO t).toArray] w _;rw[<-hcs];clear hd' hv hg hcs;go_enter Tryz.func227,Tryz.ntmps227;go_wp2_with fail;rw[<-hw0];clear hw0;go_loop [3] (fun i=>∃k:Nat,k<=d/\i=.int .i64 k) (fun i=>16-(intOf i).toNat)
 case atStart=>exact⟨0,by omega,rfl⟩
 case round =>
  obtain⟨k,hk,rfl⟩:=hrel
  have hc:w0.cell? ⟨w.heap.size,k,none⟩=some (.bool (has t k)):=by
   rw[cell_of_row _ _ _ _ _ _ (zU HG),List.getElem?_toArray];exact qfo t (by omega)
  have d1:decide ((k:Int)<16)=true:=by rw[decide_eq_true_eq];omega
  by_cases hkd:k=d
  ·rw[hkd,zU HH,<-hkd]at hc;have HKD:=zH hkd;clear hkd;go_wp2_with fail;go_ret;rw[<-zU HKD];exact⟨rfl,rfl⟩
  ·rw[zU HL k (by omega)]at hc;have hk2:k+1<=d:=by omega
   clear hkd;go_wp2_with fail;go_round
   case rel=>exact⟨k+1,hk2,by go_num⟩
   case measure=>simp[intOf];omega
theorem quI{a b:Tr}(h:a.1≠b.1):qcA a b=decide (a.1<b.1):=by
 have:=qaz a b;cases hk:qcA a b with
 | true =>
  have h2:=this.1 hk
  symm;rw[decide_eq_true_eq];omega
 | false =>
  symm;rw[decide_eq_false_iff_not]
  intro h3;have:=this.2 (.inl (by omega));rw[hk]at this;cases this
theorem quK{a b:Tr}(h:a.1=b.1):qcA a b=decide (hd a<hd b):=by
 have:=qaz a b;cases hk:qcA a b with
 | true =>
  have h2:=this.1 hk
  symm;rw[decide_eq_true_eq];omega
 | false =>
  symm;rw[decide_eq_false_iff_not]
  intro h3;have:=this.2 (.inr ⟨h,by omega⟩);rw[hk]at this;cases this
def CR(w:World)(g:Nat)(t:Tr):Prop:=∀j v,(qO t)[j]?=some v->w.cell? ⟨g,j,none⟩=some v
abbrev qfO(p:Nat->Bool)(m:Nat):Array Value:=#[.bool (p 0),.bool (p 1),.bool (p 2),.bool (p 3),.bool (p 4),.bool (p 5),.bool (p 6),.bool (p 7),.bool (p 8),.bool (p 9),.bool (p 10),.bool (p 11),.bool (p 12),.bool (p 13),.bool (p 14),.bool (p 15),I (m:Nat)]
def CP(w:World)(g:Nat)(p:Nat->Bool)(m:Nat):Prop:=w.heap[g]?=some (.cells (qfO p m) 256 (0,0))
theorem CP.alloc{w:World}{g m:Nat}{p:Nat->Bool}(h:CP w g p m)(o:Obj):CP (w.alloc o) g p m:=(Below.heap_alloc w o g (zE h).1).trans h
theorem CP.cell{w:World}{g m:Nat}{p:Nat->Bool}(h:CP w g p m)(j:Nat)(v:Value)(hv:(qfO p m)[j]?=some v):w.cell? ⟨g,j,none⟩=some v:=by
 rw[cell_of_row _ _ _ _ _ _ h];exact hv
theorem qer:(Tryz.prog.info? 256).map (·.size)=some 17:=by kernel_rfl
theorem qgz{ops:Array Oper}{S:World->Prop}{op:Oper}{a:Act}(hw:Region.wanted op (yielded ops a.tmps)=true)(x:Operand)(ho:op.op=.load 256 x)
  (g:Nat) (hx:a.eval x=.pointer (some ⟨g,0,none⟩)) {p:Nat->Bool} {m:Nat} (hS:∀w,S w->CP w g p m):YieldsIf Tryz.prog ops S op (.agg (qfO p m)) a :=
 .inl ⟨hw,fun w hw'=>by
  unfold execOp;simp only[ho,hx,Instr.loadAt,Instr.sureAddr,Sem.run_bind,Sem.run_pure,Result.andThen_ok,run_loadVar_row w g 256 256 (qfO p m) (0,0) _ (hS w hw') Tryz.underlying256 rfl qer]⟩
abbrev LS(p:Nat->Bool)(m d:Nat):Prop:=∀W:World,Calls Tryz.prog 227 #[.agg (qfO p m)] W fun e w'=>e=.returned (I (d:Nat))/\w'=W.alloc (.cells (qfO p m) 256)
theorem qpQ(p q:Nat->Bool)(m n da db:Nat)(w:World)(ha:LS p m da)(hb:LS q n db) :
  Calls Tryz.prog 248 #[.agg (qfO p m),.agg (qfO q n)] w fun e w'=>e=.returned (.bool (if m=n then decide (da<db)else decide (m<n)))/\Below w.heap.size w w':=by
 obtain⟨B0,hB⟩:∃B0,B0=w.heap.size:=⟨_,rfl⟩
 obtain⟨w0,hw0⟩:∃w0,w0=(w.alloc (.cells (qfO p m) 256)).alloc (.cells (qfO q n) 256):=⟨_,rfl⟩
 have h1:CP w0 B0 p m:=by subst hB;rw[hw0];exact heap_alloc2_old _ _ _
 have h2:CP w0 (B0+1) q n:=by subst hB;rw[hw0];exact heap_alloc2_new _ _ _
 have h3:Below B0 w w0:=by subst hB;rw[hw0];exact ((Below.refl _ _).alloc (Nat.le_refl _) _).alloc (by simp) _
 have h4:w0.heap.size=B0+2:=by subst hB;rw[hw0];simp
 have HC:=zH (And.intro h1 h2);have H3:=zH h3;have H4:=zH h4;have HB:=zH hB;have KA:=zH ha;have KBB:=zH hb;clear h1 h2 h3 h4 hB ha hb;have a16:w0.cell? ⟨B0,16,none⟩=some (I (m:Nat)):=(zU HC).1.cell 16 _ rfl;have b16:w0.cell? ⟨B0+1,16,none⟩=some (I (n:Nat)):=(zU HC).2.cell 16 _ rfl;go_enter Tryz.func248,Tryz.ntmps248;go_upto_region 1 with fail
 rw[<-hw0,<-zU HB];clear hw0
 by_cases hne:m=n
 ·have z1:((m:Int) != (n:Int))=false:=by rw[hne];simp
  have z2:(m != n)=false:=by rw[hne];simp
  have HNE:=zH hne;clear hne;go_wp2_with fail;refine wp_region_noPanic ?_;refine wp_region_held_drew (S:=fun w'=>CP w' B0 p m/\CP w' (B0+1) q n) (by kernel_rfl) (zU HC) (fun hHeld=>?_);refine wpAnyH_take (i:=0) (oi:=_) (v:=.agg (qfO p m)) rfl (by kernel_rfl) (by kernel_rfl) (by kernel_rfl) (fun _ _ _ h=>h) (qgz rfl _ rfl B0 rfl fun w h=>h.1) hHeld ?_
  try simp only[Act.put,List.setIfInBounds_toArray]
  refine wpAnyH_take (i:=2) (oi:=_) (v:=.agg (qfO q n)) rfl (by kernel_rfl) (by kernel_rfl) (by kernel_rfl) (fun _ _ _ h=>h) (qgz rfl _ rfl (B0+1) rfl fun w h=>h.2) hHeld ?_
  try simp only[Act.put]
  refine wpAnyH_ready (rs:=[1]) (by kernel_rfl) (by simp) ?_;refine AllReadyH.cons (o:=_) rfl (fun K hK=>?_) AllReadyH.nil;go_simp;refine (zU KA _).mono ?_;rintro e w1 ⟨rfl,rfl⟩;refine hK.out _ _ ⟨hHeld.1.alloc _,hHeld.2.alloc _⟩ (fun hHeld2=>?_);clear hK K hHeld
  try simp only[Act.put,List.setIfInBounds_toArray,List.set_cons_zero,List.set_cons_succ]
  refine wpAnyH_ready (rs:=[3]) (by kernel_rfl) (by simp) ?_;refine AllReadyH.cons (o:=_) rfl (fun K hK=>?_) AllReadyH.nil;go_simp;refine (zU KBB _).mono ?_;rintro e w1 ⟨rfl,rfl⟩;refine hK.out _ _ ⟨hHeld2.1.alloc _,hHeld2.2.alloc _⟩ (fun hHeld3=>?_);clear hK K hHeld2
  try simp only[Act.put,List.setIfInBounds_toArray,List.set_cons_zero,List.set_cons_succ]
  refine wpAnyH_take (i:=4) (oi:=_) (v:=.bool (decide (da<db))) rfl (by kernel_rfl) (by kernel_rfl) (by kernel_rfl) (fun _ _ _ h=>h) (Or.inl ⟨rfl,fun w _=>by go_simp⟩) hHeld3 ?_
  try simp only[Act.put,List.setIfInBounds_toArray]
  refine wpAnyH_take (i:=5) (oi:=_) (v:=.bool (decide (da<db))) rfl (by kernel_rfl) (by kernel_rfl) (by kernel_rfl) (fun _ _ _ h=>h) (Or.inl ⟨rfl,fun w _=>by go_simp⟩) hHeld3 ?_
  try simp only[Act.put]
  refine wpAnyH_done (by kernel_rfl) ?_ _;refine NoPanic.normal ?_
  all_goals
   go_wp2_with fail;go_ret;rw[<-zU HB];refine⟨rfl,?_⟩;have hl:=zU H4;refine Below.drew (Below.alloc ?_ ?_ _)
   ·exact (zU H3).alloc (by omega) _
   ·simp;omega
 ·have z1:((m:Int) != (n:Int))=true:=by rw[bne_iff_ne];omega
  have z2:(m != n)=true:=by rw[bne_iff_ne];exact hne
  have HNE:=zH hne;clear hne;go_wp2_with fail;go_ret;rw[<-zU HB];exact⟨rfl,zU H3⟩
theorem quJ(a b:Tr):qcA a b=if a.1=b.1 then decide (hd a<hd b)else decide (a.1<b.1):=by
 split
 ·exact quK ‹_›
 ·exact quI ‹_›
theorem qpR(a b:Tr)(w:World)(ha:VT a)(hb:VT b) :
  Calls Tryz.prog 248 #[VR a,VR b] w fun e w'=>e=.returned (.bool (qcA a b))/\Below w.heap.size w w':=by
 rw[quJ];exact qpQ (has a) (has b) a.1 b.1 (hd a) (hd b) w (fun W=>qfP a W ha) (fun W=>qfP b W hb)
namespace Pl
def Least(l:List Tr)(k i:Nat):Prop:=∀a,l[k]?=some a->∀j b,j<i->j≠k->l[j]?=some b->qcA a b=true
theorem Least.one(l:List Tr):Least l 0 1:=fun a _ j b h1 h2 _=>absurd h1 (by omega)
theorem Least.up{l:List Tr}{k i:Nat}{a b:Tr}(h:Least l k i)(ha:l[k]?=some a)(hb:l[i]?=some b)(hlt:qcA b a=true):Least l i (i+1):=by
 intro x hx j y hj hne hy;rw[hb]at hx;cases hx
 by_cases e:j=k
 ·subst e;rw[ha]at hy;cases hy;exact hlt
 ·have h1:=h a ha j y (by omega) e hy;rw[qaz]at h1 hlt ⊢;omega
theorem KD.get{l:List Tr}(h:KD l){i j:Nat}{a b:Tr}(hi:l[i]?=some a)(hj:l[j]?=some b)(hne:i≠j):hd a≠hd b:=by
 obtain⟨h1,rfl⟩:=List.getElem?_eq_some_iff.1 hi;obtain⟨h2,rfl⟩:=List.getElem?_eq_some_iff.1 hj;have hp:=List.pairwise_iff_getElem.1 h
 rcases Nat.lt_or_gt_of_ne hne with h3|h3
 ·exact hp i j h1 h2 h3
 ·exact (hp j i h2 h1 h3).symm
theorem Least.stay{l:List Tr}{k i:Nat}{a b:Tr}(hk:KD l)(h:Least l k i)(ha:l[k]?=some a)(hb:l[i]?=some b)(hlt:qcA b a=false)(hki:k<i):Least l k (i+1):=by
 intro x hx j y hj hne hy;rw[ha]at hx;cases hx
 by_cases e:j=i
 ·subst e;rw[hb]at hy;cases hy;have:=hk.get ha hb (by omega);rw[Bool.eq_false_iff,ne_eq,qaz]at hlt;rw[qaz];omega
 ·exact h a ha j y (by omega) hne hy
theorem qk8{α:Type} : ∀{l:List α} {k:Nat} {a:α},l[k]?=some a->(a::l.eraseIdx k).Perm l
 | [],k,a,h=>by simp at h
 | x::l,0,a,h=>by simp at h;subst h;exact List.Perm.refl _
 | x::l,k+1,a,h=>by
  have h':l[k]?=some a:=by simpa using h
  rw[List.eraseIdx_cons_succ];exact (List.Perm.swap x a _).trans ((qk8 h').cons x)
theorem qs8{α:Type}{l:List α}{k:Nat}{y:α}(h:y∈l.eraseIdx k):∃j,j≠k/\l[j]?=some y:=by
 obtain⟨j,hj⟩:=List.mem_iff_getElem?.1 h;rw[List.getElem?_eraseIdx]at hj
 split at hj
 ·exact⟨j,by omega,hj⟩
 ·exact⟨j+1,by omega,hj⟩
theorem qkV{l:List Tr}{k:Nat}{a:Tr}(hF:Forest l)(ha:l[k]?=some a)(h:Least l k l.length):qcN l=a::qcN (l.eraseIdx k)/\(a::l.eraseIdx k).Perm l:=by
 have hp:=qk8 ha;have hF2:=hF.perm hp.symm;have hFr:Forest (l.eraseIdx k):=⟨fun t ht=>hF2.vt t (by simp[ht]),(List.pairwise_cons.1 hF2.dis).2⟩
 refine⟨qiz hF.kd (((qb6 _).cons a).trans hp) (List.pairwise_cons.2 ⟨fun y hy=>?_,qeD _ hFr.kd⟩),hp⟩;obtain⟨j,hj,hy2⟩:=qs8 ((qb6 _).mem_iff.1 hy);exact h a ha j y (List.getElem?_eq_some_iff.1 hy2).1 hj hy2
def less(l:List Tr)(k i:Nat):List Tr:=(l.take i).eraseIdx k
theorem qtd(l:List Tr)(k:Nat):less l k (k+1)=less l k k:=by
 unfold less;rw[List.eraseIdx_of_length_le (l:=l.take k) (by rw[List.length_take];omega)];rw[List.eraseIdx_eq_take_drop_succ,List.take_take,List.drop_eq_nil_of_le (by rw[List.length_take];omega),Nat.min_eq_left (by omega),List.append_nil]
theorem qtc{l:List Tr}{k i:Nat}{x:Tr}(hx:l[i]?=some x)(hne:i≠k):less l k (i+1)=less l k i++[x]:=by
 unfold less;have hlt:=(List.getElem?_eq_some_iff.1 hx).1;rw[List.take_add_one,hx,Option.toList_some]
 rcases Nat.lt_or_gt_of_ne hne with h|h
 ·rw[List.eraseIdx_of_length_le (by rw[zL,List.length_take];simp;omega),List.eraseIdx_of_length_le (by rw[List.length_take];omega)]
 ·rw[List.eraseIdx_append_of_lt_length (by rw[List.length_take];omega)]
theorem quC(l:List Tr)(k:Nat):less l k l.length=l.eraseIdx k:=by unfold less;rw[List.take_length]
theorem quB(l:List Tr)(k i:Nat):(less l k i).length<=i:=by
 unfold less;have:=List.length_eraseIdx_le (l.take i) k;rw[List.length_take]at this;omega
end Pl
theorem qo1:∀(l:List Tr) (i:Nat) (t:Tr),l[i]?=some t->∀j v,(qO t)[j]?=some v->(l.flatMap qO)[i*17+j]?=some v
 | [],i,t,h=>by simp at h
 | u::l,0,t,h=>fun j v hv=>by
  simp at h;subst h;have hj:=(List.getElem?_eq_some_iff.1 hv).1;rw[List.flatMap_cons,Nat.zero_mul,Nat.zero_add,List.getElem?_append_left hj];exact hv
 | u::l,i+1,t,h=>fun j v hv=>by
  have h':l[i]?=some t:=by simpa using h
  rw[List.flatMap_cons,List.getElem?_append_right (by rw[qcK];omega),qcK,show (i+1)*17+j-17=i*17+j from by omega];exact qo1 l i t h' j v hv
theorem qfD{w:World}{base g n cap:Nat}{l:List Tr}(h:w.ownsRow base 256 17 (.slice (some ⟨g,0,none⟩) n cap) n (l.flatMap qO)){i:Nat}{t:Tr}(hi:l[i]?=some t):w.rangeAt g (i*17) (qO t):=by
 intro j v hv;have:=h.cells (g:=g) rfl (i*17+j) v (qo1 l i t hi j v hv)
 rwa [Addr.add_mid,Nat.zero_add]at this
structure TwoR(w:World)(g oi:Nat)(x:Tr)(ok:Nat)(y:Tr):Prop where
 lt:g<w.heap.size
 a:w.rangeAt g oi (qO x)
 b:w.rangeAt g ok (qO y)
theorem TwoR.below{w w':World}{g oi ok:Nat}{x y:Tr}(h:TwoR w g oi x ok y)(hb:Below w.heap.size w w'):TwoR w' g oi x ok y :=
 ⟨Nat.lt_of_lt_of_le h.lt hb.size,fun j v hv=>(hb.cell (p:=⟨g,_,none⟩) h.lt).trans (h.a j v hv),fun j v hv=>(hb.cell (p:=⟨g,_,none⟩) h.lt).trans (h.b j v hv)⟩
theorem qrC:(Tryz.prog.info? 256).map (fun i=>(i.zero,i.size,i.bytes))=some (some (.agg #[.bool false,.bool false,.bool false,.bool false,.bool false,.bool false,.bool false,.bool false,.bool false,.bool false,.bool false,.bool false,.bool false,.bool false,.bool false,.bool false,.int .i64 0]),17,24):=by kernel_rfl
abbrev qcX:Array Value:=#[.bool false,.bool false,.bool false,.bool false,.bool false,.bool false,.bool false,.bool false,.bool false,.bool false,.bool false,.bool false,.bool false,.bool false,.bool false,.bool false,.int .i64 0]
theorem qr6(w:World):(zeroValue 256).run Tryz.prog w=.ok (.agg qcX) w:=(zero_of_info (n:=17) (by kernel_rfl)).1 w
theorem qp7(w:World)(t:Tr)(T:TypeId):∀j u,(qO t)[j]?=some u->(w.alloc (.cells #[.bool (has t 0),.bool (has t 1),.bool (has t 2),.bool (has t 3),.bool (has t 4),.bool (has t 5),.bool (has t 6),.bool (has t 7),.bool (has t 8),.bool (has t 9),.bool (has t 10),.bool (has t 11),.bool (has t 12),.bool (has t 13),.bool (has t 14),.bool (has t 15),I t.1] T)).cell? ((⟨w.heap.size,0,none⟩:Addr).add j)=some u:=by
 intro j u hj;rw[Addr.add_mid,Nat.zero_add,World.cell?_alloc_new,List.getElem?_toArray];exact hj
theorem qgv(t:Tr):∀v∈qO t,v.oneCell'=true:=by
 intro v hv;unfold qO at hv;simp only[List.mem_cons,List.not_mem_nil,or_false]at hv
 rcases hv with rfl|rfl|rfl|rfl|rfl|rfl|rfl|rfl|rfl|rfl|rfl|rfl|rfl|rfl|rfl|rfl|rfl <;> rfl
theorem qeg{w:World}{base e size n:Nat}{v:Value}{xs:List Value}(h:w.ownsRow base e size v n xs):∃A cap,v=.slice A n cap:=by
 rcases h.2 with⟨rfl,rfl⟩|⟨g,cap,cur,rfl,_⟩
 ·exact⟨_,_,rfl⟩
 ·exact⟨_,_,rfl⟩
theorem qif:∀(cs:List Value) (k:Nat) (z:Array Value) (j:Nat),(List.foldl (fun (cs:Array Value) (x:Value×Nat)=>cs.setIfInBounds x.snd x.fst) z (cs.zipIdx k))[j]?=if k<=j/\j<k+cs.length/\j<z.size then cs[j-k]? else z[j]?
 | [],k,z,j=>by simp;omega
 | c::cs,k,z,j=>by
  rw[List.zipIdx_cons,List.foldl_cons,qif cs (k+1) _ j];simp only[Array.size_setIfInBounds,List.length_cons,Array.getElem?_setIfInBounds]
  by_cases h1:k=j
  ·subst h1;rw[if_neg (by omega),if_pos rfl]
   by_cases h2:k<z.size
   ·rw[if_pos h2,if_pos (by omega)];simp
   ·rw[if_neg h2,if_neg (by omega)];simp[h2]
  ·by_cases h2:k+1<=j/\j<k+1+cs.length/\j<z.size
   ·rw[if_pos h2,if_pos (by omega),show j-k=(j-(k+1))+1 from by omega,List.getElem?_cons_succ]
   ·rw[if_neg h2,if_neg h1,if_neg (by omega)]
theorem qtp(cs:List Value)(z:Array Value)(h:z.size=cs.length):List.foldl (fun (cs:Array Value) (x:Value×Nat)=>cs.setIfInBounds x.snd x.fst) z cs.zipIdx=cs.toArray:=by
 apply Array.ext_getElem?;intro j;rw[qif cs 0 z j]
 by_cases hj:j<cs.length
 ·rw[if_pos (by omega)];simp
 ·rw[if_neg (by omega),Array.getElem?_eq_none (by omega)];simp;omega
theorem qpg(x:Tr):List.foldl (fun (cs:Array Value) (x:Value×Nat)=>cs.setIfInBounds x.snd x.fst) #[.bool false,.bool false,.bool false,.bool false,.bool false,.bool false,.bool false,.bool false,.bool false,.bool false,.bool false,.bool false,.bool false,.bool false,.bool false,.bool false,.int .i64 0] (qO x).zipIdx=(qO x).toArray:=qtp _ _ (by rw[qcK];rfl)
theorem qfI{w:World}{ops:Array Oper}{rest:List Oper}{o:Oper}{a:Act}{Q:Exit->Act->World->Prop}(hgd:o.guard=none)(s x:Operand)
  (ho:o.op=.call { callee:=.builtin .append,args:=#[s,x],argTypes:=#[253,253] })
  (base:Nat) (v:Value) (n:Nat) (l:List Tr) (hs:a.eval s=v) (hown:w.ownsRow base 256 17 v n (l.flatMap qO)) (t:Tr)
  (H:Nat) (hH:w.heap.size=H) (hx:a.eval x=.slice (some ⟨H,0,none⟩) 1 1)
  (hn:n<=1000000) (hbase:base<=w.heap.size)
  (h:∀A' cap' w',w'.ownsRow base 256 17 (.slice A' (n+1) cap') (n+1) ((l++[t]).flatMap qO)->Below base w w'->(w.alloc (.cells #[.bool (has t 0),.bool (has t 1),.bool (has t 2),.bool (has t 3),.bool (has t 4),.bool (has t 5),.bool (has t 6),.bool (has t 7),.bool (has t 8),.bool (has t 9),.bool (has t 10),.bool (has t 11),.bool (has t 12),.bool (has t 13),.bool (has t 14),.bool (has t 15),I t.1] 256)).grownBy w' v.ownBlock->wpList Tryz.prog ops Q rest (a.put o.dst (.slice A' (n+1) cap')) w') :
  wpList Tryz.prog ops Q (o::rest) a (w.alloc (.cells #[.bool (has t 0),.bool (has t 1),.bool (has t 2),.bool (has t 3),.bool (has t 4),.bool (has t 5),.bool (has t 6),.bool (has t 7),.bool (has t 8),.bool (has t 9),.bool (has t 10),.bool (has t 11),.bool (has t 12),.bool (has t 13),.bool (has t 14),.bool (has t 15),I t.1] 256)):=by
 subst hH;obtain⟨i0,hi,hz0,hz1,hz2⟩:=info_parts qrC;refine wpList_append_own _ hgd s x _ ho base 256 i0 _ 17 24 Tryz.underlying253 hi hz0 hz1 hz2 rfl (by decide) v n (l.flatMap qO) hs (hown.alloc _) ⟨w.heap.size,0,none⟩ 1 1 (qO t) hx (by rw[qcK]) (qp7 w t _) (qgv t) (by unfold maxLen;omega) (by omega) (by simp;omega) ?_;intro v' w' hown' hg _
 have hown2:w'.ownsRow base 256 17 v' (n+1) ((l++[t]).flatMap qO):=by
  rw[List.flatMap_append,List.flatMap_singleton];exact hown'
 obtain⟨A',cap',rfl⟩:=qeg hown2;refine h A' cap' w' hown2 ?_ hg;exact ((Below.refl _ _).alloc hbase _).grown hg (by simp;omega) (fun k hk=>(hown.lt k hk).1)
theorem qkg{w:World}{base n D:Nat}{v:Value}{e:TypeId}{size:Nat}{xs:List Value}(h:w.ownsRow base e size v n xs)(hD:D<base)(cs:Array Value):(w.setRow D cs).ownsRow base e size v n xs:=by
 refine⟨h.1,?_⟩
 rcases h.2 with hn|⟨g,cap,cur,hv,hb,hg,rest⟩
 ·exact .inl hn
 ·exact .inr ⟨g,cap,cur,hv,hb,(setRow_other w D g cs (by omega)).trans hg,rest⟩
theorem qiJ{w:World}{base b n:Nat}{v:Value}{e:TypeId}{size:Nat}{xs:List Value}(h:w.ownsRow base e size v n xs)(hb:b<=base):w.ownsRow b e size v n xs:=by
 refine⟨h.1,?_⟩
 rcases h.2 with hn|⟨g,cap,cur,hv,hb',rest⟩
 ·exact .inl hn
 ·exact .inr ⟨g,cap,cur,hv,Nat.le_trans hb hb',rest⟩
def qvO(l:List Tr)(n B:Nat)(w:World)(e:Ending)(w':World):Prop:=∃a k v,l[k]?=some a/\Least l k n/\e=.returned (.tuple #[VR a,v])/\w'.ownsRow B 256 17 v (n-1) ((l.eraseIdx k).flatMap qO)/\Below B w w'
theorem qh6(l:List Tr)(base g n cap:Nat)(w:World)(hF:Forest l)(hn:l.length=n)(h1:1<=n)(h16:n<=16)(hown:w.ownsRow base 256 17 (.slice (some ⟨g,0,none⟩) n cap) n (l.flatMap qO)) :
  Calls Tryz.prog 228 #[.slice (some ⟨g,0,none⟩) n cap] w (qvO l n w.heap.size w):=by
 obtain⟨B,hB⟩:∃B,B=w.heap.size:=⟨_,rfl⟩
 have hgl:g<w.heap.size:=(hown.lt g rfl).2;obtain⟨w0,hw0⟩:∃w0,w0=w.alloc (.cells qcX 256):=⟨_,rfl⟩
 have h2:w0.heap[B]?=some (.cells qcX 256 (0,0)):=by subst hB;rw[hw0];exact heap_alloc_new _ _
 have h3:Below B w w0:=by subst hB;rw[hw0];exact (Below.refl _ _).alloc (Nat.le_refl _) _
 have h4:w0.heap.size=B+1:=by subst hB;rw[hw0];simp
 have h5:w0.ownsRow base 256 17 (.slice (some ⟨g,0,none⟩) n cap) n (l.flatMap qO):=by rw[hw0];exact hown.alloc _
 have hgB:g<B:=by rw[hB];exact hgl
 rw[<-hB];have H2:=zH h2;have H3:=zH h3;have H4:=zH h4;have H5:=zH h5;have HB:=zH hB;have HN:=zH hn;have HF:=zH hF;have KL:=zH (fun (x y:Tr) (W:World)=>qpR x y W);have hz:=qr6;clear hB hn hF h2 h3 h4 h5 hown hgl;go_enter Tryz.func228,Tryz.ntmps228;go_wp2_with fail;rw[<-hw0,<-zU HB];clear hw0;go_loopw [4,5] (fun kv iv wr=>∃k i:Nat,k<i/\i<=n/\kv=.int .i64 k/\iv=.int .i64 i/\Least l k i/\Below (B+1) w0 wr) (fun _ iv _=>n-(intOf iv).toNat)
 case atStart=>exact⟨0,1,by omega,by omega,rfl,rfl,Least.one l,Below.refl _ _⟩
 case round =>
  obtain⟨k,i,hki,hin,rfl,rfl,hle,hbel⟩:=hrel;have HLE:=zH hle;clear hle;have hsz:B+1<=wr.heap.size:=by have:=zU H4;have:=hbel.size;omega
  have hown:wr.ownsRow base 256 17 (.slice (some ⟨g,0,none⟩) n cap) n (l.flatMap qO):=qo (zU H5) (hbel.mono (by have:=zU H4;omega));have HO:=zH hown;clear hown
  by_cases hlt:i<n
  ·obtain⟨x,hx⟩:∃x,l[i]?=some x:=⟨_,zG (by have:=zU HN;omega)⟩
   obtain⟨y,hy⟩:∃y,l[k]?=some y:=⟨_,zG (by have:=zU HN;omega)⟩
   have hvx:=(zU HF).vt x (List.mem_of_getElem? hx);have hvy:=(zU HF).vt y (List.mem_of_getElem? hy);have hkn:k<n:=by omega
   have K0:=fun (W:World)=>zU KL x y W hvx hvy;have ht:TwoR wr g (i*17) x (k*17) y:=⟨by omega,qfD (zU HO) hx,qfD (zU HO) hy⟩
   have HX:=zH hx;have HY:=zH hy;clear hvx hvy hx hy;obtain⟨oi,hoi⟩:∃oi,oi=i*17:=⟨_,rfl⟩
   obtain⟨ok,hok⟩:∃ok,ok=k*17:=⟨_,rfl⟩
   rw[<-hoi,<-hok]at ht;have HT:=zH ht;clear ht;have hoi':=hoi.symm;have hok':=hok.symm;clear hoi hok;cases hk:qcA x y
   all_goals
    rw[hk]at K0;have K1:=zH K0;have HK:=zH hk;clear K0 hk;go_upto_region 5 with fail
    refine wp_region_noPanic ?_;refine wp_region_held_drew (S:=fun w'=>TwoR w' g oi x ok y) (by kernel_rfl) ((zU HT).below (Below.drew (Below.refl _ _))) (fun hHeld=>?_);refine wpAnyH_take (i:=0) (oi:=_) (v:=.slice (some ⟨g,0,none⟩) n cap) rfl (by kernel_rfl) (by kernel_rfl) (by kernel_rfl) (fun _ _ _ h=>h) (Or.inl ⟨rfl,fun w _=>by go_simp⟩) hHeld ?_
    try simp only[Act.put,List.setIfInBounds_toArray]
    refine wpAnyH_take (i:=1) (oi:=_) (v:=.int .i64 i) rfl (by kernel_rfl) (by kernel_rfl) (by kernel_rfl) (fun _ _ _ h=>h) (Or.inl ⟨rfl,fun w _=>by go_simp⟩) hHeld ?_
    try simp only[Act.put]
    refine wpAnyH_take (i:=2) (oi:=_) (v:=.pointer (some ⟨g,oi,none⟩)) rfl (by kernel_rfl) (by kernel_rfl) (by kernel_rfl) (fun _ _ _ h=>h) (Or.inl ⟨rfl,fun w _=>by go_simp⟩) hHeld ?_
    try simp only[Act.put]
    refine wpAnyH_take (i:=3) (oi:=_) (v:=.agg (qO x).toArray) rfl (by kernel_rfl) (by kernel_rfl) (by kernel_rfl) (fun _ _ _ h=>h) (yieldsIf_load_mid rfl _ _ rfl g oi rfl _ _ (fun w h=>h.a) Tryz.underlying256 rfl qer) hHeld ?_
    try simp only[Act.put]
    refine wpAnyH_take (i:=4) (oi:=_) (v:=.slice (some ⟨g,0,none⟩) n cap) rfl (by kernel_rfl) (by kernel_rfl) (by kernel_rfl) (fun _ _ _ h=>h) (Or.inl ⟨rfl,fun w _=>by go_simp⟩) hHeld ?_
    try simp only[Act.put]
    refine wpAnyH_take (i:=5) (oi:=_) (v:=.int .i64 k) rfl (by kernel_rfl) (by kernel_rfl) (by kernel_rfl) (fun _ _ _ h=>h) (Or.inl ⟨rfl,fun w _=>by go_simp⟩) hHeld ?_
    try simp only[Act.put]
    refine wpAnyH_take (i:=6) (oi:=_) (v:=.pointer (some ⟨g,ok,none⟩)) rfl (by kernel_rfl) (by kernel_rfl) (by kernel_rfl) (fun _ _ _ h=>h) (Or.inl ⟨rfl,fun w _=>by go_simp⟩) hHeld ?_
    try simp only[Act.put]
    refine wpAnyH_take (i:=7) (oi:=_) (v:=.agg (qO y).toArray) rfl (by kernel_rfl) (by kernel_rfl) (by kernel_rfl) (fun _ _ _ h=>h) (yieldsIf_load_mid rfl _ _ rfl g ok rfl _ _ (fun w h=>h.b) Tryz.underlying256 rfl qer) hHeld ?_
    try simp only[Act.put]
    refine wpAnyH_ready (rs:=[8]) (by kernel_rfl) (by simp) ?_;refine AllReadyH.cons (o:=_) rfl (fun K hK=>?_) AllReadyH.nil;go_simp;refine (zU K1 _).mono ?_;rintro e w1 ⟨rfl,hb⟩;refine hK.out _ _ (hHeld.below hb) (fun hHeld2=>?_);clear hK K hHeld
    try simp only[Act.put,List.setIfInBounds_toArray,List.set_cons_zero,List.set_cons_succ]
    refine wpAnyH_done (by kernel_rfl) ?_ _;refine NoPanic.normal ?_;clear hHeld2
    all_goals
     have hb9:Below (B+1) w0 w1:=(Below.drew hbel).trans (hb.mono (by exact hsz));have HB9:=zH hb9;clear hb hb9 hbel;go_wp2_with fail;go_roundw
     case rel =>
      first
       | exact⟨k,i+1,by omega,by omega,rfl,by go_num,(zU HLE).stay (zU HF).kd (zU HY) (zU HX) (zU HK) hki,zU HB9⟩
       | exact⟨i,i+1,by omega,by omega,rfl,by go_num,(zU HLE).up (zU HY) (zU HX) (zU HK),zU HB9⟩
     case measure=>simp[intOf];omega
  ·have hd:decide ((i:Int)<(n:Int))=false:=by rw[decide_eq_false_iff_not];omega
   have hle2:Least l k n:=by rw[show n=i from by omega];exact zU HLE
   have hkn:k<n:=by omega
   have HL2:=zH hle2;clear hle2;obtain⟨a,ha⟩:∃a,l[k]?=some a:=⟨_,zG (by have:=zU HN;omega)⟩
   have HA:=zH ha;have hBw:wr.heap[B]?=some (.cells qcX 256 (0,0)):=(hbel.block B (by omega)).trans (zU H2);have HBW:=zH hBw;have HBEL:=zH ((zU H3).trans (hbel.mono (by omega)));clear ha hBw hbel;go_wp2_with fail;go_loopw [6,7] (fun rv jv w2=>∃j:Nat,j<=n/\jv=.int .i64 j/\w2.ownsRow (B+1) 256 17 rv (less l k j).length ((less l k j).flatMap qO)/\Below (B+1) wr w2) (fun _ jv _=>n-(intOf jv).toNat)
   case atStart=>exact⟨0,by omega,rfl,by rw[show less l k 0=[]from rfl];exact World.ownsRow_nil _ _ _ _,Below.refl _ _⟩
   case round =>
    obtain⟨j,hjn,rfl,hown2,hbel2⟩:=hrel;have hsz2:B+1<=wr.heap.size:=by have:=hbel2.size;omega
    have ho:wr.ownsRow base 256 17 (.slice (some ⟨g,0,none⟩) n cap) n (l.flatMap qO):=by
     refine⟨(zU HO).1,?_⟩
     rcases (zU HO).2 with⟨hv,_⟩|⟨g',cap',cur,hv,hb,hg',rest⟩
     ·cases hv
     ·refine .inr ⟨g',cap',cur,hv,hb,?_,rest⟩;injection hv with e1;injection e1 with e1;injection e1 with e1
      exact (hbel2.block g' (by omega)).trans hg'
    by_cases hjl:j<n
    ·obtain⟨x,hx⟩:∃x,l[j]?=some x:=⟨_,zG (by have:=zU HN;omega)⟩
     have hr:=qfD ho hx
     by_cases hjk:j=k
     ·have z1:((j:Int) != (k:Int))=false:=by rw[hjk];simp
      have z2:(j != k)=false:=by rw[hjk];simp
      have hsk:less l k (j+1)=less l k j:=by rw[hjk];exact qtd l k
      have HSK:=zH hsk;clear hjk hsk hx hr ho;go_wp2_with fail;go_roundw
      case rel=>exact⟨j+1,by omega,by go_num,by rw[zU HSK];exact hown2,hbel2⟩
      case measure=>simp[intOf];omega
     ·have z1:((j:Int) != (k:Int))=true:=by rw[bne_iff_ne];omega
      have z2:(j != k)=true:=by rw[bne_iff_ne];exact hjk
      have hst:=qtc hx hjk;obtain⟨m,hm⟩:∃m,m=(less l k j).length:=⟨_,rfl⟩
      have hm16:m<=16:=by have:=quB l k j;omega
      rw[<-hm]at hown2;have HST:=zH hst;have HM:=zH hm;have HOWN2:=zH hown2;obtain⟨oi,hoi⟩:∃oi,oi=j*17:=⟨_,rfl⟩
      rw[<-hoi]at hr;have q0:wr.cell? ⟨g,oi,none⟩=some (.bool (has x 0)):=hr 0 _ rfl;have q1:wr.cell? ⟨g,oi+1,none⟩=some (.bool (has x 1)):=hr 1 _ rfl;have q2:wr.cell? ⟨g,oi+2,none⟩=some (.bool (has x 2)):=hr 2 _ rfl;have q3:wr.cell? ⟨g,oi+3,none⟩=some (.bool (has x 3)):=hr 3 _ rfl;have q4:wr.cell? ⟨g,oi+4,none⟩=some (.bool (has x 4)):=hr 4 _ rfl;have q5:wr.cell? ⟨g,oi+5,none⟩=some (.bool (has x 5)):=hr 5 _ rfl;have q6:wr.cell? ⟨g,oi+6,none⟩=some (.bool (has x 6)):=hr 6 _ rfl;have q7:wr.cell? ⟨g,oi+7,none⟩=some (.bool (has x 7)):=hr 7 _ rfl;have q8:wr.cell? ⟨g,oi+8,none⟩=some (.bool (has x 8)):=hr 8 _ rfl;have q9:wr.cell? ⟨g,oi+9,none⟩=some (.bool (has x 9)):=hr 9 _ rfl;have q10:wr.cell? ⟨g,oi+10,none⟩=some (.bool (has x 10)):=hr 10 _ rfl;have q11:wr.cell? ⟨g,oi+11,none⟩=some (.bool (has x 11)):=hr 11 _ rfl;have q12:wr.cell? ⟨g,oi+12,none⟩=some (.bool (has x 12)):=hr 12 _ rfl;have q13:wr.cell? ⟨g,oi+13,none⟩=some (.bool (has x 13)):=hr 13 _ rfl;have q14:wr.cell? ⟨g,oi+14,none⟩=some (.bool (has x 14)):=hr 14 _ rfl;have q15:wr.cell? ⟨g,oi+15,none⟩=some (.bool (has x 15)):=hr 15 _ rfl;have q16:wr.cell? ⟨g,oi+16,none⟩=some (I x.1):=hr 16 _ rfl;have hoi':=hoi.symm;have HRG:=zH hr;have h17:=qcK x;clear hjk hst hm hx hr ho hown2 hoi
      go_wp2_with (first
       | (refine wpList_load_mid rfl 256 (.tmp 36) rfl g oi rfl (qO x) _ (zU HRG) Tryz.underlying256 rfl qer ?_)
       | at_builtin;rw[qpg x];refine qfI rfl _ _ rfl (B+1) _ m (less l k j) rfl (zU HOWN2) x wr.heap.size rfl rfl (by omega) hsz2 ?_;intro A' cap' w3 hown3 hb3 hg3;have HOWN3:=zH hown3;have HB3:=zH hb3;clear hown3 hb3 hg3)
      go_roundw
      case rel=>exact⟨j+1,by omega,by go_num,by rw[zU HST,zL,<-zU HM];exact zU HOWN3,hbel2.trans (zU HB3)⟩
      case measure=>simp[intOf];omega
    ·have hd2:decide ((j:Int)<(n:Int))=false:=by rw[decide_eq_false_iff_not];omega
     have hall:less l k j=l.eraseIdx k:=by rw[show j=l.length from by have:=zU HN;omega];exact quC l k
     have hlen:(less l k j).length=n-1:=by rw[hall,List.length_eraseIdx_of_lt (by have:=zU HN;omega),zU HN]
     rw[hall]at hown2;rw[hall]at hlen;rw[hlen]at hown2;have hr:=qfD ho (zU HA);have HOWN2:=zH hown2;have hb2:wr.heap[B]?=some (.cells qcX 256 (0,0)):=(hbel2.block B (by omega)).trans (zU HBW);have HB2:=zH hb2;have HBEL2:=zH ((zU HBEL).trans (hbel2.mono (by omega)));obtain⟨oi,hoi⟩:∃oi,oi=k*17:=⟨_,rfl⟩
     rw[<-hoi]at hr;have q0:wr.cell? ⟨g,oi,none⟩=some (.bool (has a 0)):=hr 0 _ rfl;have q1:wr.cell? ⟨g,oi+1,none⟩=some (.bool (has a 1)):=hr 1 _ rfl;have q2:wr.cell? ⟨g,oi+2,none⟩=some (.bool (has a 2)):=hr 2 _ rfl;have q3:wr.cell? ⟨g,oi+3,none⟩=some (.bool (has a 3)):=hr 3 _ rfl;have q4:wr.cell? ⟨g,oi+4,none⟩=some (.bool (has a 4)):=hr 4 _ rfl;have q5:wr.cell? ⟨g,oi+5,none⟩=some (.bool (has a 5)):=hr 5 _ rfl;have q6:wr.cell? ⟨g,oi+6,none⟩=some (.bool (has a 6)):=hr 6 _ rfl;have q7:wr.cell? ⟨g,oi+7,none⟩=some (.bool (has a 7)):=hr 7 _ rfl;have q8:wr.cell? ⟨g,oi+8,none⟩=some (.bool (has a 8)):=hr 8 _ rfl;have q9:wr.cell? ⟨g,oi+9,none⟩=some (.bool (has a 9)):=hr 9 _ rfl;have q10:wr.cell? ⟨g,oi+10,none⟩=some (.bool (has a 10)):=hr 10 _ rfl;have q11:wr.cell? ⟨g,oi+11,none⟩=some (.bool (has a 11)):=hr 11 _ rfl;have q12:wr.cell? ⟨g,oi+12,none⟩=some (.bool (has a 12)):=hr 12 _ rfl;have q13:wr.cell? ⟨g,oi+13,none⟩=some (.bool (has a 13)):=hr 13 _ rfl;have q14:wr.cell? ⟨g,oi+14,none⟩=some (.bool (has a 14)):=hr 14 _ rfl;have q15:wr.cell? ⟨g,oi+15,none⟩=some (.bool (has a 15)):=hr 15 _ rfl;have q16:wr.cell? ⟨g,oi+16,none⟩=some (I a.1):=hr 16 _ rfl;have hoi':=hoi.symm;have HRG:=zH hr;clear hall hlen hown2 hr ho hb2 hbel2 hoi
     go_wp2_with (first
      | (refine wpList_load_mid rfl 256 (.tmp 42) rfl g oi rfl (qO a) _ (zU HRG) Tryz.underlying256 rfl qer ?_)
      | (refine wpList_store_row rfl 256 (.tmp 2) (.tmp 43) rfl B (qO a).toArray rfl rfl 256 _ (zU HB2) (by kernel_rfl) rfl (all_oneCell_toArray (qgv a)) ?_))
     refine bodyPost_ret (qc rfl _ _ B 256 (qO a).toArray (0,0) _ rfl (setRow_heap _ _ _ _ _ _ (zU HB2)) Tryz.underlying256 rfl (by kernel_rfl)) rfl ?_;refine⟨a,k,_,zU HA,zU HL2,rfl,?_,below_setRow (zU HBEL2) (Nat.le_refl _) _⟩;exact qiJ (qkg (zU HOWN2) (Nat.lt_succ_self B) _) (by omega)
abbrev qg(l:List Int):Array Value:=(l.map (Value.int .i64)).toArray
abbrev A16(l:List Int):Value:=.agg (qg l)
theorem qwd:(Tryz.prog.info? 168).map (·.size)=some 16:=by kernel_rfl
theorem qj{ops:Array Oper}{rest:List Oper}{o:Oper}{a:Act}{w:World}{Q:Exit->Act->World->Prop}(hgd:o.guard=none)(x:Operand)(ho:o.op=.load 168 x)
  (g:Nat) (hx:a.eval x=.pointer (some ⟨g,0,none⟩)) (l:List Int) (hl:l.length=16) {t:TypeId} {fz:Nat×Nat} (hg:w.heap[g]?=some (.cells (qg l) t fz))
  (h:wpList Tryz.prog ops Q rest (a.put o.dst (A16 l)) w):wpList Tryz.prog ops Q (o::rest) a w :=
 wpList_load_row hgd 168 x ho g hx t (qg l) fz _ hg Tryz.underlying168 rfl (by rw[qwd];simp[hl]) h
theorem qbC{w:World}{g:Nat}{l:List Int}{t:TypeId}{fz:Nat×Nat}(hg:w.heap[g]?=some (.cells (qg l) t fz)){k:Nat}{x:Int}(hk:l[k]?=some x):w.cell? ⟨g,k,none⟩=some (.int .i64 x):=by
 rw[cell_of_row w _ k _ _ _ hg];simp[qg,hk]
theorem qgP(l:List Int)(hl:l.length=16)(k:Nat)(x:Int)(hk:l[k]?=some x)(w:World):(Instr.index 168 (A16 l) (.int .i64 k)).run Tryz.prog w=.ok (.int .i64 x) w:=by
 have hk2:k<l.length:=(List.getElem?_eq_some_iff.1 hk).1;have hk3:l[k]=x:=(List.getElem?_eq_some_iff.1 hk).2;unfold Instr.index;simp[run_underlying Tryz.underlying168,asIntOf,Result.andThen,part,Tryz.isAgg3,Tryz.sizeOf3,qg,hk];intro h2;omega
end
section
open Go.RowKit Go.Lib Pl
attribute [local go_sem] qf qe
theorem qbo{α:Type}{l:List α}{k:Nat}{t:α}(h:l[k]?=some t):l.drop k=t::l.drop (k+1):=by
 have hk:k<l.length:=(List.getElem?_eq_some_iff.1 h).1;rw[List.drop_eq_getElem_cons hk]
 congr 1
 rw[zG hk]at h;injection h
theorem qsO(dict:qa)(A:Option Addr)(n cap:Nat)(l:List Tok)(w:World)(hl:ToksAt w w.heap.size A n l)(hd:dict.length<=256)(hn:n<=4611686018427387904) :
  Calls Tryz.prog 173 #[S dict,.slice A n cap] w fun e w'=>e=.returned (.tuple #[S (qF dict l).1,I (qF dict l).2])/\Below w.heap.size w w':=by
 have kb:=fun (W:World)=>run_bytes_of_string (P:=Tryz.prog) W 9 37 5 ⟨dict.toArray⟩ Tryz.underlying9 Tryz.underlying37 Tryz.underlying5;go_enter Tryz.func173,Tryz.ntmps173;go_wp2_with fail
 go_loopw [21] (fun i wr=>∃ (k:Nat) (lit:Bool) (s:qa),k<=n/\i=.int .i64 k/\Mk wr w.heap.size (w.heap.size+1) dict.length lit s/\dict.length<=s.length/\s.length<=dict.length+512 /\
   qY dict.length s lit (l.drop k)=qF dict l/\Below w.heap.size w wr)
  (fun i _=>n-(intOf i).toNat)
 case atStart =>
  refine⟨0,false,dict,by omega,rfl,Mk.made w _ dict (Nat.le_refl _) (by omega),by omega,by omega,?_,?_⟩
  ·unfold qF;rw[if_neg (by unfold qbY;omega)];rfl
  ·exact ((Below.refl _ _).drew.alloc (Nat.le_refl _) _).alloc (by simp) _
 case round =>
  obtain⟨k,lit,s,hk,rfl,hMk,hs1,hs2,hpl,hbel⟩:=hrel
  by_cases hkn:k<n
  ·obtain⟨b,off,t,rfl,hb,ht,q0,q1,q2⟩:=(hl.below hbel).at_ hkn;obtain⟨c,hc⟩:∃c,c=qw dict.length s lit t:=⟨_,rfl⟩
   have c1:=fun (W:World) (h:Mk W w.heap.size (w.heap.size+1) dict.length lit s)=>qlX w.heap.size (w.heap.size+1) dict.length lit s t W h hs1 hs2 hd;rw[<-hc]at c1;have C1:=zH c1;have HC:=zH hc;have HP:=zH hpl;have HT:=zH ht;clear c1 hc hpl ht
   by_cases hz:c=0
   ·subst hz;go_wp2_with fail;refine (zU C1 _ (hMk.alloc _)).mono ?_;rintro e w1 ⟨rfl,hmk1,hb1,_⟩;have hmk1:=hmk1 (by first|trivial|exact (zU HC).symm);go_wp2_with fail;go_roundw
    case rel =>
     obtain⟨h1,h2,_⟩:=qtS (zU HC).symm hs2 hs1;refine⟨k+1,qcO t,qbj s t,by omega,by go_num,hmk1,h1,h2,?_,(hbel.alloc hbel.size _).trans hb1⟩;rw[<-zU HP,qbo (zU HT),qY,if_neg (by rw[<-zU HC];omega)]
    case measure=>simp[intOf];omega
   ·have HZ:=zH hz;have z1:((c:Int) == 0)=false:=zB.2 (by omega);have z2:((c:Int) != 0)=true:=by rw[bne_iff_ne];omega
    clear hz;go_wp2_with fail;refine (zU C1 _ (hMk.alloc _)).mono ?_;rintro e w1 ⟨rfl,_,hb1,_⟩;go_wp2_with fail;go_ret2;rw[<-zU HP,qbo (zU HT),qY,if_pos (by rw[<-zU HC];exact zU HZ),<-zU HC];exact⟨rfl,(hbel.alloc hbel.size _).trans hb1⟩
  ·have hkn2:k=n:=by omega
   have hpl2:qF dict l=(s.drop dict.length,0):=by
    rw[<-hpl,hkn2,List.drop_of_length_le (by have:=hl.1;omega),qY]
   obtain⟨hbM,A1,cap1,hblk,hown⟩:=hMk;have c0:wr.cell? ⟨w.heap.size+1,0,none⟩=some (.slice A1 s.length cap1):=by rw[cell_of_row wr _ 0 _ _ _ hblk];rfl
   have HP:=zH hpl2;have HO:=zH hown;clear hpl2 hkn2 hblk hown hpl;have st1:=qpB (P:=Tryz.prog) (k:=dict.length) (zU HO) 37 9 Tryz.underlying37 Tryz.underlying5 Tryz.underlying9
   have hnc:s.length<=cap1:=by
    rcases (zU HO).2 with⟨hv,h0⟩|⟨g,cap',cur,fz,hv,_,_,_,h5,_⟩
    ·omega
    ·injection hv with _ _ h6;omega
   by_cases hcd:cap1=dict.length
   ·have hsl:s.length-dict.length=0:=by omega
    have st0:=fun (p:Option Addr) (c:Nat)=>qiA (P:=Tryz.prog) wr p c 37 9 5 Tryz.underlying37 Tryz.underlying5 Tryz.underlying9;have hdr:s.drop dict.length=[]:=List.drop_of_length_le (by omega);have HD:=zH hdr;clear st1 hdr;go_wp2_with fail;go_ret2;rw[zU HP,zU HD];exact⟨rfl,hbel⟩
   ·go_wp2_with fail;go_ret2;rw[zU HP];exact⟨rfl,hbel⟩
theorem qsP(dict:qa)(A:Option Addr)(n cap:Nat)(w:World)(hd:256<dict.length)(hd2:dict.length<=9223372036854775807) :
  Calls Tryz.prog 173 #[S dict,.slice A n cap] w fun e w'=>e=.returned (.tuple #[S [],I 2])/\Below w.heap.size w w':=by
 go_enter Tryz.func173,Tryz.ntmps173;go_wp2_with fail;go_ret2;exact⟨rfl,Below.refl _ _⟩
theorem qke(dict:qa)(A:Option Addr)(n cap:Nat)(l:List Tok)(w:World)(hl:ToksAt w w.heap.size A n l)(hd:dict.length<=9223372036854775807)(hn:n<=4611686018427387904) :
  Calls Tryz.prog 173 #[S dict,.slice A n cap] w fun e w'=>e=.returned (.tuple #[S (qF dict l).1,I (qF dict l).2])/\Below w.heap.size w w':=by
 by_cases h:dict.length<=256
 ·exact qsO dict A n cap l w hl h hn
 ·have e:qF dict l=([],2):=by unfold qF;exact if_pos (by unfold qbY;omega)
  rw[e];exact qsP dict A n cap w (by omega) hd
theorem qnc(dict:qa)(A:Option Addr)(n cap:Nat)(l:List Tok)(w:World)(hl:ToksAt w w.heap.size A n l)(hd:dict.length<=9223372036854775807)(hn:n<=4611686018427387904) :
  Calls Tryz.prog 163 #[S dict,.slice A n cap] w fun e w'=>e=.returned (I (qF dict l).2)/\Below w.heap.size w w':=by
 have c1:=zH (qke dict A n cap l w hl hd hn);go_enter Tryz.func163,Tryz.ntmps163;go_wp2_with fail;refine (zU c1).mono ?_;rintro e w1 ⟨rfl,hb⟩;go_wp2_with fail;go_ret;exact⟨rfl,hb⟩
theorem qb4(a b c:Int)(w:World):Calls Tryz.prog 110 #[I a,I b,I c] w fun e w'=>e=.returned (.bool (decide (b<=a/\a<=c)))/\w=w':=by
 by_cases h1:b<=a
 ·by_cases h2:a<=c
  ·rw[decide_eq_true ⟨h1,h2⟩];go_enter Tryz.func110,Tryz.ntmps110;go_wp2;go_ret;exact⟨rfl,rfl⟩
  ·rw[decide_eq_false (by omega)];go_enter Tryz.func110,Tryz.ntmps110;go_wp2;go_ret;exact⟨rfl,rfl⟩
 ·rw[decide_eq_false (by omega)];go_enter Tryz.func110,Tryz.ntmps110;go_wp2;go_ret;exact⟨rfl,rfl⟩
theorem qcZ(a b c:Int)(w:World)(h:b<=a/\a<=c):Calls Tryz.prog 110 #[I a,I b,I c] w fun e w'=>e=.returned (.bool true)/\w=w' :=
 (qb4 a b c w).mono fun _ _ ⟨he,hw⟩=>⟨by rw[he,decide_eq_true h],hw⟩
theorem qdy(a b c:Int)(w:World)(h:¬(b<=a/\a<=c)):Calls Tryz.prog 110 #[I a,I b,I c] w fun e w'=>e=.returned (.bool false)/\w=w' :=
 (qb4 a b c w).mono fun _ _ ⟨he,hw⟩=>⟨by rw[he,decide_eq_false h],hw⟩
theorem qmy{s:qa}{a:Nat}{c:UInt8}(h:s[a]?=some c):slice s a (a+1)=[c]:=by
 unfold slice;rw[List.take_add_one,h];have:a<s.length:=(List.getElem?_eq_some_iff.1 h).1;rw[List.drop_append_of_le_length (by simp;omega),List.drop_of_length_le (by simp;omega)];rfl
def qa0(l:List Tok)(k:Nat):Bool:=decide (0<k) && (match l[k-1]? with|some t=>qcO t|none=>false)
theorem qgl{l:List Tok}{k:Nat}{t:Tok}(h:l[k]?=some t):qa0 l (k+1)=qcO t:=by
 unfold qa0;simp[h]
theorem qmi(dict:qa)(A:Option Addr)(n cap:Nat)(l:List Tok)(w:World)(hl:ToksAt w w.heap.size A n l)(hd:dict.length<=256)(hn:n<=4611686018427387904) :
  Calls Tryz.prog 182 #[S dict,.slice A n cap] w fun e w'=>e=.returned (.tuple #[S (qF dict l).1,I (qF dict l).2])/\Below w.heap.size w w':=by
 go_enter Tryz.func182,Tryz.ntmps182;go_wp2_with fail
 go_loopw [6,7] (fun sv i wr=>∃ (k:Nat) (s:qa),k<=n/\i=.int .i64 k/\sv=S s/\dict.length<=s.length/\s.length<=dict.length+512 /\
   qY dict.length s (qa0 l k) (l.drop k)=qF dict l/\Below w.heap.size w wr)
  (fun _ i _=>n-(intOf i).toNat)
 case atStart =>
  refine⟨0,dict,by omega,rfl,rfl,by omega,by omega,?_,Below.refl _ _⟩;unfold qF;rw[if_neg (by unfold qbY;omega)];rfl
 case round =>
  obtain⟨k,s,hk,rfl,rfl,hs1,hs2,hpl,hbel⟩:=hrel;have hd0:(0:Int)<=(s.length:Int)-(dict.length:Int):=by omega
  have hd1:(s.length:Int)-(dict.length:Int)<=512:=by omega
  by_cases hkn:k<n
  ·obtain⟨b,off,rfl,hb,hc⟩:=(hl.below hbel).2 (by omega);have hkl:k<l.length:=by have:=hl.1;omega
   have hbw:b<wr.heap.size:=Nat.lt_of_lt_of_le hb hbel.size;obtain⟨t,ht⟩:∃t,l[k]?=some t:=⟨_,zG hkl⟩
   obtain⟨q0,q1,q2⟩:=hc k t ht;obtain⟨tl,tf,tn⟩:=t
   by_cases hlit:tl=[]
   ·subst hlit;have HP:=zH hpl;have HT:=zH ht;clear hpl ht hc
    by_cases h1:3<=tn/\tn<=64
    ·obtain⟨h1,h2⟩:=h1
     by_cases h3:1<=tf/\tf<=(s.length:Int)
     ·obtain⟨h3,h4⟩:=h3;obtain⟨f,rfl⟩:=Int.eq_ofNat_of_zero_le (show 0<=tf by omega);obtain⟨m,rfl⟩:=Int.eq_ofNat_of_zero_le (show 0<=tn by omega);have hgd:¬((m:Int)<3\/64<(m:Int)\/(f:Int)<1\/(s.length:Int)<(f:Int)):=by omega
      by_cases h5:512<m+(s.length-dict.length)
      ·have hE:qw dict.length s (qa0 l k) ⟨[],f,m⟩=2:=by unfold qw;rw[if_neg (by simp),if_neg hgd,if_pos (by show 512<(m:Int)+_;omega)]
       have HE:=zH hE;have h6:512-((s.length:Int)-(dict.length:Int))<(m:Int):=by omega
       clear hE hgd;go_wp2_with ((go_at_call 110;first|(refine (qcZ _ _ _ _ ⟨by omega,by omega⟩).mono ?_;rintro e w1 ⟨rfl,rfl⟩)|(refine (qdy _ _ _ _ (by omega)).mono ?_;rintro e w1 ⟨rfl,rfl⟩)));go_ret2;rw[<-zU HP,qbo (zU HT),qY,if_pos (by rw[zU HE];omega),zU HE];exact⟨rfl,hbel.alloc hbel.size _⟩
      ·have hE:qw dict.length s (qa0 l k) ⟨[],f,m⟩=0:=by unfold qw;rw[if_neg (by simp),if_neg hgd,if_neg (by show ¬512<(m:Int)+_;omega)]
       have HE:=zH hE;have h6:(m:Int)<=512-((s.length:Int)-(dict.length:Int)):=by omega
       have h6n:decide (512-((s.length:Int)-(dict.length:Int))<(m:Int))=false:=by simp;omega
       have h4n:decide (s.length<f)=false:=by simp;omega
       clear hE hgd;go_wp2_with ((go_at_call 110;first|(refine (qcZ _ _ _ _ ⟨by omega,by omega⟩).mono ?_;rintro e w1 ⟨rfl,rfl⟩)|(refine (qdy _ _ _ _ (by omega)).mono ?_;rintro e w1 ⟨rfl,rfl⟩)));obtain⟨wo,hwo⟩:∃wo:World,wo=wr:=⟨_,rfl⟩
       go_loop [6,9] (fun sv i=>∃j:Nat,j<=m/\i=.int .i64 j/\sv=S (qcP j f s)) (fun _ i=>m-(intOf i).toNat)
       case atStart=>exact⟨0,by omega,rfl,rfl⟩
       case round =>
        obtain⟨j,hj,rfl,rfl⟩:=hrel;have hcl:=qeK j f s;obtain⟨s',hs'⟩:∃s',s'=qcP j f s:=⟨_,rfl⟩
        rw[<-hs']at hcl;rw[<-hs'];have HS:=zH hs'
        by_cases hjm:j<m
        ·obtain⟨a,ha⟩:∃a:Nat,a=s'.length-f:=⟨_,rfl⟩
         have ha1:(s'.length:Int)-(f:Int)=(a:Int):=by omega
         have ha2:a<s'.length:=by omega
         obtain⟨c,hcc⟩:∃c,s'[a]?=some c:=⟨_,zG ha2⟩
         have hso:=qmy hcc;have hb3:s'.length<=832:=by omega
         have HCC:=zH hcc;have HA:=zH ha;clear hcl hs' hcc ha hwo;go_wp2_with fail;go_round
         case rel =>
          refine⟨j+1,by omega,by go_num,?_⟩;rw[qf3,<-zU HS,<-zU HA,List.getD_eq_getElem?_getD,zU HCC];rfl
         case measure=>simp[intOf];omega
        ·have hjm2:j=m:=by omega
         have HJ:=zH hjm2;have hb3:s'.length<=dict.length+512:=by omega
         have hb4:dict.length<=s'.length:=by omega
         clear hcl hs' hjm2 hwo;go_wp2_with fail;go_roundw
         case rel =>
          refine⟨k+1,s',by omega,by go_num,rfl,hb4,hb3,?_,hbel.alloc hbel.size _⟩;have e1:qbj s ⟨[],f,m⟩=s':=by rw[zU HS,zU HJ];simp[qbj]
          rw[<-zU HP,qbo (zU HT),qY,if_neg (by rw[zU HE];omega),qgl (zU HT),e1]
         case measure=>simp[intOf];omega
     ·have hE:qw dict.length s (qa0 l k) ⟨[],tf,tn⟩=1:=by unfold qw;rw[if_neg (by simp),if_pos (by show tn<3\/64<tn\/tf<1\/(s.length:Int)<tf;omega)]
      have HE:=zH hE;clear hE;go_wp2_with ((go_at_call 110;first|(refine (qcZ _ _ _ _ ⟨by omega,by omega⟩).mono ?_;rintro e w1 ⟨rfl,rfl⟩)|(refine (qdy _ _ _ _ (by omega)).mono ?_;rintro e w1 ⟨rfl,rfl⟩)));go_ret2;rw[<-zU HP,qbo (zU HT),qY,if_pos (by rw[zU HE];omega),zU HE];exact⟨rfl,hbel.alloc hbel.size _⟩
    ·have hE:qw dict.length s (qa0 l k) ⟨[],tf,tn⟩=1:=by unfold qw;rw[if_neg (by simp),if_pos (by show tn<3\/64<tn\/tf<1\/(s.length:Int)<tf;omega)]
     have HE:=zH hE;clear hE;go_wp2_with ((go_at_call 110;first|(refine (qcZ _ _ _ _ ⟨by omega,by omega⟩).mono ?_;rintro e w1 ⟨rfl,rfl⟩)|(refine (qdy _ _ _ _ (by omega)).mono ?_;rintro e w1 ⟨rfl,rfl⟩)));go_ret2;rw[<-zU HP,qbo (zU HT),qY,if_pos (by rw[zU HE];omega),zU HE];exact⟨rfl,hbel.alloc hbel.size _⟩
   ·have hl1:tl.isEmpty=false:=by simpa using hlit
    have hl2:(tl == [])=false:=by simpa using hlit
    have HL:=zH hlit;have HP:=zH hpl;have HT:=zH ht;have HCELL:=zH hc;clear hlit hpl ht hc
    by_cases h1:tf=0
    ·subst h1
     by_cases h2:tn=0
     ·subst h2
      by_cases hk0:0<k
      ·have hk1:k-1<l.length:=by omega
       obtain⟨tp,htp⟩:∃t,l[k-1]?=some t:=⟨_,zG hk1⟩
       obtain⟨r0,_,_⟩:=(zU HCELL) (k-1) tp htp;obtain⟨pl,pf,pn⟩:=tp;have hv:qa0 l k = !pl.isEmpty:=by unfold qa0;rw[htp];simp[hk0,qcO]
       have hj2:((k:Int)-1).toNat=k-1:=by omega
       clear htp
       by_cases hpe:pl=[]
       ·subst hpe;have HV:=zH (show qa0 l k=false by rw[hv];rfl);clear hv
        by_cases h4:512<tl.length+(s.length-dict.length)
        ·have hE:qw dict.length s (qa0 l k) ⟨tl,0,0⟩=2:=by rw[zU HV];simp[qw,zU HL,h4]
         have HE:=zH hE;have h5:512-((s.length:Int)-(dict.length:Int))<(tl.length:Int):=by omega
         clear hE;go_wp2_with fail;go_ret2;rw[<-zU HP,qbo (zU HT),qY,if_pos (by rw[zU HE];omega),zU HE];exact⟨rfl,hbel.alloc hbel.size _⟩
        ·have hE:qw dict.length s (qa0 l k) ⟨tl,0,0⟩=0:=by rw[zU HV];simp[qw,zU HL];omega
         have HE:=zH hE;have h5:(tl.length:Int)<=512-((s.length:Int)-(dict.length:Int)):=by omega
         clear hE;go_wp2_with fail;go_roundw
         case rel =>
          refine⟨k+1,s++tl,by omega,by go_num,rfl,by rw[zL];omega,by rw[zL];omega,?_,hbel.alloc hbel.size _⟩;have e1:qbj s ⟨tl,0,0⟩=s++tl:=by simp[qbj,zU HL]
          rw[<-zU HP,qbo (zU HT),qY,if_neg (by rw[zU HE];omega),qgl (zU HT),e1]
         case measure=>simp[intOf];omega
       ·have hp1:pl.isEmpty=false:=by simpa using hpe
        have hp2:(pl == [])=false:=by simpa using hpe
        have hE:qw dict.length s (qa0 l k) ⟨tl,0,0⟩=1:=by rw[hv,hp1];simp[qw,zU HL]
        have HE:=zH hE;clear hpe hE hv;go_wp2_with fail;go_ret2;rw[<-zU HP,qbo (zU HT),qY,if_pos (by rw[zU HE];omega),zU HE];exact⟨rfl,hbel.alloc hbel.size _⟩
      ·have hk1:k<1:=by omega
       have HV:=zH (show qa0 l k=false by unfold qa0;simp[hk0])
       by_cases h4:512<tl.length+(s.length-dict.length)
       ·have hE:qw dict.length s (qa0 l k) ⟨tl,0,0⟩=2:=by rw[zU HV];simp[qw,zU HL,h4]
        have HE:=zH hE;have h5:512-((s.length:Int)-(dict.length:Int))<(tl.length:Int):=by omega
        clear hE;go_wp2_with fail;go_ret2;rw[<-zU HP,qbo (zU HT),qY,if_pos (by rw[zU HE];omega),zU HE];exact⟨rfl,hbel.alloc hbel.size _⟩
       ·have hE:qw dict.length s (qa0 l k) ⟨tl,0,0⟩=0:=by rw[zU HV];simp[qw,zU HL];omega
        have HE:=zH hE;have h5:(tl.length:Int)<=512-((s.length:Int)-(dict.length:Int)):=by omega
        clear hE;go_wp2_with fail;go_roundw
        case rel =>
         refine⟨k+1,s++tl,by omega,by go_num,rfl,by rw[zL];omega,by rw[zL];omega,?_,hbel.alloc hbel.size _⟩;have e1:qbj s ⟨tl,0,0⟩=s++tl:=by simp[qbj,zU HL]
         rw[<-zU HP,qbo (zU HT),qY,if_neg (by rw[zU HE];omega),qgl (zU HT),e1]
        case measure=>simp[intOf];omega
     ·have z1:(tn == 0)=false:=zB.2 h2;have z2:(tn != 0)=true:=by rw[bne_iff_ne];exact h2
      have hE:qw dict.length s (qa0 l k) ⟨tl,0,tn⟩=1:=by simp[qw,zU HL,h2]
      have HE:=zH hE;clear h2 hE;go_wp2_with fail;go_ret2;rw[<-zU HP,qbo (zU HT),qY,if_pos (by rw[zU HE];omega),zU HE];exact⟨rfl,hbel.alloc hbel.size _⟩
    ·have z1:(tf == 0)=false:=zB.2 h1;have z2:(tf != 0)=true:=by rw[bne_iff_ne];exact h1
     have hE:qw dict.length s (qa0 l k) ⟨tl,tf,tn⟩=1:=by simp[qw,zU HL,h1]
     have HE:=zH hE;clear h1 hE;go_wp2_with fail;go_ret2;rw[<-zU HP,qbo (zU HT),qY,if_pos (by rw[zU HE];omega),zU HE];exact⟨rfl,hbel.alloc hbel.size _⟩
  ·have hkn2:k=n:=by omega
   have hpl2:qF dict l=(slice s dict.length s.length,0):=by
    rw[<-hpl,hkn2,List.drop_of_length_le (by have:=hl.1;omega),qY,qcc]
   have HP:=zH hpl2;clear hpl2 hkn2 hpl;go_wp2_with fail;go_ret2;rw[zU HP];exact⟨rfl,hbel⟩
theorem qmj(dict:qa)(A:Option Addr)(n cap:Nat)(w:World)(hd:256<dict.length)(hd2:dict.length<=9223372036854775807) :
  Calls Tryz.prog 182 #[S dict,.slice A n cap] w fun e w'=>e=.returned (.tuple #[S [],I 2])/\Below w.heap.size w w':=by
 go_enter Tryz.func182,Tryz.ntmps182;go_wp2_with fail;go_ret2;exact⟨rfl,Below.refl _ _⟩
theorem qii(dict:qa)(A:Option Addr)(n cap:Nat)(l:List Tok)(w:World)(hl:ToksAt w w.heap.size A n l)(hd:dict.length<=9223372036854775807)(hn:n<=4611686018427387904) :
  Calls Tryz.prog 182 #[S dict,.slice A n cap] w fun e w'=>e=.returned (.tuple #[S (qF dict l).1,I (qF dict l).2])/\Below w.heap.size w w':=by
 by_cases h:dict.length<=256
 ·exact qmi dict A n cap l w hl h hn
 ·have e:qF dict l=([],2):=by unfold qF;exact if_pos (by unfold qbY;omega)
  rw[e];exact qmj dict A n cap w (by omega) hd
end
section
open Go.RowKit Go.Lib Pl
theorem ql1(m:Nat):wrap64 ((2:Int) ^ (15-m))=(pw m:Int):=by
 have h:(2:Int) ^ (15-m)=((pw m:Nat):Int):=by unfold pw;norm_cast
 have:=qjd m;rw[h];exact IntWalk.wrap64_in _ ⟨by omega,by omega⟩
theorem qoM{x:Int}(h:¬0<x):kr1 x=0:=by unfold kr1;rw[if_neg h]
theorem qqv{m:Nat}(h:0<m):kr1 (m:Int)=pw m:=by unfold kr1;rw[if_pos (by omega)];rfl
theorem qlk(l:List Int)(k:Nat)(hk:k<=16):kr (l.take k)<=524288:=by
 have:=qvg (l.take k);rw[List.length_take]at this;omega
theorem qij(l:List Int)(w:World)(hl:l.length=16) :
  Calls Tryz.prog 195 #[A16 l] w fun e w'=>e=.returned (I (qI l))/\Below w.heap.size w w':=by
 have hg0:=heap_alloc_new w (.cells (qg l) 168);have HG0:=zH hg0;have HL:=zH hl;have hbel:=(Below.refl w.heap.size w).alloc (Nat.le_refl _) (.cells (qg l) 168);have HBEL:=zH hbel;clear hl hg0 hbel;go_enter Tryz.func195,Tryz.ntmps195;go_wp2_with (first|(refine qj rfl (.tmp 1) rfl w.heap.size rfl l (zU HL) (zU HG0) ?_)|fail);go_loop [3,5,7] (fun s _ i=>∃ (k:Nat) (r:Int),k<=16/\i=.int .i64 k/\s=.int .i64 r/\r=32768-(kr (l.take k):Int)/\(l.take k).any qcL=false) (fun _ _ i=>16-(intOf i).toNat)
 case atStart=>exact⟨0,32768,by omega,rfl,rfl,by simp[kr],by simp⟩
 case round =>
  obtain⟨k,r,hk,rfl,rfl,hr,hnb⟩:=hrel;have hkl:=qlk l k hk;have hr1 : -1000000<=r:=by omega
  have hr2:r<=32768:=by omega
  have HR:=zH hr;have HNB:=zH hnb;clear hr hnb hkl
  by_cases hk16:k<16
  ·obtain⟨x,hx⟩:∃x,l[k]?=some x:=⟨_,zG (by have:=zU HL;omega)⟩
   have hix:=qgP l (zU HL) k x hx;have HX:=zH hx;clear hx
   by_cases hb:x<0\/15<x
   ·have hres:qI l=3:=qlI (qjZ (k:=k+1) (by rw[qhV (zU HX)];simp[qcL,hb]));have HRES:=zH hres
    have hsz:(x<0)\/(decide (x<0)=false/\15<x):=by
     rcases hb with h|h
     ·exact .inl h
     ·exact .inr ⟨by simp;omega,h⟩
    clear hres hb
    rcases hsz with h0|⟨h0,h1⟩
    all_goals
     go_wp2_with fail;go_ret;exact⟨by rw[zU HRES];rfl,zU HBEL⟩
   ·have hnb2:(l.take (k+1)).any qcL=false:=by rw[qhV (zU HX),zU HNB];simp[qcL];omega
    have HN2:=zH hnb2;obtain⟨m,rfl⟩:=Int.eq_ofNat_of_zero_le (show 0<=x by omega);have hm15:m<=15:=by omega
    have d1:decide ((m:Int)<0)=false:=by simp
    have hkt:=qqt (zU HX);have HKT:=zH hkt;have hpw:=ql1 m;have hpl:=qjd m;clear hnb2 hkt hb
    by_cases hp:0<m
    ·have hk1:=qqv hp;have HK1:=zH hk1;clear hk1;go_wp2_with fail;go_round
     case rel=>exact⟨k+1,r-(pw m:Nat),by omega,by go_num,rfl,by rw[zU HR,zU HKT,zU HK1];omega,zU HN2⟩
     case measure=>simp[intOf];omega
    ·have hk1:=qoM (x:=(m:Int)) (by omega);have HK1:=zH hk1;clear hk1;go_wp2_with fail;go_round
     case rel=>exact⟨k+1,r,by omega,by go_num,rfl,by rw[zU HR,zU HKT,zU HK1];omega,zU HN2⟩
     case measure=>simp[intOf];omega
  ·have hfin:l.take k=l:=List.take_of_length_le (by have:=zU HL;omega);have hnb:=zU HNB;have hr:=zU HR;rw[hfin]at hnb hr
   by_cases hbad:kr l=0\/32768<kr l
   ·have hres:=qgX hnb hbad;have HRES:=zH hres
    have hsz:(r<0)\/(decide (r<0)=false/\(r == 32768)=true):=by
     rcases hbad with h|h
     ·exact .inr ⟨by simp;omega,by rw[beq_iff_eq];omega⟩
     ·exact .inl (by omega)
    clear hres hbad hnb hr hfin
    rcases hsz with h0|⟨h0,h1⟩
    all_goals
     go_wp2_with fail;go_ret;exact⟨by rw[zU HRES];rfl,zU HBEL⟩
   ·have hres:=qi0 hnb hbad;have HRES:=zH hres;have h0:decide (r<0)=false:=by simp;omega
    have h1:(r == 32768)=false:=by rw[zB];omega
    clear hres hbad hnb hr hfin;go_wp2_with fail;go_ret;exact⟨by rw[zU HRES];rfl,zU HBEL⟩
theorem qhb(l:List Int)(w:World)(hl:l.length=16) :
  Calls Tryz.prog 177 #[A16 l] w fun e w'=>e=.returned (I (qI l))/\Below w.heap.size w w':=by
 have hg0:=heap_alloc_new w (.cells (qg l) 168);have HG0:=zH hg0;have HL:=zH hl;have hbel:=(Below.refl w.heap.size w).alloc (Nat.le_refl _) (.cells (qg l) 168);have HBEL:=zH hbel;clear hl hg0 hbel;go_enter Tryz.func177,Tryz.ntmps177;go_wp2_with fail;go_loop [3,4,5] (fun s u i=>∃ (k r:Nat) (b:Bool),k<=16/\i=.int .i64 k/\s=.int .i64 r/\u=.bool b/\r=kr (l.take k)/\(l.take k).any qcL=false/\b=decide (0<r)) (fun _ _ i=>16-(intOf i).toNat)
 case atStart=>exact⟨0,0,false,by omega,rfl,rfl,rfl,by simp[kr],by simp,rfl⟩
 case round =>
  obtain⟨k,r,b,hk,rfl,rfl,rfl,hr,hnb,hbb⟩:=hrel;have hkl:=qlk l k hk;have hr2:r<=524288:=by omega
  have HR:=zH hr;have HNB:=zH hnb;have HBB:=zH hbb;clear hr hnb hkl hbb
  by_cases hk16:k<16
  ·obtain⟨x,hx⟩:∃x,l[k]?=some x:=⟨_,zG (by have:=zU HL;omega)⟩
   have hc:=qbC (zU HG0) hx;have HX:=zH hx;clear hx
   by_cases hb:x<0\/15<x
   ·have hres:qI l=3:=qlI (qjZ (k:=k+1) (by rw[qhV (zU HX)];simp[qcL,hb]));have HRES:=zH hres;have C1:=zH (fun (W:World)=>qdy x 0 15 W (by omega));clear hres hb;go_wp2_with (go_at_call 110;refine (zU C1 _).mono ?_;rintro e w1 ⟨rfl,rfl⟩);go_ret;exact⟨by rw[zU HRES];rfl,zU HBEL⟩
   ·have hnb2:(l.take (k+1)).any qcL=false:=by rw[qhV (zU HX),zU HNB];simp[qcL];omega
    have HN2:=zH hnb2;obtain⟨m,rfl⟩:=Int.eq_ofNat_of_zero_le (show 0<=x by omega);have hm15:m<=15:=by omega
    have C1:=zH (fun (W:World)=>qcZ (m:Int) 0 15 W ⟨by omega,by omega⟩);have hkt:=qqt (zU HX);have HKT:=zH hkt;have hpw:=ql1 m;have hpl:=qjd m;have hpp:=qef m;clear hnb2 hkt hb
    by_cases hp:0<m
    ·have hk1:=qqv hp;have HK1:=zH hk1;clear hk1;go_wp2_with (go_at_call 110;refine (zU C1 _).mono ?_;rintro e w1 ⟨rfl,rfl⟩);go_round
     case rel=>exact⟨k+1,r+pw m,true,by omega,by go_num,by go_num,rfl,by rw[zU HR,zU HKT,zU HK1],zU HN2,by simp;omega⟩
     case measure=>simp[intOf];omega
    ·have hk1:=qoM (x:=(m:Int)) (by omega);have HK1:=zH hk1;clear hk1;go_wp2_with (go_at_call 110;refine (zU C1 _).mono ?_;rintro e w1 ⟨rfl,rfl⟩);go_round
     case rel=>exact⟨k+1,r,b,by omega,by go_num,rfl,rfl,by rw[zU HR,zU HKT,zU HK1];omega,zU HN2,zU HBB⟩
     case measure=>simp[intOf];omega
  ·have hfin:l.take k=l:=List.take_of_length_le (by have:=zU HL;omega);have hnb:=zU HNB;have hr:=zU HR;have hbb:=zU HBB;rw[hfin]at hnb hr
   by_cases h0:r=0
   ·have hb0:b=false:=by rw[hbb,h0];rfl
    subst hb0;have hres:=qgX hnb (.inl (by omega));have HRES:=zH hres;clear hres hnb hr hfin hbb h0;go_wp2_with fail;go_ret;exact⟨by rw[zU HRES];rfl,zU HBEL⟩
   ·have hb1:b=true:=by rw[hbb];simp;omega
    subst hb1
    by_cases hbig:32768<r
    ·have hres:=qgX hnb (.inr (by omega));have HRES:=zH hres;clear hres hnb hr hfin hbb h0;go_wp2_with fail;go_ret;exact⟨by rw[zU HRES];rfl,zU HBEL⟩
    ·have hres:=qi0 hnb (by omega);have HRES:=zH hres;clear hres hnb hr hfin hbb h0;go_wp2_with fail;go_ret;exact⟨by rw[zU HRES];rfl,zU HBEL⟩
theorem qjQ:∀(l:List Int) (a b:Int),b<=l.foldl min a↔b<=a/\∀x∈l,b<=x
 | [],a,b=>by simp
 | x::l,a,b=>by
  rw[List.foldl_cons,qjQ l];simp only[List.mem_cons,forall_eq_or_imp];constructor
  ·rintro⟨h1,h2⟩;exact⟨by omega,by omega,h2⟩
  ·rintro⟨h1,h2,h3⟩;exact⟨by omega,h3⟩
theorem qjR:∀(l:List Int) (a b:Int),l.foldl max a<=b↔a<=b/\∀x∈l,x<=b
 | [],a,b=>by simp
 | x::l,a,b=>by
  rw[List.foldl_cons,qjR l];simp only[List.mem_cons,forall_eq_or_imp];constructor
  ·rintro⟨h1,h2⟩;exact⟨by omega,by omega,h2⟩
  ·rintro⟨h1,h2,h3⟩;exact⟨by omega,h3⟩
theorem quu{l:List Int}(h:l≠[])(b:Int):b<=Lib.minOf l↔∀x∈l,b<=x:=by
 unfold Lib.minOf;rw[qjQ];cases l with
 | nil=>exact absurd rfl h
 | cons a l =>
  simp only[List.headD_cons,List.mem_cons,forall_eq_or_imp];exact⟨fun h=>h.2,fun h=>⟨h.1,h⟩⟩
theorem quv{l:List Int}(h:l≠[])(b:Int):Lib.maxOf l<=b↔∀x∈l,x<=b:=by
 unfold Lib.maxOf;rw[qjR];cases l with
 | nil=>exact absurd rfl h
 | cons a l =>
  simp only[List.headD_cons,List.mem_cons,forall_eq_or_imp];exact⟨fun h=>h.2,fun h=>⟨h.1,h⟩⟩
theorem quR(c:List Int):qbq c=true↔(∀x∈c,0<=x)/\∀x∈c,x<=2048:=by
 constructor
 ·intro h;have:=qhF h;exact⟨fun x hx=>(this x hx).1,fun x hx=>(this x hx).2⟩
 ·rintro⟨h1,h2⟩;exact qjU fun x hx=>⟨h1 x hx,h2 x hx⟩
theorem quS(c:List Int)(w:World)(hc:c.length=16) :
  Calls Tryz.prog 190 #[A16 c] w fun e w'=>e=.returned (.bool (qbq c))/\Below w.heap.size w w':=by
 have hg0:=heap_alloc_new w (.cells (qg c) 168);have hbel:=(Below.refl w.heap.size w).alloc (Nat.le_refl _) (.cells (qg c) 168);have HBEL:=zH hbel;have hne:c≠[]:=by intro e;rw[e]at hc;simp at hc
 have hcell:∀j,j<c.length->(w.alloc (.cells (qg c) 168)).cell? ⟨w.heap.size,0+j,none⟩=some (.int .i64 (c.getD j 0)):=fun j hj=>by
  rw[Nat.zero_add];refine qbC hg0 ?_;rw[List.getD_eq_getElem?_getD,zG hj];rfl
 have ht:c.take 16=c:=List.take_of_length_le (by omega);have K1:=Tryz.slices_Min_int w.heap.size 0 16 16 c (w.alloc (.cells (qg c) 168)) (by omega) (by omega) (by omega) hcell;have K2:=Tryz.slices_Max_int w.heap.size 0 16 16 c (w.alloc (.cells (qg c) 168)) (by omega) (by omega) (by omega) hcell;rw[ht]at K1 K2;have hf:=quR c;rw[<-quu hne,<-quv hne]at hf;obtain⟨a,ha⟩:∃a,a=Lib.minOf c:=⟨_,rfl⟩
 obtain⟨b,hb⟩:∃b,b=Lib.maxOf c:=⟨_,rfl⟩
 rw[<-ha]at K1 hf;rw[<-hb]at K2 hf;have K1:=zH K1;have K2:=zH K2;clear ha hb hcell hg0 hbel ht hne;cases hfb:qbq c with
 | true =>
  obtain⟨h1,h2⟩:=hf.1 hfb;clear hf hfb;go_enter Tryz.func190,Tryz.ntmps190
  go_wp2_with (first
   | (go_at_call 213;refine (zU K1).mono ?_;rintro e w1 ⟨rfl,rfl⟩)
   | (go_at_call 214;refine (zU K2).mono ?_;rintro e w1 ⟨rfl,rfl⟩))
  go_ret;exact⟨rfl,zU HBEL⟩
 | false =>
  have hcs:(a<0)\/(0<=a/\2048<b/\decide (b<=2048)=false):=by
   by_cases h1:a<0
   ·exact .inl h1
   ·refine .inr ⟨by omega,?_⟩
    rcases Int.lt_or_le 2048 b with h2|h2
    ·exact⟨h2,by simp;omega⟩
    ·have:=hf.2 ⟨by omega,h2⟩;rw[hfb]at this;cases this
  clear hf hfb
  rcases hcs with h1|⟨h1,h2,h3⟩
  all_goals
   go_enter Tryz.func190,Tryz.ntmps190
   go_wp2_with (first
    | (go_at_call 213;refine (zU K1).mono ?_;rintro e w1 ⟨rfl,rfl⟩)
    | (go_at_call 214;refine (zU K2).mono ?_;rintro e w1 ⟨rfl,rfl⟩))
   go_ret;exact⟨rfl,zU HBEL⟩
theorem qnf{l:List Int}{k:Nat}{x:Int}(h:l[k]?=some x):(l.take (k+1)).any qfr=((l.take k).any qfr || qfr x):=by
 rw[List.take_add_one,h,List.any_append];simp
theorem qpn{l:List Int}{k:Nat}(h:(l.take k).any qfr=true):l.any qfr=true:=by
 rw[List.any_eq_true]at h ⊢;obtain⟨x,hx,hb⟩:=h;exact⟨x,List.mem_of_mem_take hx,hb⟩
theorem qme(c:List Int)(w:World)(hc:c.length=16) :
  Calls Tryz.prog 226 #[A16 c] w fun e w'=>e=.returned (.bool (qbq c))/\Below w.heap.size w w':=by
 have hg0:=heap_alloc_new w (.cells (qg c) 168);have hbel:=(Below.refl w.heap.size w).alloc (Nat.le_refl _) (.cells (qg c) 168);have HBEL:=zH hbel;have HG0:=zH hg0;have HL:=zH hc;clear hbel hg0 hc;go_enter Tryz.func226,Tryz.ntmps226;go_wp2_with fail;go_loop [3] (fun i=>∃k:Nat,k<=16/\i=.int .i64 k/\(c.take k).any qfr=false) (fun i=>16-(intOf i).toNat)
 case atStart=>exact⟨0,by omega,rfl,by simp⟩
 case round =>
  obtain⟨k,hk,rfl,hnb⟩:=hrel;have HNB:=zH hnb;clear hnb
  by_cases hk16:k<16
  ·obtain⟨x,hx⟩:∃x,c[k]?=some x:=⟨_,zG (by have:=zU HL;omega)⟩
   have hcl:=qbC (zU HG0) hx;have HX:=zH hx;clear hx
   by_cases hb:x<0\/2048<x
   ·have hres:qbq c=false:=by
     unfold qbq;rw[qpn (k:=k+1) (by rw[qnf (zU HX)];simp[qfr,hb])];rfl
    have HRES:=zH hres;have C1:=zH (fun (W:World)=>qdy x 0 2048 W (by omega));clear hres hb;go_wp2_with (go_at_call 110;refine (zU C1 _).mono ?_;rintro e w1 ⟨rfl,rfl⟩);go_ret;exact⟨by rw[zU HRES];rfl,zU HBEL⟩
   ·have hnb2:(c.take (k+1)).any qfr=false:=by rw[qnf (zU HX),zU HNB];simp[qfr];omega
    have HN2:=zH hnb2;have C1:=zH (fun (W:World)=>qcZ x 0 2048 W ⟨by omega,by omega⟩);clear hnb2 hb;go_wp2_with (go_at_call 110;refine (zU C1 _).mono ?_;rintro e w1 ⟨rfl,rfl⟩);go_round
    case rel=>exact⟨k+1,by omega,by go_num,zU HN2⟩
    case measure=>simp[intOf];omega
  ·have hfin:c.take k=c:=List.take_of_length_le (by have:=zU HL;omega)
   have hres:qbq c=true:=by
    have:=zU HNB;rw[hfin]at this;unfold qbq;rw[this];rfl
   have HRES:=zH hres;clear hfin hres;go_wp2_with fail;go_ret;exact⟨by rw[zU HRES];rfl,zU HBEL⟩
end
end Go.Proofs.YtbnmfdlaabdlhaaGreatDoor
