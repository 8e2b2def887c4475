/- Parts of the proofs. -/
import Derived.Test.YtjpgoeimclipjaaGreatLg13
import Derived.Deep.DeepCutAuto
import Derived.Deep.QuietTactic
import Derived.BigQuiet
import Derived.Deep.Slices
import Derived.Deep.Fields
import Derived.ChangeSame
import Derived.Carry
import Derived.OpenVars
import Derived.HandedShaped
import Derived.Shelf.Vars
import Derived.Lib.SmallJoins
namespace Go.Proofs.YtjpgoeimclipjaaGreat
open Go.RowKit Go.Lib Pl
attribute [local go_sem] ext_list app_list
theorem eyeN_lenL (e:Eye):(eyeN e).2.1.length≤e.1.length:=by
 unfold eyeN;cases ht:take e.1 with
 | none=>simp
 | some x=>obtain ⟨k,t⟩:=x;exact (take_len ht).1
theorem eyeT_lenL (e:Eye):(eyeT e).1.length≤e.1.length∧(eyeT e).2.1.length≤e.1.length:=by
 have h:=eyeN_lenL e;unfold eyeT
 split
 ·exact ⟨by simp,h⟩
 ·exact ⟨by simp only [List.length_take];omega,by simp only [List.length_drop];omega⟩
structure AfM (w W:World) (B C:Nat) (e1 e2:Eye):Prop where
 z:W.heap[B]? = some (.cells #[I 0,I 0,S [],S []] 29 (0,0))
 p:EyeAt W (B+1) e1
 q:EyeAt W C e2
 bc:B+1<C
 bel:Below B w W
structure AfD (w W:World) (B C D:Nat) (e1 e2:Eye) (cs:Array Value):Prop where
 m:AfM w W B C e1 e2
 d:W.heap[D]? = some (.cells cs 29 (0,0))
 cd:C<D
section
variable {w W W' : World} {B C D : Nat} {e1 e2 : Eye} {cs : Array Value}
theorem AfM.below (h:AfM w W B C e1 e2) (hb:Below W.heap.size W W'):AfM w W' B C e1 e2:=by
 have h1:=h.p.lt;exact ⟨(hb.block _ (by omega)).trans h.z,h.p.below hb,h.q.below hb,h.bc,h.bel.trans (hb.mono (by omega))⟩
theorem AfM.eye (h:AfM w W B C e1 e2) {e':Eye} (hq:EyeAt W' C e') (hg:W.grownBy W' (some C)):AfM w W' B C e1 e':=by
 have h1:=h.p.lt;have h2:=h.bc;exact ⟨(hg.block B (by omega) (fun e=>by injection e with e;omega)).trans h.z,(hg.block (B+1) (by omega) (fun e=>by injection e with e;omega)).trans h.p,hq,h.bc,h.bel.grown hg (by omega) (fun k hk=>by injection hk with hk;omega)⟩
theorem AfD.below (h:AfD w W B C D e1 e2 cs) (hb:Below W.heap.size W W'):AfD w W' B C D e1 e2 cs :=
 ⟨h.m.below hb,(hb.block _ (Array.getElem?_eq_some_iff.1 h.d).1).trans h.d,h.cd⟩
theorem AfD.eye (h:AfD w W B C D e1 e2 cs) {e':Eye} (hq:EyeAt W' C e') (hg:W.grownBy W' (some C)):AfD w W' B C D e1 e' cs:=by
 have h1:=(Array.getElem?_eq_some_iff.1 h.d).1;have h2:=h.cd;exact ⟨h.m.eye hq hg,(hg.block D h1 (fun e=>by injection e with e;omega)).trans h.d,h.cd⟩
theorem AfD.new (h:AfM w W B C e1 e2) (cs:Array Value):AfD w ((W.alloc (.cells #[I 0,I 0,S [],S []] 29)).setRow W.heap.size cs) B C W.heap.size e1 e2 cs :=
 ⟨h.below (below_setRow ((Below.refl _ _).alloc (Nat.le_refl _) _) (Nat.le_refl _) _),setRow_heap _ _ _ _ _ _ (heap_alloc_new _ _),h.q.lt⟩
theorem AfD.set (h:AfD w W B C D e1 e2 cs) (k:Nat) (v:Value):AfD w (W.setCell ⟨D,k,none⟩ v) B C D e1 e2 (cs.setIfInBounds k v):=by
 have h1:=h.m.bc;have h2:=h.cd;rw [setCell_eq_setRow W D k _ _ _ _ h.d];have ho:∀ j,j≠D→(W.setRow D (cs.setIfInBounds k v)).heap[j]? = W.heap[j]?:=fun j hj=>setRow_other W D j _ hj;exact ⟨⟨(ho _ (by omega)).trans h.m.z,(ho _ (by omega)).trans h.m.p,(ho _ (by omega)).trans h.m.q,h1,below_setRow h.m.bel (by omega) _⟩,setRow_heap _ _ _ _ _ _ h.d,h2⟩
theorem AfM.end_ (h:AfM w W B C e1 e2) (c:Array Value):(W.setRow B c).heap[B]? = some (.cells c 29 (0,0))∧Below B w (W.setRow B c):=⟨setRow_heap _ _ _ _ _ _ h.z,below_setRow h.bel (Nat.le_refl _) _⟩
end
theorem AfM.start (w:World) (s:Bytes):((w.alloc (.cells #[I 0,I 0,S [],S []] 29)).alloc (.cells #[S s,.bool false] 102)).heap[w.heap.size]? = some (.cells #[I 0,I 0,S [],S []] 29 (0,0)) ∧
  EyeAt ((w.alloc (.cells #[I 0,I 0,S [],S []] 29)).alloc (.cells #[S s,.bool false] 102)) (w.heap.size+1) (s,false)∧Below w.heap.size w ((w.alloc (.cells #[I 0,I 0,S [],S []] 29)).alloc (.cells #[S s,.bool false] 102)):=by
 have e1:(w.alloc (.cells #[I 0,I 0,S [],S []] 29)).heap.size=w.heap.size+1:=by simp
 have h2:=heap_alloc_new (w.alloc (.cells #[I 0,I 0,S [],S []] 29)) (.cells #[S s,.bool false] 102);rw [e1] at h2;exact ⟨(Below.heap_alloc _ _ _ (by rw [e1];omega)).trans (heap_alloc_new w _),h2,((Below.refl _ _).alloc (Nat.le_refl _) _).alloc (by simp) _⟩
theorem set_four {W:World} {p:Nat} {a b c d a' b' c' d':Value} {T:TypeId} (h:W.heap[p]? = some (.cells #[a,b,c,d] T (0,0))) :
  (((W.setCell ⟨p,0,none⟩ a').setCell ⟨p,1,none⟩ b').setCell ⟨p,2,none⟩ c').setCell ⟨p,3,none⟩ d'=W.setRow p #[a',b',c',d']:=by
 have h1:(W.setRow p #[a',b,c,d]).heap[p]? = some (.cells #[a',b,c,d] T (0,0)):=setRow_heap _ _ _ _ _ _ h;have h2:(W.setRow p #[a',b',c,d]).heap[p]? = some (.cells #[a',b',c,d] T (0,0)):=setRow_heap _ _ _ _ _ _ h;have h3:(W.setRow p #[a',b',c',d]).heap[p]? = some (.cells #[a',b',c',d] T (0,0)):=setRow_heap _ _ _ _ _ _ h;rw [setCell_eq_setRow W p 0 _ T (0,0) a' h];show (((W.setRow p #[a',b,c,d]).setCell _ b').setCell _ c').setCell _ d'=_;rw [setCell_eq_setRow _ p 1 _ T (0,0) b' h1,setRow_setRow];show ((W.setRow p #[a',b',c,d]).setCell _ c').setCell _ d'=_;rw [setCell_eq_setRow _ p 2 _ T (0,0) c' h2,setRow_setRow];show (W.setRow p #[a',b',c',d]).setCell _ d'=_;rw [setCell_eq_setRow _ p 3 _ T (0,0) d' h3,setRow_setRow];rfl
set_option maxHeartbeats 8000000 in
set_option maxRecDepth 100000 in
theorem actFrom_any (s:Bytes) (w:World) (hs:s.length≤140737488355328) :
  Calls Tryz.prog 98 #[S s] w fun e w'=>ReadAct (actFrom s) e∧Below w.heap.size w w':=by
 obtain ⟨B,hB⟩:∃ B,B=w.heap.size:=⟨_,rfl⟩
 obtain ⟨w0,hw0⟩:∃ w0,w0=(w.alloc (.cells #[I 0,I 0,S [],S []] 29)).alloc (.cells #[S s,.bool false] 102):=⟨_,rfl⟩
 have h0:w0.heap[B]? = some (.cells #[I 0,I 0,S [],S []] 29 (0,0))∧EyeAt w0 (B+1) (s,false)∧Below B w w0:=by rw [hw0,hB];exact AfM.start w s
 obtain ⟨r,hr⟩:∃ r,r=actFrom s:=⟨_,rfl⟩
 have hrr:r=if (rB s).2.2=true∨(rY s).2.2=true∨(rY s).2.1≠[]∨actE (rA s)≠0 then none else some (rA s,(rB s).2.1):=by rw [hr,←refAct_eq];rfl
 rw [←hr,←hB];have l0:=eyeT_lenL (s,false);have l1:(eyeN ((rB s).1,false)).2.1.length≤(rB s).1.length:=eyeN_lenL _;have l2:(eyeN (rK s).2).2.1.length≤(rK s).2.1.length:=eyeN_lenL _;have l3:=eyeT_lenL (rN s).2;have l4:=eyeT_lenL (rX s).2;obtain ⟨t0,e0⟩:∃ t,t=rB s:=⟨_,rfl⟩
 obtain ⟨k,ek⟩:∃ t,t=rK s:=⟨_,rfl⟩
 obtain ⟨n,en⟩:∃ t,t=rN s:=⟨_,rfl⟩
 obtain ⟨x,ex⟩:∃ t,t=rX s:=⟨_,rfl⟩
 obtain ⟨y,ey⟩:∃ t,t=rY s:=⟨_,rfl⟩
 have C0:∀ W,EyeAt W (B+1) (s,false)→Calls Tryz.prog 69 #[.pointer (some ⟨B+1,0,none⟩)] W fun r w'=>r = .returned (S t0.1)∧EyeAt w' (B+1) t0.2∧W.grownBy w' (some (B+1)):=fun W h=>by
  have:=eyeText_any (B+1) (s,false) W h (by simp only;omega);rw [show eyeT (s,false)=t0 from e0.symm] at this;exact this
 have ha:rA s=⟨(k.1:Nat),(n.1:Nat),x.1,y.1⟩:=by unfold rA;rw [ek,en,ex,ey]
 rw [ha,←e0,←ey] at hrr;have lt0:t0.1.length≤140737488355328:=by rw [e0];exact Nat.le_trans l0.1 hs
 have lk:k.2.1.length≤140737488355328:=by rw [ek];exact Nat.le_trans l1 (by rw [←e0];exact lt0)
 have ln:n.2.1.length≤140737488355328:=by rw [en];exact Nat.le_trans l2 (by rw [←ek];exact lk)
 have lx:x.2.1.length≤140737488355328∧x.1.length≤140737488355328:=by rw [ex];exact ⟨Nat.le_trans l3.2 (by rw [←en];exact ln),Nat.le_trans l3.1 (by rw [←en];exact ln)⟩
 have ly:y.1.length≤140737488355328:=by rw [ey];exact Nat.le_trans l4.1 (by rw [←ex];exact lx.1)
 have CK:∀ C W,EyeAt W C (t0.1,false)→Calls Tryz.prog 68 #[.pointer (some ⟨C,0,none⟩)] W fun r w'=>r = .returned (I k.1)∧EyeAt w' C k.2∧W.grownBy w' (some C):=fun C W h=>by
  have:=eyeNum_any C (t0.1,false) W h (by simp only;omega);rw [show eyeN (t0.1,false)=k from by rw [ek,e0];rfl] at this;exact this
 have CN:∀ C W,EyeAt W C k.2→Calls Tryz.prog 68 #[.pointer (some ⟨C,0,none⟩)] W fun r w'=>r = .returned (I n.1)∧EyeAt w' C n.2∧W.grownBy w' (some C):=fun C W h=>by
  have:=eyeNum_any C k.2 W h (by omega);rw [show eyeN k.2=n from by rw [en,ek];rfl] at this;exact this
 have CX:∀ C W,EyeAt W C n.2→Calls Tryz.prog 69 #[.pointer (some ⟨C,0,none⟩)] W fun r w'=>r = .returned (S x.1)∧EyeAt w' C x.2∧W.grownBy w' (some C):=fun C W h=>by
  have:=eyeText_any C n.2 W h (by omega);rw [show eyeT n.2=x from by rw [ex,en];rfl] at this;exact this
 have CY:∀ C W,EyeAt W C x.2→Calls Tryz.prog 69 #[.pointer (some ⟨C,0,none⟩)] W fun r w'=>r = .returned (S y.1)∧EyeAt w' C y.2∧W.grownBy w' (some C):=fun C W h=>by
  have:=eyeText_any C x.2 W h (by omega);rw [show eyeT x.2=y from by rw [ey,ex];rfl] at this;exact this
 have hkn:k.1≤2147483647∧n.1≤2147483647:=by
  have g:∀ e:Eye,(eyeN e).1≤2147483647:=fun e=>by
   unfold eyeN;cases ht:take e.1 with
   | none=>simp
   | some q=>obtain ⟨a,b⟩:=q;exact (take_len ht).2
  rw [ek,en];exact ⟨g _,g _⟩
 have CE:∀ W,Calls Tryz.prog 47 #[actV ⟨(k.1:Nat),(n.1:Nat),x.1,y.1⟩] W fun e w'=>e = .returned (I (actE ⟨(k.1:Nat),(n.1:Nat),x.1,y.1⟩))∧Below W.heap.size W w':=fun W =>
  actError_any _ W ⟨by simp only;omega,by simp only;omega,by simp only;omega,by simp only;omega,lx.2,ly⟩
 have C0:=zH C0;have CK:=zH CK;have CN:=zH CN;have CX:=zH CX;have CY:=zH CY;have HB:=zH hB;have HW0:=zH hw0;have HR:=zH hrr;have H0:=zH h0;clear hB hw0 hr hrr h0 l0 l1 l2 l3 l4 e0 ek en ex ey ha lt0 lk ln lx ly hkn hs;obtain ⟨t,q,bad1⟩:=t0;obtain ⟨k,ek⟩:=k;obtain ⟨n,en⟩:=n;obtain ⟨x,ex⟩:=x;obtain ⟨y,z,bad2⟩:=y;simp only at CE;obtain ⟨E,hE⟩:∃ E,E=actE ⟨(k:Nat),(n:Nat),x,y⟩:=⟨_,rfl⟩
 rw [←hE] at CE;have hrr:=zU HR;clear HR;simp only at hrr;rw [←hE] at hrr;have CE:=zH CE;have HR:=zH hrr;clear hrr hE;go_enter Tryz.func98,Tryz.ntmps98;go_upto_region 2 with fail
 rw [←zU HW0,←zU HB];go_wp2_with fail;refine (zU C0 _ (zU H0).2.1).mono ?_;rintro e w1 ⟨rfl,p1,g1⟩;obtain ⟨C,hC⟩:∃ C,C=w1.heap.size:=⟨_,rfl⟩
 obtain ⟨w2,hw2⟩:∃ w2,w2=w1.alloc (.cells #[S t,.bool false] 102):=⟨_,rfl⟩
 have H2:=zH (show AfM w w2 B C (q,bad1) (t,false) from by
  obtain ⟨z0,p0,b0⟩:=zU H0;have hlt:=p0.lt;have hlt1:=p1.lt;have hb:Below w1.heap.size w1 w2:=by rw [hw2];exact (Below.refl _ _).alloc (Nat.le_refl _) _
  exact ⟨(hb.block _ (by omega)).trans ((g1.block B (by omega) (by simp)).trans z0),p1.below hb,by rw [hw2,hC];exact heap_alloc_new _ _,by rw [hC];exact p1.lt,(b0.grown g1 (by omega) (fun k hk=>by injection hk with hk;omega)).trans (hb.mono (by omega))⟩)
 have HW2:=zH hw2;have HC:=zH hC;clear p1 g1 hw2 hC;go_upto_region 3 with fail
 rw [←zU HW2,←zU HC];go_wp2_with fail;refine (zU CK _ _ (zU H2).q).mono ?_;rintro e w3 ⟨rfl,p3,g3⟩;have H3:=zH ((zU H2).eye p3 g3);clear p3 g3;go_upto_region 4 with (refine wpList_store_row rfl 29 (.tmp 7) (.tmp 17) rfl w3.heap.size #[I k,I 0,S [],S []] rfl rfl 29 _ (heap_alloc_new _ _) sizeAct rfl (act_ones ⟨k,0,[],[]⟩) ?_)
 obtain ⟨w4,hw4⟩:∃ w4,w4=(w3.alloc (.cells #[I 0,I 0,S [],S []] 29)).setRow w3.heap.size #[I k,I 0,S [],S []]:=⟨_,rfl⟩
 obtain ⟨D,hD⟩:∃ D,D=w3.heap.size:=⟨_,rfl⟩
 have H4:=zH (show AfD w w4 B C D (q,bad1) ek #[I k,I 0,S [],S []] by rw [hw4,hD];exact AfD.new (zU H3) _);rw [←hw4,←hD];clear hw4 hD;go_wp2_with fail;refine (zU CN _ _ (zU H4).m.q).mono ?_;rintro e w5 ⟨rfl,p5,g5⟩;have H5:=zH ((zU H4).eye p5 g5);obtain ⟨c0,c1,c2,c3⟩:=act_cells (zU H5).d;have f1:=act_free (zU H5).d 1;have H6:=zH ((zU H5).set 1 (I n));clear p5 g5;go_wp2_with fail;refine (zU CX _ _ (zU H6).m.q).mono ?_;rintro e w7 ⟨rfl,p7,g7⟩;have H7:=zH ((zU H6).eye p7 g7);clear c0 c1 c2 c3 f1;obtain ⟨c0,c1,c2,c3⟩:=act_cells (zU H7).d;have f2:=act_free (zU H7).d 2;have H8:=zH ((zU H7).set 2 (S x));clear p7 g7;go_wp2_with fail;refine (zU CY _ _ (zU H8).m.q).mono ?_;rintro e w9 ⟨rfl,p9,g9⟩;have H9:=zH ((zU H8).eye p9 g9);clear c0 c1 c2 c3 f2;obtain ⟨c0,c1,c2,c3⟩:=act_cells (zU H9).d;have f3:=act_free (zU H9).d 3;have HA:=zH ((zU H9).set 3 (S y));clear p9 g9;go_upto_region 7 with fail
 clear c0 c1 c2 c3 f3;obtain ⟨wa,hwa⟩:∃ wa,wa=w9.setCell ⟨D,3,none⟩ (S y):=⟨_,rfl⟩
 have ha:=zU HA;rw [←hwa] at ha ⊢;have HA:=zH (show AfD w wa B C D (q,bad1) (z,bad2) #[I k,I n,S x,S y] from ha);clear ha hwa;obtain ⟨c0,c1,c2,c3⟩:=act_cells (zU HA).d;obtain ⟨a0,a1,_,_⟩:=(zU HA).m.p.c;obtain ⟨b0,b1,_,_⟩:=(zU HA).m.q.c;simp only at a0 a1 b0 b1;cases bad1 with
 | true =>
  have HR:=zH (show r=none by rw [zU HR,if_pos (.inl rfl)]);go_wp2_with (refine wpList_store_row rfl 29 (.tmp 2) (.tmp 49) rfl B #[I 0,I 0,S [],S []] rfl rfl 29 _ (zU HA).m.z sizeAct rfl (act_ones ⟨0,0,[],[]⟩) ?_);refine bodyPost_ret (results_row_tmp2 rfl _ _ B 29 #[I 0,I 0,S [],S []] (0,0) _ rfl ((zU HA).m.end_ _).1 Tryz.underlying29 rfl sizeAct) rfl ?_;rw [zU HR];exact ⟨ReadAct.none,((zU HA).m.end_ _).2⟩
 | false =>
  cases bad2 with
  | true =>
   have HR:=zH (show r=none by rw [zU HR,if_pos (.inr (.inl rfl))]);go_wp2_with (refine wpList_store_row rfl 29 (.tmp 2) (.tmp 49) rfl B #[I 0,I 0,S [],S []] rfl rfl 29 _ (zU HA).m.z sizeAct rfl (act_ones ⟨0,0,[],[]⟩) ?_);refine bodyPost_ret (results_row_tmp2 rfl _ _ B 29 #[I 0,I 0,S [],S []] (0,0) _ rfl ((zU HA).m.end_ _).1 Tryz.underlying29 rfl sizeAct) rfl ?_;rw [zU HR];exact ⟨ReadAct.none,((zU HA).m.end_ _).2⟩
  | false =>
   by_cases hz:z=[]
   ·subst hz
    by_cases hE:E=0
    ·subst hE;have HR:=zH (show r=some (⟨(k:Nat),(n:Nat),x,y⟩,q) by rw [zU HR,if_neg (by simp)]);go_wp2_with fail;refine (zU CE _).mono ?_;rintro e wb ⟨rfl,hbb⟩;have HD:=zH ((zU HA).below hbb);clear c0 c1 c2 c3 a0 a1 b0 b1 hbb;obtain ⟨c0,c1,c2,c3⟩:=act_cells (zU HD).d;obtain ⟨a0,a1,_,_⟩:=(zU HD).m.p.c;obtain ⟨v0,v1,v2,v3⟩:=act_cells (zU HD).m.z;have f0:=act_free (zU HD).m.z 0;have f1:=act_free (zU HD).m.z 1;have f2:=act_free (zU HD).m.z 2;have f3:=act_free (zU HD).m.z 3;simp only at a0 a1;go_wp2_with fail;go_region_law (fail)
     all_goals
      rw [set_four (zU HD).m.z];go_wp2_with fail;refine bodyPost_ret (results_row_tmp2 rfl _ _ B 29 #[I k,I n,S x,S y] (0,0) _ rfl ((zU HD).m.end_ _).1 Tryz.underlying29 rfl sizeAct) rfl ?_;rw [zU HR];refine ⟨⟨⟨k,n,x,y⟩,q,rfl,fun x' q' h=>by cases h;exact ⟨rfl,rfl⟩⟩,?_⟩
      first
       | exact ((zU HD).m.end_ #[I k,I n,S x,S y]).2
       | exact ((zU HD).m.end_ #[I k,I n,S x,S y]).2.drew
       | exact _root_.Go.below_drewN ((zU HD).m.end_ #[I k,I n,S x,S y]).2 _
    ·have HR:=zH (show r=none by rw [zU HR,if_pos (.inr (.inr (.inr hE)))]);have d1:((E:Int) != 0)=true:=by rw [bne_iff_ne];omega
     have d2:((E:Int) == 0)=false:=by rw [beq_eq_false_iff_ne];omega
     clear hE;go_wp2_with fail;refine (zU CE _).mono ?_;rintro e wb ⟨rfl,hbb⟩;have HD:=zH ((zU HA).below hbb);clear c0 c1 c2 c3 a0 a1 b0 b1 hbb;go_wp2_with (refine wpList_store_row rfl 29 (.tmp 2) (.tmp 49) rfl B #[I 0,I 0,S [],S []] rfl rfl 29 _ (zU HD).m.z sizeAct rfl (act_ones ⟨0,0,[],[]⟩) ?_);refine bodyPost_ret (results_row_tmp2 rfl _ _ B 29 #[I 0,I 0,S [],S []] (0,0) _ rfl ((zU HD).m.end_ _).1 Tryz.underlying29 rfl sizeAct) rfl ?_;rw [zU HR];exact ⟨ReadAct.none,((zU HD).m.end_ _).2⟩
   ·have HR:=zH (show r=none by rw [zU HR,if_pos (.inr (.inr (.inl hz)))]);have d1:(z != ([]:Bytes))=true:=by rw [bne_iff_ne];exact hz
    have d2:(z == ([]:Bytes))=false:=by rw [beq_eq_false_iff_ne];exact hz
    go_wp2_with (refine wpList_store_row rfl 29 (.tmp 2) (.tmp 49) rfl B #[I 0,I 0,S [],S []] rfl rfl 29 _ (zU HA).m.z sizeAct rfl (act_ones ⟨0,0,[],[]⟩) ?_);refine bodyPost_ret (results_row_tmp2 rfl _ _ B 29 #[I 0,I 0,S [],S []] (0,0) _ rfl ((zU HA).m.end_ _).1 Tryz.underlying29 rfl sizeAct) rfl ?_;rw [zU HR];exact ⟨ReadAct.none,((zU HA).m.end_ _).2⟩
end Go.Proofs.YtjpgoeimclipjaaGreat
namespace Go.Proofs.YtjpgoeimclipjaaGreat
open Go.RowKit Go.Lib Pl
attribute [local go_sem] ext_list app_list
theorem own_belowR {w w':World} {base e size n:Nat} {v:Value} {xs:List Value} (h:w.ownsRow base e size v n xs) (hb:Below w.heap.size w w'):w'.ownsRow base e size v n xs:=by
 refine ⟨h.1,?_⟩
 rcases h.2 with hn | ⟨g,cap,cur,rfl,hbb,hgg,rest⟩
 ·exact .inl hn
 ·exact .inr ⟨g,cap,cur,rfl,hbb,(hb.block g (Array.getElem?_eq_some_iff.1 hgg).1).trans hgg,rest⟩
def sliceLen:Value→Nat
 | .slice _ n _=>n
 | _=>0
theorem actsFrom_stop {f:Nat} {s:Bytes} (h:actFrom s=none):actsFrom f s=([],s):=by
 cases f with
 | zero=>rfl
 | succ f=>rw [actsFrom,h]
theorem actsFrom_more {f:Nat} {s r:Bytes} {x:Act'} (hf:0<f) (h:actFrom s=some (x,r)):actsFrom f s=(x::(actsFrom (f-1) r).1,(actsFrom (f-1) r).2):=by
 cases f with
 | zero=>omega
 | succ f=>rw [actsFrom,h];rfl
theorem actFrom_len {s r:Bytes} {x:Act'} (h:actFrom s=some (x,r)):r.length≤s.length:=by rw [(actFrom_some h).1];simp
def RpAt (s:Bytes) (acc:List Act') (rest:Bytes):Prop:=acc.length≤100∧rest.length≤s.length∧actsFrom 100 s=(acc++(actsFrom (100-acc.length) rest).1,(actsFrom (100-acc.length) rest).2)
theorem RpAt.nil (s:Bytes):RpAt s [] s:=⟨by simp,Nat.le_refl _,by simp⟩
theorem RpAt.push {s rest r:Bytes} {acc:List Act'} {x:Act'} (h:RpAt s acc rest) (hl:acc.length<100) (hx:actFrom rest=some (x,r)):RpAt s (acc++[x]) r:=by
 obtain ⟨h1,h2,h3⟩:=h;refine ⟨by simp;omega,Nat.le_trans (actFrom_len hx) h2,?_⟩;rw [h3,actsFrom_more (by omega) hx];simp only [List.length_append,List.length_singleton,List.append_assoc,List.cons_append,List.nil_append];rw [show 100-acc.length-1=100-(acc.length+1) from by omega]
theorem RpAt.stop {s rest:Bytes} {acc:List Act'} (h:RpAt s acc rest) (hx:actFrom rest=none) (hs:¬ 16384<s.length):replayL s=acc∧replayN s=s.length-rest.length∧replayE s=0:=by
 have h3:=h.2.2;rw [actsFrom_stop hx,List.append_nil] at h3;unfold replayL replayN replayE;rw [if_neg hs,if_neg hs,if_neg hs,h3];exact ⟨rfl,rfl,rfl⟩
theorem RpAt.full {s rest:Bytes} {acc:List Act'} (h:RpAt s acc rest) (hl:¬ acc.length<100) (hs:¬ 16384<s.length):replayL s=acc∧replayN s=s.length-rest.length∧replayE s=0:=by
 have h3:=h.2.2;have h1:=h.1;rw [show 100-acc.length=0 from by omega] at h3;have e0:∀ r,actsFrom 0 r=([],r):=fun _=>rfl;rw [e0,List.append_nil] at h3;unfold replayL replayN replayE;rw [if_neg hs,if_neg hs,if_neg hs,h3];exact ⟨rfl,rfl,rfl⟩
def ReplayRes (base:Nat) (s:Bytes) (e:Ending) (w':World):Prop:=∃ A cap,e = .returned (.tuple #[.slice A (replayL s).length cap,I (replayN s),I (replayE s)])∧w'.ownsRow base 29 4 (.slice A (replayL s).length cap) (replayL s).length (actsCells (replayL s))
theorem replay_long {s:Bytes} (h:16384<s.length):replayL s=[]∧replayN s=0∧replayE s=2:=by
 unfold replayL replayN replayE;rw [if_pos h,if_pos h,if_pos h];exact ⟨rfl,rfl,rfl⟩
theorem ReplayRes.mk {base n:Nat} {s:Bytes} {acc:List Act'} {k:Nat} {w':World} {A:Option Addr} {cap:Nat} (h:replayL s=acc∧replayN s=k∧replayE s=0) (hn:n=acc.length) (ho:w'.ownsRow base 29 4 (.slice A n cap) n (actsCells acc)):ReplayRes base s (.returned (.tuple #[.slice A n cap,I k,I 0])) w':=by
 subst hn;obtain ⟨h1,h2,h3⟩:=h;refine ⟨A,cap,?_,?_⟩
 ·rw [h1,h2,h3];rfl
 ·rw [h1];exact ho
theorem sub_len {a b:Nat} (h:b≤a):((a:Int)-(b:Int))=((a-b:Nat):Int):=by omega
set_option maxHeartbeats 8000000 in
set_option maxRecDepth 100000 in
theorem replay_any (s:Bytes) (w:World) (hs:s.length≤140737488355328) :
  Calls Tryz.prog 49 #[S s] w fun e w'=>ReplayRes w.heap.size s e w'∧Below w.heap.size w w':=by
 by_cases hb:16384<s.length
 ·have hl:=replay_long hb;have HL:=zH hl;have z1:(16384:Int)<(s.length:Int):=by omega
  clear hb hl;go_enter Tryz.func49,Tryz.ntmps49;go_wp2_with fail;go_step3;go_wp2_with fail
  try rw [Exit.noGoto_ret]
  go_ret3;obtain ⟨h1,h2,h3⟩:=zU HL;refine ⟨⟨none,0,?_,?_⟩,Below.refl _ _⟩
  ·rw [h1,h2,h3];rfl
  ·rw [h1];exact World.ownsRow_nil _ _ _ _
 have HNB:=zH hb;have z1:¬ (16384:Int)<(s.length:Int):=by omega
 clear hb;go_enter Tryz.func49,Tryz.ntmps49;go_wp2_with fail;go_step3;go_wp2_with fail;go_step3;go_wp2_with fail;go_loopw [5,6,7,8,9] (fun lv sv _ _ _ wr=>∃ (acc:List Act') (rest:Bytes) (A:Option Addr) (n cap:Nat),n=acc.length∧lv = .slice A n cap∧sv=S rest∧wr.ownsRow w.heap.size 29 4 (.slice A n cap) n (actsCells acc)∧Below w.heap.size w wr∧RpAt s acc rest) (fun lv _ _ _ _ _=>100-sliceLen lv)
 case atStart=>exact ⟨[],s,none,0,0,rfl,rfl,rfl,World.ownsRow_nil _ _ _ _,Below.refl _ _,RpAt.nil s⟩
 case round =>
  obtain ⟨acc,rest,A,n,cap,hn,rfl,rfl,hown,hbe,hrp⟩:=hrel;have hn100:n≤100:=by rw [hn];exact hrp.1
  have hrl:=hrp.2.1;have hrl2:rest.length≤140737488355328:=by omega
  have HOWN:=zH hown;have HBE:=zH hbe;have HRP:=zH hrp;have HN:=zH hn;clear hown hbe hrp hn
  by_cases hn1:n<100
  ·have z2:(n:Int)<100:=by omega
   have hne:=Nat.ne_of_lt hn1;clear hne;cases ha:actFrom rest with
   | none =>
    have C:=zH (fun W=>read_any rest W hrl2);rw [ha] at C;have hst:=(zU HRP).stop ha (zU HNB);have HST:=zH hst;have hsub:=sub_len hrl;clear ha hst;go_wp2_with fail;refine (zU C _).mono ?_;rintro e w1 ⟨⟨y,q,rfl,hyq⟩,hb1⟩;have HO1:=zH (own_belowR (zU HOWN) hb1);have HB1:=zH ((zU HBE).trans (hb1.mono (zU HBE).size));clear hb1 hyq;go_upto_region 7 with (refine wpList_store_row rfl 29 (.tmp 7) (.tmp 20) rfl w1.heap.size #[I y.kind,I y.n,S y.name,S y.text] rfl rfl 29 _ (heap_alloc_new _ _) sizeAct rfl (act_ones y) ?_)
    obtain ⟨w2,hw2⟩:∃ w2,w2=(w1.alloc (.cells #[I 0,I 0,S [],S []] 29)).setRow w1.heap.size #[I y.kind,I y.n,S y.name,S y.text]:=⟨_,rfl⟩
    have hb2:Below w1.heap.size w1 w2:=by rw [hw2];exact below_setRow ((Below.refl _ _).alloc (Nat.le_refl _) _) (Nat.le_refl _) _
    have HO2:=zH (own_belowR (zU HO1) hb2);have HB2:=zH ((zU HB1).trans (hb2.mono (zU HB1).size));rw [←hw2];clear hb2 hw2;go_wp2_with fail
    try rw [Exit.noGoto_ret]
    go_ret3;exact ⟨ReplayRes.mk (zU HST) (zU HN) (zU HO2),zU HB2⟩
   | some p =>
    obtain ⟨x,r⟩:=p;have C:=zH (fun W=>read_any rest W hrl2);rw [ha] at C;have hpu:=(zU HRP).push (by rw [←zU HN];exact hn1) ha;have HPU:=zH hpu;clear ha hpu;go_wp2_with fail;refine (zU C _).mono ?_;rintro e w1 ⟨⟨y,q,rfl,hyq⟩,hb1⟩;obtain ⟨rfl,rfl⟩:=hyq _ _ rfl;have HO1:=zH (own_belowR (zU HOWN) hb1);have HB1:=zH ((zU HBE).trans (hb1.mono (zU HBE).size));clear hb1 hyq;go_upto_region 7 with (refine wpList_store_row rfl 29 (.tmp 7) (.tmp 20) rfl w1.heap.size #[I y.kind,I y.n,S y.name,S y.text] rfl rfl 29 _ (heap_alloc_new _ _) sizeAct rfl (act_ones y) ?_)
    obtain ⟨w2,hw2⟩:∃ w2,w2=(w1.alloc (.cells #[I 0,I 0,S [],S []] 29)).setRow w1.heap.size #[I y.kind,I y.n,S y.name,S y.text]:=⟨_,rfl⟩
    obtain ⟨D,hD⟩:∃ D,D=w1.heap.size:=⟨_,rfl⟩
    have hb2:Below w1.heap.size w1 w2:=by rw [hw2];exact below_setRow ((Below.refl _ _).alloc (Nat.le_refl _) _) (Nat.le_refl _) _
    obtain ⟨p0,p1,p2,p3⟩:=act_cells (show w2.heap[D]? = some (.cells #[I y.kind,I y.n,S y.name,S y.text] 29 (0,0)) by rw [hw2,hD];exact setRow_heap _ _ _ _ _ _ (heap_alloc_new _ _));have HO2:=zH (own_belowR (zU HO1) hb2);have HB2:=zH ((zU HB1).trans (hb2.mono (zU HB1).size));rw [←hw2,←hD];clear hb2 hw2 hD;go_wp2_with (at_builtin;refine wpList_push_act rfl _ _ rfl w.heap.size _ n acc rfl (zU HO2) y w2.heap.size rfl rfl (by omega) (zU HB2).size ?_;intro A' cap' w3 hown3 hb3 hg3;have HO3:=zH hown3;have HB3:=zH hb3;clear hown3 hb3 hg3);go_roundw
    case rel=>exact ⟨acc++[y],q,A',n+1,cap',by rw [List.length_append,zU HN];rfl,rfl,rfl,zU HO3,(zU HB2).trans (zU HB3),zU HPU⟩
    case measure=>simp [sliceLen];omega
  ·have z2:¬ (n:Int)<100:=by omega
   have hst:=(zU HRP).full (by rw [←zU HN];exact hn1) (zU HNB);have HST:=zH hst;have hsub:=sub_len hrl;clear hst hn1;go_wp2_with fail
   try rw [Exit.noGoto_ret]
   go_ret3;exact ⟨ReplayRes.mk (zU HST) (zU HN) (zU HOWN),zU HBE⟩
set_option maxHeartbeats 8000000 in
set_option maxRecDepth 100000 in
theorem replayOf_any (s:Bytes) (w:World) (hs:s.length≤140737488355328) :
  Calls Tryz.prog 50 #[S s] w fun e w'=>ReplayRes w.heap.size s e w'∧Below w.heap.size w w':=by
 by_cases hb:16384<s.length
 ·have hl:=replay_long hb;have HL:=zH hl;have z1:(16384:Int)<(s.length:Int):=by omega
  clear hb hl;go_enter Tryz.func50,Tryz.ntmps50;go_wp2_with fail;go_ret3;obtain ⟨h1,h2,h3⟩:=zU HL;refine ⟨⟨none,0,?_,?_⟩,Below.refl _ _⟩
  ·rw [h1,h2,h3];rfl
  ·rw [h1];exact World.ownsRow_nil _ _ _ _
 have HNB:=zH hb;have z1:¬ (16384:Int)<(s.length:Int):=by omega
 clear hb;go_enter Tryz.func50,Tryz.ntmps50;go_wp2_with fail;go_loopw [5,6,7,8,9] (fun lv sv _ _ _ wr=>∃ (acc:List Act') (rest:Bytes) (A:Option Addr) (n cap:Nat),n=acc.length∧lv = .slice A n cap∧sv=S rest∧wr.ownsRow w.heap.size 29 4 (.slice A n cap) n (actsCells acc)∧Below w.heap.size w wr∧RpAt s acc rest) (fun lv _ _ _ _ _=>100-sliceLen lv)
 case atStart=>exact ⟨[],s,none,0,0,rfl,rfl,rfl,World.ownsRow_nil _ _ _ _,Below.refl _ _,RpAt.nil s⟩
 case round =>
  obtain ⟨acc,rest,A,n,cap,hn,rfl,rfl,hown,hbe,hrp⟩:=hrel;have hn100:n≤100:=by rw [hn];exact hrp.1
  have hrl:=hrp.2.1;have hrl2:rest.length≤140737488355328:=by omega
  have HOWN:=zH hown;have HBE:=zH hbe;have HRP:=zH hrp;have HN:=zH hn;clear hown hbe hrp hn
  by_cases hn1:n<100
  ·have z2:(n:Int)<100:=by omega
   have hne:=Nat.ne_of_lt hn1;clear hne;cases ha:actFrom rest with
   | none =>
    have C:=zH (fun W=>actFrom_any rest W hrl2);rw [ha] at C;have hst:=(zU HRP).stop ha (zU HNB);have HST:=zH hst;have hsub:=sub_len hrl;clear ha hst;go_wp2_with fail;refine (zU C _).mono ?_;rintro e w1 ⟨⟨y,q,rfl,hyq⟩,hb1⟩;have HO1:=zH (own_belowR (zU HOWN) hb1);have HB1:=zH ((zU HBE).trans (hb1.mono (zU HBE).size));clear hb1 hyq;go_upto_region 7 with (refine wpList_store_row rfl 29 (.tmp 7) (.tmp 20) rfl w1.heap.size #[I y.kind,I y.n,S y.name,S y.text] rfl rfl 29 _ (heap_alloc_new _ _) sizeAct rfl (act_ones y) ?_)
    obtain ⟨w2,hw2⟩:∃ w2,w2=(w1.alloc (.cells #[I 0,I 0,S [],S []] 29)).setRow w1.heap.size #[I y.kind,I y.n,S y.name,S y.text]:=⟨_,rfl⟩
    have hb2:Below w1.heap.size w1 w2:=by rw [hw2];exact below_setRow ((Below.refl _ _).alloc (Nat.le_refl _) _) (Nat.le_refl _) _
    have HO2:=zH (own_belowR (zU HO1) hb2);have HB2:=zH ((zU HB1).trans (hb2.mono (zU HB1).size));rw [←hw2];clear hb2 hw2;go_wp2_with fail
    try rw [Exit.noGoto_ret]
    go_ret3;exact ⟨ReplayRes.mk (zU HST) (zU HN) (zU HO2),zU HB2⟩
   | some p =>
    obtain ⟨x,r⟩:=p;have C:=zH (fun W=>actFrom_any rest W hrl2);rw [ha] at C;have hpu:=(zU HRP).push (by rw [←zU HN];exact hn1) ha;have HPU:=zH hpu;clear ha hpu;go_wp2_with fail;refine (zU C _).mono ?_;rintro e w1 ⟨⟨y,q,rfl,hyq⟩,hb1⟩;obtain ⟨rfl,rfl⟩:=hyq _ _ rfl;have HO1:=zH (own_belowR (zU HOWN) hb1);have HB1:=zH ((zU HBE).trans (hb1.mono (zU HBE).size));clear hb1 hyq;go_upto_region 7 with (refine wpList_store_row rfl 29 (.tmp 7) (.tmp 20) rfl w1.heap.size #[I y.kind,I y.n,S y.name,S y.text] rfl rfl 29 _ (heap_alloc_new _ _) sizeAct rfl (act_ones y) ?_)
    obtain ⟨w2,hw2⟩:∃ w2,w2=(w1.alloc (.cells #[I 0,I 0,S [],S []] 29)).setRow w1.heap.size #[I y.kind,I y.n,S y.name,S y.text]:=⟨_,rfl⟩
    obtain ⟨D,hD⟩:∃ D,D=w1.heap.size:=⟨_,rfl⟩
    have hb2:Below w1.heap.size w1 w2:=by rw [hw2];exact below_setRow ((Below.refl _ _).alloc (Nat.le_refl _) _) (Nat.le_refl _) _
    obtain ⟨p0,p1,p2,p3⟩:=act_cells (show w2.heap[D]? = some (.cells #[I y.kind,I y.n,S y.name,S y.text] 29 (0,0)) by rw [hw2,hD];exact setRow_heap _ _ _ _ _ _ (heap_alloc_new _ _));have HO2:=zH (own_belowR (zU HO1) hb2);have HB2:=zH ((zU HB1).trans (hb2.mono (zU HB1).size));rw [←hw2,←hD];clear hb2 hw2 hD;go_wp2_with (at_builtin;refine wpList_push_act rfl _ _ rfl w.heap.size _ n acc rfl (zU HO2) y w2.heap.size rfl rfl (by omega) (zU HB2).size ?_;intro A' cap' w3 hown3 hb3 hg3;have HO3:=zH hown3;have HB3:=zH hb3;clear hown3 hb3 hg3);go_roundw
    case rel=>exact ⟨acc++[y],q,A',n+1,cap',by rw [List.length_append,zU HN];rfl,rfl,rfl,zU HO3,(zU HB2).trans (zU HB3),zU HPU⟩
    case measure=>simp [sliceLen];omega
  ·have z2:¬ (n:Int)<100:=by omega
   have hst:=(zU HRP).full (by rw [←zU HN];exact hn1) (zU HNB);have HST:=zH hst;have hsub:=sub_len hrl;clear hst hn1;go_wp2_with fail
   try rw [Exit.noGoto_ret]
   go_ret3;exact ⟨ReplayRes.mk (zU HST) (zU HN) (zU HOWN),zU HBE⟩
end Go.Proofs.YtjpgoeimclipjaaGreat
namespace Go.Proofs.YtjpgoeimclipjaaGreat
open Go.RowKit Go.Lib Pl
attribute [local go_sem] ext_list app_list
theorem actE_sz {x:Act'} (h:actE x=0):ActSz x:=by
 obtain ⟨h1,h2,h3,h4,h5,h6⟩:=actE_zero h;exact ⟨by omega,by omega,by omega,by omega,by omega,by omega⟩
theorem replay_few (s:Bytes):(replayL s).length≤100∧replayN s≤s.length∧(∀ x∈replayL s,actE x=0):=by
 obtain ⟨h1,h2,h3⟩:=actsFrom_some 100 s;unfold replayL replayN
 split
 ·simp
 ·exact ⟨h2,by omega,h3⟩
theorem replay_sz (s:Bytes):∀ x∈replayL s,ActSz x:=fun x hx=>actE_sz ((replay_few s).2.2 x hx)
theorem replayE_cases (s:Bytes):(16384<s.length∧replayE s=2)∨(s.length≤16384∧replayE s=0):=by
 unfold replayE
 by_cases h:16384<s.length
 ·exact .inl ⟨h,if_pos h⟩
 ·exact .inr ⟨by omega,if_neg h⟩
def RecOut (base:Nat) (a:Arc) (k q:Nat) (e:Ending) (w':World):Prop:=∃ A n cap A2 n2 cap2,e = .returned (.tuple #[arcV A n cap A2 n2 cap2,I k,I q])∧OwnA w' base (.slice A n cap) (.slice A2 n2 cap2) a
theorem RecOut.open {base k q:Nat} {a:Arc} {e:Ending} {w:World} (h:RecOut base a k q e w):∃ A n cap A2 n2 cap2,e = .returned (.tuple #[arcV A n cap A2 n2 cap2,I k,I q])∧ArcIn w A n A2 n2 a∧n≤cap∧OwnA w base (.slice A n cap) (.slice A2 n2 cap2) a:=by
 obtain ⟨A,n,cap,A2,n2,cap2,he,ho⟩:=h;exact ⟨A,n,cap,A2,n2,cap2,he,ho.inn,by have h1:=ho.s;rw [ho.inn.s.1] at h1;exact own_cap h1,ho⟩
set_option maxHeartbeats 8000000 in
set_option maxRecDepth 100000 in
theorem recover_any (s:Bytes) (w:World) (hs:s.length≤140737488355328) (hm:MaxLenIs w) :
  Calls Tryz.prog 17 #[S s] w fun e w'=>RecOut w.heap.size (doneA (replayL s)) (replayL s).length (replayE s) e w'∧Below w.heap.size w w':=by
 obtain ⟨B,hB⟩:∃ B,B=w.heap.size:=⟨_,rfl⟩
 obtain ⟨w0,hw0⟩:∃ w0,w0=w.alloc (.cells #[.slice none 0 0,.slice none 0 0] 33):=⟨_,rfl⟩
 have h0:w0.heap[B]? = some (.cells #[.slice none 0 0,.slice none 0 0] 33 (0,0))∧B<w0.heap.size∧Below B w w0:=by
  rw [hw0,hB];exact ⟨heap_alloc_new _ _,by simp,(Below.refl _ _).alloc (Nat.le_refl _) _⟩
 have C1:=zH (fun W=>replay_any s W hs);obtain ⟨hfew,_,_⟩:=replay_few s;have hsz:=replay_sz s;obtain ⟨r,hr⟩:∃ r,r=RecOut B (doneA (replayL s)) (replayL s).length (replayE s):=⟨_,rfl⟩
 rw [←hB,←hr];have hr2:r=RecOut B (doneA (replayL s)) (replayL s).length (replayE s):=hr;obtain ⟨L,hL⟩:∃ L,L=replayL s:=⟨_,rfl⟩
 obtain ⟨q,hq⟩:∃ L,L=replayE s:=⟨_,rfl⟩
 obtain ⟨k,hk⟩:∃ L,L=replayN s:=⟨_,rfl⟩
 have c1:=zU C1;unfold ReplayRes at c1;rw [←hL,←hq] at hr2;rw [←hL] at hfew hsz;rw [←hL,←hq,←hk] at c1;obtain ⟨n,hn⟩:∃ n,n=L.length:=⟨_,rfl⟩
 rw [←hn] at hr2 hfew c1;have C1:=zH c1;have C2:=zH (fun (A:Option Addr) (cap:Nat) (W:World) (hat:actsAt W W.heap.size A n L) (hm:MaxLenIs W)=>done_any A n cap L W hat hsz (by omega) hm);have HM:=zH (fun (W:World) (hb:Below B w W)=>hm.up (by rw [←hB];exact hb));have H0:=zH h0;have HR:=zH hr2;have HB:=zH hB;have HW0:=zH hw0;clear c1 hr hr2 hB hw0 h0 hm hL hq hk hn hsz hfew;go_enter Tryz.func17,Tryz.ntmps17;go_upto_region 1 with fail
 rw [←zU HW0,←zU HB];go_wp2_with fail;refine (zU C1 _).mono ?_;rintro e w1 ⟨⟨A,cap,rfl,ho1⟩,hb1⟩;obtain ⟨A',cap',hv,hat,_⟩:=actsAt_of_own ho1;injection hv with e1 _ _
 subst e1;have HAT:=zH hat;have H1:=zH (show w1.heap[B]? = some (.cells #[.slice none 0 0,.slice none 0 0] 33 (0,0))∧B<w1.heap.size∧Below B w w1 from ⟨(hb1.block _ (zU H0).2.1).trans (zU H0).1,Nat.lt_of_lt_of_le (zU H0).2.1 hb1.size,(zU H0).2.2.trans (hb1.mono (Nat.le_of_lt (zU H0).2.1))⟩);clear hb1 ho1 hat;go_wp2_with fail;refine (zU C2 _ _ _ (zU HAT) (zU HM _ (zU H1).2.2)).mono ?_;rintro e w2 ⟨⟨Ra,na,ca,Rb,nb',cb,rfl,ho2⟩,hb2⟩;have H2:=zH (show w2.heap[B]? = some (.cells #[.slice none 0 0,.slice none 0 0] 33 (0,0))∧Below B w w2 from ⟨(hb2.block _ (zU H1).2.1).trans (zU H1).1,(zU H1).2.2.trans (hb2.mono (Nat.le_of_lt (zU H1).2.1))⟩);have HF:=zH (show OwnA (w2.setRow B #[.slice Ra na ca,.slice Rb nb' cb]) B (.slice Ra na ca) (.slice Rb nb' cb) (doneA L) from ho2.last (zU H1).2.1 (Nat.le_of_lt (zU H1).2.1) _);clear hb2 ho2;go_wp2_with (refine wpList_store_row rfl 33 (.tmp 2) (.tmp 15) rfl B #[.slice Ra na ca,.slice Rb nb' cb] rfl rfl 33 _ (zU H2).1 sizeArc rfl (one_two _ _ _ _ _ _) ?_);refine bodyPost_ret (results_row_tmp2 rfl _ _ B 33 #[.slice Ra na ca,.slice Rb nb' cb] (0,0) _ rfl (setRow_heap _ _ _ _ _ _ (zU H2).1) Tryz.underlying33 rfl sizeArc) rfl ?_;rw [zU HR];exact ⟨⟨_,_,_,_,_,_,rfl,zU HF⟩,below_setRow (zU H2).2 (Nat.le_refl _) _⟩
structure StS (x:Act') (w:World) (B:Nat) (A:Option Addr) (n:Nat) (L:List Act') (W:World):Prop where
 m:WrM x w W B
 l:actsAt W W.heap.size A n L
section
variable {x : Act'} {w W W' : World} {B : Nat} {A : Option Addr} {n : Nat} {L : List Act'}
theorem StS.below (h:StS x w B A n L W) (hb:Below W.heap.size W W'):StS x w B A n L W':=⟨h.m.below hb,h.l.up hb⟩
end
theorem store_1 {s:Bytes} {x:Act'} (h:replayE s≠0):storeA s x=([],replayE s):=by unfold storeA;rw [if_pos h]
theorem store_2 {s:Bytes} {x:Act'} (h:replayE s=0) (h2:actE x≠0):storeA s x=([],actE x):=by unfold storeA;rw [if_neg (by omega),if_pos h2]
theorem store_3 {s:Bytes} {x:Act'} (h:replayE s=0) (h2:actE x=0) (h3:100≤(replayL s).length∨16384<replayN s+(actB x).length):storeA s x=([],2):=by unfold storeA;rw [if_neg (by omega),if_neg (by omega),if_pos h3]
theorem store_4 {s:Bytes} {x:Act'} (h:replayE s=0) (h2:actE x=0) (h3:¬ (100≤(replayL s).length∨16384<replayN s+(actB x).length)) (h4:(doA (doneA (replayL s)) x).2≠0):storeA s x=([],(doA (doneA (replayL s)) x).2):=by
 unfold storeA;rw [if_neg (by omega),if_neg (by omega),if_neg h3,if_pos h4]
theorem store_5 {s:Bytes} {x:Act'} (h:replayE s=0) (h2:actE x=0) (h3:¬ (100≤(replayL s).length∨16384<replayN s+(actB x).length)) (h4:(doA (doneA (replayL s)) x).2=0):storeA s x=(s.take (replayN s)++actB x,0):=by
 unfold storeA;rw [if_neg (by omega),if_neg (by omega),if_neg h3,if_neg (by omega)]
theorem take_slice (s:Bytes) (k:Nat):s.take k=Pl.slice s 0 k:=by unfold Pl.slice;simp
attribute [local go_sem ↓] concat_list in
set_option maxHeartbeats 8000000 in
set_option maxRecDepth 100000 in
theorem store_any (s:Bytes) (x:Act') (w:World) (hs:s.length≤140737488355328) (hx:ActSz x) (hm:MaxLenIs w) :
  Calls Tryz.prog 16 #[S s,actV x] w fun e w'=>e = .returned (.tuple #[S (storeA s x).1,I (storeA s x).2])∧Below w.heap.size w w':=by
 obtain ⟨B,hB⟩:∃ B,B=w.heap.size:=⟨_,rfl⟩
 obtain ⟨w0,hw0⟩:∃ w0,w0=w.alloc (.cells #[I x.kind,I x.n,S x.name,S x.text] 29):=⟨_,rfl⟩
 have H0:=zH (show WrM x w w0 B by rw [hw0,hB];exact WrM.new x w);have C1:=zH (fun W=>replay_any s W hs);have S1:=zH (store_1 (s:=s) (x:=x));have S2:=zH (store_2 (s:=s) (x:=x));have S3:=zH (store_3 (s:=s) (x:=x));have S4:=zH (store_4 (s:=s) (x:=x));have S5:=zH (store_5 (s:=s) (x:=x));obtain ⟨hfew,hkn,_⟩:=replay_few s;have hsz:=replay_sz s;have hec:=replayE_cases s;obtain ⟨r,hr⟩:∃ r,r=storeA s x:=⟨_,rfl⟩
 rw [←hr,←hB];have c1:=zU C1;have s1:=zU S1;have s2:=zU S2;have s3:=zU S3;have s4:=zU S4;have s5:=zU S5;clear C1 S1 S2 S3 S4 S5;unfold ReplayRes at c1;rw [←hr] at s1 s2 s3 s4 s5;obtain ⟨L,hL⟩:∃ L,L=replayL s:=⟨_,rfl⟩
 obtain ⟨q,hq⟩:∃ L,L=replayE s:=⟨_,rfl⟩
 obtain ⟨k,hk⟩:∃ L,L=replayN s:=⟨_,rfl⟩
 obtain ⟨E,hE⟩:∃ E,E=actE x:=⟨_,rfl⟩
 obtain ⟨t,ht⟩:∃ E,E=actB x:=⟨_,rfl⟩
 obtain ⟨y,hy⟩:∃ y,y=doA (doneA L) x:=⟨_,rfl⟩
 rw [←hL] at hfew hsz;rw [←hk] at hkn;rw [←hq] at hec s1 s2 s3 s4 s5;rw [←hL,←hq,←hk] at c1;rw [←hE] at s2 s3 s4 s5;rw [←hL,←hk,←ht] at s3 s4 s5;rw [←hy] at s4 s5;obtain ⟨n,hn⟩:∃ n,n=L.length:=⟨_,rfl⟩
 rw [←hn] at hfew c1 s3 s4 s5;have htl:E=0→t.length≤1046:=fun h=>by rw [ht];exact (actB_len (by rw [←hE];exact h)).1
 have hwr:E=0→writeA x=t:=fun h=>by unfold writeA;rw [if_pos (by rw [←hE];exact h),ht]
 have CW:=fun W=>logWrite_any x W hx;obtain ⟨v,hv⟩:∃ v,v=writeA x:=⟨_,rfl⟩
 rw [←hv] at hwr;rw [←hv,←hE] at CW;have CW:=zH CW;have CD:=zH (fun (A:Option Addr) (cap:Nat) (W:World) (hat:actsAt W W.heap.size A n L) (hm:MaxLenIs W)=>done_any A n cap L W hat hsz (by omega) hm);have CO:=fun (C:Option Addr) (m kc:Nat) (C2:Option Addr) (m2 kc2:Nat) (W:World) (hi:ArcIn W C m C2 m2 (doneA L)) (hm:MaxLenIs W)=>do_any C m kc C2 m2 kc2 (doneA L) x W hi (right_sz (doneA_ra _)) hx hm;rw [←hy] at CO;have CO:=zH CO;have HM:=zH (fun (W:World) (hb:Below B w W)=>hm.up (by rw [←hB];exact hb));obtain ⟨xk,xn,xs,xt⟩:=x;have R:=zH (show (∀ W A,StS ⟨xk,xn,xs,xt⟩ w B A n L W→W.cell? ⟨B,0,none⟩=some (I xk))∧(∀ W A,StS ⟨xk,xn,xs,xt⟩ w B A n L W→W.cell? ⟨B,1,none⟩=some (I xn))∧(∀ W A,StS ⟨xk,xn,xs,xt⟩ w B A n L W→W.cell? ⟨B,2,none⟩=some (S xs))∧(∀ W A,StS ⟨xk,xn,xs,xt⟩ w B A n L W→W.cell? ⟨B,3,none⟩=some (S xt)) from ⟨fun W A h=>(act_cells h.m.t).1,fun W A h=>(act_cells h.m.t).2.1,fun W A h=>(act_cells h.m.t).2.2.1,fun W A h=>(act_cells h.m.t).2.2.2⟩);have C1:=zH c1;have S1:=zH s1;have S2:=zH s2;have S3:=zH s3;have S4:=zH s4;have S5:=zH s5;have HB:=zH hB;have HW0:=zH hw0;have HTL:=zH htl;have HWR:=zH hwr;clear c1 s1 s2 s3 s4 s5 hB hw0 hr hL hq hk hE ht hy hn hsz htl hx hs hm hwr hv
 rcases hec with ⟨_,hq⟩ | ⟨hsl,hq⟩
 ·have HR:r=([],q):=zU S1 (by omega);subst hq;go_enter Tryz.func16,Tryz.ntmps16;go_upto_region 1 with fail
  rw [←zU HW0,←zU HB];go_wp2_with fail;refine (zU C1 _).mono ?_;rintro e w1 ⟨⟨A,cap,rfl,ho1⟩,hb1⟩;obtain ⟨A',cap',hv,hat,_⟩:=actsAt_of_own ho1;injection hv with e1 _ _
  subst e1;have H1:=zH (show StS ⟨xk,xn,xs,xt⟩ w B A n L w1 from ⟨(zU H0).below hb1,hat⟩);clear hb1 ho1 hat;go_wp2_with fail;go_ret2;rw [HR];exact ⟨rfl,(zU H1).m.bel⟩
 have d0:((q:Int) != 0)=false:=by rw [hq];rfl
 have d0':((q:Int) == 0)=true:=by rw [hq];rfl
 by_cases hE:E≠0
 ·have HR:r=([],E):=zU S2 hq hE;have d1:((E:Int) != 0)=true:=by rw [bne_iff_ne];omega
  have d2:((E:Int) == 0)=false:=by rw [beq_eq_false_iff_ne];omega
  clear hE;subst hq;go_enter Tryz.func16,Tryz.ntmps16;go_upto_region 1 with fail
  rw [←zU HW0,←zU HB];go_wp2_with fail;refine (zU C1 _).mono ?_;rintro e w1 ⟨⟨A,cap,rfl,ho1⟩,hb1⟩;obtain ⟨A',cap',hv,hat,_⟩:=actsAt_of_own ho1;injection hv with e1 _ _
  subst e1;have H1:=zH (show StS ⟨xk,xn,xs,xt⟩ w B A n L w1 from ⟨(zU H0).below hb1,hat⟩);clear hb1 ho1 hat;obtain ⟨p0,p1,p2,p3⟩:=act_cells (zU H1).m.t;go_wp2_with fail;refine (zU CW _).mono ?_;rintro e w2 ⟨rfl,hb2⟩;have H2:=zH ((zU H1).below hb2);clear hb2 p0 p1 p2 p3;go_wp2_with fail;go_ret2;rw [HR];exact ⟨rfl,(zU H2).m.bel⟩
 have hE0:E=0:=Decidable.not_not.1 hE;subst hE0;have hlt:=zU HTL rfl;subst hq;have T3:=zH (zU S3 rfl rfl);have T4:=zH (zU S4 rfl rfl);have T5:=zH (zU S5 rfl rfl);clear hE d0 d0' HTL S1 S2 S3 S4 S5;obtain rfl:=(zU HWR rfl).symm
 by_cases h100:100≤n
 ·have HR:r=([],2):=zU T3 (.inl h100);have d100:((n:Int) == 100)=true:=by rw [beq_iff_eq];omega
  go_enter Tryz.func16,Tryz.ntmps16;go_upto_region 1 with fail
  rw [←zU HW0,←zU HB];go_wp2_with fail;refine (zU C1 _).mono ?_;rintro e w1 ⟨⟨A,cap,rfl,ho1⟩,hb1⟩;obtain ⟨A',cap',hv,hat,_⟩:=actsAt_of_own ho1;injection hv with e1 _ _
  subst e1;have H1:=zH (show StS ⟨xk,xn,xs,xt⟩ w B A n L w1 from ⟨(zU H0).below hb1,hat⟩);clear hb1 ho1 hat;obtain ⟨p0,p1,p2,p3⟩:=act_cells (zU H1).m.t;go_wp2_with fail;refine (zU CW _).mono ?_;rintro e w2 ⟨rfl,hb2⟩;have H2:=zH ((zU H1).below hb2);clear hb2 p0 p1 p2 p3;go_wp2_with fail;go_ret2;rw [HR];exact ⟨rfl,(zU H2).m.bel⟩
 have d100:((n:Int) == 100)=false:=by rw [beq_eq_false_iff_ne];omega
 by_cases hbig:16384<k+t.length
 ·have HR:r=([],2):=zU T3 (.inr hbig);have z3:(16384:Int)<(k:Int)+(t.length:Int):=by omega
  go_enter Tryz.func16,Tryz.ntmps16;go_upto_region 1 with fail
  rw [←zU HW0,←zU HB];go_wp2_with fail;refine (zU C1 _).mono ?_;rintro e w1 ⟨⟨A,cap,rfl,ho1⟩,hb1⟩;obtain ⟨A',cap',hv,hat,_⟩:=actsAt_of_own ho1;injection hv with e1 _ _
  subst e1;have H1:=zH (show StS ⟨xk,xn,xs,xt⟩ w B A n L w1 from ⟨(zU H0).below hb1,hat⟩);clear hb1 ho1 hat;obtain ⟨p0,p1,p2,p3⟩:=act_cells (zU H1).m.t;go_wp2_with fail;refine (zU CW _).mono ?_;rintro e w2 ⟨rfl,hb2⟩;have H2:=zH ((zU H1).below hb2);clear hb2 p0 p1 p2 p3;go_wp2_with fail;go_ret2;rw [HR];exact ⟨rfl,(zU H2).m.bel⟩
 have z3:¬ (16384:Int)<(k:Int)+(t.length:Int):=by omega
 have U4:=zH (zU T4 (by omega));have U5:=zH (zU T5 (by omega));clear T3 T4 T5;go_enter Tryz.func16,Tryz.ntmps16;go_upto_region 1 with fail
 rw [←zU HW0,←zU HB];go_wp2_with fail;refine (zU C1 _).mono ?_;rintro e w1 ⟨⟨A,cap,rfl,ho1⟩,hb1⟩;obtain ⟨A',cap',hv,hat,_⟩:=actsAt_of_own ho1;injection hv with e1 _ _
 subst e1;have H1:=zH (show StS ⟨xk,xn,xs,xt⟩ w B A n L w1 from ⟨(zU H0).below hb1,hat⟩);clear hb1 ho1 hat;obtain ⟨p0,p1,p2,p3⟩:=act_cells (zU H1).m.t;go_wp2_with fail;refine (zU CW _).mono ?_;rintro e w2 ⟨rfl,hb2⟩;have H2:=zH ((zU H1).below hb2);clear hb2 p0 p1 p2 p3;go_upto_region 9 with fail
 clear d100 z3 hbig h100;have KD:=zH (fun (c:Nat) (W:World) (hW:Below w2.heap.size w2 W)=>zU CD A c W ((zU H2).l.up hW) (zU HM W ((zU H2).m.bel.trans (hW.mono (Nat.le_of_lt (zU H2).m.lt)))));have HM2:=zH (fun (W:World) (hW:Below w2.heap.size w2 W)=>zU HM W ((zU H2).m.bel.trans (hW.mono (Nat.le_of_lt (zU H2).m.lt))));have R:=zH (show (∀ W,Below w2.heap.size w2 W→W.cell? ⟨B,0,none⟩=some (I xk))∧(∀ W,Below w2.heap.size w2 W→W.cell? ⟨B,1,none⟩=some (I xn))∧(∀ W,Below w2.heap.size w2 W→W.cell? ⟨B,2,none⟩=some (S xs))∧(∀ W,Below w2.heap.size w2 W→W.cell? ⟨B,3,none⟩=some (S xt)) from ⟨fun W h=>(act_cells ((zU H2).m.below h).t).1,fun W h=>(act_cells ((zU H2).m.below h).t).2.1,fun W h=>(act_cells ((zU H2).m.below h).t).2.2.1,fun W h=>(act_cells ((zU H2).m.below h).t).2.2.2⟩);obtain ⟨r0,r1,r2,r3⟩:=zU R;go_cut [11] (fun ev wx=>ev=I y.2∧StS ⟨xk,xn,xs,xt⟩ w B A n L wx)
 case first =>
  go_region_held3 (fun W=>Below w2.heap.size w2 W) (first | assumption | exact bl_drew (Below.refl _ _) | exact bl_drew (bl_alloc (Below.refl _ _) _) | exact bl_alloc (Below.refl _ _) _ | exact bl_drew (by assumption) | exact bl_alloc (by assumption) _ | exact bl_set (bl_set (by assumption) _ _) _ _ | exact bl_set (by assumption) _ _ | exact bl_set1 (bl_set1 (by assumption) hle4 _ _) hle4 _ _ | exact bl_set1 (by assumption) hle4 _ _ | exact bl_call (by assumption) (by assumption))
   ((first
    | (go_at_call 53;refine (zU KD _ _ (by first | exact bl_drew (Below.refl _ _) | exact bl_drew (bl_alloc (Below.refl _ _) _) | assumption)).mono ?_;rintro e w4 ⟨⟨Ra,na,ca,Rb,nb',cb,rfl,ho4⟩,hb4⟩;have HI4:=zH ho4.inn;have hb4w:Below w2.heap.size w2 w4:=(by first | exact bl_call (bl_drew (Below.refl _ _)) hb4 | exact bl_call (bl_drew (bl_alloc (Below.refl _ _) _)) hb4);have hle4:w2.heap.size≤w4.heap.size:=hb4w.size;(try (have hz4:w4.heap[w2.heap.size]? = some (.cells #[.slice none 0 0,.slice none 0 0] 33 (0,0)):=(hb4.block w2.heap.size (by show w2.heap.size<(w2.alloc _).heap.size;simp)).trans (heap_alloc_new w2 (.cells #[.slice none 0 0,.slice none 0 0] 33));have HZ4:=zH hz4;clear hz4));clear ho4 hb4)
    | (go_at_call 44;refine (zU CO Ra na ca Rb nb' cb _ (by first | exact zU HI4 | exact (zU HI4).alloc _) (zU HM2 _ (by first | assumption | exact bl_alloc (by assumption) _))).mono ?_;rintro e w5 ⟨hr5,hb5⟩;obtain ⟨Rc,nc,cc,Rd,nd,cd,rfl,_,_,_⟩:=hr5.open;have hb5w:Below w2.heap.size w2 w5:=(by first | exact bl_call hb4w hb5 | exact bl_call (bl_alloc hb4w _) hb5);(try (have hz5:w5.heap[w2.heap.size]? = some (.cells #[.slice none 0 0,.slice none 0 0] 33 (0,0)):=(hb5.block w2.heap.size ((Array.getElem?_eq_some_iff.1 (zU HZ4)).1)).trans (zU HZ4);obtain ⟨y0,y1,f0,f1⟩:=two_cells hz5;clear hz5));(try (have hz6:w5.heap[w4.heap.size]? = some (.cells #[.slice none 0 0,.slice none 0 0] 33 (0,0)):=(hb5.block w4.heap.size (by simp)).trans (heap_alloc_new w4 (.cells #[.slice none 0 0,.slice none 0 0] 33));obtain ⟨y2,y3,f2,f3⟩:=two_cells hz6;clear hz6));clear hr5 hb5)
    | fail))
  all_goals
   go_wp2_with fail;go_meet;exact ⟨rfl,(zU H2).below (by assumption)⟩
 case rest =>
  obtain ⟨rfl,h6⟩:=hcut;have H6:=zH h6;clear h6
  by_cases hy:y.2=0
  ·have HR:r=(s.take k++t,0):=zU U5 hy;have d6:((y.2:Int) != 0)=false:=by rw [hy];rfl
   have d7:((y.2:Int) == 0)=true:=by rw [hy];rfl
   have z6:(k:Int)≤(s.length:Int):=by omega
   rw [take_slice] at HR;have hsl2:(Pl.slice s 0 k).length≤s.length:=by unfold Pl.slice;rw [List.length_drop,List.length_take];omega
   have b1:(Pl.slice s 0 k).length+t.length≤9223372036854775807:=by omega
   have z7:k≤s.length:=hkn;clear hy;go_wp2_with fail;go_ret2;rw [HR];exact ⟨rfl,(zU H6).m.bel⟩
  ·have HR:r=([],y.2):=zU U4 hy;have d6:((y.2:Int) != 0)=true:=by rw [bne_iff_ne];omega
   have d7:((y.2:Int) == 0)=false:=by rw [beq_eq_false_iff_ne];omega
   go_wp2_with fail;go_ret2;rw [HR];exact ⟨rfl,(zU H6).m.bel⟩
end Go.Proofs.YtjpgoeimclipjaaGreat
namespace Go.Proofs.YtjpgoeimclipjaaGreat
open Go.RowKit Go.Lib Pl
structure Vr where
 p:Nat
 A:Option Addr
 n:Nat
 cap:Nat
 A2:Option Addr
 n2:Nat
 cap2:Nat
 a:Arc
structure St (w W:World) (B:Nat) (l:List Vr):Prop where
 v:∀ x∈l,AV W x.p x.A x.n x.cap x.A2 x.n2 x.cap2 x.a
 bel:Below B w W
 le:B≤W.heap.size
section
variable {w W W' : World} {B : Nat} {l : List Vr}
theorem St.below (h:St w W B l) (hb:Below W.heap.size W W'):St w W' B l:=⟨fun x hx=>(h.v x hx).below hb,h.bel.trans (hb.mono h.le),Nat.le_trans h.le hb.size⟩
theorem St.nil (w:World):St w w w.heap.size []:=⟨by simp,Below.refl _ _,Nat.le_refl _⟩
theorem St.new (h:St w W B l) {A A2:Option Addr} {n n2:Nat} {a:Arc} (hi:ArcIn W A n A2 n2 a) (cap cap2:Nat) :
  St w ((W.alloc (.cells #[.slice none 0 0,.slice none 0 0] 33)).setRow W.heap.size #[.slice A n cap,.slice A2 n2 cap2]) B (⟨W.heap.size,A,n,cap,A2,n2,cap2,a⟩::l):=by
 obtain ⟨h1,h2⟩:=AV.new hi cap cap2;have h3:=h.below h2
 exact ⟨fun x hx=>by
  rcases List.mem_cons.1 hx with rfl | hx
  ·exact h1
  ·exact h3.v x hx,h3.bel,h3.le⟩
theorem St.at_ (h:St w W B l) (i:Nat) {x:Vr} (hx:l[i]? = some x):AV W x.p x.A x.n x.cap x.A2 x.n2 x.cap2 x.a:=h.v x (List.mem_of_getElem? hx)
theorem St.c0 (h:St w W B l) (i:Nat) {x:Vr} (hx:l[i]? = some x):W.cell? ⟨x.p,0,none⟩=some (.slice x.A x.n x.cap):=(h.at_ i hx).c.1
theorem St.c1 (h:St w W B l) (i:Nat) {x:Vr} (hx:l[i]? = some x):W.cell? ⟨x.p,1,none⟩=some (.slice x.A2 x.n2 x.cap2):=(h.at_ i hx).c.2
end
end Go.Proofs.YtjpgoeimclipjaaGreat
namespace Go.Proofs.YtjpgoeimclipjaaGreat
namespace Pl
theorem put_ok {a:Arc} {name text:Bytes} (ha:RightA a) (hn:nameB name=true) (ht:text.length≤512) (hf:a.fs.length<12) :
  put a name text 0=(⟨a.ds,insF (packedF a.ds name text 0) a.fs⟩,0):=by
 unfold put
 rw [if_neg (by rw [(check_iff a).2 ha];simp),if_neg (by rw [hn];simp),if_neg (by unfold dictO;simp),if_neg (by omega),if_neg (by
  rw [insF_len]
  split <;> omega)]
end Pl
end Go.Proofs.YtjpgoeimclipjaaGreat
namespace Go.Proofs.YtjpgoeimclipjaaGreat
namespace Pl
theorem store_tail {l:List Act'} {s r:Bytes} {x:Act'} (h:Kept l s) (hr:actFrom r=none) (hs:(s++r).length≤16384) (he:actE x=0) (hl:l.length<100) (hb:s.length+(actB x).length≤16384) :
  storeA (s++r) x=if (doA (doneA l) x).2≠0 then ([],(doA (doneA l) x).2) else (s++actB x,0):=by
 obtain ⟨h1,h2,h3⟩:=replay_acts h.each h.few hr (by rw [←h.bytes];exact hs);rw [←h.bytes] at h1 h2 h3;unfold storeA;rw [h1,h2,h3,if_neg (by omega),if_neg (by omega),if_neg (by omega)]
 split
 ·rfl
 ·rw [List.take_left]
theorem Kept.push {l:List Act'} {s:Bytes} {x:Act'} (h:Kept l s) (he:actE x=0) (hl:l.length<100) (hb:s.length+(actB x).length≤16384):Kept (l++[x]) (s++actB x):=by
 refine ⟨?_,?_,?_,?_⟩
 ·rw [actsB_app,h.bytes];simp [actsB]
 ·intro y hy
  rcases List.mem_append.1 hy with hy | hy
  ·exact h.each y hy
  ·rw [List.mem_singleton.1 hy];exact he
 ·simp;omega
 ·simp;omega
def lx1:Act':=⟨1,0,[97],[120,121,122]⟩
def lx2:Act':=⟨3,8,[],[]⟩
def lx3:Act':=⟨2,0,[98],[]⟩
def lx4:Act':=⟨1,2,[97],[]⟩
theorem lx1_e:actE lx1=0:=by decide
theorem lx2_e:actE lx2=0:=by decide
theorem lx3_e:actE lx3=0:=by decide
theorem lx4_e:actE lx4=0:=by decide
def ltx:Bytes:=[120,121,122]
def lA1:Arc:=(put arc0 [97] ltx 0).1
theorem lA1_put:put arc0 [97] ltx 0=(⟨[],[packedF [] [97] ltx 0]⟩,0):=by
 rw [put_ok arc0_right (by decide) (by decide) (by decide)];rfl
theorem lA1_eq:lA1=⟨[],[packedF [] [97] ltx 0]⟩:=by unfold lA1;rw [lA1_put]
theorem lA1_right:RightA lA1:=(put_right (by rw [lA1_put]:(put arc0 [97] ltx 0).2=0)).2.1
def lD:Bytes:=trainD (textsA lA1) 8
def lA2:Arc:=(retrain lA1 8).1
theorem lA2_train:retrain lA1 8=(⟨[lD],[packedF [lD] [97] (textD [] (packedF [] [97] ltx 0)) 1]⟩,0):=by
 have hE:trainE (textsA lA1) 8=0:=by
  unfold trainE;rw [texts_few lA1_right];rfl
 unfold retrain;rw [if_neg (by rw [(check_iff lA1).2 lA1_right];simp),hE,if_neg (by simp),if_neg (by rw [lA1_eq];decide)];show ((⟨lA1.ds++[lD],lA1.fs.map fun f=>packedF (lA1.ds++[lD]) f.name (textD lA1.ds f) ((lA1.ds.length+1:Nat):Int)⟩:Arc),0)=_;rw [lA1_eq];rfl
theorem lA2_right:RightA lA2:=(retrain_right (by rw [lA2_train]:(retrain lA1 8).2=0)).2.1
theorem lA2_eq:lA2=⟨[lD],[packedF [lD] [97] (textD [] (packedF [] [97] ltx 0)) 1]⟩:=by unfold lA2;rw [lA2_train]
theorem lA2_drop:drop lA2 [98]=(arc0,5):=by
 unfold drop;rw [if_neg (by rw [(check_iff lA2).2 lA2_right];simp),lA2_eq];rfl
theorem l_do1:doA arc0 lx1=(lA1,0):=by
 show put arc0 [97] ltx 0=_;rw [lA1_put,lA1_eq]
theorem l_do2:doA lA1 lx2=(lA2,0):=by
 show retrain lA1 8=_;rw [lA2_train,lA2_eq]
theorem l_do3:doA lA2 lx3=(arc0,5):=lA2_drop
theorem l_done1:doneA [lx1]=lA1:=by
 show doneStep arc0 lx1=_;unfold doneStep;rw [l_do1];rfl
theorem l_done2:doneA [lx1,lx2]=lA2:=by
 show doneStep (doneStep arc0 lx1) lx2=_;rw [show doneStep arc0 lx1=lA1 from l_done1];unfold doneStep;rw [l_do2];rfl
theorem l_b1:(actB lx1).length≤1046:=(actB_len lx1_e).1
theorem l_b2:(actB lx2).length≤1046:=(actB_len lx2_e).1
theorem l_b3:(actB lx3).length≤1046:=(actB_len lx3_e).1
theorem l_kept1:Kept [lx1] ([]++actB lx1):=Kept.push (l:=[]) Kept.nil lx1_e (by decide) (by have:=l_b1;simp;omega)
theorem l_kept2:Kept [lx1,lx2] (([]++actB lx1)++actB lx2):=Kept.push (l:=[lx1]) l_kept1 lx2_e (by decide) (by have:=l_b1;have:=l_b2;simp;omega)
def lS1:Bytes:=actB lx1
def lS2:Bytes:=actB lx1++actB lx2
theorem act_7:actFrom [7]=none:=by decide
theorem act_120:actFrom [120]=none:=by decide
theorem l_store1:storeA [] lx1=(lS1,0):=by
 have:=store_tail (r:=[]) (x:=lx1) Kept.nil actFrom_nil (by decide) lx1_e (by decide) (by have:=l_b1;simp;omega);rw [show ([]:Bytes)++[]=[] from rfl,show doneA []=arc0 from rfl,l_do1,if_neg (by simp),List.nil_append] at this;exact this
theorem l_store2:storeA (lS1++[7]) lx2=(lS2,0):=by
 have:=store_tail (r:=[7]) (x:=lx2) l_kept1 act_7 (by have:=l_b1;simp;omega) lx2_e (by decide) (by have:=l_b1;have:=l_b2;simp;omega);rw [l_done1,l_do2,if_neg (by simp),List.nil_append] at this;exact this
theorem l_kept:Kept [lx1,lx2] lS2:=by
 have:=l_kept2;rw [List.nil_append] at this;exact this
theorem l_recover:replayL lS2=[lx1,lx2]∧replayE lS2=0:=⟨l_kept.replay.1,l_kept.replay.2.2⟩
theorem l_store3:(storeA lS2 lx3).2=5:=by
 have:=store_tail (r:=[]) (x:=lx3) l_kept actFrom_nil (by have:=l_kept.size;simpa using this) lx3_e (by decide) (by have:=l_b1;have:=l_b2;have:=l_b3;unfold lS2;simp;omega);rw [List.append_nil,l_done2,l_do3,if_pos (by simp)] at this;rw [this]
theorem lS1_len:lS1.length≤1046:=l_b1
theorem lS2_len:lS2.length≤2092:=by have:=l_b1;have:=l_b2;unfold lS2;simp;omega
theorem l_write4:writeA lx4=[5,1,2,1,97,0]:=by decide +kernel
theorem l_replay4:replayL [5,1,2,1,97,0,120]=[lx4]∧replayN [5,1,2,1,97,0,120]=6∧replayE [5,1,2,1,97,0,120]=0:=by
 have h:=replay_acts (l:=[lx4]) (r:=[120]) (by intro x hx;rw [List.mem_singleton.1 hx];exact lx4_e) (by decide) act_120 (by have:=(actB_len lx4_e).1;simp [actsB];omega)
 have e:actsB [lx4]=[5,1,2,1,97,0]:=by
  have:=l_write4;unfold writeA at this;rw [if_pos lx4_e] at this;simp [actsB,this]
 rw [e] at h;exact h
end Pl
end Go.Proofs.YtjpgoeimclipjaaGreat
namespace Go.Proofs.YtjpgoeimclipjaaGreat
open Go.RowKit Go.Lib Pl
attribute [local go_sem] ext_list app_list
set_option maxHeartbeats 8000000 in
set_option maxRecDepth 100000 in
theorem logBegun_any (w:World) (hm:MaxLenIs w):Calls Tryz.prog 15 #[] w fun e w'=>e = .returned (.bool true)∧Below w.heap.size w w':=by
 obtain ⟨B,hB⟩:∃ B,B=w.heap.size:=⟨_,rfl⟩
 have H0:=zH (show St w w B [] by rw [hB];exact St.nil w);have HM:=zH hm;have HB:=zH hB;obtain ⟨s1,hs1⟩:∃ s,s=lS1:=⟨_,rfl⟩
 obtain ⟨s2,hs2⟩:∃ s,s=lS2:=⟨_,rfl⟩
 obtain ⟨s3,hs3⟩:∃ s,s=(storeA lS2 lx3).1:=⟨_,rfl⟩
 obtain ⟨b,hb⟩:∃ b,b=writeA lx4:=⟨_,rfl⟩
 have z1:s1.length≤1046:=by rw [hs1];exact lS1_len
 have z2:s2.length≤2092:=by rw [hs2];exact lS2_len
 have hb4:b=[5,1,2,1,97,0]:=by rw [hb];exact l_write4
 have zb:b.length=6:=by rw [hb4];rfl
 have C1:=zH (fun (W:World) (hM:MaxLenIs W)=>show Calls Tryz.prog 16 #[S [],actV ⟨1,0,[97],[120,121,122]⟩] W fun e w'=>e = .returned (.tuple #[S s1,I 0])∧Below W.heap.size W w' from by
  have:=store_any [] lx1 W (by decide) (actE_sz lx1_e) hM;rw [l_store1,←hs1] at this;exact this)
 have C2:=zH (fun (W:World) (hM:MaxLenIs W)=>show Calls Tryz.prog 16 #[S (s1++[7]),actV ⟨3,8,[],[]⟩] W fun e w'=>e = .returned (.tuple #[S s2,I 0])∧Below W.heap.size W w' from by
  have:=store_any (s1++[7]) lx2 W (by simp;omega) (actE_sz lx2_e) hM;rw [hs1,l_store2,←hs2] at this;rw [hs1];exact this)
 have C3:=zH (fun (W:World) (hM:MaxLenIs W)=>show Calls Tryz.prog 17 #[S s2] W fun e w'=>RecOut W.heap.size lA2 2 0 e w'∧Below W.heap.size W w' from by
  have:=recover_any s2 W (by omega) hM;rw [hs2,l_recover.1,l_recover.2,l_done2] at this;rw [hs2];exact this)
 have C4:=zH (fun (W:World) (hM:MaxLenIs W)=>show Calls Tryz.prog 16 #[S s2,actV ⟨2,0,[98],[]⟩] W fun e w'=>e = .returned (.tuple #[S s3,I 5])∧Below W.heap.size W w' from by
  have:=store_any s2 lx3 W (by omega) (actE_sz lx3_e) hM;rw [hs2,l_store3,←hs3] at this;rw [hs2];exact this)
 have C5:=zH (fun (W:World)=>show Calls Tryz.prog 46 #[actV ⟨1,2,[97],[]⟩] W fun e w'=>e = .returned (.tuple #[S b,I 0])∧Below W.heap.size W w' from by
  have:=logWrite_any lx4 W (actE_sz lx4_e);rw [←hb,lx4_e] at this;exact this)
 have C6:=zH (fun (W:World)=>show Calls Tryz.prog 49 #[S (b++[120])] W fun e w'=>(∃ A cap,e = .returned (.tuple #[.slice A 1 cap,I 6,I 0]))∧Below W.heap.size W w' from by
  have:=replay_any (b++[120]) W (by simp;omega);unfold ReplayRes at this;rw [hb4,show [5,1,2,1,97,0]++[120]=([5,1,2,1,97,0,120]:Bytes) from rfl,l_replay4.1,l_replay4.2.1,l_replay4.2.2] at this;rw [hb4];exact this.mono fun e w' ⟨⟨A,cap,h1,_⟩,h2⟩=>⟨⟨A,cap,h1⟩,h2⟩)
 have d1:(b == ([5,1,2,1,97,0]:Bytes))=true:=by rw [beq_iff_eq];exact hb4
 have y1:s1.length+1≤9223372036854775807:=by omega
 have y2:b.length+1≤9223372036854775807:=by omega
 rw [←hB];have hlA:=lA2_eq;have HLA:=zH (show lA2.ds.length=1∧lA2.fs.length=1 by rw [hlA];exact ⟨rfl,rfl⟩);clear hB hm hs1 hs2 hs3 hb hb4 hlA zb;go_enter Tryz.func15,Tryz.ntmps15;go_wp2_with fail;refine (zU C1 _ ((zU HM).up (by have:=(zU H0).bel;rw [zU HB] at this;exact this))).mono ?_;rintro e w1 ⟨rfl,hb1⟩;have H1:=zH ((zU H0).below hb1);clear hb1;go_wp2_with fail;refine (zU C2 _ ((zU HM).up (by have:=(zU H1).bel;rw [zU HB] at this;exact this))).mono ?_;rintro e w2 ⟨rfl,hb2⟩;have H2:=zH ((zU H1).below hb2);clear hb2;go_wp2_with fail;refine (zU C3 _ ((zU HM).up (by have:=(zU H2).bel;rw [zU HB] at this;exact this))).mono ?_;rintro e w3 ⟨hr3,hb3⟩;obtain ⟨Ra3,na3,ca3,Rb3,nb3,cb3,rfl,hi3,hc3,ho3⟩:=hr3.open;have H3:=zH ((zU H2).below hb3);have HI3:=zH hi3;have HC3:=zH hc3;have HO3:=zH ho3;clear hb3 hi3 hc3 hr3 ho3;have f1:((na3:Int) == 1)=true:=by have h1:=(zU HI3).s.1;have h2:=(zU HLA).1;rw [beq_iff_eq];omega
 have f2:((nb3:Int) == 1)=true:=by have h1:=(zU HI3).f.1;have h2:=(zU HLA).2;rw [beq_iff_eq];omega
 go_upto_region 4 with (refine wpList_store_row rfl 33 (.tmp 4) (.tmp 29) rfl w3.heap.size #[.slice Ra3 na3 ca3,.slice Rb3 nb3 cb3] rfl rfl 33 _ (heap_alloc_new _ _) sizeArc rfl (one_two _ _ _ _ _ _) ?_)
 obtain ⟨x3,hx3⟩:∃ x,x=(w3.alloc (.cells #[.slice none 0 0,.slice none 0 0] 33)).setRow w3.heap.size #[.slice Ra3 na3 ca3,.slice Rb3 nb3 cb3]:=⟨_,rfl⟩
 obtain ⟨P3,hP3⟩:∃ P,P=w3.heap.size:=⟨_,rfl⟩
 have G3:=zH (show St w x3 B [⟨P3,Ra3,na3,ca3,Rb3,nb3,cb3,lA2⟩] by rw [hx3,hP3];exact (zU H3).new (zU HI3) ca3 cb3);rw [←hx3,←hP3];clear hx3 hP3;have u3x0:x3.cell? ⟨P3,0,none⟩=some (.slice Ra3 na3 ca3):=(zU G3).c0 0 rfl;have v3x0:x3.cell? ⟨P3,1,none⟩=some (.slice Rb3 nb3 cb3):=(zU G3).c1 0 rfl;go_wp2_with fail;refine (zU C4 _ ((zU HM).up (by have:=(zU G3).bel;rw [zU HB] at this;exact this))).mono ?_;rintro e w4 ⟨rfl,hb4⟩;have H4:=zH ((zU G3).below hb4);clear hb4;clear u3x0 v3x0;have u4x0:w4.cell? ⟨P3,0,none⟩=some (.slice Ra3 na3 ca3):=(zU H4).c0 0 rfl;have v4x0:w4.cell? ⟨P3,1,none⟩=some (.slice Rb3 nb3 cb3):=(zU H4).c1 0 rfl;go_wp2_with fail;refine (zU C5 _).mono ?_;rintro e w5 ⟨rfl,hb5⟩;have H5:=zH ((zU H4).below hb5);clear hb5;clear u4x0 v4x0;have u5x0:w5.cell? ⟨P3,0,none⟩=some (.slice Ra3 na3 ca3):=(zU H5).c0 0 rfl;have v5x0:w5.cell? ⟨P3,1,none⟩=some (.slice Rb3 nb3 cb3):=(zU H5).c1 0 rfl;go_wp2_with fail;refine (zU C6 _).mono ?_;rintro e w6 ⟨⟨Al,cl,rfl⟩,hb6⟩;have H6:=zH ((zU H5).below hb6);clear hb6;clear u5x0 v5x0;have u6x0:w6.cell? ⟨P3,0,none⟩=some (.slice Ra3 na3 ca3):=(zU H6).c0 0 rfl;have v6x0:w6.cell? ⟨P3,1,none⟩=some (.slice Rb3 nb3 cb3):=(zU H6).c1 0 rfl;go_wp2_with fail;go_ret;exact ⟨rfl,(zU H6).bel⟩
end Go.Proofs.YtjpgoeimclipjaaGreat
namespace Go.Proofs.YtjpgoeimclipjaaGreat
open Go.RowKit Go.Lib Pl
attribute [local go_sem] ext_list app_list
theorem fil_fields:Tryz.prog.underlying 61=some (.struct (Tryz.prog.fieldsOf 61)):=by kernel_rfl
theorem fil_stood:Tryz.prog.stoodInHeld 61=false:=by kernel_rfl
theorem fil_guard:Tryz.prog.eqGuardType Tryz.prog.depth 61=false:=by kernel_rfl
theorem run_neq_fil (w:World) (f g:Fil):(binOp .neq 61 (filV f) (filV g)).run Tryz.prog w = .ok (.bool (!decide (f=g))) w:=by
 obtain ⟨a,b,c,d,e⟩:=f;obtain ⟨a',b',c',d',e'⟩:=g;rw [run_neq_struct,run_equalIn_agg _ _ _ _ _ fil_fields fil_stood];simp only [Program.fieldsOf,Tryz.underlying61]
 have e1:∀ (x y:Bytes) w,(Op.equalIn 9999 9 (S x) (S y)).run Tryz.prog w = .ok (decide (x=y)) w:=fun x y w=>by
  rw [run_equalIn_string w 9998 _ _ _ Tryz.underlying9,S_eq]
 have e2:∀ (x y:Int) w,(Op.equalIn 9999 3 (I x) (I y)).run Tryz.prog w = .ok (x == y) w:=fun x y w=>run_equalIn_int w 9998 _ _ _ x y Tryz.underlying3;simp [Op.eqFields,part,e1,e2]
 by_cases h1:a=a' <;> by_cases h2:b=b' <;> by_cases h3:c=c' <;> by_cases h4:d=d' <;> by_cases h5:e=e' <;> simp [h1,h2,h3,h4,h5]
structure AB2 (A:Option Addr) (n cap:Nat) (A2:Option Addr) (n2 cap2:Nat) (a:Arc) (C:Option Addr) (m cap3:Nat) (C2:Option Addr) (m2 cap4:Nat) (c:Arc) (w W:World) (B:Nat):Prop where
 o:W.heap[B]? = some (.cells #[.slice A n cap,.slice A2 n2 cap2] 33 (0,0))
 p:W.heap[B+1]? = some (.cells #[.slice C m cap3,.slice C2 m2 cap4] 33 (0,0))
 i:ArcIn W A n A2 n2 a
 j:ArcIn W C m C2 m2 c
 bel:Below B w W
theorem AB2.c {A A2 C C2:Option Addr} {n cap n2 cap2 m cap3 m2 cap4 B:Nat} {a c:Arc} {w W:World} (h:AB2 A n cap A2 n2 cap2 a C m cap3 C2 m2 cap4 c w W B) :
  W.cell? ⟨B,0,none⟩=some (.slice A n cap)∧W.cell? ⟨B,1,none⟩=some (.slice A2 n2 cap2)∧W.cell? ⟨B+1,0,none⟩=some (.slice C m cap3)∧W.cell? ⟨B+1,1,none⟩=some (.slice C2 m2 cap4):=by
 refine ⟨?_,?_,?_,?_⟩
 ·rw [cell_of_row _ _ _ _ _ _ h.o];rfl
 ·rw [cell_of_row _ _ _ _ _ _ h.o];rfl
 ·rw [cell_of_row _ _ _ _ _ _ h.p];rfl
 ·rw [cell_of_row _ _ _ _ _ _ h.p];rfl
theorem AB2.below {A A2 C C2:Option Addr} {n cap n2 cap2 m cap3 m2 cap4 B:Nat} {a c:Arc} {w W W':World} (h:AB2 A n cap A2 n2 cap2 a C m cap3 C2 m2 cap4 c w W B) (hb:Below W.heap.size W W'):AB2 A n cap A2 n2 cap2 a C m cap3 C2 m2 cap4 c w W' B:=by
 have h1:=(Array.getElem?_eq_some_iff.1 h.o).1;have h2:=(Array.getElem?_eq_some_iff.1 h.p).1;exact ⟨(hb.block _ h1).trans h.o,(hb.block _ h2).trans h.p,h.i.up hb,h.j.up hb,h.bel.trans (hb.mono (Nat.le_of_lt h1))⟩
theorem AB2.new {A A2 C C2:Option Addr} {n n2 m m2:Nat} {a c:Arc} {w:World} (h:ArcIn w A n A2 n2 a) (h':ArcIn w C m C2 m2 c) (cap cap2 cap3 cap4:Nat) :
  AB2 A n cap A2 n2 cap2 a C m cap3 C2 m2 cap4 c w ((w.alloc (.cells #[.slice A n cap,.slice A2 n2 cap2] 33)).alloc (.cells #[.slice C m cap3,.slice C2 m2 cap4] 33)) w.heap.size :=
 ⟨(Below.heap_alloc _ _ _ (by simp)).trans (heap_alloc_new _ _),by have:=heap_alloc_new (w.alloc (.cells #[.slice A n cap,.slice A2 n2 cap2] 33)) (.cells #[.slice C m cap3,.slice C2 m2 cap4] 33);simpa using this,(h.alloc _).alloc _,(h'.alloc _).alloc _,((Below.refl _ _).alloc (Nat.le_refl _) _).alloc (by simp) _⟩
set_option maxHeartbeats 4000000 in
set_option maxRecDepth 100000 in
theorem sameArchives_any (A:Option Addr) (n cap:Nat) (A2:Option Addr) (n2 cap2:Nat) (a:Arc) (C:Option Addr) (m cap3:Nat) (C2:Option Addr) (m2 cap4:Nat) (c:Arc) (w:World) (h:ArcIn w A n A2 n2 a) (h':ArcIn w C m C2 m2 c) (hn:n≤4611686018427387904) (hn2:n2≤4611686018427387904) :
  Calls Tryz.prog 18 #[arcV A n cap A2 n2 cap2,arcV C m cap3 C2 m2 cap4] w fun e w'=>e = .returned (.bool (decide (a=c)))∧Below w.heap.size w w':=by
 obtain ⟨B,hB⟩:∃ B,B=w.heap.size:=⟨_,rfl⟩
 obtain ⟨w0,hw0⟩:∃ w0,w0=(w.alloc (.cells #[.slice A n cap,.slice A2 n2 cap2] 33)).alloc (.cells #[.slice C m cap3,.slice C2 m2 cap4] 33):=⟨_,rfl⟩
 have H0:=zH (show AB2 A n cap A2 n2 cap2 a C m cap3 C2 m2 cap4 c w w0 B by rw [hw0,hB];exact AB2.new h h' cap cap2 cap3 cap4);have hl1:=h.s.1;have hl2:=h.f.1;have hm1:=h'.s.1;have hm2:=h'.f.1;obtain ⟨ds,fs⟩:=a;obtain ⟨es,gs⟩:=c;simp only at hl1 hl2 hm1 hm2;obtain ⟨rs,hrs⟩:∃ rs,rs=decide ((⟨ds,fs⟩:Arc)=⟨es,gs⟩):=⟨_,rfl⟩
 rw [←hrs,←hB];have HB:=zH hB;have HW0:=zH hw0;have HRS:=zH hrs;clear hB hw0 h h' hrs
 by_cases hlen:¬ (n=m∧n2=m2)
 ·have hne:rs=false:=by
   rw [zU HRS,decide_eq_false];intro e;injection e with e1 e2
   subst e1;subst e2;exact hlen ⟨by omega,by omega⟩
  rw [hne]
  have hc:(((n:Int) == (m:Int))=false∧((n:Int) != (m:Int))=true)∨(((n:Int) == (m:Int))=true∧((n:Int) != (m:Int))=false∧((n2:Int) == (m2:Int))=false∧((n2:Int) != (m2:Int))=true):=by
   by_cases e:n=m
   ·right;have:n2≠m2:=fun e2=>hlen ⟨e,e2⟩;refine ⟨by rw [beq_iff_eq];omega,by rw [bne_eq_false_iff_eq];omega,by rw [beq_eq_false_iff_ne];omega,by rw [bne_iff_ne];omega⟩
   ·left;exact ⟨by rw [beq_eq_false_iff_ne];omega,by rw [bne_iff_ne];omega⟩
  clear hlen hne
  rcases hc with ⟨d1,d2⟩ | ⟨d1,d2,d3,d4⟩
  all_goals
   go_enter Tryz.func18,Tryz.ntmps18;go_upto_region 1 with fail
   rw [←zU HW0,←zU HB];obtain ⟨q0,q1,q2,q3⟩:=(zU H0).c;go_wp2_with fail;go_ret;exact ⟨rfl,(zU H0).bel⟩
 obtain ⟨e1,e2⟩:=Decidable.not_not.1 hlen;subst e1;subst e2;clear hlen;have d1:((n:Int) == (n:Int))=true:=by simp
 have d2:((n:Int) != (n:Int))=false:=by simp
 have d3:((n2:Int) == (n2:Int))=true:=by simp
 have d4:((n2:Int) != (n2:Int))=false:=by simp
 go_enter Tryz.func18,Tryz.ntmps18;go_upto_region 1 with fail
 rw [←zU HW0,←zU HB];obtain ⟨q0,q1,q2,q3⟩:=(zU H0).c;go_wp2_with fail;clear q0 q1 q2 q3 d1 d2 d3 d4;go_loopw [5] (fun iv wr=>∃ k:Nat,k≤n∧iv = .int .i64 k∧ds.take k=es.take k∧AB2 A n cap A2 n2 cap2 ⟨ds,fs⟩ C n cap3 C2 n2 cap4 ⟨es,gs⟩ w wr B) (fun iv _=>n-(intOf iv).toNat)
 case atStart=>exact ⟨0,Nat.zero_le _,rfl,rfl,zU H0⟩
 case round =>
  obtain ⟨k,hk,rfl,hs,hAB⟩:=hrel;have HAB:=zH hAB;obtain ⟨q0,q1,q2,q3⟩:=hAB.c
  by_cases hkn:k<n
  ·obtain ⟨b,off,t,rfl,hb,ht,hc⟩:=hAB.i.s.at_ (k:=k) hkn;obtain ⟨b',off',t',rfl,hb',ht',hc'⟩:=hAB.j.s.at_ (k:=k) hkn;have z0:(0:Int)≤(k:Int):=by omega
   have z1:(k:Int)<(n:Int):=by omega
   by_cases he:t=t'
   ·subst he
    have HS:=zH (show ds.take (k+1)=es.take (k+1) by
     have h1:ds[k]? = some t:=ht;have h2:es[k]? = some t:=ht';rw [List.take_add_one,List.take_add_one,hs,h1,h2])
    clear ht ht' hs hAB;go_wp2_with fail;go_quiet (fail);go_wp2_with fail;go_roundw
    case rel=>exact ⟨k+1,by omega,by go_num,zU HS,(zU HAB).below (_root_.Go.below_drewN (Below.refl _ _) _)⟩
    case measure=>simp [intOf];omega
   ·have hne:rs=false:=by
     rw [zU HRS,decide_eq_false];intro e;injection e with e1 e2
     have h1:ds[k]? = some t:=ht;have h2:es[k]? = some t':=ht';rw [e1,h2] at h1;injection h1 with h1
     exact he h1.symm
    have HN:=zH hne;have d2:(t != t')=true:=by rw [bne_iff_ne];exact he
    have d3:(t == t')=false:=by rw [beq_eq_false_iff_ne];exact he
    clear ht ht' hs hAB hne he;go_wp2_with fail;go_quiet (fail);go_wp2_with fail;go_ret;rw [zU HN];exact ⟨rfl,((zU HAB).below (_root_.Go.below_drewN (Below.refl _ _) _)).bel⟩
  ·have hds:ds=es:=by
    rw [List.take_of_length_le (by omega),List.take_of_length_le (by omega)] at hs;exact hs
   have HDS:=zH hds;have z1:¬ (k:Int)<(n:Int):=by omega
   have z2:decide ((k:Int)<(n:Int))=false:=by simp;omega
   clear hds hs hAB;go_wp2_with fail;clear q0 q1 q2 q3;go_loopw [6] (fun iv wr=>∃ k:Nat,k≤n2∧iv = .int .i64 k∧fs.take k=gs.take k∧AB2 A n cap A2 n2 cap2 ⟨ds,fs⟩ C n cap3 C2 n2 cap4 ⟨es,gs⟩ w wr B) (fun iv _=>n2-(intOf iv).toNat)
   case atStart=>exact ⟨0,Nat.zero_le _,rfl,rfl,zU HAB⟩
   case round =>
    clear HAB z1 z2 hk hkn;obtain ⟨j,hj,rfl,hs,hAB⟩:=hrel;have HAB:=zH hAB;obtain ⟨q0,q1,q2,q3⟩:=hAB.c
    by_cases hjn:j<n2
    ·obtain ⟨b,off,f,rfl,hb,hf,x0,x1,x2,x3,x4⟩:=hAB.i.f.at_ (k:=j) hjn;obtain ⟨b',off',g,rfl,hb',hg,y0,y1,y2,y3,y4⟩:=hAB.j.f.at_ (k:=j) hjn;have z0:(0:Int)≤(j:Int):=by omega
     have z1:(j:Int)<(n2:Int):=by omega
     have hgd:=fil_guard;have hq:=fun W=>run_neq_fil W f g;obtain ⟨f1,f2,f3,f4,f5⟩:=f;obtain ⟨g1,g2,g3,g4,g5⟩:=g
     by_cases he:(⟨f1,f2,f3,f4,f5⟩:Fil)=⟨g1,g2,g3,g4,g5⟩
     ·rw [decide_eq_true he] at hq
      have HS:=zH (show fs.take (j+1)=gs.take (j+1) by
       have h1:fs[j]? = some _:=hf;have h2:gs[j]? = some _:=hg;rw [List.take_add_one,List.take_add_one,hs,h1,h2,he])
      clear hf hg hs hAB he;go_wp2_with fail;go_quiet (fail);go_wp2_with fail;go_roundw
      case rel=>exact ⟨j+1,by omega,by go_num,zU HS,(zU HAB).below (_root_.Go.below_drewN (Below.refl _ _) _)⟩
      case measure=>simp [intOf];omega
     ·rw [decide_eq_false he] at hq
      have hne:rs=false:=by
       rw [zU HRS,decide_eq_false];intro e;injection e with e1 e2
       have h1:fs[j]? = some _:=hf;have h2:gs[j]? = some _:=hg;rw [e2,h2] at h1;injection h1 with h1
       exact he h1.symm
      have HN:=zH hne;clear hf hg hs hAB hne he;go_wp2_with fail;go_quiet (fail);go_wp2_with fail;go_ret;rw [zU HN];exact ⟨rfl,((zU HAB).below (_root_.Go.below_drewN (Below.refl _ _) _)).bel⟩
    ·have hfs:fs=gs:=by
      rw [List.take_of_length_le (by omega),List.take_of_length_le (by omega)] at hs;exact hs
     have hy:rs=true:=by rw [zU HRS,decide_eq_true];rw [hfs,zU HDS]
     have HY:=zH hy;have z1:¬ (j:Int)<(n2:Int):=by omega
     have z2:decide ((j:Int)<(n2:Int))=false:=by simp;omega
     clear hfs hs hAB hy;go_wp2_with fail;go_ret;rw [zU HY];exact ⟨rfl,(zU HAB).bel⟩
theorem sameArc (A:Option Addr) (n cap:Nat) (A2:Option Addr) (n2 cap2:Nat) (C:Option Addr) (m cap3:Nat) (C2:Option Addr) (m2 cap4:Nat) (a:Arc) (w:World) (h:ArcIn w A n A2 n2 a) (h':ArcIn w C m C2 m2 a) (hd:a.ds.length≤4) (hf:a.fs.length≤12) :
  Calls Tryz.prog 18 #[arcV A n cap A2 n2 cap2,arcV C m cap3 C2 m2 cap4] w fun e w'=>e = .returned (.bool true)∧Below w.heap.size w w':=by
 have h1:=h.s.1;have h2:=h.f.1;have:=sameArchives_any A n cap A2 n2 cap2 a C m cap3 C2 m2 cap4 a w h h' (by omega) (by omega);rw [decide_eq_true rfl] at this;exact this
end Go.Proofs.YtjpgoeimclipjaaGreat
namespace Go.Proofs.YtjpgoeimclipjaaGreat
open Go.ChangeShapes Go.WideShapes Go.Deep Go.RowKit Pl
section
variable {H : Type} {enc : TypeId × Value → H} {P : Program} {w : World} {base : Nat} {spare : Nat → Bool} {held : Bool}
theorem open_slice_fields {t e:TypeId} {fs:Array Field} {fuel:Nat} {cs:List Value} {x:DataW H×List MemPlace} (ht:P.underlying t=some (.slice e)) (he:P.underlying e=some (.struct fs))
  (hone:oneCellFields P fs=true) (hC:P.cellsOf e=fs.size) (h:DataW.trod enc P w base spare held fuel t cs=some x) :
  (cs=[.slice none 0 0]∧x=(.nil,[])) ∨
  ∃ (a:Addr) (len cap m:Nat) (D:Nat→DataW H) (Pl:Nat→List MemPlace),cs=[.slice (some a) len cap]∧base≤a.block∧len≤cap∧cap≤maxLen∧m=(if spare a.block then cap else len) ∧
   x=(.slice ((List.range len).map D) ((List.range (m-len)).map fun j=>D (len+j)),MemPlace.row a (m*fs.size)++(List.range m).flatMap Pl) ∧
   ∀ i,i<m→∃ (ys:List (DataW H×List MemPlace)) (n:Nat),D i = .agg (ys.map (·.1))∧Pl i=ys.flatMap (·.2)∧ys.length=fs.size ∧
    ∀ (j:Nat) (f:Field),fs[j]? = some f→∃ (v:Value) (y:DataW H×List MemPlace),w.cell? (a.add (i*fs.size+j))=some v∧ys[j]? = some y∧DataW.trod enc P w base spare held n f.type [v]=some y:=by
 rcases open_slice ht h with h0 | ⟨a,len,cap,m,n,D,Pl,hcs,hb,hl,hm,hmm,hx,hi⟩
 ·exact .inl h0
 ·refine .inr ⟨a,len,cap,m,D,Pl,hcs,hb,hl,hm,hmm,by rw [hC] at hx;exact hx,fun i him=>?_⟩;obtain ⟨cs',hc,ht'⟩:=hi i him;rw [hC] at hc;obtain ⟨ys,n',hn',hy,hlen,hyl,hf⟩:=DataW.trod_struct he ht';obtain ⟨_,hcl,hat⟩:=World.cells?_some hc;simp only [Prod.mk.injEq] at hy;refine ⟨ys,n',hy.1,hy.2,hyl,fun j f hj=>?_⟩;obtain ⟨ho,hk⟩:=hone_of hone j f hj;have hjl:j<fs.size:=(Array.getElem?_eq_some_iff.1 hj).1;have hcell:=hat j hjl;have hv:cs'[j]? = some (cs'[j]'(by omega)):=List.getElem?_eq_getElem (by omega);have h1:=hf j f hj;rw [ho,hk] at h1
  have hone':(cs'.drop j).take 1=[cs'[j]'(by omega)]:=by
   rw [List.drop_eq_getElem_cons (by omega)];rfl
  rw [hone'] at h1;have hys:ys[j]? = some (ys[j]'(by omega)):=List.getElem?_eq_getElem (by omega);refine ⟨_,_,?_,hys,h1.trans hys⟩;rw [←Go.Deep.add_add,hcell,hv]
end
theorem trodAll_pa {H:Type} {enc:TypeId×Value→H} {P:Program} {w:World} {base:Nat} {spare:Nat→Bool} {held:Bool} {ts:List TypeId} {vs:List Value} {ds:List (DataW H)} {p p':List MemPlace} (h:DataW.TrodAll enc P w base spare held ts vs ds p) (e:p=p'):DataW.TrodAll enc P w base spare held ts vs ds p':=e ▸ h
theorem list_of {α:Type} (n:Nat) (p:Nat→α→Prop) (h:∀ i,i<n→∃ a,p i a):∃ l:List α,l.length=n∧∀ i a,l[i]? = some a→p i a:=by
 induction n with
 | zero=>exact ⟨[],rfl,by simp⟩
 | succ n ih =>
  obtain ⟨l,hl,hp⟩:=ih fun i hi=>h i (by omega);obtain ⟨a,ha⟩:=h n (by omega);refine ⟨l++[a],by simp [hl],fun i b hb=>?_⟩
  by_cases hi:i<n
  ·rw [List.getElem?_append_left (by omega)] at hb;exact hp i b hb
  ·rw [List.getElem?_append_right (by omega)] at hb
   have h0:i-l.length=0:=by
    rcases Nat.eq_zero_or_pos (i-l.length) with h0 | h0
    ·exact h0
    ·rw [List.getElem?_eq_none (by simp;omega)] at hb;cases hb
   rw [h0] at hb;simp at hb;subst hb;have:i=n:=by omega
   subst this;exact ha
end Go.Proofs.YtjpgoeimclipjaaGreat
namespace Go.Proofs.YtjpgoeimclipjaaGreat
open Go.ChangeShapes Go.WideShapes Go.Deep Go.RowKit Pl
theorem maxLen_of_shape {w:World} (h:w.ShapedOpen Tryz.prog):MaxLenIs w :=
 Go.Proofs.cell_of_shapedOpen_int (zero:=#[.int .i64 0]) (t:=3) h (of_decide_eq_true (by kernel_rfl)) (by kernel_rfl) rfl (by kernel_rfl) (by kernel_rfl) Tryz.underlying3
end Go.Proofs.YtjpgoeimclipjaaGreat
namespace Go.Proofs.YtjpgoeimclipjaaGreat
open Go.ChangeShapes Go.WideShapes Go.Deep Go.RowKit Pl
theorem weights_all_mem {H:Type} {P:Program} {e:TypeId} : ∀ {l:List (DataW H)} {x:DataW H},x∈l→∀ n∈x.weights P e,n∈DataW.weightsAll P e l
 | y::l,x,hx,n,hn=>by
  simp only [DataW.weightsAll,List.mem_append]
  rcases List.mem_cons.1 hx with rfl | hx
  ·exact .inl hn
  ·exact .inr (weights_all_mem hx n hn)
theorem lit_range {a:Int} (h:(Lit.int .i64 a).wf=true) : -9223372036854775808≤a∧a≤9223372036854775807:=by
 have hmin:IntKind.i64.min = -9223372036854775808:=rfl;have hmax:IntKind.i64.max=9223372036854775807:=rfl;simp only [Lit.wf,Bool.and_eq_true,decide_eq_true_eq] at h;rw [hmin,hmax] at h;exact h
end Go.Proofs.YtjpgoeimclipjaaGreat
namespace Go.Proofs.YtjpgoeimclipjaaGreat
open Go.ChangeShapes Go.WideShapes Go.Deep Go.RowKit Go.Lib Pl
set_option maxRecDepth 100000 in
theorem open_act {H:Type} {enc:TypeId×Value→H} {w:World} {base:Nat} {v:Value} {d:DataW H} {p:List MemPlace}
  (hok:Value.okWide Tryz.prog w .any base 29 v) (h:DataW.Trod enc Tryz.prog w 0 (fun _=>true) true 29 v d p) (hwt:∀ n∈d.weights Tryz.prog 29,n≤reachBytes) :
  ∃ x:Act',v=actV x∧ActSz x:=by
 obtain ⟨cs,rfl,hcs⟩:=okWide_struct Tryz.underlying29 hok;have hc4:cs.size=4:=hcs.trans (by kernel_rfl)
 obtain ⟨v0,v1,v2,v3,rfl⟩:∃ v0 v1 v2 v3,cs=#[v0,v1,v2,v3]:=by
  obtain ⟨l⟩:=cs
  match l,hc4 with
  | [x,y,z,u],_=>exact ⟨x,y,z,u,rfl⟩
 obtain ⟨fuel,hf⟩:=h;have hf:DataW.trod enc Tryz.prog w 0 (fun _=>true) true fuel 29 [v0,v1,v2,v3]=some (d,p):=hf;obtain ⟨⟨d0,p0⟩,⟨d1,p1⟩,⟨d2,p2⟩,⟨d3,p3⟩,k,hx,_,t0,t1,t2,t3⟩:=Go.Joins.trod_struct4 Tryz.underlying29 hf;injection hx with hd hp
 subst hd;subst hp;have t0:DataW.trod enc Tryz.prog w 0 (fun _=>true) true k 3 (([v0,v1,v2,v3].drop 0).take (Tryz.prog.cellsOf 3))=some (d0,p0):=t0;have t1:DataW.trod enc Tryz.prog w 0 (fun _=>true) true k 3 (([v0,v1,v2,v3].drop 1).take (Tryz.prog.cellsOf 3))=some (d1,p1):=t1;have t2:DataW.trod enc Tryz.prog w 0 (fun _=>true) true k 9 (([v0,v1,v2,v3].drop 2).take (Tryz.prog.cellsOf 9))=some (d2,p2):=t2;have t3:DataW.trod enc Tryz.prog w 0 (fun _=>true) true k 9 (([v0,v1,v2,v3].drop 3).take (Tryz.prog.cellsOf 9))=some (d3,p3):=t3;rw [show Tryz.prog.cellsOf 3=1 from by kernel_rfl] at t0 t1;rw [show Tryz.prog.cellsOf 9=1 from by kernel_rfl] at t2 t3;have t0:DataW.trod enc Tryz.prog w 0 (fun _=>true) true k 3 [v0]=some (d0,p0):=t0;have t1:DataW.trod enc Tryz.prog w 0 (fun _=>true) true k 3 [v1]=some (d1,p1):=t1;have t2:DataW.trod enc Tryz.prog w 0 (fun _=>true) true k 9 [v2]=some (d2,p2):=t2;have t3:DataW.trod enc Tryz.prog w 0 (fun _=>true) true k 9 [v3]=some (d3,p3):=t3;have hrb:reachBytes=140737488351232:=rfl
 have w2:∀ n∈d2.weights Tryz.prog 9,n≤reachBytes:=fun n hn=>hwt n (by
  simp only [DataW.weights,Tryz.underlying29];exact DataW.weights_mem_each (j:=2) rfl rfl n hn)
 have w3:∀ n∈d3.weights Tryz.prog 9,n≤reachBytes:=fun n hn=>hwt n (by
  simp only [DataW.weights,Tryz.underlying29];exact DataW.weights_mem_each (j:=3) rfl rfl n hn)
 obtain ⟨x0,hx0,hy0,hw0⟩:=DataW.trod_int Tryz.underlying3 t0;obtain ⟨x1,hx1,hy1,hw1⟩:=DataW.trod_int Tryz.underlying3 t1;obtain ⟨s,hs,hys,_⟩:=DataW.trod_string Tryz.underlying9 t2;obtain ⟨u,hu,hyu,_⟩:=DataW.trod_string Tryz.underlying9 t3;injection hx0 with hx0
 injection hx1 with hx1
 injection hs with hs
 injection hu with hu
 subst hx0;subst hx1;subst hs;subst hu;injection hys with hys _
 injection hyu with hyu _
 have b2:=w2 s.data.toList.length (by rw [hys];simp [DataW.weights]);have b3:=w3 u.data.toList.length (by rw [hyu];simp [DataW.weights]);obtain ⟨r0,r0'⟩:=lit_range hw0;obtain ⟨r1,r1'⟩:=lit_range hw1;exact ⟨⟨x0,x1,s.data.toList,u.data.toList⟩,rfl,⟨r0,r0',r1,r1',by show s.data.toList.length≤_;omega,by show u.data.toList.length≤_;omega⟩⟩
end Go.Proofs.YtjpgoeimclipjaaGreat
