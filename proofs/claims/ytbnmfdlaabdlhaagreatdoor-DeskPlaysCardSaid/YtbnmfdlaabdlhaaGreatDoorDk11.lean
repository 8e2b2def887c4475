/- Parts of the proofs. -/
import Derived.Test.YtbnmfdlaabdlhaaGreatDoorDk10
import Derived.OrdersHeld
set_option maxHeartbeats 16000000
set_option maxRecDepth 100000
namespace Go.Proofs.YtbnmfdlaabdlhaaGreatDoor
section
open Go.RowKit Go.Lib Pl
attribute [local go_sem] qf qe
theorem qks:(Tryz.prog.info? 9).map (fun i=>(i.zero,i.size,i.bytes))=some (some (.string ByteArray.empty),1,16):=by kernel_rfl
theorem qtY(l:List qa):∀y∈l.map qaE,y.oneCell'=true:=by
 intro y hy;obtain⟨t,_,rfl⟩:=List.mem_map.1 hy;rfl
theorem qcv{w:World}{ops:Array Oper}{rest:List Oper}{o:Oper}{a:Act}{Q:Exit->Act->World->Prop}(hgd:o.guard=none)(s x:Operand)
  (ho:o.op=.call { callee:=.builtin .append,args:=#[s,x],argTypes:=#[30,30] })
  (base:Nat) (v:Value) (n:Nat) (l:List qa) (hs:a.eval s=v) (hown:w.ownsRow base 9 1 v n (l.map qaE)) (t:qa)
  (H:Nat) (hH:w.heap.size=H) (hx:a.eval x=.slice (some ⟨H,0,none⟩) 1 1)
  (hn:n<=1000000) (hbase:base<=w.heap.size)
  (h:∀A' cap' w',w'.ownsRow base 9 1 (.slice A' (n+1) cap') (n+1) ((l++[t]).map qaE)->Below base w w'->(w.alloc (.cells #[S t] 9)).grownBy w' v.ownBlock->wpList Tryz.prog ops Q rest (a.put o.dst (.slice A' (n+1) cap')) w') :
  wpList Tryz.prog ops Q (o::rest) a (w.alloc (.cells #[S t] 9)):=by
 subst hH;obtain⟨i0,hi,hz0,hz1,hz2⟩:=info_parts qks;refine wpList_append_own _ hgd s x _ ho base 9 i0 _ 1 16 Tryz.underlying30 hi hz0 hz1 hz2 rfl (by decide) v n (l.map qaE) hs (hown.alloc _) ⟨w.heap.size,0,none⟩ 1 1 [S t] hx rfl (fun j u hj=>?_) (fun y hy=>?_) (by unfold maxLen;omega) (by omega) (by simp;omega) ?_
 ·rw[Addr.add_lit,World.cell?_alloc_new];simpa using hj
 ·simp at hy;subst hy;rfl
 ·intro v' w' hown' hg _
  have hown2:w'.ownsRow base 9 1 v' (n+1) ((l++[t]).map qaE):=by
   rw[List.map_append];exact hown'
  obtain⟨A',cap',rfl,_⟩:=qat hown2;exact h A' cap' w' hown2 (((Below.refl _ _).alloc hbase _).grown hg (by simp;omega) (fun k hk=>(hown.lt k hk).1)) hg
theorem qg9(x:Int):∀(l:List Fil) (i:Nat) (f:Fil),l[i]?=some f->(qb l).set (i*5+1) (I x)=qb (l.set i { f with dict:=x })
 | [],i,f,h=>by simp at h
 | g::l,0,f,h=>by
  simp at h;subst h;simp[qb,qr]
 | g::l,i+1,f,h=>by
  have h':l[i]?=some f:=by simpa using h
  rw[List.set_cons_succ,qcT,qcT,<-qg9 x l i f h',List.set_append_right _ _ (by rw[qU];omega),qU]
  congr 2;omega
theorem qjK{w:World}{base g cap n:Nat}{l:List Fil}(h:w.ownsRow base 89 5 (.slice (some ⟨g,0,none⟩) n cap) n (qb l)){i:Nat}{f:Fil}(hf:l[i]?=some f)(x:Int) :
  (w.setCell ⟨g,i*5+1,none⟩ (I x)).ownsRow base 89 5 (.slice (some ⟨g,0,none⟩) n cap) n (qb (l.set i { f with dict:=x }))/\w.grownBy (w.setCell ⟨g,i*5+1,none⟩ (I x)) (some g)/\w.cell? ⟨g,i*5+1,none⟩=some (I f.dict)/\w.frozen? ⟨g,i*5+1,none⟩=false:=by
 obtain⟨cur,hb,hg,hnc,hcm,hsz,ht⟩:=qbr h;have hl:=qcF h;have hi:=(List.getElem?_eq_some_iff.1 hf).1;have hc:(qb l)[i*5+1]?=some (I f.dict):=(qct l i f hf).2.1;refine⟨?_,?_,?_,by simp[World.frozen?,hg]⟩
 ·rw[setCell_eq_setRow w g _ cur _ _ _ hg];refine qe0 hb (setRow_heap _ _ _ _ _ _ hg) hnc hcm (by simpa using hsz) (by simpa using hl) ?_;rw[Array.toList_setIfInBounds,List.take_set,ht,qg9 x l i f hf]
 ·rw[setCell_eq_setRow w g _ cur _ _ _ hg];exact⟨rfl,rfl,rfl,by simp[World.setRow],fun k hk hne=>setRow_other w g k _ (fun e=>hne (by rw[e]))⟩
 ·rw[cell_of_row w g _ cur _ _ hg];rw[<-ht,List.getElem?_take]at hc
  split at hc
  ·simpa using hc
  ·cases hc
theorem IntMap.obj{w:World}{b n:Nat}{f:Int->Nat}(h:IntMap w b n f):∃es c,w.heap[b]?=some (.map es c):=by
 obtain⟨D,⟨es,clock,h1,r⟩,r2⟩:=h;exact⟨es,clock,h1⟩
theorem qcR{w:World}{base e size n k:Nat}{v:Value}{xs:List Value}(h:w.ownsRow base e size v n xs)(hk:v.ownBlock=some k):∃cs,w.heap[k]?=some (.cells cs e (0,0)):=by
 rcases h.2 with⟨hv,_⟩|⟨g,cap,cur,hv,_,hg,_⟩
 ·rw[hv]at hk;simp[Value.ownBlock]at hk
 ·rw[hv]at hk;simp only[Value.ownBlock,Option.some.injEq]at hk;subst hk;exact⟨cur,hg⟩
theorem IntMap.notOwn{w:World}{b n base e size m:Nat}{f:Int->Nat}{v:Value}{xs:List Value}(h:IntMap w b n f)(ho:w.ownsRow base e size v m xs):some b≠v.ownBlock:=by
 intro e;obtain⟨es,c,h1⟩:=h.obj;obtain⟨cs,h2⟩:=qcR ho e.symm;rw[h1]at h2;cases h2
theorem qcx{w:World}{b1 b2 e1 e2 s1 s2 n1 n2:Nat}{v1 v2:Value}{x1 x2:List Value}(h1:w.ownsRow b1 e1 s1 v1 n1 x1)(h2:w.ownsRow b2 e2 s2 v2 n2 x2)(hne:e1≠e2):v1.ownBlock=none\/v1.ownBlock≠v2.ownBlock:=by
 cases hk:v1.ownBlock with
 | none=>exact .inl rfl
 | some k =>
  refine .inr fun e=>?_;obtain⟨c1,g1⟩:=qcR h1 hk;obtain⟨c2,g2⟩:=qcR h2 e.symm;rw[g1]at g2;injection g2 with g2
  injection g2 with _ g2 _
  exact hne g2
structure CompS(w W:World)(B E P:Nat)(c0:Array Value)(v1 v2:Value)(x:Arc):Prop where
 b:W.heap[B]?=some (.cells c0 33 (0,0))
 z:W.heap[B+1]?=some (.cells #[.slice none 0 0,.slice none 0 0] 33 (0,0))
 p:W.heap[P]?=some (.cells #[v1,v2] 33 (0,0))
 o:OwnA W E v1 v2 x
 be:B+1<E
 ep:E<=P
 bel:Below B w W
section
variable {w W W' : World} {B E P : Nat} {c0 : Array Value} {v1 v2 : Value} {x : Arc}
theorem CompS.lt(h:CompS w W B E P c0 v1 v2 x):P<W.heap.size:=(zE h.p).1
theorem CompS.below(h:CompS w W B E P c0 v1 v2 x)(hb:Below W.heap.size W W'):CompS w W' B E P c0 v1 v2 x:=by
 have:=h.lt;have:=h.be;have:=h.ep;exact⟨(hb.block _ (by omega)).trans h.b,(hb.block _ (by omega)).trans h.z,(hb.block _ h.lt).trans h.p,h.o.below hb,h.be,h.ep,h.bel.trans (hb.mono (by omega))⟩
theorem CompS.ownP1(h:CompS w W B E P c0 v1 v2 x):some P≠v1.ownBlock:=by
 intro e;obtain⟨c,g⟩:=qcR h.o.s e.symm;rw[h.p]at g;injection g with g
 injection g with _ g _
 exact absurd g (by decide)
theorem CompS.ownP2(h:CompS w W B E P c0 v1 v2 x):some P≠v2.ownBlock:=by
 intro e;obtain⟨c,g⟩:=qcR h.o.f e.symm;rw[h.p]at g;injection g with g
 injection g with _ g _
 exact absurd g (by decide)
theorem CompS.map(h:CompS w W B E P c0 v1 v2 x){V m:Nat}{f:Int->Nat}(hm:IntMap W V m f)(hE:E<=V)(hg:W.grownBy W' (some V)):CompS w W' B E P c0 v1 v2 x:=by
 have h1:=h.lt;have h2:=h.be;have h3:=h.ep
 have hP:P≠V:=by
  intro e;subst e;obtain⟨es,c,g⟩:=hm.obj;rw[h.p]at g;cases g
 exact⟨(hg.block B (by omega) (by simp;omega)).trans h.b,(hg.block (B+1) (by omega) (by simp;omega)).trans h.z,(hg.block P h1 (by simpa using hP)).trans h.p,
  ⟨h.o.s.kept hg (.inr (Ne.symm (hm.notOwn h.o.s))),h.o.f.kept hg (.inr (Ne.symm (hm.notOwn h.o.f)))⟩,h.be,h.ep,h.bel.grown hg (by omega) (fun k hk=>by simp at hk;omega)⟩
theorem CompS.push(h:CompS w W B E P c0 v1 v2 x){v1':Value}{d:qa}(hg:W.grownBy W' v1.ownBlock)(hs:W'.ownsRow E 9 1 v1' (x.ds.length+1) ((x.ds++[d]).map qaE)) :
  CompS w (W'.setCell ⟨P,0,none⟩ v1') B E P c0 v1' v2 ⟨x.ds++[d],x.fs⟩/\W'.heap[P]?=some (.cells #[v1,v2] 33 (0,0))/\(∀j,j<W.heap.size->j≠P->some j≠v1.ownBlock->(W'.setCell ⟨P,0,none⟩ v1').heap[j]?=W.heap[j]?):=by
 have h1:=h.lt;have h2:=h.be;have h3:=h.ep;have hP':W'.heap[P]?=some (.cells #[v1,v2] 33 (0,0)):=(hg.block P h1 h.ownP1).trans h.p;have hlo:∀j,j<E->some j≠v1.ownBlock:=fun j hj e=>by have:=(h.o.s.lt j e.symm).1;omega
 have hrow:W'.setCell ⟨P,0,none⟩ v1'=W'.setRow P #[v1',v2]:=by rw[setCell_eq_setRow W' P 0 _ _ _ _ hP'];rfl
 rw[hrow]
 have hoth:∀j,j<W.heap.size->j≠P->some j≠v1.ownBlock->(W'.setRow P #[v1',v2]).heap[j]?=W.heap[j]?:=fun j hj hne hno=>by
  rw[setRow_other W' P j _ hne];exact hg.block j hj hno
 have hf':W'.ownsRow E 89 5 v2 x.fs.length (qb x.fs):=h.o.f.kept hg (qcx h.o.f h.o.s (by decide))
 have hPt:∀{e size n:Nat} {v:Value} {xs:List Value},W'.ownsRow E e size v n xs->e≠33->∀k,v.ownBlock=some k->k≠P:=fun ho hne k hk e=>by
  subst e;obtain⟨c,g⟩:=qcR ho hk;rw[hP']at g;injection g with g
  injection g with _ g _
  exact hne g.symm
 refine⟨⟨(hoth B (by omega) (by omega) (hlo B (by omega))).trans h.b,(hoth (B+1) (by omega) (by omega) (hlo (B+1) h2)).trans h.z,setRow_heap _ _ _ _ _ _ hP',⟨?_,qT hf' (hPt hf' (by decide)) _⟩,h2,h3,?_⟩,hP',hoth⟩
 ·have:(x.ds++[d]).length=x.ds.length+1:=by simp
  show (W'.setRow P _).ownsRow E 9 1 v1' (x.ds++[d]).length _;rw[this];exact qT hs (hPt hs (by decide)) _
 ·exact below_setRow (h.bel.grown hg (by omega) (fun k hk=>by have:=(h.o.s.lt k hk).1;omega)) (by omega) _
theorem CompS.turn(h:CompS w W B E P c0 v1 v2 x){l:List Fil}(hg:W.grownBy W' v2.ownBlock)(hf:W'.ownsRow E 89 5 v2 l.length (qb l)):CompS w W' B E P c0 v1 v2 ⟨x.ds,l⟩:=by
 have h1:=h.lt;have h2:=h.be;have h3:=h.ep;have hlo:∀j,j<E->some j≠v2.ownBlock:=fun j hj e=>by have:=(h.o.f.lt j e.symm).1;omega
 exact⟨(hg.block B (by omega) (hlo B (by omega))).trans h.b,(hg.block (B+1) (by omega) (hlo (B+1) h2)).trans h.z,(hg.block P h1 h.ownP2).trans h.p,⟨h.o.s.kept hg (qcx h.o.s h.o.f (by decide)),hf⟩,h2,h3,h.bel.grown hg (by omega) (fun k hk=>by have:=(h.o.f.lt k hk).1;omega)⟩
theorem CompS.cells(h:CompS w W B E P c0 v1 v2 x):W.cell? ⟨P,0,none⟩=some v1/\W.cell? ⟨P,1,none⟩=some v2/\W.frozen? ⟨P,0,none⟩=false/\W.frozen? ⟨P,1,none⟩=false:=qk h.p
end
theorem qgJ{fs:List Fil}{k:Nat}{f:Fil}(h:fs[k]?=some f):fs.drop k=f::fs.drop (k+1):=by
 have hk:=(List.getElem?_eq_some_iff.1 h).1;rw[List.drop_eq_getElem_cons hk]
 congr 1
 rw[zG hk]at h;exact Option.some.inj h
theorem qm9{fs:List Fil}{g:Fil->Fil}{k:Nat}{f:Fil}(h:fs[k]?=some f):((fs.take k).map g++fs.drop k)[k]?=some f/\((fs.take k).map g++fs.drop k).set k (g f)=(fs.take (k+1)).map g++fs.drop (k+1):=by
 have hk:=(List.getElem?_eq_some_iff.1 h).1;have hl:((fs.take k).map g).length=k:=by rw[List.length_map,List.length_take];omega
 have hd:fs.drop k=f::fs.drop (k+1):=qgJ h;refine⟨by rw[List.getElem?_append_right (by omega),hl,Nat.sub_self,hd];rfl,?_⟩;rw[List.set_append_right _ _ (by omega),hl,Nat.sub_self,hd,List.set_cons_zero,List.take_add_one,h,List.map_append];simp
structure AbC(A:Option Addr)(n cap:Nat)(A2:Option Addr)(n2 cap2:Nat)(W:World)(B:Nat):Prop where
 a:W.cell? ⟨B,0,none⟩=some (.slice A n cap)
 b:W.cell? ⟨B,1,none⟩=some (.slice A2 n2 cap2)
theorem AbC.below{A A2:Option Addr}{n cap n2 cap2 B:Nat}{W W1:World}(h:AbC A n cap A2 n2 cap2 W B)(hb:Below W.heap.size W W1):AbC A n cap A2 n2 cap2 W1 B :=
 ⟨(hb.cell (block_lt_of_cell h.a)).trans h.a,(hb.cell (block_lt_of_cell h.b)).trans h.b⟩
theorem AbC.drew{A A2:Option Addr}{n cap n2 cap2 B:Nat}{W:World}(h:AbC A n cap A2 n2 cap2 W B):AbC A n cap A2 n2 cap2 W.drew B:=⟨h.a,h.b⟩
theorem PK.abc{A A2:Option Addr}{n cap n2 cap2:Nat}{a:Arc}{w W:World}{B:Nat}(h:PK A n cap A2 n2 cap2 a w W B):AbC A n cap A2 n2 cap2 W B:=⟨h.ab.c.1,h.ab.c.2⟩
theorem qbA{W:World}{p:Nat}{c:Array Value}{T:TypeId}(h:W.heap[p]?=some (.cells c T (0,0)))(i:Nat)(v:Value)(hv:c[i]?=some v):W.cell? ⟨p,i,none⟩=some v/\W.frozen? ⟨p,i,none⟩=false :=
 ⟨by rw[cell_of_row _ _ _ _ _ _ h];exact hv,by simp[World.frozen?,h]⟩
theorem qon{W:World}{p:Nat}{a b c d e a' b' c' d' e':Value}{T:TypeId}(h:W.heap[p]?=some (.cells #[a,b,c,d,e] T (0,0))) :
  ((((W.setCell ⟨p,0,none⟩ a').setCell ⟨p,1,none⟩ b').setCell ⟨p,2,none⟩ c').setCell ⟨p,3,none⟩ d').setCell ⟨p,4,none⟩ e'=W.setRow p #[a',b',c',d',e']:=by
 have h1:=setRow_heap W p _ #[a',b,c,d,e] T _ h;have h2:=setRow_heap W p _ #[a',b',c,d,e] T _ h;have h3:=setRow_heap W p _ #[a',b',c',d,e] T _ h;have h4:=setRow_heap W p _ #[a',b',c',d',e] T _ h;rw[setCell_eq_setRow W p 0 _ T (0,0) a' h];show ((((W.setRow p #[a',b,c,d,e]).setCell _ b').setCell _ c').setCell _ d').setCell _ e'=_;rw[setCell_eq_setRow _ p 1 _ T (0,0) b' h1,setRow_setRow];show (((W.setRow p #[a',b',c,d,e]).setCell _ c').setCell _ d').setCell _ e'=_;rw[setCell_eq_setRow _ p 2 _ T (0,0) c' h2,setRow_setRow];show ((W.setRow p #[a',b',c',d,e]).setCell _ d').setCell _ e'=_;rw[setCell_eq_setRow _ p 3 _ T (0,0) d' h3,setRow_setRow];show (W.setRow p #[a',b',c',d',e]).setCell _ e'=_;rw[setCell_eq_setRow _ p 4 _ T (0,0) e' h4,setRow_setRow];rfl
theorem qjJ(A:Option Addr)(n cap:Nat)(A2:Option Addr)(n2 cap2:Nat)(a:Arc)(name text:qa)(k:Int)(d:qa)(w:World)(h:ArcIn w A n A2 n2 a)(hn:n<=1000000)(hd:qL a.ds k=some d)(hdl:d.length<=256)(ht:text.length<=512) :
  Calls Tryz.prog 116 #[qv A n cap A2 n2 cap2,S name,S text,I k] w fun e w'=>e=.returned (qfn (qy a.ds name text k))/\Below w.heap.size w w':=by
 obtain⟨B,hB⟩:∃B,B=w.heap.size:=⟨_,rfl⟩
 obtain⟨w0,hw0⟩:∃w0,w0=(w.alloc (.cells #[.slice A n cap,.slice A2 n2 cap2] 33)).alloc (.cells qcY 89):=⟨_,rfl⟩
 have h0:PK A n cap A2 n2 cap2 a w w0 B:=by rw[hw0,hB];exact PK.new h cap cap2
 have KD:=zH (fun (W:World) (hW:Below w0.heap.size w0 W)=>qhK A n cap A2 n2 cap2 a k W (h0.below hW).ab.i (by omega) (by rw[hd];rfl));rw[hd]at KD
 have KP:∀W,Below w0.heap.size w0 W->Calls Tryz.prog 151 #[S d,S text] W fun e w'=>e=.returned (S (qfM d text))/\PK A n cap A2 n2 cap2 a w w' B:=fun W hW =>
  (qrg d text W hdl ht).mono fun e w' ⟨h1,h2⟩=>⟨h1,(h0.below hW).below h2⟩
 have KS:=fun (W:World)=>(qix text W (by omega)).mono fun e w' ⟨h1,h2⟩=>(⟨h1,h2.symm⟩:e=Ending.returned (I (qaF text))/\w'=W)
 have hf:qy a.ds name text k=⟨name,k,text.length,(qaF text:Nat),qfM d text⟩:=by unfold qy;rw[hd];rfl
 rw[hf,<-hB];obtain⟨b,hb⟩:∃b,b=qfM d text:=⟨_,rfl⟩
 obtain⟨s,hs⟩:∃s,s=qaF text:=⟨_,rfl⟩
 rw[<-hb]at KP ⊢;rw[<-hs]at KS ⊢;have KP:=zH KP;have KS:=zH KS;have H0:=zH h0;have HA:=zH h0.abc;have HB:=zH hB;have HW0:=zH hw0;have R:=zH (show (∀W:World,AbC A n cap A2 n2 cap2 W B->W.cell? ⟨B,0,none⟩=some (.slice A n cap))/\(∀W:World,AbC A n cap A2 n2 cap2 W B->W.cell? ⟨B,1,none⟩=some (.slice A2 n2 cap2))from ⟨fun W h=>h.a,fun W h=>h.b⟩);clear hB hw0 h hd hf hb hs h0;go_enter Tryz.func116,Tryz.ntmps116;go_upto_region 1 with fail
 rw[<-zU HW0,<-zU HB];obtain⟨r1,r2⟩:=zU R
 go_region_held3 (fun w'=>AbC A n cap A2 n2 cap2 w' B) (first|exact (zU HA).drew|assumption|exact AbC.drew (by assumption)|exact (zU HS4)|exact AbC.below (by assumption) (by assumption))
  ((first
   | (go_at_call 112;refine (zU KD _ (by first | exact (Below.refl _ _).drew | exact Below.refl _ _)).mono ?_;rintro e w4 ⟨rfl,hb4⟩)
   | (go_at_call 113;refine (zU KS _).mono ?_;rintro e w3 ⟨rfl,rfl⟩)
   | (go_at_call 151;refine (zU KP _ (by first | exact (Below.refl _ _).drew.trans (by assumption) | assumption)).mono ?_;rintro e w5 ⟨rfl,hp5⟩;have HP5:=zH hp5;have hA5:=hp5.abc;obtain⟨y0,v0⟩:=qbA hp5.z 0 _ rfl;obtain⟨y1,v1⟩:=qbA hp5.z 1 _ rfl;obtain⟨y2,v2⟩:=qbA hp5.z 2 _ rfl;obtain⟨y3,v3⟩:=qbA hp5.z 3 _ rfl;obtain⟨y4,v4⟩:=qbA hp5.z 4 _ rfl;have HS4:=zH (show AbC A n cap A2 n2 cap2 (((((w5.setCell ⟨B+1,0,none⟩ (S name)).setCell ⟨B+1,1,none⟩ (I k)).setCell ⟨B+1,2,none⟩ (I text.length)).setCell ⟨B+1,3,none⟩ (I s)).setCell ⟨B+1,4,none⟩ (S b)) B by rw[qon hp5.z];exact⟨by rw[qgh (by simp)];exact hA5.a,by rw[qgh (by simp)];exact hA5.b⟩);clear hp5)))
 all_goals
  rw[qon (zU HP5).z];go_wp2_with fail;refine bodyPost_ret (results_cell_row rfl _ _ (B+1) 89 _ (0,0) _ rfl (setRow_heap _ _ _ _ _ _ (zU HP5).z) Tryz.underlying89 rfl qcs) rfl ⟨rfl,?_⟩;exact below_setRow (zU HP5).ab.bel (by omega) _
theorem qkX(W:World)(ty:TypeId)(A:Option Addr)(n cap:Nat)(l:List qa)(hl:StrsAt W W.heap.size A n l)(hn:n<=1000000) :
  ∃A' cap' w',(Builtin.append_ #[30,30] ty #[.slice (some ⟨W.heap.size,0,none⟩) 0 0,.slice A n cap]).run Tryz.prog (W.alloc (.cells #[] 9))=.ok (.slice A' n cap') w'/\w'.ownsRow W.heap.size 9 1 (.slice A' n cap') n (l.map qaE)/\Below W.heap.size W w':=by
 obtain⟨i0,hi,hz0,hz1,hz2⟩:=info_parts qks;have hln:=hl.1;have hmade:=World.ownsRow_made (e:=9) (base:=W.heap.size) (size:=1) W #[] 0 (Nat.le_refl _) (Nat.zero_le _) (by simp);have hbel:Below W.heap.size W (W.alloc (.cells #[] 9)):=(Below.refl _ _).alloc (Nat.le_refl _) _;cases A with
 | none =>
  have h0:n=0:=by
   rcases Nat.eq_zero_or_pos n with h|h
   ·exact h
   ·obtain⟨b,off,e,_⟩:=hl.2 h;cases e
  subst h0;obtain rfl:l=[]:=List.eq_nil_of_length_eq_zero hln;refine⟨some ⟨W.heap.size,0,none⟩,0,W.alloc (.cells #[] 9),?_,hmade,hbel⟩;simp[Builtin.append_,run_underlying Tryz.underlying30,sizeOf,typeInfo,hi,Builtin.lenOf,Builtin.firstCells,storeCells]
 | some ad =>
  have hc:∀j u,(l.map qaE)[j]?=some u->(W.alloc (.cells #[] 9)).cell? (ad.add j)=some u:=fun j u hj=>by
   rw[List.getElem?_map]at hj;cases hlj:l[j]? with
   | none=>rw[hlj]at hj;cases hj
   | some t =>
    rw[hlj]at hj;have hjl:=(List.getElem?_eq_some_iff.1 hlj).1;obtain⟨b,off,e,hb,hcc⟩:=hl.2 (by omega);cases e;simp only[Option.map_some,Option.some.injEq]at hj;subst hj;rw[Addr.add_lit];exact (hbel.cell (p:=⟨b,off+j,none⟩) hb).trans (hcc j t hlj)
  obtain⟨v',w',h1,h2,h3,_⟩:=run_append_own (P:=Tryz.prog) (W.alloc (.cells #[] 9)) W.heap.size 30 ty 9 i0 _ 1 16 Tryz.underlying30 hi hz0 hz1 hz2 rfl (by decide) _ 0 [] hmade ad n cap (l.map qaE) (by simp;omega) hc (qtY l) (by unfold maxLen;omega) (by omega) (by simp);rw[Nat.zero_add,List.nil_append]at h2;obtain⟨A',cap',rfl,_⟩:=qat h2;exact⟨A',cap',w',h1,h2,hbel.grown h3 (by simp) (fun k hk=>by simp[Value.ownBlock]at hk;omega)⟩
theorem qdw{W:World}{ops:Array Oper}{rest:List Oper}{o:Oper}{a:Act}{Q:Exit->Act->World->Prop}(hgd:o.guard=none)(s x:Operand)
  (ho:o.op=.call { callee:=.builtin .append,args:=#[s,x],argTypes:=#[30,30] })
  (A:Option Addr) (n cap:Nat) (l:List qa) (hl:StrsAt W W.heap.size A n l) (hn:n<=1000000) (hs:a.eval s=.slice (some ⟨W.heap.size,0,none⟩) 0 0) (hx:a.eval x=.slice A n cap)
  (h:∀A' cap' w',w'.ownsRow W.heap.size 9 1 (.slice A' n cap') n (l.map qaE)->Below W.heap.size W w'->wpList Tryz.prog ops Q rest (a.put o.dst (.slice A' n cap')) w') :
  wpList Tryz.prog ops Q (o::rest) a (W.alloc (.cells #[] 9)):=by
 obtain⟨A',cap',w',h1,h2,h3⟩:=qkX W o.type A n cap l hl hn;exact Lib.wpList_append_run _ hgd s x _ _ ho _ _ hs hx _ _ h1 (h A' cap' w' h2 h3)
theorem qbb{w:World}{ops:Array Oper}{o:Oper}{a:Act}{K:Act->World->Prop}{Q:Exit->Act->World->Prop}{E:Prop}(hgd:o.guard=none)(s x:Operand)
  (ho:o.op=.call { callee:=.builtin .append,args:=#[s,x],argTypes:=#[31,31] })
  (base:Nat) (v:Value) (n:Nat) (l:List Fil) (hs:a.eval s=v) (hown:w.ownsRow base 89 5 v n (qb l)) (t:Fil)
  (H:Nat) (hx:a.eval x=.slice (some ⟨H,0,none⟩) 1 1) (hc:w.heap[H]?=some (.cells (qdu t) 89 (0,0)))
  (hn:n<=1000000) (hbase:base<=w.heap.size)
  (h:∀A' cap' w',w'.ownsRow base 89 5 (.slice A' (n+1) cap') (n+1) (qb (l++[t]))->w.grownBy w' v.ownBlock->K (a.put o.dst (.slice A' (n+1) cap')) w') :
  if Region.wanted o (yielded ops a.tmps)=true then Oper.wp Tryz.prog o a w K Q else E:=by
 have hw:Region.wanted o (yielded ops a.tmps)=true:=by simp[Region.wanted,hgd]
 rw[if_pos hw];obtain⟨i0,hi,hz0,hz1,hz2⟩:=info_parts qcI;obtain⟨v',w',h1,h2,h3,_⟩:=run_append_own (P:=Tryz.prog) w base 31 o.type 89 i0 _ 5 56 Tryz.underlying31 hi hz0 hz1 hz2 rfl (by decide) v n (qb l) hown ⟨H,0,none⟩ 1 1 (qr t) rfl (VarF.cells ⟨hc⟩) (qch t) (by unfold maxLen;omega) (by omega) hbase;have h2':w'.ownsRow base 89 5 v' (n+1) (qb (l++[t])):=by rw[qd7];exact h2
 obtain⟨A',cap',rfl,_⟩:=qbg h2';unfold Oper.wp execOp;simp only[ho,resolve,invoke,builtin,Sem.run_bind,Sem.run_pure,Result.andThen_ok,List.map_toArray,List.map_cons,List.map_nil,hs,hx,h1];exact h A' cap' w' h2' h3
theorem CompS.pushF{w W W':World}{B E P:Nat}{c0:Array Value}{v1 v2:Value}{x:Arc}(h:CompS w W B E P c0 v1 v2 x){v2':Value}{f:Fil}(hg:W.grownBy W' v2.ownBlock)(hs:W'.ownsRow E 89 5 v2' (x.fs.length+1) (qb (x.fs++[f]))) :
  CompS w (W'.setCell ⟨P,1,none⟩ v2') B E P c0 v1 v2' ⟨x.ds,x.fs++[f]⟩/\W'.heap[P]?=some (.cells #[v1,v2] 33 (0,0))/\W'.heap[B]?=some (.cells c0 33 (0,0)):=by
 have h1:=h.lt;have h2:=h.be;have h3:=h.ep;have hP':W'.heap[P]?=some (.cells #[v1,v2] 33 (0,0)):=(hg.block P h1 h.ownP2).trans h.p;have hlo:∀j,j<E->some j≠v2.ownBlock:=fun j hj e=>by have:=(h.o.f.lt j e.symm).1;omega
 have hrow:W'.setCell ⟨P,1,none⟩ v2'=W'.setRow P #[v1,v2']:=by rw[setCell_eq_setRow W' P 1 _ _ _ _ hP'];rfl
 rw[hrow]
 have hoth:∀j,j<W.heap.size->j≠P->some j≠v2.ownBlock->(W'.setRow P #[v1,v2']).heap[j]?=W.heap[j]?:=fun j hj hne hno=>by
  rw[setRow_other W' P j _ hne];exact hg.block j hj hno
 have hd':W'.ownsRow E 9 1 v1 x.ds.length (x.ds.map qaE):=h.o.s.kept hg (qcx h.o.s h.o.f (by decide))
 have hPt:∀{e size n:Nat} {v:Value} {xs:List Value},W'.ownsRow E e size v n xs->e≠33->∀k,v.ownBlock=some k->k≠P:=fun ho hne k hk e=>by
  subst e;obtain⟨c,g⟩:=qcR ho hk;rw[hP']at g;injection g with g
  injection g with _ g _
  exact hne g.symm
 refine⟨⟨(hoth B (by omega) (by omega) (hlo B (by omega))).trans h.b,(hoth (B+1) (by omega) (by omega) (hlo (B+1) h2)).trans h.z,setRow_heap _ _ _ _ _ _ hP',⟨qT hd' (hPt hd' (by decide)) _,?_⟩,h2,h3,?_⟩,hP',(hg.block B (by omega) (hlo B (by omega))).trans h.b⟩
 ·have:(x.fs++[f]).length=x.fs.length+1:=by simp
  show (W'.setRow P _).ownsRow E 89 5 v2' (x.fs++[f]).length _;rw[this];exact qT hs (hPt hs (by decide)) _
 ·exact below_setRow (h.bel.grown hg (by omega) (fun k hk=>by have:=(h.o.f.lt k hk).1;omega)) (by omega) _
end
section
open Go.RowKit Go.Lib Pl
theorem qbn{f:FuncId}{fn:Func}(hf:Tryz.prog.funcs[f]?=some fn)(hname:(fn.name == "runtime.NumGoroutine")=false)(hb:fn.body.isSome=true)(args:Array Value)(w:World):(callFunc f args).run Tryz.prog w=.ok (.enter f args) w:=by
 have h1:fn.name≠ "runtime.NumGoroutine":=by simpa using hname
 obtain⟨c,hc⟩:=Option.isSome_iff_exists.1 hb;simp[callFunc,hf,h1,hc]
theorem qd2(args:Array Value)(w:World):(callFunc 116 args).run Tryz.prog w=.ok (.enter 116 args) w :=
 qbn Tryz.func116 (by kernel_rfl) (by kernel_rfl) args w
theorem qfU{w:World}{ops:Array Oper}{o:Oper}{a:Act}{K:Act->World->Prop}{Q:Exit->Act->World->Prop}{E:Prop}(hgd:o.guard=none)(f:Nat)(x1 x2 x3 x4:Nat)(ts:Array TypeId)
  (ho:o.op=.call { callee:=.value (.func f),args:=#[.tmp x1,.tmp x2,.tmp x3,.tmp x4],argTypes:=ts }) (v1 v2 v3 v4:Value) (h1:a.tmps[x1]?.getD undef=v1) (h2:a.tmps[x2]?.getD undef=v2) (h3:a.tmps[x3]?.getD undef=v3) (h4:a.tmps[x4]?.getD undef=v4)
  (hcall:∀vals w,(callFunc f vals).run Tryz.prog w=.ok (.enter f vals) w) (h:Calls Tryz.prog f #[v1,v2,v3,v4] w fun e w'=>∃v,e=.returned v/\K (a.put o.dst v) w') :
  if Region.wanted o (yielded ops a.tmps)=true then Oper.wp Tryz.prog o a w K Q else E:=by
 have hw:Region.wanted o (yielded ops a.tmps)=true:=by simp[Region.wanted,hgd]
 rw[if_pos hw]
 have hm:=h.mono (R':=fun e w'=>match e,w' with
  | .returned v,w''=>K (a.put o.dst v) w''
  | .panicked chain,w''=>Q (.panic chain) a w''
  | .outgrown,_=>LetsOut Q) (fun e w' ⟨v,he,hk⟩=>by subst he;exact hk)
 unfold Oper.wp execOp;simp[ho,resolve,invoke,go_sem,h1,h2,h3,h4];rw[hcall];exact hm
end
section
open Go.RowKit Go.Lib Pl
attribute [local go_sem] qf qe
theorem AR.grown{A A2:Option Addr}{n cap n2 cap2:Nat}{a:Arc}{w W W':World}{B V:Nat}(hi:ArcIn w A n A2 n2 a)(hB:B=w.heap.size)(h:AR A n cap A2 n2 cap2 a w W B)(hg:W.grownBy W' (some V))(hV:B+1<V):AR A n cap A2 n2 cap2 a w W' B:=by
 have h1:=h.lt;have hb:Below B w W':=h.ab.bel.grown hg (by omega) (fun k hk=>by simp at hk;omega);exact⟨⟨(hg.block B (by omega) (by simp;omega)).trans h.ab.o,hi.up (by rw[<-hB];exact hb),hb⟩,(hg.block (B+1) h1 (by simp;omega)).trans h.z⟩
theorem qpL(fs:List Fil):qb2 fs 0=fun _=>0:=by
 funext k;unfold qb2;rw[if_neg (by omega)]
theorem qp5(A:Option Addr)(n cap:Nat)(A2:Option Addr)(n2 cap2:Nat)(a:Arc)(w:World)(h:ArcIn w A n A2 n2 a)(hz:ArcSz a) :
  Calls Tryz.prog 55 #[qv A n cap A2 n2 cap2] w fun e w'=>ArcRes w.heap.size (qaH a) e w'/\Below w.heap.size w w':=by
 have hmm:∀(w:World),(Instr.makeMap 114 none).run Tryz.prog w=.ok (.map (some w.heap.size)) (w.alloc (.map #[] 0)):=fun _=>rfl;obtain⟨B,hB⟩:∃B,B=w.heap.size:=⟨_,rfl⟩
 obtain⟨w0,hw0⟩:∃w0,w0=(w.alloc (.cells #[.slice A n cap,.slice A2 n2 cap2] 33)).alloc (.cells #[.slice none 0 0,.slice none 0 0] 33):=⟨_,rfl⟩
 have H0:=zH (show AR A n cap A2 n2 cap2 a w w0 B by rw[hw0,hB];exact AR.new h cap cap2);have hl1:=h.s.1;have hl2:=h.f.1;have CK:∀W,AR A n cap A2 n2 cap2 a w W B->Calls Tryz.prog 56 #[qv A n cap A2 n2 cap2] W fun e w'=>e=.returned (I (qh a))/\Below W.heap.size W w':=fun W hW=>qcB A n cap A2 n2 cap2 a W hW.ab.i hz;obtain⟨r,hr⟩:∃r,r=qaH a:=⟨_,rfl⟩
 rw[<-hr,<-hB];have hput:r=if qh a≠0 then (qG,qh a)else (⟨qR a.fs 0 a.ds,a.fs.map (qbx a.fs)⟩,0):=hr
 have HB:=zH hB;have HW0:=zH hw0;have HI:=zH h;clear hB hw0 h hr
 by_cases hck:qh a≠0
 ·rw[if_pos hck]at hput;obtain⟨c,hc⟩:∃c,c=qh a:=⟨_,rfl⟩
  rw[<-hc]at CK hput hck;have CK:=zH CK;have d1:((c:Int) != 0)=true:=by rw[bne_iff_ne];omega
  have d2:((c:Int) == 0)=false:=by rw[zB];omega
  have d3:¬(c:Int)=0:=by omega
  subst hput;clear hck hc hz;go_enter Tryz.func55,Tryz.ntmps55;go_upto_region 1 with fail
  rw[<-zU HW0,<-zU HB];obtain⟨q0,q1⟩:=(zU H0).ab.c;go_wp2_with fail;refine (zU CK _ (zU H0)).mono ?_;rintro e w1 ⟨rfl,hb1⟩;have H1:=zH ((zU H0).below hb1);clear hb1 q0 q1;go_wp2_with (refine wpList_store_row rfl 33 (.tmp 2) (.tmp 17) rfl (B+1) #[.slice none 0 0,.slice none 0 0] rfl rfl 33 _ (zU H1).z qd rfl qae ?_);refine bodyPost_ret (qc rfl _ _ (B+1) 33 #[.slice none 0 0,.slice none 0 0] (0,0) _ rfl ((zU H1).end_ _).1 Tryz.underlying33 rfl qd) rfl ⟨⟨_,_,rfl,?_⟩,((zU H1).end_ _).2⟩;exact OwnA.nil _ _
 have hck0:qh a=0:=Decidable.not_not.1 hck;have hra:=(qak a).1 hck0;rw[if_neg hck]at hput;rw[hck0]at CK;have CK:=zH CK
 have CC:∀W,AR A n cap A2 n2 cap2 a w W B->Calls Tryz.prog 91 #[.slice A2 n2 cap2] W fun e w'=>∃A2' cap2',e=.returned (.slice A2' n2 cap2')/\w'.ownsRow W.heap.size 89 5 (.slice A2' n2 cap2') n2 (qb a.fs)/\Below W.heap.size W w':=fun W hW=>by
  refine (qiZ A2 n2 cap2 a.fs W hW.ab.i.f (by have:=hra.nf;omega)).mono ?_;rintro e w' ⟨v,he,ho,hb⟩;obtain⟨A',cap',rfl,_⟩:=qbg ho;exact⟨A',cap',he,ho,hb⟩
 have CC:=zH CC;have HRA:=zH hra;have h12:=hra.nf;have h4:=hra.nd;have HZ:=zH hz.fs;subst hput;clear hck hck0 hra hz;go_enter Tryz.func55,Tryz.ntmps55;go_upto_region 1 with fail
 rw[<-zU HW0,<-zU HB];obtain⟨q0,q1⟩:=(zU H0).ab.c;go_wp2_with fail;refine (zU CK _ (zU H0)).mono ?_;rintro e w1 ⟨rfl,hb1⟩;have H1:=zH ((zU H0).below hb1);clear hb1 q0 q1;go_upto_region 5 with fail
 obtain⟨U,hU⟩:∃U,U=w1.heap.size:=⟨_,rfl⟩
 obtain⟨w2,hw2⟩:∃w2,w2=w1.alloc (.map #[] 0):=⟨_,rfl⟩
 have HM2:=zH (show IntMap w2 U 0 fun _=>0 by rw[hw2,hU];exact IntMap.made w1);have H2:=zH (show AR A n cap A2 n2 cap2 a w w2 B by rw[hw2];exact (zU H1).below ((Below.refl _ _).alloc (Nat.le_refl _) _));have hBU:B+1<U:=by rw[hU];exact (zU H1).lt
 rw[<-hw2,<-hU];clear hw2 hU;obtain⟨q0,q1⟩:=(zU H2).ab.c;go_wp2_with fail;go_loopw [23,7] (fun iv _ wr=>∃ (k m:Nat),k<=n2/\iv=.int .i64 k/\m<=k/\IntMap wr U m (qcM (a.fs.take k))/\AR A n cap A2 n2 cap2 a w wr B) (fun iv _ _=>n2-(intOf iv).toNat)
 case atStart=>exact⟨0,0,Nat.zero_le _,rfl,Nat.le_refl _,zU HM2,zU H2⟩
 case round =>
  obtain⟨k,m,hk,rfl,hm,hM,hAR⟩:=hrel;have HM:=zH hM;have HAR:=zH hAR;clear hM
  by_cases hkn:k<n2
  ·obtain⟨b,off,f,rfl,hb,hf,x0,x1,x2,x3,x4⟩:=hAR.ab.i.f.at_ (k:=k) hkn;have hfz:=zU HZ f (List.mem_of_getElem? hf);have hd0:=hfz.d0;have hd1:=hfz.d1;have hnx:=qqH hf;obtain⟨c,hc⟩:∃c,c=qcM (a.fs.take k) f.dict:=⟨_,rfl⟩
   have hc12:c<=12:=by have:=qn1 (a.fs.take k) f.dict;rw[List.length_take]at this;omega
   have HNX:=zH (show qcM (a.fs.take (k+1))=fun q=>if q=f.dict then c+1 else qcM (a.fs.take k) q by
    funext q
    rw[hnx]
    by_cases e:q=f.dict
    ·rw[if_pos e,if_pos e,e,<-hc]
    ·rw[if_neg e,if_neg e])
   have HC:=zH hc;clear hAR hf hfz hnx hc
   go_wp2_with (first
    | (at_lookup;refine qgb rfl (.tmp 27) (.tmp 29) rfl U m _ rfl ((zU HM).alloc _) f.dict rfl hd0 hd1 ?_;rw[<-zU HC])
    | (at_mapUpdate;refine qjv rfl (.tmp 27) (.tmp 29) (.tmp 31) rfl U m _ rfl ((zU HM).alloc _) f.dict rfl hd0 hd1 (c+1) _ rfl (by omega) (by omega) (by omega) ?_;intro w5 hM5 hg5;have HM5:=zH hM5;have HG5:=zH hg5;clear hM5 hg5))
   go_roundw
   case rel =>
    refine⟨k+1,m+1,by omega,by go_num,by omega,?_,AR.grown (zU HI) (zU HB) ((zU HAR).below ((Below.refl _ _).alloc (Nat.le_refl _) _)) (zU HG5) hBU⟩;rw[zU HNX];exact zU HM5
   case measure=>simp[intOf];omega
  ·have hk2:k=n2:=by omega
   have hall:a.fs.take k=a.fs:=List.take_of_length_le (by omega);rw[hall]at HM;have hk3:decide ((k:Int)<(n2:Int))=false:=by simp;omega
   clear hall hAR q0 q1 hk2;obtain⟨q0,q1⟩:=(zU HAR).ab.c;go_wp2_with fail;refine (zU CC _ (zU HAR)).mono ?_;rintro e w4 ⟨A2',cap2',rfl,ho4,hb4⟩;have H4:=zH ((zU HAR).below hb4);have HM4:=zH ((zU HM).below hb4);have HO4:=zH ho4;have HS4:=zH hb4.size;obtain⟨E,hE⟩:∃E,E=wr.heap.size:=⟨_,rfl⟩
   rw[<-hE]at HO4 HS4;have hUE:U<E:=by rw[hE];exact (zU HM).lt
   clear hb4 ho4 q0 q1 hE;go_upto_region 11 with (refine wpList_store_row rfl 33 (.tmp 8) (.tmp 36) rfl w4.heap.size #[.slice none 0 0,.slice A2' n2 cap2'] rfl rfl 33 _ (heap_alloc_new _ _) qd rfl (qN _ _ _ _ _ _) ?_)
   obtain⟨w5,hw5⟩:∃w5,w5=(w4.alloc (.cells #[.slice none 0 0,.slice none 0 0] 33)).setRow w4.heap.size #[.slice none 0 0,.slice A2' n2 cap2']:=⟨_,rfl⟩
   obtain⟨P,hP⟩:∃P,P=w4.heap.size:=⟨_,rfl⟩
   have S5:=zH (show CompS w w5 B E P #[.slice A n cap,.slice A2 n2 cap2] (.slice none 0 0) (.slice A2' n2 cap2') ⟨[],a.fs⟩by
    have hb5:Below w4.heap.size w4 w5:=by rw[hw5];exact below_setRow ((Below.refl _ _).alloc (Nat.le_refl _) _) (Nat.le_refl _) _
    have h5:=(zU H4).below hb5;refine⟨h5.ab.o,h5.z,by rw[hw5,hP];exact setRow_heap _ _ _ _ _ _ (heap_alloc_new _ _),⟨World.ownsRow_nil _ _ _ _,?_⟩,by omega,by rw[hP];exact zU HS4,h5.ab.bel⟩;show w5.ownsRow E 89 5 (.slice A2' n2 cap2') a.fs.length _;rw[hl2];exact qo (zU HO4) hb5)
   have HM5:=zH (show IntMap w5 U m (qcM a.fs)by rw[hw5];exact (zU HM4).below (below_setRow ((Below.refl _ _).alloc (Nat.le_refl _) _) (Nat.le_refl _) _));rw[<-hw5,<-hP];clear hw5 hP;go_upto_region 12 with fail
   obtain⟨V,hV⟩:∃V,V=w5.heap.size:=⟨_,rfl⟩
   obtain⟨w6,hw6⟩:∃w6,w6=w5.alloc (.map #[] 0):=⟨_,rfl⟩
   have HV6:=zH (show IntMap w6 V 0 (qb2 a.fs 0)by rw[hw6,hV,qpL];exact IntMap.made w5);have S6:=zH (show CompS w w6 B E P #[.slice A n cap,.slice A2 n2 cap2] (.slice none 0 0) (.slice A2' n2 cap2') ⟨[],a.fs⟩by rw[hw6];exact (zU S5).below ((Below.refl _ _).alloc (Nat.le_refl _) _));have HM6:=zH (show IntMap w6 U m (qcM a.fs)by rw[hw6];exact (zU HM5).alloc _);have hEV:E<=V:=by rw[hV];have:=(zU S5).lt;have:=(zU S5).ep;omega
   rw[<-hw6,<-hV];clear hw6 hV;have bx:=qk (zU S6).b;obtain⟨q0,q1,_,_⟩:=bx;go_wp2_with fail;go_loopw [41,10,11] (fun iv _ _ wr=>∃ (k mv:Nat) (A1:Option Addr) (c1:Nat),k<=n/\iv=.int .i64 k/\mv<=k/\IntMap wr U m (qcM a.fs)/\IntMap wr V mv (qb2 a.fs k)/\CompS w wr B E P #[.slice A n cap,.slice A2 n2 cap2] (.slice A1 (qq a.fs k) c1) (.slice A2' n2 cap2') ⟨qR a.fs 0 (a.ds.take k),a.fs⟩) (fun iv _ _ _=>n-(intOf iv).toNat)
   case atStart=>exact⟨0,0,none,0,Nat.zero_le _,rfl,Nat.le_refl _,zU HM6,zU HV6,zU S6⟩
   case round =>
    clear q0 q1 hk hm hkn hk3;obtain⟨k,mv,A1,c1,hk,rfl,hmv,hMu,hMv,hS⟩:=hrel;have HMU:=zH hMu;have HMV:=zH hMv;have HS:=zH hS;have hdl:(qR a.fs 0 (a.ds.take k)).length=qq a.fs k:=qia (by omega);obtain⟨q0,q1,_,_⟩:=qk hS.b;obtain⟨p0,p1,p2,p3⟩:=hS.cells;have hin:=(zU HI).up (by rw[<-zU HB];exact hS.bel)
    by_cases hkn:k<n
    ·obtain⟨b,off,d,rfl,hb,hd,x0⟩:=hin.s.at_ (k:=k) hkn;have hkt:=qll (fs:=a.fs) hd;obtain⟨c,hc⟩:∃c,c=qcM a.fs ((k:Int)+1):=⟨_,rfl⟩
     have hcu:0<c↔qaQ a.fs (k+1)=true:=by rw[hc,show (k:Int)+1=((k+1:Nat):Int)from by omega];exact qse
     have hc12:c<=12:=by rw[hc];exact Nat.le_trans (qn1 _ _) h12
     have HC:=zH hc;have hmk:qq a.fs k<=k:=qhu a.fs k;have e1:IntKind.i64.wrap ((k:Int)+1)=(k:Int)+1:=IntWalk.i64_in _ ⟨by omega,by omega⟩
     by_cases hu:qaQ a.fs (k+1)=true
     ·have z1:(0:Int)<(c:Int):=by have:=hcu.2 hu;omega
      have z2:decide ((c:Int) > 0)=true:=by simp;have:=hcu.2 hu;omega
      rw[if_pos hu]at hkt;have HKT:=zH hkt;have hmn:qq a.fs (k+1)=qq a.fs k+1:=by rw[qb7,if_pos hu]
      have hmf:=qrk hu;have HMN:=zH hmn;have HMF:=zH hmf
      have hown:wr.ownsRow E 9 1 (.slice A1 (qq a.fs k) c1) (qq a.fs k) ((qR a.fs 0 (a.ds.take k)).map qaE):=by
       have:=hS.o.s;rw[show (⟨qR a.fs 0 (a.ds.take k),a.fs⟩:Arc).ds.length=qq a.fs k from hdl]at this;exact this
      have HOWN:=zH hown;have hEs:E<=wr.heap.size:=by have:=hS.lt;have:=hS.ep;omega
      have HWS:=zH (show (qR a.fs 0 (a.ds.take k)).length=qq a.fs k from hdl);obtain⟨y,hy⟩:∃y,y=qq a.fs k:=⟨_,rfl⟩
      rw[<-hy]at HOWN p0 HMN hmk HS HWS;have HY:=zH hy;clear hkt hmn hmf hown hdl hS hMu hMv hin hd hc hcu hu hy
      go_upto_region 17 with (first
       | (at_lookup;refine qgb rfl (.tmp 46) (.tmp 48) rfl U m _ rfl (zU HMU) ((k:Int)+1) rfl (by omega) (by omega) ?_;rw[<-zU HC])
       | (at_builtin;refine qcv rfl (.tmp 52) (.tmp 54) rfl E _ y _ rfl (zU HOWN) d wr.heap.size rfl rfl (by omega) hEs ?_;intro A' cap' w7 hown7 hb7 hg7;have hpush:=CompS.push (v1':=.slice A' (y+1) cap') (d:=d) ((zU HS).below ((Below.refl wr.heap.size wr).alloc (Nat.le_refl _) (.cells #[S d] 9))) hg7 (by have h9:=zU HWS;show w7.ownsRow E 9 1 _ ((qR a.fs 0 (a.ds.take k)).length+1) _;rw[h9];exact hown7);have HPUSH:=zH hpush;obtain⟨u0,u1,u2,u3⟩:=qk hpush.2.1;clear hown7 hb7 hg7 hpush))
      obtain⟨w8,hw8⟩:∃w8,w8=w7.setCell ⟨P,0,none⟩ (.slice A' (y+1) cap'):=⟨_,rfl⟩
      have HP8:=zU HPUSH;rw[<-hw8]at HP8 ⊢;obtain⟨hS8,_,hoth⟩:=HP8
      have hMU8:IntMap w8 U m (qcM a.fs):=(zU HMU).keep (by
       have hlt:=(zU HMU).lt;rw[hoth U (by simp;omega) (by have:=(zU HS).ep;omega) ((zU HMU).notOwn (zU HOWN))];exact Below.heap_alloc _ _ U hlt)
      have hVP:V≠P:=by
       intro e;subst e;obtain⟨es,c9,g9⟩:=(zU HMV).obj;rw[(zU HS).p]at g9;cases g9
      have hMV8:IntMap w8 V mv (qb2 a.fs k):=(zU HMV).keep (by
       have hlt:=(zU HMV).lt;rw[hoth V (by simp;omega) hVP ((zU HMV).notOwn (zU HOWN))];exact Below.heap_alloc _ _ V hlt)
      have HS8:=zH hS8;have HMU8:=zH hMU8;have HMV8:=zH hMV8;obtain⟨p0',p1',p2',p3'⟩:=hS8.cells;clear hS8 hMU8 hMV8 hoth hw8 u0 u1 u2 u3 p0 p1 p2 p3 q0 q1 x0 HPUSH;go_wp2_with (at_mapUpdate;refine qjv rfl (.tmp 57) (.tmp 59) (.tmp 62) rfl V mv _ rfl (zU HMV8) ((k:Int)+1) rfl (by omega) (by omega) (y+1) _ rfl (by omega) (by omega) (by omega) ?_;intro w9 hM9 hg9;have HM9:=zH hM9;have HG9:=zH hg9;clear hM9 hg9);go_roundw
      case rel =>
       have hS9:=(zU HS8).map (zU HMV8) hEV (zU HG9);refine⟨k+1,mv+1,A',cap',by omega,by go_num,by omega,(zU HMU8).kept (zU HG9) (by simp;omega),?_,?_⟩
       ·rw[zU HMF,zU HMN];have:=zU HM9;rw[show (k:Int)+1=((k+1:Nat):Int)from by omega]at this;exact this
       ·rw[zU HMN,zU HKT];exact hS9
      case measure=>simp[intOf];omega
     ·have z1:¬(0:Int)<(c:Int):=by have:=mt hcu.1 hu;omega
      have z2:decide ((c:Int) > 0)=false:=by simp;have:=mt hcu.1 hu;omega
      rw[if_neg hu,List.append_nil]at hkt;have HKT:=zH hkt;have HMN:=zH (show qq a.fs (k+1)=qq a.fs k by rw[qb7,if_neg hu];rfl);have HMF:=zH (qs6 (show qaQ a.fs (k+1)=false by simpa using hu));clear hkt hdl hS hMu hMv hin hd hc hcu hu;go_wp2_with (at_lookup;refine qgb rfl (.tmp 46) (.tmp 48) rfl U m _ rfl (zU HMU) ((k:Int)+1) rfl (by omega) (by omega) ?_;rw[<-zU HC]);go_roundw
      case rel =>
       refine⟨k+1,mv,A1,c1,by omega,by go_num,by omega,zU HMU,?_,?_⟩
       ·rw[zU HMF];exact zU HMV
       ·rw[zU HMN,zU HKT];exact zU HS
      case measure=>simp[intOf];omega
    ·have hkn2:k=n:=by omega
     have hk3:decide ((k:Int)<(n:Int))=false:=by simp;omega
     have hall:a.ds.take k=a.ds:=List.take_of_length_le (by omega);rw[hall]at HS;rw[show k=a.ds.length by omega]at HMV;clear hS hMu hMv hin hall hdl;go_wp2_with fail;go_loopw [67,12] (fun iv _ wr=>∃k:Nat,k<=n2/\iv=.int .i64 k/\IntMap wr V mv (qb2 a.fs a.ds.length)/\CompS w wr B E P #[.slice A n cap,.slice A2 n2 cap2] (.slice A1 (qq a.fs n) c1) (.slice A2' n2 cap2') ⟨qR a.fs 0 a.ds,(a.fs.take k).map (qbx a.fs)++a.fs.drop k⟩) (fun iv _ _=>n2-(intOf iv).toNat)
     case atStart=>exact⟨0,Nat.zero_le _,rfl,zU HMV,by subst hkn2;exact zU HS⟩
     case round =>
      clear q0 q1 p0 p1 p2 p3 hk hmv hkn hk3 hkn2;obtain⟨j,hj,rfl,hMv,hS⟩:=hrel;have HMX:=zH hMv;have HSX:=zH hS;obtain⟨q0,q1,_,_⟩:=qk hS.b;obtain⟨p0,p1,p2,p3⟩:=hS.cells
      by_cases hjn:j<n2
      ·obtain⟨f,hf⟩:∃f,a.fs[j]?=some f:=⟨_,zG (show j<a.fs.length by omega)⟩
       have hds:=qm9 (g:=qbx a.fs) hf;have hll:((a.fs.take j).map (qbx a.fs)++a.fs.drop j).length=n2:=by simp;omega
       have hof:wr.ownsRow E 89 5 (.slice A2' n2 cap2') n2 (qb ((a.fs.take j).map (qbx a.fs)++a.fs.drop j)):=by
        have:=hS.o.f;rw[show (⟨qR a.fs 0 a.ds,(a.fs.take j).map (qbx a.fs)++a.fs.drop j⟩:Arc).fs.length=n2 from hll]at this;exact this
       obtain⟨g,rfl⟩:∃g,A2'=some ⟨g,0,none⟩:=by
        rcases qck hof with⟨_,h0,_⟩|⟨g,gc,hv⟩
        ·omega
        ·injection hv with hv;exact⟨g,hv⟩
       have hod:=qjK hof hds.1 ((qq a.fs f.dict.toNat:Nat):Int);have hmv2:qb2 a.fs a.ds.length f.dict=qq a.fs f.dict.toNat:=qpM (zU HRA) (List.mem_of_getElem? hf);have hfz:=zU HZ f (List.mem_of_getElem? hf);have hrun:=(hMv.keep (w':=wr.drew) rfl).run hfz.d0 hfz.d1;have hrun0:=hMv.run hfz.d0 hfz.d1;rw[hmv2]at hrun hrun0;have hset:((a.fs.take j).map (qbx a.fs)++a.fs.drop j).set j { f with dict:=((qq a.fs f.dict.toNat:Nat):Int) } = (a.fs.take (j+1)).map (qbx a.fs)++a.fs.drop (j+1):=hds.2;obtain⟨y,hy⟩:∃y,y=qq a.fs f.dict.toNat:=⟨_,rfl⟩
       rw[<-hy]at hod hrun hrun0 hset;obtain⟨hod1,hod2,hod3,hod4⟩:=hod;rw[hset]at hod1;have hgV:some V≠(Value.slice (some ⟨g,0,none⟩) n2 cap2').ownBlock:=hMv.notOwn hof;have hll2:((a.fs.take (j+1)).map (qbx a.fs)++a.fs.drop (j+1)).length=n2:=by simp;omega
       have hfin:∀W:World,W.heap=(wr.setCell ⟨g,j*5+1,none⟩ (I y)).heap->W.os=wr.os->W.tape=wr.tape->W.output=wr.output->IntMap W V mv (qb2 a.fs a.ds.length)/\CompS w W B E P #[.slice A n cap,.slice A2 n2 cap2] (.slice A1 (qq a.fs n) c1) (.slice (some ⟨g,0,none⟩) n2 cap2') ⟨qR a.fs 0 a.ds,(a.fs.take (j+1)).map (qbx a.fs)++a.fs.drop (j+1)⟩:=fun W h1 h2 h3 h4=>by
        have hgW:wr.grownBy W (some g):=⟨h2,h3,h4,by rw[h1];exact hod2.size,fun k hk hne=>by rw[h1];exact hod2.block k hk hne⟩
        refine⟨hMv.kept hgW hgV,hS.turn hgW ?_⟩;rw[hll2]
        have:∀{v:Value} {m:Nat} {xs:List Value},(wr.setCell ⟨g,j*5+1,none⟩ (I y)).ownsRow E 89 5 v m xs->W.ownsRow E 89 5 v m xs:=fun ho=>by
         refine⟨ho.1,?_⟩
         rcases ho.2 with hn|⟨b,cap,cur,rfl,hbb,hgg,rest⟩
         ·exact .inl hn
         ·exact .inr ⟨b,cap,cur,rfl,hbb,by rw[h1];exact hgg,rest⟩
        exact this hod1
       have HFIN:=zH hfin;have z1:(j:Int)<(n2:Int):=by omega
       clear hod1 hod2 hset hmv2 hfz hof hll hds hf hMv hS hgV hll2 hfin hy;go_wp2_with fail;go_region_law (fail)
       all_goals
        go_wp2_with fail;exact⟨⟨j+1,by omega,by go_num,(zU HFIN (wr.setCell ⟨g,j*5+1,none⟩ (I y)).drew rfl rfl rfl rfl).1,(zU HFIN (wr.setCell ⟨g,j*5+1,none⟩ (I y)).drew rfl rfl rfl rfl).2⟩,by simp[intOf];omega⟩
      ·have hall:(a.fs.take j).map (qbx a.fs)++a.fs.drop j=a.fs.map (qbx a.fs):=by
        rw[List.take_of_length_le (by omega),List.drop_of_length_le (by omega),List.append_nil]
       rw[hall]at hS;obtain⟨e1,e2,e3⟩:=qdm hS.z hS.be hS.o hS.bel;have E1:=zH e1;have E2:=zH e2;have E3:=zH e3;have HZR:=zH hS.z;have z1:¬(j:Int)<(n2:Int):=by omega
       have z2:decide ((j:Int)<(n2:Int))=false:=by simp;omega
       clear hall hS hMv e1 e2 e3;go_wp2_with (refine wpList_store_row rfl 33 (.tmp 2) (.tmp 84) rfl (B+1) #[.slice A1 (qq a.fs n) c1,.slice A2' n2 cap2'] rfl rfl 33 _ (zU HZR) qd rfl (qN _ _ _ _ _ _) ?_);refine bodyPost_ret (qc rfl _ _ (B+1) 33 #[.slice A1 (qq a.fs n) c1,.slice A2' n2 cap2'] (0,0) _ rfl (zU E1) Tryz.underlying33 rfl qd) rfl ⟨⟨_,_,rfl,zU E2⟩,zU E3⟩
theorem qkY(W:World)(ty:TypeId)(A:Option Addr)(n cap:Nat)(l:List Fil)(hl:filsAt W W.heap.size A n l)(hn:n<=1000000) :
  ∃A' cap' w',(Builtin.append_ #[31,31] ty #[.slice (some ⟨W.heap.size,0,none⟩) 0 0,.slice A n cap]).run Tryz.prog (W.alloc (.cells #[] 89))=.ok (.slice A' n cap') w'/\w'.ownsRow W.heap.size 89 5 (.slice A' n cap') n (qb l)/\Below W.heap.size W w':=by
 obtain⟨i0,hi,hz0,hz1,hz2⟩:=info_parts qcI;have hln:=hl.1;have hmade:=World.ownsRow_made (e:=89) (base:=W.heap.size) (size:=5) W #[] 0 (Nat.le_refl _) (Nat.zero_le _) (by simp);have hbel:Below W.heap.size W (W.alloc (.cells #[] 89)):=(Below.refl _ _).alloc (Nat.le_refl _) _;cases A with
 | none =>
  have h0:n=0:=by
   rcases Nat.eq_zero_or_pos n with h|h
   ·exact h
   ·obtain⟨b,off,e,_⟩:=hl.2 h;cases e
  subst h0;obtain rfl:l=[]:=List.eq_nil_of_length_eq_zero hln;refine⟨some ⟨W.heap.size,0,none⟩,0,W.alloc (.cells #[] 89),?_,hmade,hbel⟩;simp[Builtin.append_,run_underlying Tryz.underlying31,sizeOf,typeInfo,hi,Builtin.lenOf,Builtin.firstCells,storeCells]
 | some ad =>
  have hlen:(qb l).length=n*5:=by rw[qx,hln]
  have hc:∀j u,(qb l)[j]?=some u->(W.alloc (.cells #[] 89)).cell? (ad.add j)=some u:=fun j u hj=>by
   have hj2:=(List.getElem?_eq_some_iff.1 hj).1;obtain⟨b,off,e,hb,hc⟩:=hl.2 (by omega);cases e;have e:(⟨b,off,none⟩:Addr).add j=⟨b,off+j,none⟩:=by unfold Addr.add;split <;> simp_all
   rw[e];refine (hbel.cell (p:=⟨b,off+j,none⟩) hb).trans ?_;obtain⟨q,r,hq,hr⟩:∃q r,j=q*5+r/\r<5:=⟨j / 5,j % 5,by omega,by omega⟩
   have hql:q<l.length:=by omega
   obtain⟨c0,c1,c2,c3,c4⟩:=hc q _ (zG hql);obtain⟨d0,d1,d2,d3,d4⟩:=qct l q _ (zG hql)
   rcases (show r=0\/r=1\/r=2\/r=3\/r=4 by omega)with h|h|h|h|h
   all_goals
    subst h;rw[hq]at hj ⊢
   ·rw[Nat.add_zero]at hj ⊢;rw[c0,<-hj,d0]
   ·rw[<-Nat.add_assoc,c1,<-hj,d1]
   ·rw[<-Nat.add_assoc,c2,<-hj,d2]
   ·rw[<-Nat.add_assoc,c3,<-hj,d3]
   ·rw[<-Nat.add_assoc,c4,<-hj,d4]
  obtain⟨v',w',h1,h2,h3,_⟩:=run_append_own (P:=Tryz.prog) (W.alloc (.cells #[] 89)) W.heap.size 31 ty 89 i0 _ 5 56 Tryz.underlying31 hi hz0 hz1 hz2 rfl (by decide) _ 0 [] hmade ad n cap (qb l) hlen hc (qeu l) (by unfold maxLen;omega) (by omega) (by simp);rw[Nat.zero_add,List.nil_append]at h2;obtain⟨A',cap',rfl,_⟩:=qbg h2;exact⟨A',cap',w',h1,h2,hbel.grown h3 (by simp) (fun k hk=>by simp[Value.ownBlock]at hk;omega)⟩
theorem qio{W:World}{ops:Array Oper}{rest:List Oper}{o:Oper}{a:Act}{Q:Exit->Act->World->Prop}(hgd:o.guard=none)(s x:Operand)
  (ho:o.op=.call { callee:=.builtin .append,args:=#[s,x],argTypes:=#[31,31] })
  (A:Option Addr) (n cap:Nat) (l:List Fil) (hl:filsAt W W.heap.size A n l) (hn:n<=1000000) (hs:a.eval s=.slice (some ⟨W.heap.size,0,none⟩) 0 0) (hx:a.eval x=.slice A n cap)
  (h:∀A' cap' w',w'.ownsRow W.heap.size 89 5 (.slice A' n cap') n (qb l)->Below W.heap.size W w'->wpList Tryz.prog ops Q rest (a.put o.dst (.slice A' n cap')) w') :
  wpList Tryz.prog ops Q (o::rest) a (W.alloc (.cells #[] 89)):=by
 obtain⟨A',cap',w',h1,h2,h3⟩:=qkY W o.type A n cap l hl hn;exact Lib.wpList_append_run _ hgd s x _ _ ho _ _ hs hx _ _ h1 (h A' cap' w' h2 h3)
theorem qfL{w:World}{ops:Array Oper}{o:Oper}{a:Act}{K:Act->World->Prop}{Q:Exit->Act->World->Prop}{E:Prop}(hgd:o.guard=none)(s x:Operand)
  (ho:o.op=.call { callee:=.builtin .append,args:=#[s,x],argTypes:=#[30,30] })
  (base:Nat) (v:Value) (n:Nat) (l:List qa) (hs:a.eval s=v) (hown:w.ownsRow base 9 1 v n (l.map qaE)) (t:qa)
  (H:Nat) (hx:a.eval x=.slice (some ⟨H,0,none⟩) 1 1) (hc:w.heap[H]?=some (.cells #[S t] 9 (0,0)))
  (hn:n<=1000000) (hbase:base<=w.heap.size)
  (h:∀A' cap' w',w'.ownsRow base 9 1 (.slice A' (n+1) cap') (n+1) ((l++[t]).map qaE)->w.grownBy w' v.ownBlock->K (a.put o.dst (.slice A' (n+1) cap')) w') :
  if Region.wanted o (yielded ops a.tmps)=true then Oper.wp Tryz.prog o a w K Q else E:=by
 have hw:Region.wanted o (yielded ops a.tmps)=true:=by simp[Region.wanted,hgd]
 rw[if_pos hw];obtain⟨i0,hi,hz0,hz1,hz2⟩:=info_parts qks
 obtain⟨v',w',h1,h2,h3,_⟩:=run_append_own (P:=Tryz.prog) w base 30 o.type 9 i0 _ 1 16 Tryz.underlying30 hi hz0 hz1 hz2 rfl (by decide) v n (l.map qaE) hown ⟨H,0,none⟩ 1 1 [S t] rfl (fun j u hj=>by
  rw[Addr.add_lit,cell_of_row _ _ _ _ _ _ hc];simpa using hj) (fun y hy=>by simp at hy;subst hy;rfl) (by unfold maxLen;omega) (by omega) hbase
 have h2':w'.ownsRow base 9 1 v' (n+1) ((l++[t]).map qaE):=by rw[List.map_append];exact h2
 obtain⟨A',cap',rfl,_⟩:=qat h2';unfold Oper.wp execOp;simp only[ho,resolve,invoke,builtin,Sem.run_bind,Sem.run_pure,Result.andThen_ok,List.map_toArray,List.map_cons,List.map_nil,hs,hx,h1];exact h A' cap' w' h2' h3
theorem qqI{fs:List Fil}{i:Nat}{f:Fil}(h:fs[i]?=some f)(n:Nat):qaQ (fs.take (i+1)) n=(qaQ (fs.take i) n || decide (f.dict=(n:Int))):=by
 unfold qaQ;rw[List.take_add_one,h,List.any_append];simp
theorem qri{fs:List Fil}{k i:Nat}{f:Fil}(h:fs[i]?=some f)(hd:f.dict=((k+1:Nat):Int)) :
  ((fs.take i).map (qA fs (k+1))++(fs.drop i).map (qA fs k))[i]?=some f/\((fs.take i).map (qA fs (k+1))++(fs.drop i).map (qA fs k)).set i { f with dict:=((qq fs (k+1):Nat):Int) } = (fs.take (i+1)).map (qA fs (k+1))++(fs.drop (i+1)).map (qA fs k):=by
 have hk:=(List.getElem?_eq_some_iff.1 h).1;have hl:((fs.take i).map (qA fs (k+1))).length=i:=by rw[List.length_map,List.length_take];omega
 have hm:qA fs k f=f:=by unfold qA;rw[if_neg (by omega)]
 rw[qgJ h,List.map_cons,hm];refine⟨by rw[List.getElem?_append_right (by omega),hl,Nat.sub_self];rfl,?_⟩;rw[List.set_append_right _ _ (by omega),hl,Nat.sub_self,List.set_cons_zero,List.take_add_one,h,List.map_append];simp[qrl hd]
theorem qpJ{fs:List Fil}{k i:Nat}{f:Fil}(h:fs[i]?=some f)(hd:f.dict≠((k+1:Nat):Int)) :
  (fs.take (i+1)).map (qA fs (k+1))++(fs.drop (i+1)).map (qA fs k)=(fs.take i).map (qA fs (k+1))++(fs.drop i).map (qA fs k):=by
 rw[qgJ h,List.take_add_one,h,List.map_append,List.map_cons];simp[qjM hd]
attribute [local go_sem] World.cell?_alloc_some in
theorem qnN(A:Option Addr)(n cap:Nat)(A2:Option Addr)(n2 cap2:Nat)(a:Arc)(w:World)(h:ArcIn w A n A2 n2 a)(hz:ArcSz a) :
  Calls Tryz.prog 43 #[qv A n cap A2 n2 cap2] w fun e w'=>ArcRes w.heap.size (qaH a) e w'/\Below w.heap.size w w':=by
 obtain⟨B,hB⟩:∃B,B=w.heap.size:=⟨_,rfl⟩
 obtain⟨w0,hw0⟩:∃w0,w0=(w.alloc (.cells #[.slice A n cap,.slice A2 n2 cap2] 33)).alloc (.cells #[.slice none 0 0,.slice none 0 0] 33):=⟨_,rfl⟩
 have H0:=zH (show AR A n cap A2 n2 cap2 a w w0 B by rw[hw0,hB];exact AR.new h cap cap2);have hl1:=h.s.1;have hl2:=h.f.1;have CK:∀W,AR A n cap A2 n2 cap2 a w W B->Calls Tryz.prog 67 #[qv A n cap A2 n2 cap2] W fun e w'=>e=.returned (I (qh a))/\Below W.heap.size W w':=fun W hW=>qbN A n cap A2 n2 cap2 a W hW.ab.i hz;obtain⟨r,hr⟩:∃r,r=qaH a:=⟨_,rfl⟩
 rw[<-hr,<-hB];have hput:r=if qh a≠0 then (qG,qh a)else (⟨qR a.fs 0 a.ds,a.fs.map (qbx a.fs)⟩,0):=hr
 have HB:=zH hB;have HW0:=zH hw0;have HI:=zH h;clear hB hw0 h hr
 by_cases hck:qh a≠0
 ·rw[if_pos hck]at hput;obtain⟨c,hc⟩:∃c,c=qh a:=⟨_,rfl⟩
  rw[<-hc]at CK hput hck;have CK:=zH CK;have d1:((c:Int) != 0)=true:=by rw[bne_iff_ne];omega
  have d2:((c:Int) == 0)=false:=by rw[zB];omega
  have d3:¬(c:Int)=0:=by omega
  subst hput;clear hck hc hz;go_enter Tryz.func43,Tryz.ntmps43;go_upto_region 1 with fail
  rw[<-zU HW0,<-zU HB];obtain⟨q0,q1⟩:=(zU H0).ab.c;go_wp2_with fail;refine (zU CK _ (zU H0)).mono ?_;rintro e w1 ⟨rfl,hb1⟩;have H1:=zH ((zU H0).below hb1);clear hb1 q0 q1;go_wp2_with (refine wpList_store_row rfl 33 (.tmp 2) (.tmp 14) rfl (B+1) #[.slice none 0 0,.slice none 0 0] rfl rfl 33 _ (zU H1).z qd rfl qae ?_);refine bodyPost_ret (qc rfl _ _ (B+1) 33 #[.slice none 0 0,.slice none 0 0] (0,0) _ rfl ((zU H1).end_ _).1 Tryz.underlying33 rfl qd) rfl ⟨⟨_,_,rfl,?_⟩,((zU H1).end_ _).2⟩;exact OwnA.nil _ _
 have hck0:qh a=0:=Decidable.not_not.1 hck;have hra:=(qak a).1 hck0;rw[if_neg hck]at hput;rw[hck0]at CK;have CK:=zH CK;have h12:=hra.nf;have h4:=hra.nd;rw[<-qpK hra]at hput;have HP:=zH hput;have HZ:=zH hz.fs;clear hck hck0 hra hz hput;go_enter Tryz.func43,Tryz.ntmps43;go_upto_region 1 with fail
 rw[<-zU HW0,<-zU HB];obtain⟨q0,q1⟩:=(zU H0).ab.c;go_wp2_with fail;refine (zU CK _ (zU H0)).mono ?_;rintro e w1 ⟨rfl,hb1⟩;have H1:=zH ((zU H0).below hb1);clear hb1 q0 q1;have HFT:=zH (zU H1).ab.i.f;obtain⟨E,hE⟩:∃E,E=w1.heap.size:=⟨_,rfl⟩
 have hBE:B+1<E:=by rw[hE];exact (zU H1).lt
 have HE:=zH hE;have q2:(w1.alloc (.cells #[] 89)).cell? ⟨B,1,none⟩=some (.slice A2 n2 cap2):=((zU H1).below ((Below.refl _ _).alloc (Nat.le_refl _) _)).ab.c.2;clear hE
 go_upto_region 5 with (first
  | (at_builtin;refine qio rfl (.tmp 16) (.tmp 18) rfl A2 n2 cap2 a.fs (zU HFT) (by omega) rfl rfl ?_;intro A' cap' w3 hown3 hb3;have HOWN3:=zH hown3;have HB3:=zH hb3;clear hown3 hb3)
  | (refine wpList_store_row rfl 33 (.tmp 5) (.tmp 20) rfl w3.heap.size #[.slice none 0 0,.slice A' n2 cap'] rfl rfl 33 _ (heap_alloc_new _ _) qd rfl (qN _ _ _ _ _ _) ?_))
 obtain⟨w5,hw5⟩:∃w5,w5=(w3.alloc (.cells #[.slice none 0 0,.slice none 0 0] 33)).setRow w3.heap.size #[.slice none 0 0,.slice A' n2 cap']:=⟨_,rfl⟩
 obtain⟨P,hP⟩:∃P,P=w3.heap.size:=⟨_,rfl⟩
 have S5:=zH (show CompS w w5 B E P #[.slice A n cap,.slice A2 n2 cap2] (.slice none 0 0) (.slice A' n2 cap') ⟨[],a.fs⟩by
  have h3:=(zU H1).below (zU HB3);have hb5:Below w3.heap.size w3 w5:=by rw[hw5];exact below_setRow ((Below.refl _ _).alloc (Nat.le_refl _) _) (Nat.le_refl _) _
  have h5:=h3.below hb5;refine⟨h5.ab.o,h5.z,by rw[hw5,hP];exact setRow_heap _ _ _ _ _ _ (heap_alloc_new _ _),⟨World.ownsRow_nil _ _ _ _,?_⟩,hBE,by rw[hP,zU HE];exact (zU HB3).size,h5.ab.bel⟩;show w5.ownsRow E 89 5 (.slice A' n2 cap') a.fs.length _;rw[hl2,zU HE];exact qo (zU HOWN3) hb5)
 rw[<-hw5,<-hP];clear hw5 hP q2;go_wp2_with fail;go_loopw [6,7,8,9] (fun nv _ _ _ wr=>∃ (k:Nat) (A3:Option Addr) (c3:Nat),k<=n/\nv=.int .i64 ((k:Int)+1)/\CompS w wr B E P #[.slice A n cap,.slice A2 n2 cap2] (.slice A3 (qq a.fs k) c3) (.slice A' n2 cap') ⟨qR a.fs 0 (a.ds.take k),a.fs.map (qA a.fs k)⟩) (fun nv _ _ _ _=>n+1-(intOf nv).toNat)
 case atStart =>
  refine⟨0,none,0,Nat.zero_le _,rfl,?_⟩
  have e:a.fs.map (qA a.fs 0)=a.fs:=by
   rw[show qA a.fs 0=id from funext fun f=>qpN a.fs f,List.map_id]
  rw[e];exact zU S5
 case round =>
  obtain⟨k,A3,c3,hk,rfl,hS⟩:=hrel;have HS:=zH hS;obtain⟨q0,q1,_,_⟩:=qk hS.b;obtain⟨p0,p1,p2,p3⟩:=hS.cells;have hmk:qq a.fs k<=k:=qhu a.fs k;have hdl:(qR a.fs 0 (a.ds.take k)).length=qq a.fs k:=qia (by omega);have HDL:=zH hdl
  by_cases hkn:k<n
  ·have z1:(k:Int)+1<=(n:Int):=by omega
   have hin:=(zU HI).up (by rw[<-zU HB];exact hS.bel);have HIN:=zH hin;clear hin hS hdl;go_wp2_with fail;go_loop [7,8] (fun uv iv=>∃i:Nat,i<=n2/\iv=.int .i64 i/\uv=.bool (qaQ (a.fs.take i) (k+1))) (fun _ iv=>n2-(intOf iv).toNat)
   case atStart=>exact⟨0,Nat.zero_le _,rfl,rfl⟩
   case round =>
    obtain⟨i,hi,rfl,rfl⟩:=hrel
    by_cases hin2:i<n2
    ·obtain⟨b,off,f,rfl,hb,hf,x0,x1,x2,x3,x4⟩:=(zU HIN).f.at_ (k:=i) hin2;have hut:=qqI hf (k+1);have z2:(i:Int)<(n2:Int):=by omega
     cases hu:qaQ (a.fs.take i) (k+1)with
     | true =>
      rw[hu,Bool.true_or]at hut;have HUT:=zH hut;clear hut hu hf;go_wp2_with fail;go_round
      case rel=>exact⟨i+1,by omega,by go_num,by rw[zU HUT]⟩
      case measure=>simp[intOf];omega
     | false =>
      rw[hu,Bool.false_or]at hut
      by_cases hd:f.dict=((k+1:Nat):Int)
      ·rw[decide_eq_true hd]at hut;have HUT:=zH hut;have d1:(f.dict == (k:Int)+1)=true:=by rw[beq_iff_eq];omega
       have d2:f.dict=(k:Int)+1:=by omega
       clear hut hu hf hd;go_wp2_with fail;go_round
       case rel=>exact⟨i+1,by omega,by go_num,by rw[zU HUT]⟩
       case measure=>simp[intOf];omega
      ·rw[decide_eq_false hd]at hut;have HUT:=zH hut;have d1:(f.dict == (k:Int)+1)=false:=by rw[zB];omega
       clear hut hu hf hd;go_wp2_with fail;go_round
       case rel=>exact⟨i+1,by omega,by go_num,by rw[zU HUT]⟩
       case measure=>simp[intOf];omega
    ·have z2:¬(i:Int)<(n2:Int):=by omega
     have hall:a.fs.take i=a.fs:=List.take_of_length_le (by omega);rw[hall];clear hall;obtain⟨b,off,d,hA,hb,hd,x0⟩:=(zU HIN).s.at_ (k:=k) hkn;have hkt:=qll (fs:=a.fs) hd;have e1:IntKind.i64.wrap ((k:Int)+1+1)=((k+1:Nat):Int)+1:=by rw[show (k:Int)+1+1=((k+1:Nat):Int)+1 from by omega];exact IntWalk.i64_in _ ⟨by omega,by omega⟩
     cases hu:qaQ a.fs (k+1)with
     | false =>
      rw[hu,if_neg (by simp),List.append_nil]at hkt;have HKT:=zH hkt;have HMN:=zH (show qq a.fs (k+1)=qq a.fs k by rw[qb7,hu,if_neg (by simp)];rfl);have HMU:=zH (qnv (l:=a.fs) hu (fun f hf=>hf));clear hkt hu hd x0 hA;go_wp2_with fail;go_roundw
      case rel=>exact⟨k+1,A3,c3,by omega,by go_num,by rw[zU HMN,zU HKT,zU HMU];exact zU HS⟩
      case measure=>simp[intOf];omega
     | true =>
      subst hA;rw[hu,if_pos rfl]at hkt;have HKT:=zH hkt;have HMN:=zH (show qq a.fs (k+1)=qq a.fs k+1 by rw[qb7,hu,if_pos rfl])
      have hown:wr.ownsRow E 9 1 (.slice A3 (qq a.fs k) c3) (qq a.fs k) ((qR a.fs 0 (a.ds.take k)).map qaE):=by
       have:=(zU HS).o.s;rw[show (⟨qR a.fs 0 (a.ds.take k),a.fs.map (qA a.fs k)⟩:Arc).ds.length=qq a.fs k from zU HDL]at this;exact this
      have HOWN:=zH hown;have hEs:E<=wr.heap.size:=by have:=(zU HS).lt;have:=(zU HS).ep;omega
      obtain⟨y,hy⟩:∃y,y=qq a.fs k:=⟨_,rfl⟩
      rw[<-hy]at HOWN p0 HMN hmk HS HDL;have w1:IntKind.i64.wrap ((k:Int)+1-1)=(k:Int):=by rw[show (k:Int)+1-1=(k:Int)from by omega];exact IntWalk.i64_in _ ⟨by omega,by omega⟩
      have w2:wrap64 ((k:Int)+1-1)=(k:Int):=by rw[show (k:Int)+1-1=(k:Int)from by omega];exact IntWalk.wrap64_in _ ⟨by omega,by omega⟩
      have w3:IntKind.i64.wrap (k:Int)=(k:Int):=IntWalk.i64_in _ ⟨by omega,by omega⟩;have z3:(k:Int)<(n:Int):=by omega
      have z4:(0:Int)<=(k:Int):=by omega
      clear hkt hu hd hown hy;go_wp2_with fail;go_region_law ((refine qfL rfl (.tmp 49) (.tmp 56) rfl E _ y (qR a.fs 0 (a.ds.take k)) rfl (by first|exact ((zU HOWN).alloc _)|exact ((zU HOWN).alloc _).drew|exact (zU HOWN).drew.alloc _) d wr.heap.size rfl (by first|exact heap_alloc_new _ _|exact heap_alloc_new wr.drew _) (by omega) (by simp;omega) ?_;intro A7 c7 w7 hown7 hg7;have hpush:=CompS.push (v1':=.slice A7 (y+1) c7) (d:=d) ((zU HS).below (by first|exact (Below.refl _ _).alloc (Nat.le_refl _) _|exact ((Below.refl _ _).alloc (Nat.le_refl _) _).drew|exact (Below.refl _ _).drew.alloc (Nat.le_refl _) _)) hg7 (by have h9:=zU HDL;show w7.ownsRow E 9 1 _ ((qR a.fs 0 (a.ds.take k)).length+1) _;rw[h9];exact hown7);have HPUSH:=zH hpush;obtain⟨u0,u1,u2,u3⟩:=qk hpush.2.1;clear hown7 hg7 hpush))
      all_goals
       obtain⟨w8,hw8⟩:∃w8,w8=w7.setCell ⟨P,0,none⟩ (.slice A7 (y+1) c7):=⟨_,rfl⟩
       have hS8:CompS w w8 B E P #[.slice (some ⟨b,off,none⟩) n cap,.slice A2 n2 cap2] (.slice A7 (y+1) c7) (.slice A' n2 cap') ⟨qR a.fs 0 (a.ds.take (k+1)),a.fs.map (qA a.fs k)⟩:=by rw[hw8,zU HKT];exact (zU HPUSH).1
       have HS8:=zH hS8;rw[<-hw8];clear q0 q1 p0 p1 p2 p3 u0 u1 u2 u3 x0 hw8 hS8 z2 w1 w2 w3 z3 z4 hi hin2;go_wp2_with fail;go_loopw [9] (fun iv wr=>∃i:Nat,i<=n2/\iv=.int .i64 i/\CompS w wr B E P #[.slice (some ⟨b,off,none⟩) n cap,.slice A2 n2 cap2] (.slice A7 (y+1) c7) (.slice A' n2 cap') ⟨qR a.fs 0 (a.ds.take (k+1)),(a.fs.take i).map (qA a.fs (k+1))++(a.fs.drop i).map (qA a.fs k)⟩) (fun iv _=>n2-(intOf iv).toNat)
       case atStart=>exact⟨0,Nat.zero_le _,rfl,by simpa using zU HS8⟩
       case round =>
        obtain⟨j,hj,rfl,hSx⟩:=hrel;have HSX:=zH hSx;obtain⟨q0,q1,_,_⟩:=qk hSx.b;obtain⟨p0,p1,p2,p3⟩:=hSx.cells
        by_cases hjn:j<n2
        ·have hin9:=(zU HI).up (by rw[<-zU HB];exact hSx.bel);obtain⟨b9,off9,f,rfl,hb9,hf,x0,x1,x2,x3,x4⟩:=hin9.f.at_ (k:=j) hjn;have z2:(j:Int)<(n2:Int):=by omega
         by_cases hd:f.dict=((k+1:Nat):Int)
         ·obtain⟨m1,m2⟩:=qri hf hd;have hll:((a.fs.take j).map (qA a.fs (k+1))++(a.fs.drop j).map (qA a.fs k)).length=n2:=by simp;omega
          have hll2:((a.fs.take (j+1)).map (qA a.fs (k+1))++(a.fs.drop (j+1)).map (qA a.fs k)).length=n2:=by simp;omega
          have hof:wr.ownsRow E 89 5 (.slice A' n2 cap') n2 (qb ((a.fs.take j).map (qA a.fs (k+1))++(a.fs.drop j).map (qA a.fs k))):=by
           have:=hSx.o.f;rw[show (⟨qR a.fs 0 (a.ds.take (k+1)),(a.fs.take j).map (qA a.fs (k+1))++(a.fs.drop j).map (qA a.fs k)⟩:Arc).fs.length=n2 from hll]at this;exact this
          obtain⟨g,rfl⟩:∃g,A'=some ⟨g,0,none⟩:=by
           rcases qck hof with⟨_,h0,_⟩|⟨g,gc,hv⟩
           ·omega
           ·injection hv with hv;exact⟨g,hv⟩
          have hod:=qjK hof m1 ((qq a.fs (k+1):Nat):Int);rw[m2,zU HMN]at hod;obtain⟨hod1,hod2,hod3,hod4⟩:=hod;have hS9:=hSx.turn hod2 (by rw[hll2];exact hod1);have HS9:=zH (show CompS w (wr.setCell ⟨g,j*5+1,none⟩ (I ((y:Int)+1))) B E P #[.slice (some ⟨b,off,none⟩) n cap,.slice (some ⟨b9,off9,none⟩) n2 cap2] (.slice A7 (y+1) c7) (.slice (some ⟨g,0,none⟩) n2 cap') ⟨qR a.fs 0 (a.ds.take (k+1)),(a.fs.take (j+1)).map (qA a.fs (k+1))++(a.fs.drop (j+1)).map (qA a.fs k)⟩from hS9);have d1:(f.dict == (k:Int)+1)=true:=by rw[beq_iff_eq];omega
          have d2:f.dict=(k:Int)+1:=by omega
          clear hSx hin9 hf hd m1 m2 hll hll2 hof hod1 hod2 hS9;go_wp2_with fail;go_roundw
          case rel=>exact⟨j+1,by omega,by go_num,by simpa using zU HS9⟩
          case measure=>simp[intOf];omega
         ·have hmm:=qpJ hf hd;have HMM:=zH hmm;have d1:(f.dict == (k:Int)+1)=false:=by rw[zB];omega
          have d2:¬f.dict=(k:Int)+1:=by omega
          clear hSx hin9 hf hd hmm;go_wp2_with fail;go_roundw
          case rel=>exact⟨j+1,by omega,by go_num,by rw[zU HMM];exact zU HSX⟩
          case measure=>simp[intOf];omega
        ·have hfin:(a.fs.take j).map (qA a.fs (k+1))++(a.fs.drop j).map (qA a.fs k)=a.fs.map (qA a.fs (k+1)):=by
          rw[List.take_of_length_le (by omega),List.drop_of_length_le (by omega)];simp
         rw[hfin]at hSx;have HSX:=zH hSx;have z2:¬(j:Int)<(n2:Int):=by omega
         have z3:decide ((j:Int)<(n2:Int))=false:=by simp;omega
         clear hSx hfin;go_wp2_with fail;go_roundw
         case rel=>exact⟨k+1,A7,c7,by omega,by go_num,by rw[zU HMN];exact zU HSX⟩
         case measure=>simp[intOf];omega
  ·have hall:a.ds.take k=a.ds:=List.take_of_length_le (by omega);have hkk:k=a.ds.length:=by omega
   rw[hall]at hS;have hmv:a.fs.map (qA a.fs k)=a.fs.map (qA a.fs a.ds.length):=by rw[hkk]
   rw[hmv]at hS;obtain⟨e1,e2,e3⟩:=qdm hS.z hS.be hS.o hS.bel;have E1:=zH e1;have E2:=zH e2;have E3:=zH e3;have HZR:=zH hS.z;have z1:¬(k:Int)+1<=(n:Int):=by omega
   have z2:decide ((k:Int)+1<=(n:Int))=false:=by simp;omega
   clear hall hS e1 e2 e3 hkk hmv hdl;obtain⟨y,hy⟩:∃y,y=qq a.fs k:=⟨_,rfl⟩
   rw[<-hy]at p0 E1 E2 E3;clear hy;go_wp2_with (refine wpList_store_row rfl 33 (.tmp 2) (.tmp 82) rfl (B+1) #[.slice A3 y c3,.slice A' n2 cap'] rfl rfl 33 _ (zU HZR) qd rfl (qN _ _ _ _ _ _) ?_);refine bodyPost_ret (qc rfl _ _ (B+1) 33 #[.slice A3 y c3,.slice A' n2 cap'] (0,0) _ rfl (zU E1) Tryz.underlying33 rfl qd) rfl ?_;rw[zU HP];exact⟨⟨_,_,rfl,zU E2⟩,zU E3⟩
end
section
open Go.RowKit Go.Lib
section
variable {P : Program} {ops : Array Oper} {Q : Exit -> Act -> World -> Prop} {md : Region.Mode} {S : World -> Prop} {L : Nat}
def qnU(md:Region.Mode)(ops:Array Oper):Nat->Nat->Nat->Bool
 | 0,_,_=>false
 | n+1,i,L=>match ops[L]? with
  | none=>false
  | some x=>x.after.any fun e=>Region.binds md e && (e.on == i || qnU md ops n i e.on)
def qjk(md:Region.Mode)(ops:Array Oper)(l:Array Bool):Bool :=
 (List.range ops.size).all fun j=>!(l.getD j false) || match ops[j]? with
  | none=>true
  | some x=>x.after.all fun e=>!(Region.binds md e) || l.getD e.on false
def Closed(md:Region.Mode)(ops:Array Oper)(l:Array Bool):Prop:=∀j x,ops[j]?=some x->l.getD j false=true->∀e∈x.after,Region.binds md e=true->l.getD e.on false=true
theorem qo9{l:Array Bool}(h:qjk md ops l=true):Closed md ops l:=by
 intro j x hx hj e he hb;unfold qjk at h;rw[List.all_eq_true]at h;have h1:=h j (List.mem_range.2 (zE hx).1);rw[hj,hx]at h1;simp only[Bool.not_true,Bool.false_or,Array.all_eq_true_iff_forall_mem]at h1;have h2:=h1 e he;rw[hb]at h2;simpa using h2
theorem qkM{l:Array Bool}(hc:Closed md ops l){i:Nat} : ∀(n L:Nat),qnU md ops n i L=true->(∀x,ops[L]?=some x->∀e∈x.after,Region.binds md e=true->l.getD e.on false=true)->l.getD i false=true
 | 0,_,h,_=>by cases h
 | n+1,L,h,hl=>by
  rw[qnU]at h;cases hx:ops[L]? with
  | none=>rw[hx]at h;cases h
  | some x =>
   rw[hx]at h;obtain⟨e,he,h⟩:=Array.any_eq_true'.1 h;rw[Bool.and_eq_true,Bool.or_eq_true]at h;obtain⟨hb,h⟩:=h;have hon:=hl x hx e he hb
   rcases h with h|h
   ·rw[beq_iff_eq]at h;rw[<-h];exact hon
   ·exact qkM hc n e.on h (fun y hy e2 he2 hb2=>hc e.on y hy hon e2 he2 hb2)
theorem Closed.set{l:Array Bool}(hc:Closed md ops l){j:Nat}(hj:j∈Region.ready md ops l):Closed md ops (l.setIfInBounds j true):=by
 intro q x hx hq e he hb;refine getD_set_true ?_
 by_cases e2:q=j
 ·subst e2;obtain⟨_,y,hy,hall⟩:=mem_ready.1 hj;rw[hx]at hy;cases hy;exact hall e he hb
 ·refine hc q x hx ?_ e he hb
  rwa [getD_set_ne false (Ne.symm e2)]at hq
def qkN(md:Region.Mode)(ops:Array Oper)(n i L:Nat):Bool:=(List.range ops.size).all fun j=>decide (j<L) || qnU md ops n i j
def AnyK(P:Program)(md:Region.Mode)(ops:Array Oper)(Q:Exit->Act->World->Prop)(S:World->Prop)(L:Nat):Nat->Array Bool->Act->World->Prop
 | 0,l,a,w=>Region.ready md ops l=[]/\Q .normal a w
 | k+1,l,a,w=>(Region.ready md ops l=[]->Q .normal a w)/\∀i∈Region.ready md ops l,wpOp P ops Q i (fun a' w'=>(i<L->S w')/\AnyK P md ops Q S L k (l.setIfInBounds i true) a' w') a w
theorem AnyK.any:∀(k:Nat) (l:Array Bool) (a:Act) (w:World),AnyK P md ops Q S L k l a w->wpAny P md ops Q k l a w
 | 0,_,_,_,h=>h
 | k+1,_,_,_,h=>⟨h.1,fun i hi=>wpOp_mono (fun _ _ h'=>AnyK.any k _ _ _ h'.2) (h.2 i hi)⟩
theorem AnyK.first{i n:Nat}{o:Oper}{v:Value}(hi:ops[i]?=some o)(hsel:∀(j:Nat) (x:Oper) cs b,ops[j]?=some x->x.op≠.select cs b)(hQ:∀c a w,Q (.panic c) (a.put o.dst v) w->Q (.panic c) a w)(hL:qkN md ops n i L=true)(k:Nat) :
  ∀(l:Array Bool) (a:Act) (w:World),Closed md ops l->(∀j x,ops[j]?=some x->j≠i->l.getD j true=false->(∀e∈x.after,Region.binds md e=true->e.on≠i)->o.apart ops x=true) ->
   i∈Region.ready md ops l->YieldsIf P ops S o v a->S w->AnyK P md ops Q S L k (l.setIfInBounds i true) (a.put o.dst v) w->AnyK P md ops Q S L (k+1) l a w:=by
 induction k with
 | zero =>
  intro l a w _ _ hr hy hS H;refine⟨fun h=>absurd hr (by rw[h];simp),fun j hj=>?_⟩
  rcases Decidable.em (j=i)with rfl|hji
  ·exact hy.wpOp hi hS ⟨fun _=>hS,H⟩
  ·exact absurd (ready_mono hj hji) (by rw[H.1];simp)
 | succ k ih =>
  intro l a w hcl hfree hr hy hS H;refine⟨fun h=>absurd hr (by rw[h];simp),fun j hj=>?_⟩
  rcases Decidable.em (j=i)with rfl|hji
  ·exact hy.wpOp hi hS ⟨fun _=>hS,H⟩
  obtain⟨hun,x,hx,hall⟩:=mem_ready.1 hj;have hiu:=(mem_ready.1 hr).1
  have hnot:∀{q:Nat},q=i->l.getD q false=true->False:=fun {q} e h1=>by
   subst e
   by_cases hl:q<l.size
   ·simp[hl]at h1 hiu;rw[hiu]at h1;cases h1
   ·simp[Array.getElem?_eq_none (Nat.le_of_not_lt hl)]at h1
  have hno:∀e∈x.after,Region.binds md e=true->e.on≠i:=fun e he hb e2=>hnot e2 (hall e he hb)
  have hjL:j<L:=Decidable.byContradiction fun e=>by
   unfold qkN at hL;have h1:=List.all_eq_true.1 hL j (List.mem_range.2 (zE hx).1);rw[decide_eq_false e,Bool.false_or]at h1;exact hnot rfl (qkM hcl n j h1 (fun y hy e he hb=>by rw[hx]at hy;cases hy;exact hall e he hb))
  have h2:=wpOp_putIf hx (hfree j x hx hji hun hno) (fun cs b=>hsel i o cs b hi) (fun cs b=>hsel j x cs b hx) hQ hy (H.2 j (ready_mono hj hji));refine wpOp_mono (fun a' w' h3=>?_) h2;have hri:i∈Region.ready md ops (l.setIfInBounds j true):=ready_mono hr (Ne.symm hji);obtain⟨hy',hS',hK⟩:=h3;rw[Array.setIfInBounds_comm _ _ (Ne.symm hji)]at hK;have hSw:=hS' hjL
  exact⟨fun _=>hSw,ih _ a' w' (hcl.set hj) (fun q y hq hqi hqu hqn=>hfree q y hq hqi (by
   rcases Decidable.em (j=q)with e|e
   ·exact e ▸ hun
   ·exact (getD_set_ne true e) ▸ hqu) hqn) hri hy' hSw hK⟩
theorem AnyK.take(i n:Nat){o:Oper}{v:Value}{k:Nat}{l:Array Bool}{a:Act}{w:World}(hi:ops[i]?=some o)(hs:Region.noSelect ops=true)(hf:Region.free md ops l i=true)(hr:(Region.ready md ops l).contains i=true)
  (hL:qkN md ops n i L=true) (hc:qjk md ops l=true) (hQ:∀c a w,Q (.panic c) (a.put o.dst v) w->Q (.panic c) a w) (hy:YieldsIf P ops S o v a) (hS:S w)
  (h:AnyK P md ops Q S L k (l.setIfInBounds i true) (a.put o.dst v) w):AnyK P md ops Q S L (k+1) l a w :=
 AnyK.first hi (Region.noSelect_spec hs) hQ hL k l a w (qo9 hc) (Region.free_spec hi hf) (by simpa using hr) hy hS h
def qve(md:Region.Mode)(ops:Array Oper)(n i L:Nat)(l:Array Bool):Bool:=Region.noSelect ops && Region.free md ops l i && (Region.ready md ops l).contains i && qkN md ops n i L && qjk md ops l
theorem AnyK.t(i n:Nat){o:Oper}(v:Value){d:Tmp}{k:Nat}{l:Array Bool}{a a':Act}{w:World}(hS:S w)(hy:∀W,S W->(execOp a.eval o).run P W=.ok (.value v) W)
  (h:AnyK P md ops Q S L k (l.setIfInBounds i true) a' w) (hi:ops[i]?=some o:=by rfl) (hd:o.dst=some d:=by rfl) (ha:a.put (some d) v=a':=by simp only[Act.put,List.setIfInBounds_toArray,List.set_cons_zero,List.set_cons_succ];first|done|rfl)
  (hw:Region.wanted o (yielded ops a.tmps)=true:=by rfl) (hb:qve md ops n i L l=true:=by kernel_rfl) (hQ:∀c a w,Q (.panic c) (a.put (some d) v) w->Q (.panic c) a w:=by exact fun _ _ _ h=>h):AnyK P md ops Q S L (k+1) l a w:=by
 subst ha;unfold qve at hb;simp only[Bool.and_eq_true]at hb;obtain⟨⟨⟨⟨h1,h2⟩,h3⟩,h4⟩,h5⟩:=hb;rw[<-hd]at h hQ;exact AnyK.take i n hi h1 h2 h3 h4 h5 hQ (Or.inl ⟨hw,hy⟩) hS h
theorem AnyK.one(i:Nat){o:Oper}{k:Nat}{l:Array Bool}{a:Act}{w:World}(hi:ops[i]?=some o)(hr:Region.ready md ops l=[i])
  (h:∀K:Act->World->Prop,Shut (∀a' w',(i<L->S w')->AnyK P md ops Q S L k (l.setIfInBounds i true) a' w'->K a' w')->if Region.wanted o (yielded ops a.tmps)=true then Oper.wp P o a w K Q else K (a.put o.dst undef) w):AnyK P md ops Q S L (k+1) l a w :=
 ⟨fun h0=>(by rw[hr]at h0;cases h0),fun j hj=>by
  rw[hr]at hj;obtain rfl:j=i:=by simpa using hj
  exact wpOp_step hi (fun K hK=>h K (fun a' w' h1 h2=>hK a' w' ⟨h1,h2⟩))⟩
theorem AnyK.two(i j:Nat){o o':Oper}{k:Nat}{l:Array Bool}{a:Act}{w:World}(hi:ops[i]?=some o)(hj:ops[j]?=some o')(hr:Region.ready md ops l=[i,j])
  (h:∀K:Act->World->Prop,Shut (∀a' w',(i<L->S w')->AnyK P md ops Q S L k (l.setIfInBounds i true) a' w'->K a' w')->if Region.wanted o (yielded ops a.tmps)=true then Oper.wp P o a w K Q else K (a.put o.dst undef) w)
  (h':∀K:Act->World->Prop,Shut (∀a' w',(j<L->S w')->AnyK P md ops Q S L k (l.setIfInBounds j true) a' w'->K a' w')->if Region.wanted o' (yielded ops a.tmps)=true then Oper.wp P o' a w K Q else K (a.put o'.dst undef) w):AnyK P md ops Q S L (k+1) l a w :=
 ⟨fun h0=>(by rw[hr]at h0;cases h0),fun q hq=>by
  rw[hr]at hq
  rcases List.mem_cons.1 hq with rfl|hq
  ·exact wpOp_step hi (fun K hK=>h K (fun a' w' h1 h2=>hK a' w' ⟨h1,h2⟩))
  ·obtain rfl:q=j:=by simpa using hq
   exact wpOp_step hj (fun K hK=>h' K (fun a' w' h1 h2=>hK a' w' ⟨h1,h2⟩))⟩
theorem AnyK.o{i k:Nat}{l:Array Bool}{K:Act->World->Prop}{a a':Act}{w:World}(hK:Shut (∀a' w',(i<L->S w')->AnyK P md ops Q S L k l a' w'->K a' w'))(hS:i<L->S w)(h:AnyK P md ops Q S L k l a' w)
  (ha:a=a':=by first|(simp only[List.getElem_toArray,List.getElem_cons_succ,List.getElem_cons_zero,Act.put,List.setIfInBounds_toArray,List.set_cons_zero,List.set_cons_succ];first|done|rfl)|rfl):K a w:=by
 subst ha;exact hK.out _ _ hS h
theorem AnyK.done{k:Nat}{l:Array Bool}{a:Act}{w:World}(hr:Region.ready md ops l=[])(h:Q .normal a w):AnyK P md ops Q S L k l a w:=by
 cases k with
 | zero=>exact⟨hr,h⟩
 | succ k=>exact⟨fun _=>h,by rw[hr];simp⟩
theorem AnyK.begin(S:World->Prop)(L n:Nat){id:Nat}{a:Act}{w:World}(hm:P.follows .mixedOrders=true)(hn:ops.size=n)(h:AnyK P .any ops Q S L n (Array.replicate n false) a w.drew):(Code.region id ops true).wp P Q a w:=by
 subst hn;exact wp_region_any hm (AnyK.any _ _ _ _ h)
end
end
section
open Go.RowKit Go.Lib Pl
attribute [local go_sem] qf qe
section
variable {w W W' : World} {B : Nat} {v1 v2 : Value} {x : Arc} {e : qa × Bool}
end
theorem qfV{w:World}{ops:Array Oper}{o:Oper}{a:Act}{K:Act->World->Prop}{Q:Exit->Act->World->Prop}{E:Prop}(hgd:o.guard=none)(f:Nat)(x1:Nat)(ts:Array TypeId)
  (ho:o.op=.call { callee:=.value (.func f),args:=#[.tmp x1],argTypes:=ts }) (v1:Value) (h1:a.tmps[x1]?.getD undef=v1)
  (hcall:∀vals w,(callFunc f vals).run Tryz.prog w=.ok (.enter f vals) w) (h:Calls Tryz.prog f #[v1] w fun e w'=>∃v,e=.returned v/\K (a.put o.dst v) w') :
  if Region.wanted o (yielded ops a.tmps)=true then Oper.wp Tryz.prog o a w K Q else E:=by
 have hw:Region.wanted o (yielded ops a.tmps)=true:=by simp[Region.wanted,hgd]
 rw[if_pos hw]
 have hm:=h.mono (R':=fun e w'=>match e,w' with
  | .returned v,w''=>K (a.put o.dst v) w''
  | .panicked chain,w''=>Q (.panic chain) a w''
  | .outgrown,_=>LetsOut Q) (fun e w' ⟨v,he,hk⟩=>by subst he;exact hk)
 unfold Oper.wp execOp;simp[ho,resolve,invoke,go_sem,h1];rw[hcall];exact hm
section
variable {w W W' : World} {B D : Nat} {v1 v2 : Value} {x : Arc} {e : qa × Bool} {cs : Array Value}
end
theorem qaM{W:World}{D:Nat}{a b c d e:Value}(h:W.heap[D]?=some (.cells #[a,b,c,d,e] 89 (0,0))):(W.cell? ⟨D,0,none⟩=some a/\W.cell? ⟨D,1,none⟩=some b/\W.cell? ⟨D,2,none⟩=some c/\W.cell? ⟨D,3,none⟩=some d/\W.cell? ⟨D,4,none⟩=some e)/\W.frozen? ⟨D,0,none⟩=false/\W.frozen? ⟨D,1,none⟩=false/\W.frozen? ⟨D,2,none⟩=false/\W.frozen? ⟨D,3,none⟩=false/\W.frozen? ⟨D,4,none⟩=false:=by
 refine⟨⟨?_,?_,?_,?_,?_⟩,?_,?_,?_,?_,?_⟩
 all_goals first
  | (rw[cell_of_row _ _ _ _ _ _ h];rfl)
  | simp[World.frozen?,h]
theorem qkh{w:World}{base e size n k:Nat}{v:Value}{xs:List Value}(h:w.ownsRow base e size v n xs)(hk:v.ownBlock=some k):base<=k:=by
 rcases h.2 with⟨hv,_⟩|⟨g,cap,cur,hv,hb,_⟩
 ·rw[hv]at hk;simp[Value.ownBlock]at hk
 ·rw[hv]at hk;simp only[Value.ownBlock,Option.some.injEq]at hk;subst hk;exact hb
theorem qjP(args:Array Value)(w:World):(callFunc 23 args).run Tryz.prog w=.ok (.enter 23 args) w :=
 qbn Tryz.func23 (by kernel_rfl) (by kernel_rfl) args w
theorem qhy:∀l:List Fil,Lib.join (l.map qbR) [32]=qau l
 | []=>rfl
 | [f]=>by simp[Lib.join,qau,List.intercalate]
 | f::g::r=>by
  have ih:=qhy (g::r);unfold Lib.join at ih ⊢;simp only[List.map_cons,qau]at ih ⊢;rw[<-ih];simp[List.intercalate,List.intersperse]
theorem qth(A:Option Addr)(n cap:Nat)(l:List qa)(w:World)(hl:StrsAt w w.heap.size A n l)(hc:n<=cap)(hn:n<=1000000)(h0:n≠0)(hs:(Lib.join l [32]).length<=140737488355328) :
  Calls Tryz.prog 80 #[.slice A n cap,S [32]] w fun e w'=>e=.returned (S (Lib.join l [32]))/\Below w.heap.size w w':=by
 have hl1:=hl.1;obtain⟨b,off,e,hb,hcell⟩:=hl.2 (by omega);subst e
 have hx:(l.map fun t:qa=>(⟨t.toArray⟩:ByteArray)).map (·.data.toList)=l:=by
  rw[List.map_map];exact (List.map_congr_left fun t _=>by simp).trans (List.map_id _)
 have hlen:(l.map fun t:qa=>(⟨t.toArray⟩:ByteArray)).length=n:=by rw[List.length_map];exact hl1
 have:=Tryz.strings_Join b off cap (l.map fun t:qa=>(⟨t.toArray⟩:ByteArray)) ⟨#[32]⟩ w (fun j x hj=>by
  rw[List.getElem?_map]at hj;cases hlj:l[j]? with
  | none=>rw[hlj]at hj;cases hj
  | some t =>
   rw[hlj]at hj;simp only[Option.map_some,Option.some.injEq]at hj;subst hj;exact hcell j t hlj) hb (by rw[hlen];omega) (by rw[hlen];exact hc) (by rw[hx];exact hs)
 rw[hx,hlen]at this;exact this
theorem qux(p:Nat)(A:Option Addr)(n cap:Nat)(A2:Option Addr)(n2 cap2:Nat)(a:Arc)(w:World)(h:TabV w p A n cap A2 n2 cap2 a) :
  Calls Tryz.prog 51 #[.pointer (some ⟨p,0,none⟩)] w fun e w'=>e=.returned (S (qcg a))/\Below w.heap.size w w':=by
 have hi:=h.inn;have hl2:=hi.f.1;have h12:=h.ra.nf;have HNUM:=zH (fun f (hf:f∈a.fs)=>qce h.ra.nd h.ra.sd (h.ra.fr.each f hf))
 have HIL:=zH (qiP a.fs (fun f hf=>by
  obtain⟨g1,_,_,g2,g3,_,_,g4⟩:=qce h.ra.nd h.ra.sd (h.ra.fr.each f hf);exact qkp g1 g3 g4))
 have HF:=zH hi.f;have H:=zH h;obtain⟨y0,y1⟩:=h.c;have hsz:n2<=12:=by omega
 have HL2:=zH hl2;clear h hi hl2 h12;go_enter Tryz.func51,Tryz.ntmps51;go_wp2_with fail;clear y0 y1;go_loopw [3,12] (fun lv iv wr=>∃ (k:Nat) (C:Option Addr) (c3:Nat),k<=n2/\iv=.int .i64 k/\lv=.slice C k c3/\wr.ownsRow w.heap.size 9 1 (.slice C k c3) k (((a.fs.take k).map qbR).map qaE)/\Below w.heap.size w wr) (fun _ iv _=>n2-(intOf iv).toNat)
 case atStart=>exact⟨0,none,0,by omega,rfl,rfl,World.ownsRow_nil _ _ _ _,Below.refl _ _⟩
 case round =>
  obtain⟨k,C,c3,hk,rfl,rfl,hown,hbel⟩:=hrel;have HOWN:=zH hown;have HB:=zH hbel;clear hown hbel
  by_cases hkn:k<n2
  ·obtain⟨b,off,f,rfl,hb,hf,x0,x1,x2,x3,x4⟩:=((zU HF).up (zU HB)).at_ (k:=k) hkn;obtain⟨g1,g2,g3,g4,g5,g6,g7,g8⟩:=zU HNUM f (List.mem_of_getElem? hf);obtain⟨z,hz⟩:∃z:Nat,f.size=(z:Int):=⟨f.size.toNat,by omega⟩
   obtain⟨nm,hnm⟩:∃x,x=f.name:=⟨_,rfl⟩
   obtain⟨bl,hbl⟩:∃x,x=f.block:=⟨_,rfl⟩
   obtain⟨dz,hdz⟩:∃x,x=dig z:=⟨_,rfl⟩
   obtain⟨db,hdb⟩:∃x,x=dig bl.length:=⟨_,rfl⟩
   have l1:=qel 3 z (by omega);have l2:=qel 3 bl.length (by rw[hbl];omega);rw[<-hdz]at l1;rw[<-hdb]at l2;rw[<-hnm]at g1;have hitem:qbR f=nm++58::(dz++47::db):=by unfold qbR;rw[hz,hnm,hdz,hdb,hbl];rfl
   have hstep:((a.fs.take (k+1)).map qbR).map qaE=(((a.fs.take k).map qbR)++[nm++58::(dz++47::db)]).map qaE:=by
    rw[List.take_add_one,hf,<-hitem];simp
   rw[hz]at x2;rw[<-hnm]at x0;rw[<-hbl]at x4;have g8':bl.length<=3901:=by rw[hbl];exact g8
   have HSTEP:=zH hstep;have HG8:=zH g8';have CI1:=zH (fun (W:World) (hW:DW W)=>qfE z W hW (by omega));rw[<-hdz]at CI1;have CI2:=zH (fun (W:World) (hW:DW W)=>qfE bl.length W hW (by omega));rw[<-hdb]at CI2;have z1:(k:Int)<(n2:Int):=by omega
   have z2:decide ((k:Int)<(n2:Int))=true:=by simp;omega
   have b1:nm.length<=12:=g1;obtain⟨dc,hdc⟩:∃x,x=f.dict:=⟨_,rfl⟩
   obtain⟨sm,hsm⟩:∃x,x=f.sum:=⟨_,rfl⟩
   rw[<-hdc]at x1;rw[<-hsm]at x3;clear hf g2 g3 g4 g5 g6 g7 g8 g8' hz hnm hbl hdz hdb hitem hstep hdc hsm;go_upto_region 5 with fail
   obtain⟨w2,hw2⟩:∃w2,w2=wr.alloc (.cells #[S nm,I dc,I z,I sm,S bl] 89):=⟨_,rfl⟩
   obtain⟨D,hD⟩:∃D,D=wr.heap.size:=⟨_,rfl⟩
   have hbox:w2.heap[D]?=some (.cells #[S nm,I dc,I z,I sm,S bl] 89 (0,0)):=by rw[hw2,hD];exact heap_alloc_new _ _
   have hb2:Below wr.heap.size wr w2:=by rw[hw2];exact (Below.refl _ _).alloc (Nat.le_refl _) _
   have HO2:=zH (qo (zU HOWN) hb2);have HBB:=zH ((zU HB).trans (hb2.mono (zU HB).size));have HBX:=zH hbox;rw[<-hw2,<-hD];clear hw2 hD hb2 x0 x1 x2 x3 x4 hbox HOWN HB;go_wp2_with fail;refine AnyK.begin (fun W=>W.cell? ⟨D,0,none⟩=some (S nm)/\W.cell? ⟨D,2,none⟩=some (I z)/\W.cell? ⟨D,4,none⟩=some (S bl)) 16 17 (by kernel_rfl) rfl ?_;have SC:∀W:World,W.heap[D]?=some (.cells #[S nm,I dc,I z,I sm,S bl] 89 (0,0))->W.cell? ⟨D,0,none⟩=some (S nm)/\W.cell? ⟨D,2,none⟩=some (I z)/\W.cell? ⟨D,4,none⟩=some (S bl):=fun W h=>⟨(qbA h 0 _ rfl).1,(qbA h 2 _ rfl).1,(qbA h 4 _ rfl).1⟩
   have HSC:=zH SC;clear SC;have hsd:=zU HSC w2.drew (zU HBX);refine AnyK.t 0 17 ?_ hsd ?_ ?_
   rotate_left
   ·rintro W ⟨hS1,hS2,hS3⟩;go_simp
    try with_reducible rfl
   refine AnyK.t 1 17 ?_ hsd ?_ ?_
   rotate_left
   ·rintro W ⟨hS1,hS2,hS3⟩;go_simp
    try with_reducible rfl
   refine AnyK.t 2 17 ?_ hsd ?_ ?_
   rotate_left
   ·rintro W ⟨hS1,hS2,hS3⟩;go_simp
    try with_reducible rfl
   refine AnyK.t 3 17 ?_ hsd ?_ ?_
   rotate_left
   ·rintro W ⟨hS1,hS2,hS3⟩;go_simp
    first|with_reducible rfl|(rw[if_neg (by first|omega|(simp;omega))])
   refine AnyK.t 4 17 ?_ hsd ?_ ?_
   rotate_left
   ·rintro W ⟨hS1,hS2,hS3⟩;go_simp
    try with_reducible rfl
   refine AnyK.t 5 17 ?_ hsd ?_ ?_
   rotate_left
   ·rintro W ⟨hS1,hS2,hS3⟩;go_simp
    try with_reducible rfl
   refine AnyK.t 9 17 ?_ hsd ?_ ?_
   rotate_left
   ·rintro W ⟨hS1,hS2,hS3⟩;go_simp
    try with_reducible rfl
   refine AnyK.t 10 17 ?_ hsd ?_ ?_
   rotate_left
   ·rintro W ⟨hS1,hS2,hS3⟩;go_simp
    try with_reducible rfl
   refine AnyK.t 11 17 ?_ hsd ?_ ?_
   rotate_left
   ·rintro W ⟨hS1,hS2,hS3⟩;go_simp
    try with_reducible rfl
   refine AnyK.one 6 rfl (by kernel_rfl) (fun K hK=>?_);refine qfV rfl 23 21 _ rfl (I z) rfl qjP ((zU CI1 _ ((zU H).dw.up ((zU HBB).trans ((Below.refl _ _).drew.mono (zU HBB).size)))).mono ?_);rintro rr w4 ⟨rfl,hb4⟩;refine⟨_,rfl,?_⟩;have HB4:=zH ((show Below w2.heap.size w2 w2.drew from (Below.refl _ _).drew).trans hb4);have hbx4:=((zU HB4).block D (zE (zU HBX)).1).trans (zU HBX);have HBX4:=zH hbx4;have hs4:=zU HSC w4 (zU HBX4);clear hb4 hsd hbx4;refine AnyK.o hK (fun _=>hs4) ?_;clear hK K;refine AnyK.t 7 17 ?_ hs4 ?_ ?_
   rotate_left
   ·rintro W ⟨hS1,hS2,hS3⟩;go_simp
    first|with_reducible rfl|(rw[if_neg (by first|omega|(simp;omega))])
   refine AnyK.t 8 17 ?_ hs4 ?_ ?_
   rotate_left
   ·rintro W ⟨hS1,hS2,hS3⟩;go_simp
    first|with_reducible rfl|(rw[if_neg (by first|omega|(simp;omega))])
   refine AnyK.one 12 rfl (by kernel_rfl) (fun K hK=>?_);refine qfV rfl 23 27 _ rfl (I bl.length) rfl qjP ((zU CI2 _ ((zU H).dw.up ((zU HBB).trans ((zU HB4).mono (zU HBB).size)))).mono ?_);rintro rr w5 ⟨rfl,hb5⟩;refine⟨_,rfl,?_⟩;have HB5:=zH ((zU HB4).trans (hb5.mono (zU HB4).size));have hbx5:=((zU HB5).block D (zE (zU HBX)).1).trans (zU HBX);have HBX5:=zH hbx5;have hs5:=zU HSC w5 (zU HBX5);clear hb5 hs4 hbx5;refine AnyK.o hK (fun _=>hs5) ?_;clear hK K;refine AnyK.t 13 17 ?_ hs5 ?_ ?_
   rotate_left
   ·rintro W ⟨hS1,hS2,hS3⟩;go_simp
    first|with_reducible rfl|(rw[if_neg (by first|omega|(simp;omega))])
   refine AnyK.one 14 rfl (by kernel_rfl) (fun K hK=>?_);go_simp;have hbx6:(w5.alloc (.cells #[S (nm++58::(dz++47::db))] 9)).heap[D]?=some (.cells #[S nm,I dc,I z,I sm,S bl] 89 (0,0)):=(Below.heap_alloc _ _ _ (zE (zU HBX5)).1).trans (zU HBX5);have HBX6:=zH hbx6;have hs6:=zU HSC _ (zU HBX6);clear hs5 hbx6;refine AnyK.o hK (fun _=>?_) ?_
   ·exact hs6
   clear hK K;refine AnyK.one 15 rfl (by kernel_rfl) (fun K hK=>?_);have hO5:=qo (zU HO2) (zU HB5);have HO6:=zH (qo hO5 ((Below.refl w5.heap.size w5).alloc (Nat.le_refl _) (.cells #[S (nm++58::(dz++47::db))] 9)));clear hO5;have hEs:w.heap.size<=w5.heap.size:=Nat.le_trans (zU HBB).size (zU HB5).size;refine qfL rfl (.tmp 16) (.tmp 30) rfl w.heap.size _ k ((a.fs.take k).map qbR) rfl (zU HO6) (nm++58::(dz++47::db)) w5.heap.size rfl (heap_alloc_new _ _) (by omega) (by simp;omega) ?_;intro A7 c7 w7 hown7 hg7
   have hbx7:w7.heap[D]?=some (.cells #[S nm,I dc,I z,I sm,S bl] 89 (0,0)):=(hg7.block D (zE (zU HBX6)).1 (fun e=>by
    obtain⟨cs,hcs⟩:=qcR (zU HO6) e.symm;rw[zU HBX6]at hcs;injection hcs with hcs
    injection hcs with _ hcs _
    exact absurd hcs (by decide))).trans (zU HBX6)
   have hs7:=zU HSC _ hbx7
   have hb7:Below w.heap.size w w7:=by
    have h1:Below w.heap.size w (w5.alloc (.cells #[S (nm++58::(dz++47::db))] 9)):=((zU HBB).trans ((zU HB5).mono (zU HBB).size)).alloc hEs _;exact h1.grown hg7 h1.size (fun j e=>qkh (zU HO6) e)
   rw[<-zU HSTEP]at hown7;have HOWN7:=zH hown7;have HB7:=zH hb7;clear hown7 hg7 hbx7 hb7 hs6 hEs;refine AnyK.o hK (fun _=>hs7) ?_;clear hK K;refine AnyK.one 16 rfl (by kernel_rfl) (fun K hK=>?_);go_simp;refine AnyK.o hK (fun h=>absurd h (by decide)) ?_;clear hK K hs7;refine AnyK.done (by kernel_rfl) ?_;go_wp2_with fail;go_roundw
   case rel=>exact⟨k+1,A7,c7,by omega,by simp,by simp,zU HOWN7,zU HB7⟩
   case measure=>simp[intOf];omega
  ·have hkk:k=n2:=by omega
   subst hkk;have z1:¬(k:Int)<(k:Int):=by omega
   have z2:decide ((k:Int)<(k:Int))=false:=by simp
   have hall:a.fs.take k=a.fs:=List.take_of_length_le (by have:=zU HL2;omega);have hown:=zU HOWN;rw[hall]at hown;have HO:=zH hown;clear hown hall HOWN hkn hk
   by_cases h0:k=0
   ·subst h0;have hnil:a.fs=[]:=List.eq_nil_of_length_eq_zero (zU HL2);have hr:qcg a=qnV:=by unfold qcg;rw[if_pos hnil]
    have HRR:=zH hr;clear hnil hr;go_wp2_with fail;go_ret;rw[zU HRR];exact⟨rfl,zU HB⟩
   ·have hne:a.fs≠[]:=fun e=>h0 (by have:=zU HL2;rw[e]at this;simpa using this.symm);have hr:qcg a=qau a.fs:=by unfold qcg;rw[if_neg hne]
    obtain⟨Ax,cx,hv,hst,hln⟩:=qat (zU HO);injection hv with hv1 hv2 hv3
    subst hv1;subst hv3;have hcap:=ql7 (zU HO);have CJ:=qth C k c3 (a.fs.map qbR) wr hst hcap (by omega) h0 (by rw[qhy];have:=zU HIL;have:=zU HL2;omega);rw[qhy]at CJ;have CJ:=zH CJ;have z3:((k:Int) == 0)=false:=by rw[zB];omega
    have z4:¬(k:Int)=0:=by omega
    have HRR:=zH hr;clear hne hr hst hln hcap hv2;go_wp2_with fail;refine (zU CJ).mono ?_;rintro e w9 ⟨rfl,hb9⟩;have HB9:=zH ((zU HB).trans (hb9.mono (zU HB).size));clear hb9;go_wp2_with fail;go_ret;rw[zU HRR];exact⟨rfl,zU HB9⟩
def GlassAt(W:World)(g:Nat)(s:qa):Prop:=W.heap[g]?=some (.cells #[S s] 112 (0,0))
abbrev qdb:List PanicEntry:=[{ v:=.iface 109 (.agg #[]),recovered:=false }]
section
variable {W W' : World} {g : Nat} {s : qa}
theorem GlassAt.lt(h:GlassAt W g s):g<W.heap.size:=(zE h).1
theorem GlassAt.c(h:GlassAt W g s):W.cell? ⟨g,0,none⟩=some (S s)/\W.frozen? ⟨g,0,none⟩=false:=by
 refine⟨?_,by simp[World.frozen?,show W.heap[g]?=_ from h]⟩;rw[cell_of_row _ _ _ _ _ _ h];rfl
theorem GlassAt.below(h:GlassAt W g s)(hb:Below W.heap.size W W'):GlassAt W' g s:=(hb.block _ h.lt).trans h
theorem GlassAt.set(h:GlassAt W g s)(t:qa):GlassAt (W.setCell ⟨g,0,none⟩ (S t)) g t/\W.grownBy (W.setCell ⟨g,0,none⟩ (S t)) (some g):=by
 have hr:W.setCell ⟨g,0,none⟩ (S t)=W.setRow g #[S t]:=by rw[setCell_eq_setRow W g 0 _ _ _ _ h];rfl
 rw[hr];exact⟨setRow_heap _ _ _ _ _ _ h,rfl,rfl,rfl,by simp[World.setRow],fun k hk hne=>setRow_other W g k _ (fun e=>hne (by rw[e]))⟩
end
theorem qdf(g:Nat)(s r:qa)(n:Nat)(w:World)(h:GlassAt w g s)(hs:s.length<=140737488355328)(ht:take s=some (n,r)) :
  Calls Tryz.prog 90 #[.pointer (some ⟨g,0,none⟩)] w fun e w'=>e=.returned (I n)/\GlassAt w' g r/\w.grownBy w' (some g):=by
 have C:=zH (qi8 ht w (by omega));obtain⟨y0,y1⟩:=h.c;have H:=zH h;clear h ht;go_enter Tryz.func90,Tryz.ntmps90;go_wp2_with fail;refine (zU C).mono ?_;rintro e w1 ⟨rfl,hb1⟩;have H1:=zH ((zU H).below hb1);have G1:=zH (qX hb1 (some g));clear hb1 y0 y1;obtain⟨y0,y1⟩:=(zU H1).c;go_wp2_with fail;go_ret;exact⟨rfl,((zU H1).set r).1,qcd (zU G1) ((zU H1).set r).2⟩
theorem qdg(g:Nat)(s:qa)(w:World)(h:GlassAt w g s)(hs:s.length<=140737488355328)(ht:take s=none) :
  Calls Tryz.prog 90 #[.pointer (some ⟨g,0,none⟩)] w fun e w'=>e=.panicked qdb/\w.grownBy w' (some g):=by
 have C:=zH (qi9 ht w (by omega));obtain⟨y0,y1⟩:=h.c;clear h ht;go_enter Tryz.func90,Tryz.ntmps90;go_wp2_with fail;refine (zU C).mono ?_;rintro e w1 ⟨rfl,hb1⟩;have G1:=zH (qX hb1 (some g));clear hb1 y0 y1;go_wp2_with fail;exact⟨rfl,rfl,zU G1⟩
theorem qde(g:Nat)(s:qa)(w:World)(h:GlassAt w g s)(hs:s.length<=140737488355328) :
  Calls Tryz.prog 88 #[.pointer (some ⟨g,0,none⟩)] w fun e w'=>(match qcn s with|some (t,r)=>e=.returned (S t)/\GlassAt w' g r|none=>e=.panicked qdb)/\w.grownBy w' (some g):=by
 unfold qcn;cases ht:take s with
 | none =>
  have C:=zH (qdg g s w h hs ht);clear ht h;go_enter Tryz.func88,Tryz.ntmps88;go_wp2_with fail;refine (zU C).mono ?_;rintro e w1 ⟨rfl,hg⟩;have G:=zH hg;clear hg;go_wp2_with fail;exact⟨rfl,rfl,zU G⟩
 | some p =>
  obtain⟨n,q⟩:=p;have hql:=(take_len ht).1;have hn:=(qaI ht).2;have C:=zH (qdf g s q n w h hs ht);clear ht h;simp only
  by_cases hq:q.length<n
  ·rw[if_pos hq];have z1:(q.length:Int)<(n:Int):=by omega
   clear hq;go_enter Tryz.func88,Tryz.ntmps88;go_wp2_with fail;refine (zU C).mono ?_;rintro e w1 ⟨rfl,h1,hg⟩;have G:=zH hg;obtain⟨y0,y1⟩:=h1.c;clear hg h1;go_wp2_with fail;exact⟨rfl,rfl,zU G⟩
  ·rw[if_neg hq];have z1:¬(q.length:Int)<(n:Int):=by omega
   have z2:n<=q.length:=by omega
   have z3:(n:Int)<=(q.length:Int):=by omega
   have hd:q.drop n=Pl.slice q n q.length:=by unfold Pl.slice;rw[List.take_of_length_le (Nat.le_refl _)]
   have htk:q.take n=Pl.slice q 0 n:=by unfold Pl.slice;simp
   rw[hd,htk];clear hq hd htk;go_enter Tryz.func88,Tryz.ntmps88;go_wp2_with fail;refine (zU C).mono ?_;rintro e w1 ⟨rfl,h1,hg⟩;have G:=zH hg;have H1:=zH h1;obtain⟨y0,y1⟩:=h1.c;clear hg h1;go_wp2_with fail;go_ret;exact⟨⟨rfl,((zU H1).set _).1⟩,qcd (zU G) ((zU H1).set _).2⟩
def qhJ{α:Type}(one:qa->Option (α×qa))(s:qa):Option (List α×qa):=match take s with|none=>none|some (n,r)=>qar one n r
theorem qo3{α:Type}(g F:Nat)(cap:Array Value)(hF:∀args w,(callFunc F args).run Tryz.prog w=.ok (.enter F args) w)(one:qa->Option (α×qa))(Inv:qa->List α->World->Prop)(J:World->Prop)
  (hG:∀s l W,Inv s l W->GlassAt W g s) (hL:∀s l W,Inv s l W->s.length<=140737488355328) (hI:∀s l W r W',Inv s l W->r.length<=s.length->GlassAt W' g r->W.grownBy W' (some g)->Inv r l W') (hJ:∀s l W W',Inv s l W->W.grownBy W' (some g)->J W')
  (hone:∀s l W,Inv s l W->Calls Tryz.prog F cap W fun e w'=>match one s with|some (x,r)=>e=.returned (.tuple #[])/\Inv r (l++[x]) w'|none=>e=.panicked qdb/\J w')
  (s:qa) (w:World) (h:Inv s [] w) :
  Calls Tryz.prog 86 #[.pointer (some ⟨g,0,none⟩),.func (.func F) #[] cap] w fun e w'=>match qhJ one s with|some (l,r)=>e=.returned (.tuple #[])/\Inv r l w'|none=>e=.panicked qdb/\J w':=by
 unfold qhJ;cases ht:take s with
 | none =>
  have C:=zH (qdg g s w (hG _ _ _ h) (hL _ _ _ h) ht);have H:=zH h;clear ht h;go_enter Tryz.func86,Tryz.ntmps86;go_wp2_with fail;refine (zU C).mono ?_;rintro e w1 ⟨rfl,hg⟩;have G:=zH hg;clear hg;go_wp2_with fail;exact⟨rfl,rfl,hJ _ _ _ _ (zU H) (zU G)⟩
 | some p =>
  obtain⟨n,q⟩:=p;have hql:=(take_len ht).1;have hn:=(qaI ht).2;have C:=zH (qdf g s q n w (hG _ _ _ h) (hL _ _ _ h) ht);have H:=zH h;clear ht h;simp only;obtain⟨R,hR⟩:∃R,R=qar one n q:=⟨_,rfl⟩
  rw[<-hR];have HR:=zH hR;clear hR;go_enter Tryz.func86,Tryz.ntmps86;go_wp2_with fail;refine (zU C).mono ?_;rintro e w1 ⟨rfl,h1,hg⟩;have H1:=zH (hI _ _ _ _ _ (zU H) hql h1 hg);clear h1 hg;go_wp2_with fail;go_loopw [4] (fun iv wr=>∃ (k:Nat) (u:qa) (l:List α),k<=2147483647/\iv=.int .i64 k/\Inv u l wr/\R=(match qar one k u with|none=>none|some (l2,r)=>some (l++l2,r))) (fun iv _=>(RowKit.intOf iv).toNat)
  case atStart=>exact⟨n,q,[],hn,rfl,zU H1,by rw[zU HR];cases qar one n q <;> simp⟩
  case round =>
   obtain⟨k,u,l,hk,rfl,hi,hr⟩:=hrel;have HI:=zH hi;cases k with
   | zero =>
    rw[qar]at hr;simp only[List.append_nil]at hr;subst hr;clear hi;go_wp2_with fail;go_end0;exact⟨rfl,zU HI⟩
   | succ k =>
    rw[qar]at hr;have C1:=hone u l wr hi;have w3:IntKind.i64.wrap ((k:Int)+1-1)=(k:Int):=by rw[show (k:Int)+1-1=(k:Int)from by omega];exact IntWalk.i64_in _ ⟨by omega,by omega⟩
    have w4:wrap64 ((k:Int)+1-1)=(k:Int):=by rw[show (k:Int)+1-1=(k:Int)from by omega];exact IntWalk.wrap64_in _ ⟨by omega,by omega⟩
    have z1:(0:Int)<(k:Int)+1:=by omega
    cases ho:one u with
    | none =>
     rw[ho]at hr C1;simp only at hr C1;subst hr;have C1:=zH C1;clear hi ho;go_wp2_with fail;refine (zU C1).mono ?_;rintro e w2 ⟨rfl,hj⟩;have HJ:=zH hj;clear hj;go_wp2_with fail;exact⟨rfl,rfl,zU HJ⟩
    | some p =>
     obtain⟨x,v⟩:=p;rw[ho]at hr C1;simp only at hr C1
     have hr2:R=(match qar one k v with|none=>none|some (l2,r)=>some ((l++[x])++l2,r)):=by
      rw[hr];cases qar one k v with
      | none=>rfl
      | some p=>simp
     have HR2:=zH hr2;have C1:=zH C1;clear hi ho hr hr2;go_wp2_with fail;refine (zU C1).mono ?_;rintro e w2 ⟨rfl,hj⟩;have HJ:=zH hj;clear hj;go_wp2_with fail;go_roundw
     case rel=>exact⟨k,v,l++[x],by omega,by go_num,zU HJ,zU HR2⟩
     case measure=>simp[RowKit.intOf]
structure OpS(w W:World)(B:Nat)(v1 v2:Value)(x:Arc)(s:qa):Prop where
 p:W.heap[B]?=some (.cells #[v1,v2] 33 (0,0))
 e:W.heap[B+1]?=some (.cells #[.int .i64 0] 22 (0,0))
 q:GlassAt W (B+2) s
 g:W.heap[B+3]?=some (.cells #[.pointer (some ⟨B+2,0,none⟩)] 110 (0,0))
 o:OwnA W (B+4) v1 v2 x
 bel:Below B w W
def OpJ(w:World)(B:Nat)(W:World):Prop:=∃v1 v2,W.heap[B]?=some (.cells #[v1,v2] 33 (0,0))/\W.heap[B+1]?=some (.cells #[.int .i64 0] 22 (0,0))/\Below B w W
section
variable {w W W' : World} {B : Nat} {v1 v2 : Value} {x : Arc} {s : qa}
theorem OpS.lt(h:OpS w W B v1 v2 x s):B+3<W.heap.size:=(zE h.g).1
theorem OpS.below(h:OpS w W B v1 v2 x s)(hb:Below W.heap.size W W'):OpS w W' B v1 v2 x s:=by
 have:=h.lt;exact⟨(hb.block _ (by omega)).trans h.p,(hb.block _ (by omega)).trans h.e,h.q.below hb,(hb.block _ (by omega)).trans h.g,h.o.below hb,h.bel.trans (hb.mono (by omega))⟩
theorem OpS.drew(h:OpS w W B v1 v2 x s):OpS w W.drew B v1 v2 x s:=h.below (Below.refl _ _).drew
theorem OpS.alloc(h:OpS w W B v1 v2 x s)(ob:Obj):OpS w (W.alloc ob) B v1 v2 x s:=h.below ((Below.refl _ _).alloc (Nat.le_refl _) _)
theorem OpS.own1(h:OpS w W B v1 v2 x s){j:Nat}(hj:j<B+4):some j≠v1.ownBlock:=fun e2=>by have:=(h.o.s.lt j e2.symm).1;omega
theorem OpS.own2(h:OpS w W B v1 v2 x s){j:Nat}(hj:j<B+4):some j≠v2.ownBlock:=fun e2=>by have:=(h.o.f.lt j e2.symm).1;omega
theorem OpS.glass(h:OpS w W B v1 v2 x s){s':qa}(hq:GlassAt W' (B+2) s')(hg:W.grownBy W' (some (B+2))):OpS w W' B v1 v2 x s':=by
 have:=h.lt
 exact⟨(hg.block B (by omega) (by simp)).trans h.p,(hg.block (B+1) (by omega) (by simp)).trans h.e,hq,(hg.block (B+3) (by omega) (by simp)).trans h.g,
  ⟨h.o.s.kept hg (.inr (fun e2=>h.own1 (j:=B+2) (by omega) e2.symm)),h.o.f.kept hg (.inr (fun e2=>h.own2 (j:=B+2) (by omega) e2.symm))⟩,h.bel.grown hg (by omega) (fun k hk=>by injection hk with hk;omega)⟩
theorem OpS.throw(h:OpS w W B v1 v2 x s)(hg:W.grownBy W' (some (B+2))):OpJ w B W':=by
 have:=h.lt;exact⟨v1,v2,(hg.block B (by omega) (by simp)).trans h.p,(hg.block (B+1) (by omega) (by simp)).trans h.e,h.bel.grown hg (by omega) (fun k hk=>by injection hk with hk;omega)⟩
theorem OpS.j(h:OpS w W B v1 v2 x s):OpJ w B W:=⟨v1,v2,h.p,h.e,h.bel⟩
theorem OpS.c(h:OpS w W B v1 v2 x s):W.cell? ⟨B,0,none⟩=some v1/\W.cell? ⟨B,1,none⟩=some v2/\W.frozen? ⟨B,0,none⟩=false/\W.frozen? ⟨B,1,none⟩=false:=qk h.p
theorem OpS.gc(h:OpS w W B v1 v2 x s):W.cell? ⟨B+3,0,none⟩=some (.pointer (some ⟨B+2,0,none⟩)):=by rw[cell_of_row _ _ _ _ _ _ h.g];rfl
theorem OpS.gkeep(h:OpS w W B v1 v2 x s)(hg:W.grownBy W' v1.ownBlock):W'.cell? ⟨B+3,0,none⟩=some (.pointer (some ⟨B+2,0,none⟩)):=by
 rw[cell_of_row _ _ _ _ _ _ ((hg.block _ h.lt (h.own1 (by omega))).trans h.g)];rfl
theorem OpS.pushS(h:OpS w W B v1 v2 x s){v1':Value}{d:qa}(hg:W.grownBy W' v1.ownBlock)(hs:W'.ownsRow (B+4) 9 1 v1' (x.ds.length+1) ((x.ds++[d]).map qaE)) :
  OpS w (W'.setCell ⟨B,0,none⟩ v1') B v1' v2 ⟨x.ds++[d],x.fs⟩ s/\W'.heap[B]?=some (.cells #[v1,v2] 33 (0,0)):=by
 have hl:=h.lt;have hP':W'.heap[B]?=some (.cells #[v1,v2] 33 (0,0)):=(hg.block _ (by omega) (h.own1 (by omega))).trans h.p;have hrow:W'.setCell ⟨B,0,none⟩ v1'=W'.setRow B #[v1',v2]:=by rw[setCell_eq_setRow W' B 0 _ _ _ _ hP'];rfl
 rw[hrow]
 have hoth:∀j,j<B+4->j≠B->(W'.setRow B #[v1',v2]).heap[j]?=W.heap[j]?:=fun j hj hne=>by
  rw[setRow_other W' B j _ hne];exact hg.block j (by omega) (h.own1 hj)
 have hf':W'.ownsRow (B+4) 89 5 v2 x.fs.length (qb x.fs):=h.o.f.kept hg (qcx h.o.f h.o.s (by decide));refine⟨⟨setRow_heap _ _ _ _ _ _ hP',(hoth (B+1) (by omega) (by omega)).trans h.e,(hoth (B+2) (by omega) (by omega)).trans h.q,(hoth (B+3) (by omega) (by omega)).trans h.g,⟨?_,qT hf' (fun k hk=>by have:=(hf'.lt k hk).1;omega) _⟩,?_⟩,hP'⟩
 ·have:(x.ds++[d]).length=x.ds.length+1:=by simp
  show (W'.setRow B _).ownsRow (B+4) 9 1 v1' (x.ds++[d]).length _;rw[this];exact qT hs (fun k hk=>by have:=(hs.lt k hk).1;omega) _
 ·exact below_setRow (h.bel.grown hg (by omega) (fun k hk=>by have:=(h.o.s.lt k hk).1;omega)) (by omega) _
theorem OpS.pushF(h:OpS w W B v1 v2 x s){v2':Value}{f:Fil}(hg:W.grownBy W' v2.ownBlock)(hs:W'.ownsRow (B+4) 89 5 v2' (x.fs.length+1) (qb (x.fs++[f]))) :
  OpS w (W'.setCell ⟨B,1,none⟩ v2') B v1 v2' ⟨x.ds,x.fs++[f]⟩ s/\W'.heap[B]?=some (.cells #[v1,v2] 33 (0,0)):=by
 have hl:=h.lt;have hP':W'.heap[B]?=some (.cells #[v1,v2] 33 (0,0)):=(hg.block _ (by omega) (h.own2 (by omega))).trans h.p;have hrow:W'.setCell ⟨B,1,none⟩ v2'=W'.setRow B #[v1,v2']:=by rw[setCell_eq_setRow W' B 1 _ _ _ _ hP'];rfl
 rw[hrow]
 have hoth:∀j,j<B+4->j≠B->(W'.setRow B #[v1,v2']).heap[j]?=W.heap[j]?:=fun j hj hne=>by
  rw[setRow_other W' B j _ hne];exact hg.block j (by omega) (h.own2 hj)
 have hd':W'.ownsRow (B+4) 9 1 v1 x.ds.length (x.ds.map qaE):=h.o.s.kept hg (qcx h.o.s h.o.f (by decide));refine⟨⟨setRow_heap _ _ _ _ _ _ hP',(hoth (B+1) (by omega) (by omega)).trans h.e,(hoth (B+2) (by omega) (by omega)).trans h.q,(hoth (B+3) (by omega) (by omega)).trans h.g,⟨qT hd' (fun k hk=>by have:=(hd'.lt k hk).1;omega) _,?_⟩,?_⟩,hP'⟩
 ·have:(x.fs++[f]).length=x.fs.length+1:=by simp
  show (W'.setRow B _).ownsRow (B+4) 89 5 v2' (x.fs++[f]).length _;rw[this];exact qT hs (fun k hk=>by have:=(hs.lt k hk).1;omega) _
 ·exact below_setRow (h.bel.grown hg (by omega) (fun k hk=>by have:=(h.o.f.lt k hk).1;omega)) (by omega) _
end
theorem qkw(args:Array Value)(w:World):(callFunc 88 args).run Tryz.prog w=.ok (.enter 88 args) w :=
 qbn Tryz.func88 (by kernel_rfl) (by kernel_rfl) args w
theorem qqP{w:World}{ops:Array Oper}{o:Oper}{a:Act}{K:Act->World->Prop}{Q:Exit->Act->World->Prop}{E:Prop}(hgd:o.guard=none)(f:Nat)(x1:Nat)(ts:Array TypeId)
  (ho:o.op=.call { callee:=.value (.func f),args:=#[.tmp x1],argTypes:=ts }) (v1:Value) (h1:a.tmps[x1]?.getD undef=v1)
  (hcall:∀vals w,(callFunc f vals).run Tryz.prog w=.ok (.enter f vals) w) (h:Calls Tryz.prog f #[v1] w fun e w'=>(∃v,e=.returned v/\K (a.put o.dst v) w')\/∃ch,e=.panicked ch/\Q (.panic ch) a w') :
  if Region.wanted o (yielded ops a.tmps)=true then Oper.wp Tryz.prog o a w K Q else E:=by
 have hw:Region.wanted o (yielded ops a.tmps)=true:=by simp[Region.wanted,hgd]
 rw[if_pos hw]
 have hm:=h.mono (R':=fun e w'=>match e,w' with
  | .returned v,w''=>K (a.put o.dst v) w''
  | .panicked chain,w''=>Q (.panic chain) a w''
  | .outgrown,_=>LetsOut Q) (fun e w' h=>by
   rcases h with⟨v,he,hk⟩|⟨ch,he,hk⟩
   ·subst he;exact hk
   ·subst he;exact hk)
 unfold Oper.wp execOp;simp[ho,resolve,invoke,go_sem,h1];rw[hcall];exact hm
def qvc(w:World)(B:Nat)(s:qa)(l:List qa)(W:World):Prop:=s.length+l.length<=16384/\(∀d∈l,d.length<=16384)/\∃v1,OpS w W B v1 (.slice none 0 0) ⟨l,[]⟩ s
theorem qoC(w:World)(B:Nat)(s:qa)(l:List qa)(W:World)(h:qvc w B s l W) :
  Calls Tryz.prog 87 #[.pointer (some ⟨B,0,none⟩),.pointer (some ⟨B+3,0,none⟩)] W fun e w'=>match qcn s with|some (x,r)=>e=.returned (.tuple #[])/\qvc w B r (l++[x]) w'|none=>e=.panicked qdb/\OpJ w B w':=by
 obtain⟨hsl,hdl,v1,h⟩:=h
 obtain⟨A,c,rfl⟩:∃A c,v1=.slice A l.length c:=by
  obtain⟨A,c,_,_,e,_⟩:=h.o.form;exact⟨A,c,e⟩
 have H:=zH h;have HDL:=zH hdl;have C:=zH (fun (V:World) (hV:GlassAt V (B+2) s)=>qde (B+2) s V hV (by omega));obtain⟨R,hR⟩:∃R,R=qcn s:=⟨_,rfl⟩
 have hRl:∀x r,R=some (x,r)->r.length<s.length/\x.length<=16384:=fun x r e=>by
  have e2:qcn s=some (x,r):=by rw[<-hR,e]
  refine⟨qkE e2,?_⟩;have:=qdN e2;rw[this,zL]at hsl;unfold qQ at hsl;rw[zL]at hsl;omega
 rw[<-hR];rw[<-hR]at C;have HRL:=zH hRl;obtain⟨p0,p1,p2,p3⟩:=h.drew.c;have pg:=h.drew.gc;clear h hdl hR hRl;go_enter Tryz.func87,Tryz.ntmps87;go_wp2_with fail;refine AnyK.begin (fun W=>W.cell? ⟨B,0,none⟩=some (.slice A l.length c)/\W.cell? ⟨B+3,0,none⟩=some (.pointer (some ⟨B+2,0,none⟩))) 7 8 (by kernel_rfl) rfl ?_;have hsd:=And.intro p0 pg;refine AnyK.t 0 8 ?_ hsd ?_ ?_
 rotate_left
 ·intro W hSw
  try dsimp only at hSw
  go_simp
  try with_reducible rfl
 refine AnyK.t 1 8 ?_ hsd ?_ ?_
 rotate_left
 ·rintro W ⟨hS1,hS2⟩;go_simp
  try with_reducible rfl
 refine AnyK.t 2 8 ?_ hsd ?_ ?_
 rotate_left
 ·rintro W ⟨hS1,hS2⟩;go_simp
  try with_reducible rfl
 refine AnyK.one 3 rfl (by kernel_rfl) (fun K hK=>?_);refine qqP rfl 88 4 _ rfl (.pointer (some ⟨B+2,0,none⟩)) rfl qkw ((zU C _ (zU H).drew.q).mono ?_);rintro rr w4 ⟨hrr,hg4⟩;cases hR:R with
 | none =>
  subst hR;simp only at hrr;subst hrr;refine .inr ⟨_,rfl,?_⟩;exact⟨rfl,rfl,(zU H).drew.throw hg4⟩
 | some xr =>
  obtain⟨x1,r1⟩:=xr;obtain⟨hrl,hxl⟩:=zU HRL x1 r1 hR;subst hR;simp only at hrr;obtain⟨rfl,hq4⟩:=hrr;refine .inl ⟨_,rfl,?_⟩;have A4:=zH ((zU H).drew.glass hq4 hg4);have p4:=And.intro (zU A4).c.1 (zU A4).gc;clear hq4 hg4 hsd p0 p1 p2 p3 pg C HRL;refine AnyK.o hK (fun _=>p4) ?_;clear hK K;refine AnyK.one 4 rfl (by kernel_rfl) (fun K hK=>?_);go_simp;refine AnyK.o hK (fun _=>And.intro ((zU A4).alloc _).c.1 ((zU A4).alloc _).gc) ?_;clear hK K;refine AnyK.one 5 rfl (by kernel_rfl) (fun K hK=>?_);have hlt4:=(zU A4).lt;refine qfL rfl (.tmp 3) (.tmp 6) rfl (B+4) _ l.length l rfl ((zU A4).alloc _).o.s x1 w4.heap.size rfl (heap_alloc_new _ _) (by omega) (by simp;omega) ?_;intro A7 c7 w7 hown7 hg7;have hpush:=OpS.pushS ((zU A4).alloc _) hg7 hown7;have HPUSH:=zH hpush;obtain⟨u0,u1,u2,u3⟩:=qk hpush.2;have ug:=OpS.gkeep ((zU A4).alloc _) hg7;clear hown7 hg7 hpush p4;have hs7:=And.intro u0 ug;refine AnyK.o hK (fun _=>hs7) ?_;clear hK K;refine AnyK.t 6 8 ?_ hs7 ?_ ?_
  rotate_left
  ·intro W hSw
   try dsimp only at hSw
   go_simp
   try with_reducible rfl
  refine AnyK.one 7 rfl (by kernel_rfl) (fun K hK=>?_);go_simp;refine AnyK.o hK (fun h=>absurd h (by decide)) ?_;clear hK K hs7;refine AnyK.done (by kernel_rfl) ?_;clear u0 u1 u2 u3 ug;go_wp2_with fail;go_end0
  exact⟨rfl,by rw[zL];simp;omega,fun d hd=>by
   rcases List.mem_append.1 hd with hd|hd
   ·exact zU HDL d hd
   ·obtain rfl:=List.mem_singleton.1 hd;omega,_,(zU HPUSH).1⟩
end
end Go.Proofs.YtbnmfdlaabdlhaaGreatDoor
