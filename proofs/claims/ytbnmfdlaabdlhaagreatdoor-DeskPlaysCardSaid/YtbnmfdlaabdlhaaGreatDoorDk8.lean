/- Parts of the proofs. -/
import Derived.Test.YtbnmfdlaabdlhaaGreatDoorDk7
import Derived.Maps.OwnSet
import Derived.DeepKeys4
import Derived.Deep.OwnRows
set_option maxHeartbeats 16000000
set_option maxRecDepth 100000
namespace Go.Proofs.YtbnmfdlaabdlhaaGreatDoor
section
open Go.RowKit Go.Lib Pl
attribute [local go_sem] qf qe
def qnX(dict text:qa):Nat:=if 256<dict.length\/512<text.length then 2 else 0
def qnW(dict text:qa):qa:=if 256<dict.length\/512<text.length then []else qfM dict text
inductive Which (text s:qa) (best:qa):Prop where
 | a0:s=[]->¬s.length<text.length->qbe text s=0::text->best=0::text->Which text s best
 | a1:s=[]->s.length<text.length->qbe text s=1::s->best=1::s->Which text s best
 | b0:s≠[]->¬s.length<text.length->(qaR s).length<text.length+1->qbe text s=qaR s->best=qaR s->Which text s best
 | b1:s≠[]->s.length<text.length->(qaR s).length<s.length+1->qbe text s=qaR s->best=qaR s->Which text s best
 | c0:s≠[]->¬s.length<text.length->¬(qaR s).length<text.length+1->qbe text s=0::text->best=0::text->Which text s best
 | c1:s≠[]->s.length<text.length->¬(qaR s).length<s.length+1->qbe text s=1::s->best=1::s->Which text s best
theorem qvd(text s:qa):Which text s (qbe text s):=by
 by_cases h1:s.length<text.length
 ·have e1:qhn text s=1::s:=by unfold qhn;rw[if_pos (by omega)]
  by_cases h2:s=[]
  ·have e2:qbe text s=1::s:=by unfold qbe;rw[if_neg (fun h=>h.1 h2),e1]
   exact .a1 h2 h1 e2 e2
  ·by_cases h3:(qaR s).length<s.length+1
   ·have e2:qbe text s=qaR s:=by unfold qbe;rw[if_pos ⟨h2,by rw[e1];exact h3⟩]
    exact .b1 h2 h1 h3 e2 e2
   ·have e2:qbe text s=1::s:=by unfold qbe;rw[if_neg (fun h=>h3 (by have:=h.2;rw[e1]at this;exact this)),e1]
    exact .c1 h2 h1 h3 e2 e2
 ·have e1:qhn text s=0::text:=by unfold qhn;rw[if_neg (by omega)]
  by_cases h2:s=[]
  ·have e2:qbe text s=0::text:=by unfold qbe;rw[if_neg (fun h=>h.1 h2),e1]
   exact .a0 h2 h1 e2 e2
  ·by_cases h3:(qaR s).length<text.length+1
   ·have e2:qbe text s=qaR s:=by unfold qbe;rw[if_pos ⟨h2,by rw[e1];exact h3⟩]
    exact .b0 h2 h1 h3 e2 e2
   ·have e2:qbe text s=0::text:=by unfold qbe;rw[if_neg (fun h=>h3 (by have:=h.2;rw[e1]at this;exact this)),e1]
    exact .c0 h2 h1 h3 e2 e2
attribute [local go_sem ↓] qba in
theorem qnQ(dict text:qa)(w:World) :
  Calls Tryz.prog 97 #[S dict,S text] w fun e w'=>e=.returned (.tuple #[S (qnW dict text),I (qnX dict text)])/\Below w.heap.size w w':=by
 by_cases hm:256<dict.length\/512<text.length
 ·have e1:qnX dict text=2:=if_pos hm;have e2:qnW dict text=[]:=if_pos hm;rw[e1,e2];have c1:=zH (qrf dict text w hm);clear e1 e2 hm;go_enter Tryz.func97,Tryz.ntmps97;go_wp2_with fail;refine (zU c1).mono ?_;rintro e w1 ⟨rfl,hb1⟩;go_wp2_with fail;go_ret2;exact⟨rfl,hb1⟩
 ·have e1:qnX dict text=0:=if_neg hm;have hd:dict.length<=256:=by omega
  have ht:text.length<=512:=by omega
  have e2:qnW dict text=qbe text (qad (qbd dict text)):=if_neg hm;rw[e1,e2];have c1:=zH (qre dict text w hd ht);have hpl:=qeY hd ht;have hln:(qbd dict text).length<=512:=qcW (by rw[hpl]);have hwp:=qgM hd ht;have c2:=fun (W:World) (A:Option Addr) (n cap:Nat) (h:ToksAt W W.heap.size A n (qbd dict text))=>qr7 dict A n cap _ W h (by omega) (by have:=h.1;omega);rw[hwp]at c2;have hs:=qgT hd ht;obtain⟨s,hse⟩:∃s,s=qad (qbd dict text):=⟨_,rfl⟩
  rw[<-hse]at c2 hs ⊢;have c2:=zH c2;have c3:=fun (W:World)=>qtw s W hs;have hwh:=qvd text s;obtain⟨T,hT⟩:∃T,T=qaR s:=⟨_,rfl⟩
  have k1:[(0:UInt8)].length+text.length<=9223372036854775807:=by simp;omega
  have k2:[(1:UInt8)].length+s.length<=9223372036854775807:=by simp;omega
  have k3:1+text.length<=9223372036854775807:=by omega
  have k4:1+s.length<=9223372036854775807:=by omega
  have k5:text.length+1<=9223372036854775807:=by omega
  have k6:s.length+1<=9223372036854775807:=by omega
  obtain⟨X,hX⟩:∃X,X=qbe text s:=⟨_,rfl⟩
  rw[<-hX]at hwh ⊢;clear hpl hln hse hX e1 e2 hm hwp;cases hwh with
  | a0 hne hlt he hX =>
   subst hne;subst hX;clear he hT;have c3:=zH c3;have i3:text.length=0:=by have:([]:qa).length=0:=rfl;omega
   clear hlt;go_enter Tryz.func97,Tryz.ntmps97;go_wp2_with fail;refine (zU c1).mono ?_;rintro e w1 ⟨⟨v,rfl,A,n,cap,rfl,hat⟩,hb1⟩;have HAT:=zH hat;have H1:=zH hb1;clear hat hb1;go_wp2_with fail;refine (zU c2 _ _ _ _ (zU HAT)).mono ?_;rintro e w2 ⟨rfl,hb2⟩;have H2:=zH ((zU H1).trans (hb2.mono (zU H1).size));clear hb2;go_wp2_with fail;refine (zU c3 _).mono ?_;rintro e w3 ⟨rfl,hb3⟩;have H3:=zH ((zU H2).trans (hb3.mono (zU H2).size));clear hb3;go_wp2_with fail;go_ret2;exact⟨rfl,zU H3⟩
  | a1 hne hlt he hX =>
   subst hne;subst hX;clear he hT;have c3:=zH c3;have i3:0<text.length:=hlt;have i2:(0:Int)<(text.length:Int):=by omega
   clear hlt;go_enter Tryz.func97,Tryz.ntmps97;go_wp2_with fail;refine (zU c1).mono ?_;rintro e w1 ⟨⟨v,rfl,A,n,cap,rfl,hat⟩,hb1⟩;have HAT:=zH hat;have H1:=zH hb1;clear hat hb1;go_wp2_with fail;refine (zU c2 _ _ _ _ (zU HAT)).mono ?_;rintro e w2 ⟨rfl,hb2⟩;have H2:=zH ((zU H1).trans (hb2.mono (zU H1).size));clear hb2;go_wp2_with fail;refine (zU c3 _).mono ?_;rintro e w3 ⟨rfl,hb3⟩;have H3:=zH ((zU H2).trans (hb3.mono (zU H2).size));clear hb3;go_wp2_with fail;go_ret2;exact⟨rfl,zU H3⟩
  | b0 hne hlt hcmp he hX =>
   rw[if_neg hne,decide_eq_true hne,<-hT]at c3;rw[<-hT]at hcmp hX;have c3:=zH c3;have i1:¬(s.length:Int)+1<(text.length:Int)+1:=by omega
   have i2:¬(s.length:Int)<(text.length:Int):=by omega
   have i3:text.length<=s.length:=by omega
   have j1:(T.length:Int)<(text.length:Int)+1:=by omega
   have j2:T.length<text.length+1:=by omega
   have m1:(s == [])=false:=by rw[zB];exact hne
   have m2:(s != [])=true:=by rw[bne_iff_ne];exact hne
   rw[hX];clear hX he hne hcmp hlt hT;go_enter Tryz.func97,Tryz.ntmps97;go_wp2_with fail;refine (zU c1).mono ?_;rintro e w1 ⟨⟨v,rfl,A,n,cap,rfl,hat⟩,hb1⟩;have HAT:=zH hat;have H1:=zH hb1;clear hat hb1;go_wp2_with fail;refine (zU c2 _ _ _ _ (zU HAT)).mono ?_;rintro e w2 ⟨rfl,hb2⟩;have H2:=zH ((zU H1).trans (hb2.mono (zU H1).size));clear hb2;go_wp2_with fail;refine (zU c3 _).mono ?_;rintro e w3 ⟨rfl,hb3⟩;have H3:=zH ((zU H2).trans (hb3.mono (zU H2).size));clear hb3;go_wp2_with fail;go_ret2;exact⟨rfl,zU H3⟩
  | b1 hne hlt hcmp he hX =>
   rw[if_neg hne,decide_eq_true hne,<-hT]at c3;rw[<-hT]at hcmp hX;have c3:=zH c3;have i1:(s.length:Int)+1<(text.length:Int)+1:=by omega
   have i2:(s.length:Int)<(text.length:Int):=by omega
   have j1:(T.length:Int)<(s.length:Int)+1:=by omega
   have j2:T.length<s.length+1:=by omega
   have m1:(s == [])=false:=by rw[zB];exact hne
   have m2:(s != [])=true:=by rw[bne_iff_ne];exact hne
   rw[hX];clear hX he hne hcmp hlt hT;go_enter Tryz.func97,Tryz.ntmps97;go_wp2_with fail;refine (zU c1).mono ?_;rintro e w1 ⟨⟨v,rfl,A,n,cap,rfl,hat⟩,hb1⟩;have HAT:=zH hat;have H1:=zH hb1;clear hat hb1;go_wp2_with fail;refine (zU c2 _ _ _ _ (zU HAT)).mono ?_;rintro e w2 ⟨rfl,hb2⟩;have H2:=zH ((zU H1).trans (hb2.mono (zU H1).size));clear hb2;go_wp2_with fail;refine (zU c3 _).mono ?_;rintro e w3 ⟨rfl,hb3⟩;have H3:=zH ((zU H2).trans (hb3.mono (zU H2).size));clear hb3;go_wp2_with fail;go_ret2;exact⟨rfl,zU H3⟩
  | c0 hne hlt hcmp he hX =>
   rw[if_neg hne,decide_eq_true hne,<-hT]at c3;rw[<-hT]at hcmp;have c3:=zH c3;have i1:¬(s.length:Int)+1<(text.length:Int)+1:=by omega
   have i2:¬(s.length:Int)<(text.length:Int):=by omega
   have i3:text.length<=s.length:=by omega
   have j1:¬(T.length:Int)<(text.length:Int)+1:=by omega
   have j2:¬T.length<text.length+1:=by omega
   have j3:text.length+1<=T.length:=by omega
   have j4:(text.length:Int)+1<=(T.length:Int):=by omega
   have m1:(s == [])=false:=by rw[zB];exact hne
   have m2:(s != [])=true:=by rw[bne_iff_ne];exact hne
   rw[hX];clear hX he hne hcmp hlt hT;go_enter Tryz.func97,Tryz.ntmps97;go_wp2_with fail;refine (zU c1).mono ?_;rintro e w1 ⟨⟨v,rfl,A,n,cap,rfl,hat⟩,hb1⟩;have HAT:=zH hat;have H1:=zH hb1;clear hat hb1;go_wp2_with fail;refine (zU c2 _ _ _ _ (zU HAT)).mono ?_;rintro e w2 ⟨rfl,hb2⟩;have H2:=zH ((zU H1).trans (hb2.mono (zU H1).size));clear hb2;go_wp2_with fail;refine (zU c3 _).mono ?_;rintro e w3 ⟨rfl,hb3⟩;have H3:=zH ((zU H2).trans (hb3.mono (zU H2).size));clear hb3;go_wp2_with fail;go_ret2;exact⟨rfl,zU H3⟩
  | c1 hne hlt hcmp he hX =>
   rw[if_neg hne,decide_eq_true hne,<-hT]at c3;rw[<-hT]at hcmp;have c3:=zH c3;have i1:(s.length:Int)+1<(text.length:Int)+1:=by omega
   have i2:(s.length:Int)<(text.length:Int):=by omega
   have j1:¬(T.length:Int)<(s.length:Int)+1:=by omega
   have j2:¬T.length<s.length+1:=by omega
   have j3:s.length+1<=T.length:=by omega
   have j4:(s.length:Int)+1<=(T.length:Int):=by omega
   have m1:(s == [])=false:=by rw[zB];exact hne
   have m2:(s != [])=true:=by rw[bne_iff_ne];exact hne
   rw[hX];clear hX he hne hcmp hlt hT;go_enter Tryz.func97,Tryz.ntmps97;go_wp2_with fail;refine (zU c1).mono ?_;rintro e w1 ⟨⟨v,rfl,A,n,cap,rfl,hat⟩,hb1⟩;have HAT:=zH hat;have H1:=zH hb1;clear hat hb1;go_wp2_with fail;refine (zU c2 _ _ _ _ (zU HAT)).mono ?_;rintro e w2 ⟨rfl,hb2⟩;have H2:=zH ((zU H1).trans (hb2.mono (zU H1).size));clear hb2;go_wp2_with fail;refine (zU c3 _).mono ?_;rintro e w3 ⟨rfl,hb3⟩;have H3:=zH ((zU H2).trans (hb3.mono (zU H2).size));clear hb3;go_wp2_with fail;go_ret2;exact⟨rfl,zU H3⟩
abbrev qcY:Array Value:=#[S [],.int .i64 0,.int .i64 0,.int .i64 0,S []]
abbrev qdu(f:Fil):Array Value:=#[S f.name,I f.dict,I f.size,I f.sum,S f.block]
theorem qcJ(f:Fil):(qdu f).all (·.oneCell')=true:=all_oneCell_toArray (cs:=qr f) (qch f)
structure PK(A:Option Addr)(n cap:Nat)(A2:Option Addr)(n2 cap2:Nat)(a:Arc)(w W:World)(B:Nat):Prop where
 ab:ABox A n cap A2 n2 cap2 a w W B
 z:W.heap[B+1]?=some (.cells qcY 89 (0,0))
theorem PK.lt{A A2:Option Addr}{n cap n2 cap2:Nat}{a:Arc}{w W:World}{B:Nat}(h:PK A n cap A2 n2 cap2 a w W B):B+1<W.heap.size:=(zE h.z).1
theorem PK.below{A A2:Option Addr}{n cap n2 cap2:Nat}{a:Arc}{w W W1:World}{B:Nat}(h:PK A n cap A2 n2 cap2 a w W B)(hb:Below W.heap.size W W1):PK A n cap A2 n2 cap2 a w W1 B:=⟨h.ab.below hb,(hb.block _ h.lt).trans h.z⟩
theorem PK.new{A A2:Option Addr}{n n2:Nat}{a:Arc}{w:World}(h:ArcIn w A n A2 n2 a)(cap cap2:Nat):PK A n cap A2 n2 cap2 a w ((w.alloc (.cells #[.slice A n cap,.slice A2 n2 cap2] 33)).alloc (.cells qcY 89)) w.heap.size :=
 ⟨(ABox.new h cap cap2).below ((Below.refl _ _).alloc (Nat.le_refl _) _),by have:=heap_alloc_new (w.alloc (.cells #[.slice A n cap,.slice A2 n2 cap2] 33)) (.cells qcY 89);simpa using this⟩
theorem qla(A:Option Addr)(n cap:Nat)(A2:Option Addr)(n2 cap2:Nat)(a:Arc)(name text:qa)(k:Int)(d:qa)(w:World)(h:ArcIn w A n A2 n2 a)(hn:n<=1000000)(h0 : -9223372036854775808<=k)(h1:k<=9223372036854775807)(hd:qL a.ds k=some d)(hdl:d.length<=256)(ht:text.length<=512) :
  Calls Tryz.prog 60 #[qv A n cap A2 n2 cap2,S name,S text,I k] w fun e w'=>e=.returned (qfn (qy a.ds name text k))/\Below w.heap.size w w':=by
 obtain⟨B,hB⟩:∃B,B=w.heap.size:=⟨_,rfl⟩
 obtain⟨w0,hw0⟩:∃w0,w0=(w.alloc (.cells #[.slice A n cap,.slice A2 n2 cap2] 33)).alloc (.cells qcY 89):=⟨_,rfl⟩
 have H0:=zH (show PK A n cap A2 n2 cap2 a w w0 B by rw[hw0,hB];exact PK.new h cap cap2);have c1:=qkC A n cap A2 n2 cap2 a k w0 (zU H0).ab.i (by omega) h0 h1;rw[hd]at c1;have c2:=fun (W:World)=>qnQ d text W;rw[show qnW d text=qfM d text from if_neg (by omega),show qnX d text=0 from if_neg (by omega)]at c2;have c3:=fun (W:World)=>(qqj text W (by omega)).mono fun e w' ⟨h1,h2⟩=>(⟨h1,h2.symm⟩:e=Ending.returned (I (qaF text))/\w'=W)
 have hf:qy a.ds name text k=⟨name,k,text.length,(qaF text:Nat),qfM d text⟩:=by unfold qy;rw[hd];rfl
 rw[hf];obtain⟨b,hb⟩:∃b,b=qfM d text:=⟨_,rfl⟩
 obtain⟨s,hs⟩:∃s,s=qaF text:=⟨_,rfl⟩
 rw[<-hb]at c2 ⊢;rw[<-hs]at c3 ⊢;have C1:=zH c1;have C2:=zH c2;have C3:=zH c3;have HB:=zH hB;have HW0:=zH hw0;clear c1 c2 c3 hB hw0 h hd hf hb hs;go_enter Tryz.func60,Tryz.ntmps60;go_upto_region 1 with fail
 rw[<-zU HW0,<-zU HB];obtain⟨q0,q1⟩:=(zU H0).ab.c;go_wp2_with fail;refine (zU C1).mono ?_;rintro e w1 ⟨rfl,hb1⟩;have H1:=zH ((zU H0).below hb1);clear hb1 q0 q1;go_wp2_with fail;refine (zU C2 _).mono ?_;rintro e w2 ⟨rfl,hb2⟩;have H2:=zH ((zU H1).below hb2);clear hb2;go_wp2_with fail;refine (zU C3 _).mono ?_;rintro e w3 ⟨rfl,rfl⟩;go_wp2_with (refine wpList_store_row rfl 89 (.tmp 8) (.tmp 32) rfl (B+1) (qdu ⟨name,k,text.length,s,b⟩) rfl rfl 89 _ (zU H2).z qcs rfl (qcJ _) ?_);refine bodyPost_ret (results_cell_row rfl _ _ (B+1) 89 (qdu ⟨name,k,text.length,s,b⟩) (0,0) _ rfl (setRow_heap _ _ _ _ _ _ (zU H2).z) Tryz.underlying89 rfl qcs) rfl ⟨rfl,?_⟩;rw[<-zU HB];exact below_setRow (zU H2).ab.bel (by omega) _
attribute [local go_sem] World.cell?_alloc_some in
theorem qtr(f:Fil)(name:qa)(w:World):Calls Tryz.prog 100 #[qfn f,S name] w fun e w'=>e=.returned (I (qeB f.name name))/\Below w.heap.size w w':=by
 have C1:=zH (fun (a b:qa) (W:World)=>qlG a b W);have HB:=zH (fun (o:Obj)=>(Below.refl w.heap.size w).alloc (Nat.le_refl _) o);go_enter Tryz.func100,Tryz.ntmps100;go_wp2_with fail;refine (zU C1 _ _ _).mono ?_;rintro e w1 ⟨rfl,rfl⟩;go_wp2_with fail;go_ret;exact⟨rfl,zU HB _⟩
theorem quZ{a b:qa}(h:qs a b=true):qeB a b = -1:=by unfold qeB;rw[if_pos h]
theorem qjW{a b:qa}(h:qs a b=false):qeB a b=if a=b then 0 else 1:=by unfold qeB;rw[if_neg (by rw[h];simp)]
theorem qqa(A:Option Addr)(n cap:Nat)(l:List Fil)(name:qa)(w:World)(hl:filsAt w w.heap.size A n l)(hn:n<=1000000)(ha:Asc l) :
  Calls Tryz.prog 99 #[.slice A n cap,S name,.func (.func 100) #[] #[]] w fun e w'=>e=.returned (.tuple #[I (qa1 name l),.bool (qaU name l)])/\Below w.heap.size w w':=by
 have C1:=zH (fun (f:Fil) (W:World)=>qtr f name W);have HA:=zH ha;have hln:=hl.1;obtain⟨B,hB⟩:∃B,B=w.heap.size:=⟨_,rfl⟩
 rw[<-hB]at hl ⊢;have HB:=zH hB;have h0:Below B w w:=by rw[hB];exact Below.refl _ _
 have HL:=zH hl;clear hB ha hl;go_enter Tryz.func99,Tryz.ntmps99;go_wp2_with fail;go_loopw [9,10,11] (fun i j _ wr=>∃p q:Nat,p<=q/\q<=n/\i=.int .i64 p/\j=.int .i64 q/\Below B w wr/\(∀k f,k<p->l[k]?=some f->qs f.name name=true)/\(∀k f,q<=k->l[k]?=some f->qs f.name name=false)) (fun i j _ _=>(intOf j).toNat-(intOf i).toNat)
 case atStart=>exact⟨0,n,by omega,by omega,rfl,rfl,h0,fun k f hk=>by omega,fun k f hk hf=>by have:=(List.getElem?_eq_some_iff.1 hf).1;omega⟩
 case round =>
  obtain⟨p,q,hpq,hqn,rfl,rfl,hbel,hlow,hhigh⟩:=hrel;have HBEL:=zH hbel;have HLO:=zH hlow;have HHI:=zH hhigh;have hfil:=(zU HL).below hbel;clear hbel hlow hhigh
  by_cases hlt:p<q
  ·obtain⟨m,hm⟩:∃m,m=(p+q) / 2:=⟨_,rfl⟩
   have hmq:m<q:=by omega
   have hpm:p<=m:=by omega
   obtain⟨b,off,f,rfl,hb,hf,x0,x1,x2,x3,x4⟩:=hfil.at_ (k:=m) (by omega);have z1:((p:Int)+(q:Int)) / 2<(n:Int):=by omega
   have z2:(0:Int)<=((p:Int)+(q:Int)) / 2:=by omega
   cases hless:qs f.name name with
   | true =>
    have C2:=zH (show ∀W:World,Calls Tryz.prog 100 #[qfn f,S name] W fun e w'=>e=.returned (I (-1))/\Below W.heap.size W w' from fun W=>by have:=zU C1 f W;rw[quZ hless]at this;exact this)
    have hlow2:∀k g,k<m+1->l[k]?=some g->qs g.name name=true:=by
     intro k g hk hg
     by_cases hkm:k=m
     ·subst hkm;rw[hf]at hg;cases hg;exact hless
     ·have hk1:=(List.getElem?_eq_some_iff.1 hg)
      have hk2:=(List.getElem?_eq_some_iff.1 hf)
      have:=List.pairwise_iff_getElem.1 (zU HA) k m hk1.1 hk2.1 (by omega);rw[hk1.2,hk2.2]at this;exact qcG this hless
    have HLO2:=zH hlow2;clear hless hf hlow2;subst hm;go_wp2_with fail;refine (zU C2 _).mono ?_;rintro e w1 ⟨rfl,hb1⟩;have H1:=zH ((zU HBEL).trans (hb1.mono (by have e5:=(zU HBEL).size;have e6:=zU HB;omega)));clear hb1;go_wp2_with fail;go_roundw
    case rel=>exact⟨(p+q) / 2+1,q,by omega,hqn,by go_num,rfl,zU H1,zU HLO2,zU HHI⟩
    case measure=>simp[intOf];omega
   | false =>
    have C2:=zH (show ∀W:World,Calls Tryz.prog 100 #[qfn f,S name] W fun e w'=>(e=.returned (I 0)\/e=.returned (I 1))/\Below W.heap.size W w' from fun W=>by
     have:=zU C1 f W;rw[qjW hless]at this;refine this.mono fun e w' ⟨h1,h2⟩=>⟨?_,h2⟩
     by_cases h:f.name=name
     ·rw[if_pos h]at h1;exact .inl h1
     ·rw[if_neg h]at h1;exact .inr h1)
    have hhi2:∀k g,m<=k->l[k]?=some g->qs g.name name=false:=by
     intro k g hk hg
     by_cases hkm:k=m
     ·subst hkm;rw[hf]at hg;cases hg;exact hless
     ·have hk1:=(List.getElem?_eq_some_iff.1 hg)
      have hk2:=(List.getElem?_eq_some_iff.1 hf)
      have:=List.pairwise_iff_getElem.1 (zU HA) m k hk2.1 hk1.1 (by omega);rw[hk1.2,hk2.2]at this;rw[Bool.eq_false_iff];intro h;rw[qcG this h]at hless;cases hless
    have HHI2:=zH hhi2;clear hless hf hhi2;subst hm;go_wp2_with fail;refine (zU C2 _).mono ?_;rintro e w1 ⟨he,hb1⟩;have H1:=zH ((zU HBEL).trans (hb1.mono (by have e5:=(zU HBEL).size;have e6:=zU HB;omega)));clear hb1
    rcases he with rfl|rfl
    all_goals
     go_wp2_with fail;go_roundw
     case rel=>exact⟨p,(p+q) / 2,by omega,by omega,rfl,by go_num,zU H1,zU HLO,zU HHI2⟩
     case measure=>simp[intOf];omega
  ·have hpq2:p=q:=by omega
   subst hpq2;have z0:¬(p:Int)<(p:Int):=by omega
   have hpos:qa1 name l=p:=qqp (by omega) (zU HLO) fun f hf=>zU HHI p f (Nat.le_refl _) hf;have HPOS:=zH hpos;have hth:=qiv name l;rw[hpos]at hth
   by_cases hpn:p<n
   ·obtain⟨b,off,f,rfl,hb,hf,x0,x1,x2,x3,x4⟩:=hfil.at_ (k:=p) hpn;rw[hf]at hth;simp only at hth;have hlf:=zU HHI p f (Nat.le_refl _) hf;have z1:(p:Int)<(n:Int):=by omega
    have C2:=zH (show ∀W:World,Calls Tryz.prog 100 #[qfn f,S name] W fun e w'=>e=.returned (I (if f.name=name then 0 else 1))/\Below W.heap.size W w' from fun W=>by
     have:=zU C1 f W;rw[qjW hlf]at this;exact this)
    by_cases hnm:f.name=name
    ·rw[if_pos hnm]at C2;rw[decide_eq_true hnm]at hth;have HTH:=zH hth;clear hth hf hlf hpos hnm;go_wp2_with fail;refine (zU C2 _).mono ?_;rintro e w1 ⟨rfl,hb1⟩;have H1:=zH ((zU HBEL).trans (hb1.mono (by have e5:=(zU HBEL).size;have e6:=zU HB;omega)));clear hb1;go_wp2_with fail;go_ret2;exact⟨by rw[zU HPOS,zU HTH];rfl,zU H1⟩
    ·rw[if_neg hnm]at C2;rw[decide_eq_false hnm]at hth;have HTH:=zH hth;clear hth hf hlf hpos hnm;go_wp2_with fail;refine (zU C2 _).mono ?_;rintro e w1 ⟨rfl,hb1⟩;have H1:=zH ((zU HBEL).trans (hb1.mono (by have e5:=(zU HBEL).size;have e6:=zU HB;omega)));clear hb1;go_wp2_with fail;go_ret2;exact⟨by rw[zU HPOS,zU HTH];rfl,zU H1⟩
   ·have hnone:l[p]?=none:=List.getElem?_eq_none (by omega);rw[hnone]at hth;simp only at hth;have HTH:=zH hth;have z1:¬(p:Int)<(n:Int):=by omega
    have z3:decide ((p:Int)<(n:Int))=false:=decide_eq_false z1;clear hth hnone hpos;go_wp2_with fail;go_ret2;exact⟨by rw[zU HPOS,zU HTH];rfl,zU HBEL⟩
attribute [local go_sem] World.cell?_alloc_some in
theorem qkA(A:Option Addr)(n cap:Nat)(A2:Option Addr)(n2 cap2:Nat)(a:Arc)(name:qa)(w:World)(h:ArcIn w A n A2 n2 a)(hn:n2<=1000000)(ha:Asc a.fs) :
  Calls Tryz.prog 61 #[qv A n cap A2 n2 cap2,S name] w fun e w'=>e=.returned (.tuple #[I (qa1 name a.fs),.bool (qaU name a.fs)])/\Below w.heap.size w w':=by
 obtain⟨w0,hw0⟩:∃w0,w0=w.alloc (.cells #[.slice A n cap,.slice A2 n2 cap2] 33):=⟨_,rfl⟩
 have hb0:Below w.heap.size w w0:=by rw[hw0];exact (Below.refl _ _).alloc (Nat.le_refl _) _
 have C1:=zH (qqa A2 n2 cap2 a.fs name w0 (h.f.up hb0) hn ha);have HB:=zH hb0;have HW0:=zH hw0;obtain⟨p,hp⟩:∃p,p=qa1 name a.fs:=⟨_,rfl⟩
 obtain⟨t,ht⟩:∃t,t=qaU name a.fs:=⟨_,rfl⟩
 rw[<-hp,<-ht]at C1 ⊢;clear hb0 hw0 h ha hp ht;go_enter Tryz.func61,Tryz.ntmps61;go_wp2_with fail;rw[<-zU HW0];refine (zU C1).mono ?_;rintro e w1 ⟨rfl,hb1⟩;have H1:=zH ((zU HB).trans (hb1.mono (zU HB).size));clear hb1;go_wp2_with fail;go_ret2;exact⟨rfl,zU H1⟩
theorem qtu(t:qa)(w:World)(ht:t.length<=9223372036854775807):Calls Tryz.prog 93 #[S t] w fun e w'=>e=.returned (.bool (qaX t))/\w=w':=by
 by_cases h:256<t.length
 ·have e1:decide ((t.length:Int) > 256)=true:=by simp;omega
  have hb:qaX t=true:=by unfold qaX;simpa using h
  rw[hb];clear h hb;go_enter Tryz.func93,Tryz.ntmps93;go_wp2_with fail;go_ret;exact⟨rfl,rfl⟩
 ·have e1:decide ((t.length:Int) > 256)=false:=by simp;omega
  have hb:qaX t=false:=by unfold qaX;simpa using h
  rw[hb];clear h hb;go_enter Tryz.func93,Tryz.ntmps93;go_wp2_with fail;go_ret;exact⟨rfl,rfl⟩
def qvR(l:List qa)(e:Ending):Prop:=∃r:Int,e=.returned (.int .i64 r)/\((0<=r/\l.any qaX=true)\/(r = -1/\l.any qaX=false))
theorem qtH{l:List qa}{k:Nat}{t:qa}(h:l[k]?=some t):(l.drop k).any qaX=(qaX t || (l.drop (k+1)).any qaX):=by
 have hk:k<l.length:=(List.getElem?_eq_some_iff.1 h).1;rw[List.drop_eq_getElem_cons hk,List.any_cons];rw[zG hk]at h;injection h with h
 rw[h]
theorem qmd(A:Option Addr)(n cap:Nat)(l:List qa)(w:World)(hl:StrsAt w w.heap.size A n l)(hn:n<=4611686018427387904)(hs:∀t∈l,t.length<=9223372036854775807) :
  Calls Tryz.prog 129 #[.slice A n cap,.func (.func 93) #[] #[]] w fun e w'=>qvR l e/\w=w':=by
 have HS:=zH hs;clear hs;go_enter Tryz.func129,Tryz.ntmps129;go_wp2_with fail;go_loop [5,8] (fun _ i=>∃k:Nat,k<=n/\i=.int .i64 k/\l.any qaX=(l.drop k).any qaX) (fun _ i=>n-(intOf i).toNat)
 case atStart=>exact⟨0,Nat.zero_le _,rfl,by simp⟩
 case round =>
  obtain⟨k,hk,rfl,hs⟩:=hrel;have HA:=zH hs;clear hs
  by_cases hkn:k<n
  ·obtain⟨b,off,t,rfl,hb,ht,q0⟩:=hl.at_ hkn;have C1:=qtu t w (zU HS t (List.mem_of_getElem? ht));have hd:=qtH ht;have HD:=zH hd;clear ht hd;cases hbt:qaX t with
   | true =>
    rw[hbt]at C1;have C1:=zH C1;have HB:=zH hbt;clear hbt;go_wp2_with fail;refine (zU C1).mono ?_;rintro e w1 ⟨rfl,rfl⟩;go_wp2_with fail;go_ret;exact⟨⟨_,rfl,.inl ⟨by omega,by rw[zU HA,zU HD,zU HB];rfl⟩⟩,rfl⟩
   | false =>
    rw[hbt]at C1;have C1:=zH C1;have HB:=zH hbt;clear hbt;go_wp2_with fail;refine (zU C1).mono ?_;rintro e w1 ⟨rfl,rfl⟩;go_wp2_with fail;go_round
    case rel=>exact⟨k+1,by omega,by go_num,by rw[zU HA,zU HD,zU HB];rfl⟩
    case measure=>simp[intOf];omega
  ·have hz:l.any qaX=false:=by rw[zU HA,List.drop_of_length_le (by have:=hl.1;omega)];rfl
   have hk2:decide ((k:Int)<(n:Int))=false:=by simp;omega
   have HZ:=zH hz;clear hz;go_wp2_with fail;go_ret;exact⟨⟨_,rfl,.inr ⟨rfl,zU HZ⟩⟩,rfl⟩
theorem qjr(A:Option Addr)(n cap:Nat)(l:List qa)(w:World)(hl:StrsAt w w.heap.size A n l)(hn:n<=4611686018427387904)(hs:∀t∈l,t.length<=9223372036854775807) :
  Calls Tryz.prog 92 #[.slice A n cap,.func (.func 93) #[] #[]] w fun e w'=>e=.returned (.bool (l.any qaX))/\w=w':=by
 have C1:=zH (qmd A n cap l w hl hn hs);obtain⟨x,hx⟩:∃x,x=l.any qaX:=⟨_,rfl⟩
 rw[<-hx];have HX:=zH hx;clear hx hs;go_enter Tryz.func92,Tryz.ntmps92;go_wp2_with fail;refine (zU C1).mono ?_;rintro e w1 ⟨⟨r,rfl,hr⟩,rfl⟩
 rcases hr with⟨h0,h1⟩|⟨rfl,h1⟩
 ·have hx:x=true:=by rw[zU HX,h1]
  subst hx;clear h1;go_wp2_with fail;go_ret;exact⟨rfl,rfl⟩
 ·have hx:x=false:=by rw[zU HX,h1]
  subst hx;clear h1;go_wp2_with fail;go_ret;exact⟨rfl,rfl⟩
end
section
open Go.RowKit Go.Lib Pl
theorem qq7{l:List Int}{b:qa}{n:Int}(h:qaZ l b n≠0):qbc l b n=[]:=by unfold qbc;rw[if_pos h]
theorem qwl(c:UInt8):bits .and .i64 (c.toNat:Int) 15=((c.toNat % 16:Nat):Int):=by
 have h:∀y:Fin 256,bits .and .i64 (y.val:Int) 15=((y.val % 16:Nat):Int):=by decide +kernel
 exact h ⟨c.toNat,c.toNat_lt⟩
theorem qu8(c:UInt8):bits .and .i64 ((c.toNat:Int) / 16) 15=((c.toNat / 16:Nat):Int):=by
 have h:∀y:Fin 256,bits .and .i64 ((y.val:Int) / 16) 15=((y.val / 16:Nat):Int):=by decide +kernel
 exact h ⟨c.toNat,c.toNat_lt⟩
def qcm(L:List Int)(k:Nat):List Int:=Lf fun i=>if i<k then L.getD i 0 else 0
theorem qjT(L:List Int):qcm L 0=Lf fun _=>0:=qcp fun i _=>if_neg (by omega)
theorem qls{L:List Int}(h:L.length=16):qcm L 16=L:=by
 unfold qcm Lf;refine List.ext_getElem? fun i=>?_
 by_cases hi:i<16
 ·rw[List.getElem?_map,List.getElem?_range hi];simp only[Option.map_some,hi,if_true];rw[List.getD_eq_getElem?_getD,zG (by omega)];rfl
 ·rw[List.getElem?_eq_none (by simp;omega),List.getElem?_eq_none (by omega)]
theorem qek{L:List Int}{k:Nat}{x:Int}(h:L[k]?=some x):(qcm L k).set k x=qcm L (k+1):=by
 unfold qcm;rw[qhd];refine qcp fun i _=>?_
 by_cases e:i=k
 ·subst e;rw[if_pos rfl,if_pos (by omega),List.getD_eq_getElem?_getD,h];rfl
 ·rw[if_neg e]
  by_cases h1:i<k
  ·rw[if_pos h1,if_pos (by omega)]
  ·rw[if_neg h1,if_neg (by omega)]
theorem qf1(L:List Int)(k:Nat):(qcm L k).length=16:=qab _
def qmn(o:Option qa)(e:Ending):Prop:=(∃t,o=some t/\e=.returned (.tuple #[S t,I 0]))\/(∃k:Nat,o=none/\k≠0/\e=.returned (.tuple #[S [],I (k:Int)]))
end
section
open Go.RowKit Go.Lib Pl Go.ChangeMaps Go.MapKept Go.ChangeShapes
open Go.Maps (Keyed IsMap atKey_put_same atKey_put_other has_put_same has_put_other)
theorem quF:laidOutB Tryz.prog=true:=by kernel_rfl
theorem qv0:(218:TypeId)<Tryz.prog.types.size:=of_decide_eq_true (by kernel_rfl)
theorem qwr:(match Tryz.prog.underlying 218 with|some (.array _ _)|some (.struct _)=>true|_=>false)=true:=by kernel_rfl
theorem qwc:Tryz.prog.keyTypeAt 2 218=true:=by kernel_rfl
theorem keyedW:Keyed Tryz.prog 218:=Keyed.of_law (deep_law_laid quF (m:=2) (by omega) qv0 qwc qwr)
theorem quG:Tryz.prog.keyType 218=true:=by kernel_rfl
theorem qpd:Tryz.prog.cellsOf 218=2:=by kernel_rfl
theorem qvV:∃n,Tryz.prog.types.size=n+1:=Nat.exists_eq_succ_of_ne_zero (Nat.ne_of_gt (Nat.lt_of_le_of_lt (Nat.zero_le _) qv0))
theorem qrS:Tryz.prog.cellsOf 3=1:=by kernel_rfl
theorem qvF(a s:Int):(Value.agg #[.int .i64 a,.int .i64 s]).formed Tryz.prog 218=true:=by
 simp[Value.formed,Tryz.underlying218,qpd]
theorem qwb{a s:Nat}(ha:a<=1000000000)(hs:s<=1000000000):∃kl,keyOf Tryz.prog 218 (.agg #[I a,I s])=some kl:=by
 have w1:(Lit.int .i64 (a:Int)).wf=true:=WalkArith.wf_i64 ⟨by omega,by omega⟩;have w2:(Lit.int .i64 (s:Int)).wf=true:=WalkArith.wf_i64 ⟨by omega,by omega⟩;obtain⟨n,hn⟩:=qvV;refine⟨.string (keyBytes [.int .i64 a,.int .i64 s]),?_⟩;unfold keyOf;rw[Tryz.underlying218];simp only[quG,qvF,Bool.and_self,if_true,hn];simp[Program.keyLits,Tryz.underlying218,Tryz.underlying3,qpd,qrS,Value.cells,w1,w2]
theorem qwa{a s a' s':Nat}{kl kl':Lit}(h:keyOf Tryz.prog 218 (.agg #[I a,I s])=some kl)(h':keyOf Tryz.prog 218 (.agg #[I a',I s'])=some kl')(hne:(a,s)≠(a',s')):kl≠kl':=by
 intro e;subst e;have:=keyedW.inj h h';simp at this;exact hne (by rw[Prod.ext_iff];exact⟨by omega,by omega⟩)
theorem qr5(w:World):(zeroValue 3).run Tryz.prog w=.ok (.int .i64 0) w:=by kernel_rfl
def WordMap(w:World)(b n:Nat)(g:Nat×Nat->Option Nat):Prop :=
 ∃D:DataW Unit,w.ownsMap Tryz.prog 218 (plainElem Tryz.prog 3) b n D/\IsMap D/\∀a s:Nat,a<=1000000000->s<=1000000000->∀kl,keyOf Tryz.prog 218 (.agg #[I a,I s])=some kl->Maps.has D kl=(g (a,s)).isSome/\D.atKey kl (.lit (.int .i64 0))=.lit (.int .i64 ((g (a,s)).getD 0))
theorem WordMap.made(w:World):WordMap (w.alloc (.map #[] 0)) w.heap.size 0 fun _=>none :=
 ⟨.map [],World.ownsMap_made _ _ _ _,Go.Maps.isMap_empty,fun _ _ _ _ _ _=>⟨rfl,rfl⟩⟩
theorem WordMap.lt{w:World}{b n:Nat}{f:Nat×Nat->Option Nat}(h:WordMap w b n f):b<w.heap.size:=by
 obtain⟨D,ho,r⟩:=h;exact ho.lt
theorem WordMap.keep{w w':World}{b n:Nat}{f:Nat×Nat->Option Nat}(h:WordMap w b n f)(hb:w'.heap[b]?=w.heap[b]?):WordMap w' b n f:=by
 obtain⟨D,⟨es,clock,h1,r⟩,r2⟩:=h;exact⟨D,⟨es,clock,hb.trans h1,r⟩,r2⟩
def qtN(g:Nat×Nat->Option Nat)(p s c:Nat)(q:Nat×Nat):Option Nat:=if q=(p,s)then some c else g q
theorem qpq{w:World}{ops:Array Oper}{rest:List Oper}{o:Oper}{a:Act}{Q:Exit->Act->World->Prop}
  (hg:o.guard=none) (m x v:Operand) (hop:o.op=Op.mapUpdate 246 m x v) (b n:Nat) (g:Nat×Nat->Option Nat)
  (hm:a.eval m=.map (some b)) (h:WordMap w b n g) (p s c:Nat) (hx:a.eval x=.agg #[I p,I s]) (hp:p<=1000000000) (hs:s<=1000000000) (hv:a.eval v=I c) (hc:c<=1000000000) (hn:n<=1000000000)
  (hK:∀w',WordMap w' b (n+1) (qtN g p s c)->w.grownBy w' (some b)->wpList Tryz.prog ops Q rest (a.put o.dst undef) w'):wpList Tryz.prog ops Q (o::rest) a w:=by
 obtain⟨D,ho,hD,hr⟩:=h;have hwf:(Lit.int .i64 (c:Int)).wf=true:=WalkArith.wf_i64 ⟨by omega,by omega⟩;obtain⟨kl,hkl⟩:=qwb hp hs;refine wpList_mapUpdate_own w hg m x v _ hop 218 3 keyedW Tryz.underlying246 (plainElem Tryz.prog 3) b n D hm ho (by unfold maxLen;omega) _ _ _ hx hv hkl _ [] (plainElem_int Tryz.underlying3 hwf) ?_;intro w' h1 h2;refine hK w' ⟨_,h1,hD.put _ _,fun a' s' ha' hs' kl' hkl'=>?_⟩ h2;unfold qtN
 by_cases hq:(a',s')=(p,s)
 ·rw[if_pos hq];obtain⟨rfl,rfl⟩:=Prod.ext_iff.1 hq;have:kl'=kl:=by rw[hkl]at hkl';injection hkl' with e;exact e.symm
  subst this;exact⟨has_put_same hD (keyedW.key hkl) _,atKey_put_same hD (keyedW.key hkl) _ _⟩
 ·rw[if_neg hq];have hne:=qwa hkl' hkl hq;rw[has_put_other hne,atKey_put_other hne];exact hr a' s' ha' hs' kl' hkl'
theorem qga{w:World}{ops:Array Oper}{rest:List Oper}{o:Oper}{a:Act}{Q:Exit->Act->World->Prop}
  (hg:o.guard=none) (m x:Operand) (hop:o.op=Op.lookup 246 m x true) (b n:Nat) (g:Nat×Nat->Option Nat)
  (hm:a.eval m=.map (some b)) (h:WordMap w b n g) (p s:Nat) (hx:a.eval x=.agg #[I p,I s]) (hp:p<=1000000000) (hs:s<=1000000000)
  (hK:wpList Tryz.prog ops Q rest (a.put o.dst (.tuple #[I ((g (p,s)).getD 0),.bool (g (p,s)).isSome])) w):wpList Tryz.prog ops Q (o::rest) a w:=by
 obtain⟨D,ho,hD,hr⟩:=h;obtain⟨kl,hkl⟩:=qwb hp hs;obtain⟨h1,h2⟩:=hr p s hp hs kl hkl;refine wpList_plain hg fun K' hK'=>?_;obtain⟨v,ps,hrun,hv⟩:=ho.look_ok keyedW Tryz.underlying246 (qr5 w) (plainElem_int Tryz.underlying3 (by decide)) hkl;obtain⟨c,rfl,hc,_⟩:=plainElem_int_inv Tryz.underlying3 hv;simp only[Prod.mk.injEq]at hc;rw[h2]at hc;have hc2:=hc.1;injection hc2 with hc2;injection hc2 with _ hc2
 subst hc2;rw[h1]at hrun;unfold Oper.wp;simp[execOp,hop,hm,hx,hrun,Result.andThen];exact hK' _ _ hK
def qa9(l:List Int):Nat->Nat×Nat->Option Nat
 | 0,_=>none
 | k+1,q=>if 0<ln l k then (if q=(wv l k,ln l k)then some k else qa9 l k q)else qa9 l k q
theorem qgO{l:List Int}{q:Nat×Nat}{x:Nat} : ∀{k:Nat},qa9 l k q=some x->x<k/\0<ln l x/\q=(wv l x,ln l x)
 | 0,h=>by simp[qa9]at h
 | k+1,h=>by
  rw[qa9]at h
  by_cases h0:0<ln l k
  ·rw[if_pos h0]at h
   by_cases h1:q=(wv l k,ln l k)
   ·rw[if_pos h1]at h;injection h with h;subst h
    exact⟨by omega,h0,h1⟩
   ·rw[if_neg h1]at h;obtain⟨a,b⟩:=qgO h;exact⟨by omega,b⟩
  ·rw[if_neg h0]at h;obtain⟨a,b⟩:=qgO h;exact⟨by omega,b⟩
theorem qjB{l:List Int}{q:Nat×Nat} : ∀{k:Nat},qa9 l k q=none->∀x,x<k->0<ln l x->q≠(wv l x,ln l x)
 | 0,_,x,hx,_=>absurd hx (by omega)
 | k+1,h,x,hx,h0=>by
  rw[qa9]at h
  by_cases e:x=k
  ·subst e;rw[if_pos h0]at h;intro e2;rw[if_pos e2]at h;cases h
  ·refine qjB (k:=k) ?_ x (by omega) h0
   by_cases h1:0<ln l k
   ·rw[if_pos h1]at h
    by_cases h2:q=(wv l k,ln l k)
    ·rw[if_pos h2]at h;cases h
    ·rw[if_neg h2]at h;exact h
   ·rw[if_neg h1]at h;exact h
end
section
open Go.RowKit Go.Lib Pl
attribute [local go_sem] qf qe
theorem CodeAt.keep{l:List Int}{w wr w1:World}{B g M:Nat}(h:CodeAt l w wr B g)(hB:B<M)(hg:g<M)(hb:Below M wr w1):CodeAt l w w1 B g :=
 ⟨(hb.block B hB).trans h.a,(hb.block g hg).trans h.o,h.bel.trans (hb.mono (by omega))⟩
theorem qpr{b:qa}{k:Nat}{c:UInt8}(h:b[k]?=some c):qB (b.take (k+1))=qB (b.take k)++bt c.toNat 8:=by
 rw[List.take_add_one,h,qpt];simp[qB]
theorem qcc(x:qa)(m:Nat):slice x m x.length=x.drop m:=by unfold slice;rw[List.take_length]
theorem qt5{w:World}{base n:Nat}{e:TypeId}{v:Value}{xs:List Value}(h:w.ownsRow base e 1 v (n+1) xs):∃g cap,v=.slice (some ⟨g,0,none⟩) ((n+1:Nat)) cap:=by
 rcases h.2 with⟨_,h0⟩|⟨g,cap,cur,hv,_⟩
 ·exact absurd h0 (by omega)
 ·exact⟨g,cap,hv⟩
theorem qvZ{w:World}{base n cap g:Nat}{e:TypeId}{xs:List Value}(h:w.ownsRow base e 1 (.slice (some ⟨g,0,none⟩) n cap) n xs):base<=g:=(h.lt g rfl).1
theorem qt6{w:World}{base n cap g j:Nat}{e:TypeId}{h0:qa}{c:UInt8}(h:w.ownsRow base e 1 (.slice (some ⟨g,0,none⟩) n cap) n ((h0++[c]).map B))(hj:h0.length=j):w.cell? ⟨g,j,none⟩=some (.int .u8 (c.toNat:Int)):=by
 have hl:=h.1;simp at hl;rw[h.cellAt j (by omega)];subst hj;simp[B]
theorem qvt{w:World}{base n cap g j:Nat}{e:TypeId}{h0:qa}{c d:UInt8}{x:Int}(h:w.ownsRow base e 1 (.slice (some ⟨g,0,none⟩) n cap) n (((h0++[c]).map B).set j (.int .u8 x)))(hj:h0.length=j)(hd:(d.toNat:Int)=x) :
  w.ownsRow base e 1 (.slice (some ⟨g,0,none⟩) n cap) n ((h0++[d]).map B):=by
 subst hj;subst hd;have e:((h0++[c]).map B).set h0.length (.int .u8 (d.toNat:Int))=(h0++[d]).map B:=by simp[B]
 rw[e]at h;exact h
theorem qwj(n:Nat)(w:World)(hn:n<256) :
  Calls Tryz.prog 178 #[I n,.int .i64 8] w fun e w'=>e=.returned (S (qV (bt n 8)))/\Below w.heap.size w w' :=
 qpj 8 n w (by decide) (Nat.le_trans (Nat.le_of_lt hn) (by decide))
attribute [local go_sem ↓] qba in
theorem qiF(l:List Int)(b:qa)(n:Int)(w:World)(hl:l.length=16)(hb:b.length<=4611686018427387904)(hn1 : -9223372036854775808<=n)(hn2:n<=9223372036854775807) :
  Calls Tryz.prog 148 #[A16 l,S b,.int .i64 n] w fun e w'=>e=.returned (.tuple #[S (qbc l b n),I (qaZ l b n)])/\Below w.heap.size w w':=by
 have hz:=qlV;obtain⟨B0,hB⟩:∃B0,B0=w.heap.size:=⟨_,rfl⟩
 obtain⟨w0,hw0⟩:∃w0,w0=w.alloc (.cells (qg l) 168):=⟨_,rfl⟩
 have hx0:BoxAt l w w0 B0:=by rw[hw0,hB];exact BoxAt.boxed l w
 have CK:=qhb l w0 hl;obtain⟨e0,he0⟩:∃e0,e0=qI l:=⟨_,rfl⟩
 rw[<-he0]at CK;have CK:=zH CK;have HE0:=zH he0;have HB:=zH hB;have HW0:=zH hw0;have HX0:=zH hx0;have HL:=zH hl;clear he0 hB hw0 hx0 hl;go_enter Tryz.func148,Tryz.ntmps148
 by_cases h0:e0=0
 ·subst h0;have HR:=zH (qdF (zU HL) (zU HE0).symm)
  by_cases hn:n<0\/1024<n
  ·have C1:=zH (fun (W:World)=>qdy n 0 1024 W (by omega));have HN:=zH hn;clear hn
   go_wp2_with (first
    | (refine qj rfl (.tmp 3) rfl B0 (by rw[zU HB];rfl) l (zU HL) (by rw[<-zU HW0];exact (zU HX0).a) ?_;rw[<-zU HW0,<-zU HB])
    | (go_at_call 177;refine (zU CK).mono ?_;rintro e w1 ⟨rfl,hb1⟩;have HX1:=zH ((zU HX0).below hb1);clear hb1)
    | (go_at_call 110;refine (zU C1 _).mono ?_;rintro e w2 ⟨rfl,rfl⟩))
   go_ret2;obtain⟨e1,e2⟩:=qgQ (b:=b) (zU HE0).symm (zU HN);rw[e1,e2,<-zU HB];exact⟨rfl,(zU HX1).bel⟩
  ·have C1:=zH (fun (W:World)=>qcZ n 0 1024 W ⟨by omega,by omega⟩);have HN:=zH hn;obtain⟨N,rfl⟩:=Int.eq_ofNat_of_zero_le (show 0<=n by omega);have hN:N<=1024:=by omega
   clear hn hn1 hn2
   by_cases hlong:4*N<b.length
   ·have hd1:4*(N:Int)<(b.length:Int):=by omega
    have hres:qaZ l b N=1/\qbc l b N=[]:=by
     cases hd:qb0 l (2*N) (qB b)with
     | none=>exact qeW (zU HE0).symm (zU HN) hd
     | some q=>obtain⟨ks,r⟩:=q;exact qeX (zU HE0).symm (zU HN) hd (quW (zU HR) hlong hd)
    have HRES:=zH hres;clear hres hlong
    go_wp2_with (first
     | (refine qj rfl (.tmp 3) rfl B0 (by rw[zU HB];rfl) l (zU HL) (by rw[<-zU HW0];exact (zU HX0).a) ?_;rw[<-zU HW0,<-zU HB])
     | (go_at_call 177;refine (zU CK).mono ?_;rintro e w1 ⟨rfl,hb1⟩;have HX1:=zH ((zU HX0).below hb1);clear hb1)
     | (go_at_call 110;refine (zU C1 _).mono ?_;rintro e w2 ⟨rfl,rfl⟩))
    go_ret2;rw[(zU HRES).1,(zU HRES).2,<-zU HB];exact⟨rfl,(zU HX1).bel⟩
   ·have hd1:(b.length:Int)<=4*(N:Int):=by omega
    have hb4:b.length<=4096:=by omega
    clear hlong hb
    go_wp2_with (first
     | (refine qj rfl (.tmp 3) rfl B0 (by rw[zU HB];rfl) l (zU HL) (by rw[<-zU HW0];exact (zU HX0).a) ?_;rw[<-zU HW0,<-zU HB])
     | (go_at_call 177;refine (zU CK).mono ?_;rintro e w1 ⟨rfl,hb1⟩;have HX1:=zH ((zU HX0).below hb1);clear hb1)
     | (go_at_call 110;refine (zU C1 _).mono ?_;rintro e w2 ⟨rfl,rfl⟩))
    go_loopw [9,10] (fun a i wr=>∃k:Nat,k<=b.length/\i=.int .i64 k/\a=S (qV (qB (b.take k)))/\BoxAt l w wr B0) (fun _ i _=>b.length-(intOf i).toNat)
    case atStart=>exact⟨0,by omega,rfl,rfl,zU HX1⟩
    case round =>
     obtain⟨k,hk,rfl,rfl,hx⟩:=hrel;have HXR:=zH hx;clear hx
     by_cases hkb:k<b.length
     ·obtain⟨c,hcc⟩:∃c,(⟨b.toArray⟩:ByteArray)[k]'hkb=c:=⟨_,rfl⟩
      have hbc:b[k]?=some c:=by rw[zG hkb];exact congrArg some hcc
      have hnx:=qpr hbc;have hc256:c.toNat<256:=c.toNat_lt;have C2:=zH (fun (W:World)=>qwj c.toNat W c.toNat_lt);obtain⟨bx,hbx⟩:∃bx,bx=qV (qB (b.take k)):=⟨_,rfl⟩
      obtain⟨by',hby⟩:∃by',by'=qV (bt c.toNat 8):=⟨_,rfl⟩
      have hl1:bx.length<=100000:=by rw[hbx,qco,qcb,List.length_take];omega
      have hl2:by'.length<=100:=by rw[hby,qco,qcD];omega
      have k1:bx.length+by'.length<=9223372036854775807:=by omega
      have hall:qV (qB (b.take (k+1)))=bx++by':=by rw[hnx,qgx,hbx,hby]
      rw[<-hby]at C2;rw[<-hbx];have HALL:=zH hall;clear hbc hnx hbx hby hall;go_wp2_with (go_at_call 178;refine (zU C2 _).mono ?_;rintro e w3 ⟨rfl,hb3⟩;have HX3:=zH ((zU HXR).below hb3);clear hb3);go_roundw
      case rel=>exact⟨k+1,by omega,by go_num,by rw[zU HALL],zU HX3⟩
      case measure=>simp[intOf];omega
     ·have hk':k=b.length:=by omega
      subst hk';rw[List.take_length]
      go_wp2_with (first
       | (refine qj rfl (.tmp 3) rfl B0 rfl l (zU HL) (zU HXR).a ?_)
       | (go_at_call 179;refine (qiE l _ (zU HR)).mono ?_;rintro e w4 ⟨rfl,hb4⟩;have HX4:=zH ((zU HXR).below hb4);clear hb4)
       | (refine wpList_store_row rfl 202 (.tmp 11) (.tmp 44) rfl w4.heap.size _ rfl rfl 202 _ (heap_alloc_new _ _) (by rw[qeE,qaw]) (by rw[qaw,qaw]) (qhS _) ?_;obtain⟨w5,hw5⟩:∃w5,w5=(w4.alloc (.cells (qP fun _=>[]) 202)).setRow w4.heap.size (qP fun j=>qV (qS l j)):=⟨_,rfl⟩;obtain⟨g,hg⟩:∃g,g=w4.heap.size:=⟨_,rfl⟩;have HC5:=zH (CodeAt.made (zU HX4));rw[<-hw5,<-hg]at HC5;rw[<-hw5,<-hg];clear hw5 hg))
      obtain⟨M,hM⟩:∃M,M=w5.heap.size:=⟨_,rfl⟩
      have hBM:B0<M:=by rw[hM];exact (zE (zU HC5).a).1
      have hgM:g<M:=by rw[hM];exact (zE (zU HC5).o).1
      have hM1:M<=w5.heap.size:=by omega
      clear hM;obtain⟨i0,hi,hz0,hz1,hz2⟩:=info_parts qdn;go_loopw [9,12,13,14] (fun a v i _ wq=>∃ (q n:Nat) (ks:List Nat) (R:List Bool),i=.int .i64 q/\a=S (qV R)/\DecAt l (qB b) (2*N) q ks R/\wq.ownsRow M 5 1 v n ((qaV ks).map B)/\CodeAt l w wq B0 g/\M<=wq.heap.size) (fun _ _ i _ _=>2*N-(intOf i).toNat)
      case atStart=>exact⟨0,0,[],qB b,rfl,rfl,DecAt.start l _ _,World.ownsRow_nil _ _ _ _,zU HC5,hM1⟩
      case round =>
       obtain⟨q,n,ks,R,rfl,rfl,hdec,hown,hc,hsz⟩:=hrel;have hqN:=hdec.le;have HDEC:=zH hdec;have HC:=zH hc;have hkn:(qaV ks).length=n:=by have:=hown.1;simpa using this
       have hn2:n=(q+1) / 2:=by rw[<-hkn,qey,hdec.len]
       obtain⟨bs,hbs⟩:∃bs,bs=qV R:=⟨_,rfl⟩
       have hRl:R.length<=40000:=by
        have:=hdec.short;rw[qcb]at this;omega
       have hbl:bs.length<=40000:=by rw[hbs,qco];exact hRl
       by_cases hq:q<2*N
       ·have C3:=fun (W:World)=>qto l R W (zU HR) (by omega);have d1:(q:Int)<2*(N:Int):=by omega
        cases hf:qby l R with
        | none =>
         have hdn:=hdec.none hq hf;have hfi:qe5 l R = -1:=by unfold qe5;rw[hf]
         rw[hfi]at C3;have C3:=zH C3;have HDN:=zH hdn;clear hdec hc hf hdn hfi hkn hn2 hbs
         go_wp2_with (first
          | (refine qj rfl (.tmp 3) rfl B0 rfl l (zU HL) (zU HC).a ?_)
          | (refine wpList_load_row rfl 202 (.tmp 11) rfl g rfl 202 _ (0,0) _ (zU HC).o Tryz.underlying202 rfl (by rw[qeE,qaw]) ?_)
          | (go_at_call 180;refine (zU C3 _).mono ?_;rintro e w6 ⟨rfl,hb6⟩;have HC6:=zH ((zU HC).below hb6);clear hb6))
         go_ret2;obtain⟨e1,e2⟩:=qeW (zU HE0).symm (zU HN) (zU HDN);rw[e1,e2,<-zU HB];exact⟨rfl,(zU HC6).bel⟩
        | some k =>
         obtain⟨hk16,hk0,hkp⟩:=qf0 hf;have hfi:qe5 l R=(k:Int):=by unfold qe5;rw[hf]
         rw[hfi]at C3;have hst:=hdec.step hq hf
         have hml:ln l k<=bs.length:=by
          obtain⟨t,ht⟩:=hkp;rw[hbs,qco,<-ht,zL,qac];omega
         have hsl:slice bs (ln l k) bs.length=qV (R.drop (ln l k)):=by rw[qcc,hbs];exact (List.map_drop ..).symm
         have hksf:=hdec.fine;have hkl:=hdec.len;rw[<-hbs]at C3;rw[<-hbs];obtain⟨m,hm⟩:∃m,m=ln l k:=⟨_,rfl⟩
         rw[<-hm]at hml hsl;have C3:=zH C3;have HST:=zH hst;have HSL:=zH hsl;have HM:=zH hm
         by_cases hpar:q % 2=0
         ·have p1:(q:Int).tmod 2=0:=by rw[Int.tmod_eq_emod_of_nonneg (by omega)];omega
          have hev:=qmZ (ks:=ks) (by omega) k;have HEV:=zH hev;have hnb:n<=5000:=by omega
          clear hdec hc hf hkp hfi hst hsl hm hksf hkl hkn hbs hev hn2
          go_wp2_with (first
           | (refine qj rfl (.tmp 3) rfl B0 rfl l (zU HL) (zU HC).a ?_)
           | (refine wpList_load_row rfl 202 (.tmp 11) rfl g rfl 202 _ (0,0) _ (zU HC).o Tryz.underlying202 rfl (by rw[qeE,qaw]) ?_)
           | (go_at_call 180;(refine (zU C3 _).mono ?_;rintro e w6 ⟨rfl,hb6⟩;have HC6:=zH ((zU HC).below hb6);have hown6:=qo hown hb6;have hsz6:M<=w6.heap.size:=Nat.le_trans hsz hb6.size;have hc1:=(zU HC6).len (zU HR) hk16;rw[<-zU HM]at hc1;clear hb6))
           | (at_builtin;refine qdh rfl _ _ _ rfl M 5 i0 _ 1 Tryz.underlying37 hi hz0 hz1 hz2 rfl _ _ _ rfl hown6 _ _ rfl rfl ?_ ?_ hsz6 ?_;(unfold maxLen;omega);omega;intro v' w' hown' hb hg;have HC7:=zH ((zU HC6).keep hBM hgM hb);have hsz7:M<=w'.heap.size:=Nat.le_trans hsz6 hb.size;have hown7:=qgo (UInt8.ofNat (16*k)) hown' (by rw[ofNat_toNat (by omega)];omega);rw[<-zU HEV]at hown7;clear hown' hb hg))
          go_roundw
          case rel=>exact⟨q+1,n+1,ks++[k],R.drop (ln l k),by go_num,by rw[zU HSL,zU HM],zU HST,hown7,zU HC7,hsz7⟩
          case measure=>simp[intOf];omega
         ·have p1:(q:Int).tmod 2=1:=by rw[Int.tmod_eq_emod_of_nonneg (by omega)];omega
          obtain⟨h0,x,hx16,hh1,hh2,hh3⟩:=qoW (ks:=ks) (by omega) (fun k hk=>(hksf k hk).1) k;have hj:h0.length=q / 2:=by rw[hh3,hkl]
          obtain⟨j,hjj⟩:∃j,j=q / 2:=⟨_,rfl⟩
          rw[<-hjj]at hj;obtain⟨n',hn'⟩:∃n',n=n'+1:=⟨n-1,by omega⟩
          subst hn';obtain⟨g2,cap,rfl⟩:=qt5 hown;have hjn:j<n'+1:=by omega
          have hj5:j<=5000:=by omega
          have hjn2:(j:Int)<(n':Int)+1:=by omega
          have hjn3:(j:Int)<((n'+1:Nat):Int):=by omega
          have q1:(q:Int).tdiv 2=(j:Int):=by rw[Int.tdiv_eq_ediv_of_nonneg (by omega)];omega
          have q2:IntKind.i64.wrap ((q:Int) / 2)=(j:Int):=by
           have e:(q:Int) / 2=(j:Int):=by omega
           rw[e];exact IntWalk.i64_in _ ⟨by omega,by omega⟩
          rw[hh1]at hown;have hx2:((UInt8.ofNat (16*x)).toNat:Int)=16*(x:Int):=by rw[ofNat_toNat (by omega)];omega
          obtain⟨bx,hbx⟩:∃bx,bx=UInt8.ofNat (16*x):=⟨_,rfl⟩
          rw[<-hbx]at hown hx2;have HH2:=zH hh2;have HX2:=zH hx2;have HJ:=zH hj;have hgM2:M<=g2:=qvZ hown;clear hdec hc hf hkp hfi hst hsl hm hksf hkl hkn hbs hh1 hh2 hh3 hj hjj hbx hx2 hn2
          go_wp2_with (first
           | (refine qj rfl (.tmp 3) rfl B0 rfl l (zU HL) (zU HC).a ?_)
           | (refine wpList_load_row rfl 202 (.tmp 11) rfl g rfl 202 _ (0,0) _ (zU HC).o Tryz.underlying202 rfl (by rw[qeE,qaw]) ?_)
           | (go_at_call 180;refine (zU C3 _).mono ?_;rintro e w6 ⟨rfl,hb6⟩;have HC6:=zH ((zU HC).below hb6);have hown6:=qo hown hb6;have hsz6:M<=w6.heap.size:=Nat.le_trans hsz hb6.size;have hc1:=(zU HC6).len (zU HR) hk16;rw[<-zU HM]at hc1;have hc2:w6.cell? ⟨g2,j,none⟩=some (.int .u8 (16*(x:Int))):=(qt6 hown6 (zU HJ)).trans (by rw[<-zU HX2]);have hc3:=hown6.frozenAt j;clear hb6))
          go_roundw
          case rel =>
           have hst2:=hown6.stored j (.int .u8 (16*(x:Int)+(k:Int)));refine⟨q+1,n'+1,ks++[k],R.drop (ln l k),by go_num,by rw[zU HSL,zU HM],zU HST,?_,(zU HC6).keep hBM hgM ((Below.refl _ _).setCell hgM2 _),by simpa using hsz6⟩;rw[zU HH2];exact qvt hst2.1 (zU HJ) (by rw[ofNat_toNat (k:=16*x+k) (by omega)];omega)
          case measure=>simp[intOf];omega
       ·have hq2:q=2*N:=by omega
        subst hq2;have hdn:=hdec.done;obtain⟨w1',w2',w3'⟩:=qmp (zU HE0).symm hN hdn;obtain⟨o,ho⟩:∃o,o=qaV ks:=⟨_,rfl⟩
        rw[<-ho]at w1' w2' w3' hown;have C4:=zH (fun (W:World)=>qhY l o W (zU HL) (by omega));have hcv:=qdl (P:=Tryz.prog) hown 37 9 Tryz.underlying37 Tryz.underlying5 Tryz.underlying9;obtain⟨t,ht⟩:∃t,t=qan l o:=⟨_,rfl⟩
        rw[<-ht]at C4 w2';have HDN:=zH hdn;have HO:=zH ho;have hnq:¬(((2*N:Nat):Int)<2*(N:Int)):=by omega
        cases hg:qaW R with
        | true =>
         have htb:=w2'.2 hg;have z1:(t == b)=true:=by rw[beq_iff_eq];exact htb
         have z2:(t != b)=false:=by rw[bne_eq_false_iff_eq];exact htb
         obtain⟨e1,e2⟩:=qhj (zU HE0).symm (zU HN) hdn hg;rw[<-ho]at e2;have HE1:=zH e1;have HE2:=zH e2;clear hdec hc hdn w1' w2' w3' ho ht hg htb e1 e2 hkn hn2 hbs
         go_wp2_with (first
          | (refine qj rfl (.tmp 3) rfl B0 rfl l (zU HL) (zU HC).a ?_)
          | (go_at_call 181;refine (zU C4 _).mono ?_;rintro e w6 ⟨rfl,hb6⟩;have HC6:=zH ((zU HC).below hb6);have hcv6:=qdl (P:=Tryz.prog) (qo hown hb6) 37 9 Tryz.underlying37 Tryz.underlying5 Tryz.underlying9;clear hb6))
         go_ret2;rw[zU HE1,zU HE2,<-zU HB];exact⟨rfl,(zU HC6).bel⟩
        | false =>
         have htb:¬t=b:=fun e=>by
          have:=w2'.1 e;rw[hg]at this;cases this
         have z1:(t == b)=false:=by rw[zB];exact htb
         have z2:(t != b)=true:=by rw[bne_iff_ne];exact htb
         obtain⟨e1,e2⟩:=qeX (zU HE0).symm (zU HN) hdn hg;have HE1:=zH e1;have HE2:=zH e2;clear hdec hc hdn w1' w2' w3' ho ht hg htb e1 e2 hkn hn2 hbs
         go_wp2_with (first
          | (refine qj rfl (.tmp 3) rfl B0 rfl l (zU HL) (zU HC).a ?_)
          | (go_at_call 181;refine (zU C4 _).mono ?_;rintro e w6 ⟨rfl,hb6⟩;have HC6:=zH ((zU HC).below hb6);clear hb6))
         go_ret2;rw[zU HE1,zU HE2,<-zU HB];exact⟨rfl,(zU HC6).bel⟩
 ·have z1:((e0:Int) == 0)=false:=by rw[zB];omega
  have z2:((e0:Int) != 0)=true:=by rw[bne_iff_ne];omega
  have H0:=zH h0;clear h0
  go_wp2_with (first
   | (refine qj rfl (.tmp 3) rfl B0 (by rw[zU HB];rfl) l (zU HL) (by rw[<-zU HW0];exact (zU HX0).a) ?_;rw[<-zU HW0,<-zU HB])
   | (go_at_call 177;refine (zU CK).mono ?_;rintro e w1 ⟨rfl,hb1⟩;have HX1:=zH ((zU HX0).below hb1);clear hb1))
  go_ret2;obtain⟨e1,e2⟩:=qhk (l:=l) (b:=b) (n:=n) (by rw[<-zU HE0];exact zU H0);rw[e1,e2,<-zU HE0,<-zU HB];exact⟨rfl,(zU HX1).bel⟩
end
section
namespace Pl
def qbJ(ks:List Nat)(N:Nat):qa:=qaV ks++List.replicate (N-(qaV ks).length) 0
theorem qoA{ks:List Nat}{N:Nat}(h:ks.length<=2*N):(qbJ ks N).length=N:=by
 unfold qbJ;rw[zL,List.length_replicate,qey];omega
theorem qsZ{ks:List Nat}{N:Nat}(h:ks.length=2*N):qbJ ks N=qaV ks:=by
 unfold qbJ;rw[show N-(qaV ks).length=0 from by rw[qey];omega];simp
theorem qs0{ks:List Nat}{N q k:Nat}(h:ks.length=2*q)(hq:q<N):(qbJ ks N)[q]?=some 0/\qbJ (ks++[k]) N=(qbJ ks N).set q (UInt8.ofNat (16*k)):=by
 have hl:(qaV ks).length=q:=by rw[qey];omega
 have hr:List.replicate (N-q) (0:UInt8)=0::List.replicate (N-(q+1)) 0:=by rw[show N-q=(N-(q+1))+1 from by omega,List.replicate_succ]
 unfold qbJ;rw[qmZ (by omega),zL,List.length_singleton,hl,hr];refine⟨?_,?_⟩
 ·rw[List.getElem?_append_right (by omega),hl,Nat.sub_self];rfl
 ·rw[List.set_append_right _ _ (by omega),hl,Nat.sub_self];simp
theorem qun{ks:List Nat}{N q k:Nat}(h:ks.length=2*q+1)(hk:∀x∈ks,x<16):∃a,a<16/\(qbJ ks N)[q]?=some (UInt8.ofNat (16*a))/\qbJ (ks++[k]) N=(qbJ ks N).set q (UInt8.ofNat (16*a+k)):=by
 obtain⟨h0,a,ha,e1,e2,e3⟩:=qoW (show ks.length % 2=1 by omega) hk k;have hl0:h0.length=q:=by omega
 refine⟨a,ha,?_,?_⟩
 ·unfold qbJ;rw[e1,List.append_assoc,List.getElem?_append_right (by omega),hl0,Nat.sub_self];rfl
 ·unfold qbJ;rw[e1,e2,zL,zL,List.length_singleton,List.length_singleton,List.append_assoc,List.append_assoc,List.set_append_right _ _ (by omega),hl0,Nat.sub_self];simp
theorem qnD{l:List Int}(hr:Right l){R:List Bool}{t x:Nat}(ht:t<=R.length)(hx:x<16)(h0:0<ln l x)(hq:(val (R.take t),t)=(wv l x,ln l x)):qby l R=some x:=by
 obtain⟨e1,e2⟩:=Prod.ext_iff.1 hq;simp only at e1 e2
 have hw:qS l x=R.take t:=by
  unfold qS;rw[<-e1,<-e2];have:=qtC (R.take t)
  rwa [List.length_take,Nat.min_eq_left ht]at this
 exact qm2 hr hx h0 (hw ▸ List.take_prefix t R)
theorem qhZ{l:List Int}(hr:Right l){R:List Bool}{x:Nat}(h:qby l R=some x):x<16/\0<ln l x/\ln l x<=R.length/\(val (R.take (ln l x)),ln l x)=(wv l x,ln l x):=by
 obtain⟨h1,h2,h3⟩:=qf0 h;obtain⟨t,ht⟩:=h3;have e:R.take (ln l x)=qS l x:=by rw[<-ht,List.take_append_of_le_length (by rw[qac];omega),List.take_of_length_le (by rw[qac];omega)]
 refine⟨h1,h2,?_,by rw[e,qgA hr h1 h2]⟩;rw[<-ht,zL,qac];omega
theorem qnk{R:List Bool}{s:Nat}{x:Bool}(h:R[s]?=some x):val (R.take (s+1))=2*val (R.take s)+bvT x:=by
 rw[List.take_add_one,h];exact qdz _ _
end Pl
end
section
open Go.RowKit Go.Lib Pl
attribute [local go_sem] qf qe
theorem qwD(c:UInt8)(r:Nat)(hr:r<8):bits .and .i64 ((c.toNat:Int) / 2 ^ (7-r)) 1=(bvT ((bt c.toNat 8)[r]'(by rw[qcD];exact hr)):Int):=by
 have h:∀(y:Fin 256) (k:Fin 8),bits .and .i64 ((y.val:Int) / 2 ^ (7-k.val)) 1=(bvT ((bt y.val 8)[k.val]?.getD false):Int):=by decide +kernel
 have:=h ⟨c.toNat,c.toNat_lt⟩ ⟨r,hr⟩;simp only at this;rw[this,zG (by rw[qcD];exact hr)];rfl
theorem qkO:∀{b:qa} {q r:Nat} {c:UInt8},b[q]?=some c->r<8->(qB b)[8*q+r]?=(bt c.toNat 8)[r]?
 | [],q,r,c,h,_=>by simp at h
 | d::b,0,r,c,h,hr=>by
  simp at h;subst h;rw[qdA,Nat.mul_zero,Nat.zero_add,List.getElem?_append_left (by rw[qcD];exact hr)]
 | d::b,q+1,r,c,h,hr=>by
  rw[qdA,List.getElem?_append_right (by rw[qcD];omega),qcD,show 8*(q+1)+r-8=8*q+r from by omega];exact qkO (by simpa using h) hr
theorem qq6{p q r t:Nat}(h:p=8*q+r)(hr:r<8)(ht:t=7-r)(hb:p<=2000000000000000) :
  (p:Int).tdiv 8=(q:Int)/\(p:Int) / 8=(q:Int)/\(p:Int).tmod 8=(r:Int)/\IntKind.i64.wrap (7-(r:Int))=(t:Int)/\IntKind.i64.wrap ((p:Int)+1)=((p+1:Nat):Int):=by
 refine⟨by rw[Int.tdiv_eq_ediv_of_nonneg (by omega)];omega,by omega,by rw[Int.tmod_eq_emod_of_nonneg (by omega)];omega,?_,?_⟩
 ·rw[show 7-(r:Int)=(t:Int)from by omega];exact IntWalk.i64_in _ ⟨by omega,by omega⟩
 ·rw[show (p:Int)+1=((p+1:Nat):Int)from by omega];exact IntWalk.i64_in _ ⟨by omega,by omega⟩
theorem qjD(Bs Ba:Nat)(b:qa)(p:Nat)(x:Bool)(w:World)(hs:w.cell? ⟨Bs,0,none⟩=some (S b))(ha:w.cell? ⟨Ba,0,none⟩=some (I p))(hf:w.frozen? ⟨Ba,0,none⟩=false)
  (hx:(qB b)[p]?=some x) (hp:p<=2000000000000000) :
  Calls Tryz.prog 220 #[.pointer (some ⟨Bs,0,none⟩),.pointer (some ⟨Ba,0,none⟩)] w fun e w'=>e=.returned (I (bvT x))/\∃q,w'=(w.setCell ⟨Ba,0,none⟩ (I ((p+1:Nat)))).drewN q:=by
 obtain⟨q,r,hpq,hr⟩:∃q r,p=8*q+r/\r<8:=⟨p / 8,p % 8,by omega,by omega⟩
 have hpl:=(List.getElem?_eq_some_iff.1 hx).1;rw[qcb]at hpl;have hq:q<b.length:=by omega
 obtain⟨c,hcc⟩:∃c,(⟨b.toArray⟩:ByteArray)[q]'hq=c:=⟨_,rfl⟩
 have hbc:b[q]?=some c:=by rw[zG hq];exact congrArg some hcc
 have hg:=qkO hbc hr;rw[<-hpq,hx,zG (by rw[qcD];exact hr)]at hg;injection hg with hg
 have hbit:=qwD c r hr;rw[<-hg]at hbit;obtain⟨t,ht⟩:∃t,t=7-r:=⟨_,rfl⟩
 rw[<-ht]at hbit;obtain⟨a1,a2,a3,a4,a5⟩:=qq6 hpq hr ht hp;have ht7:t<=7:=by omega
 obtain⟨z,hz⟩:∃z,z=bvT x:=⟨_,rfl⟩
 rw[<-hz]at hbit ⊢;have hc256:c.toNat<256:=c.toNat_lt;clear hpq hbc hg ht hz hx hpl;go_enter Tryz.func220,Tryz.ntmps220;go_wp2_with fail;go_quiet (fail);go_wp2_with fail;go_ret;exact⟨rfl,_,rfl⟩
theorem qtU{α:Type}{L:List α}{i:Nat}{x y:α}(h1:L[i]?=some x)(h2:L[i+1]?=some y):(L.drop i).take 2=[x,y]:=by
 obtain⟨a1,a2⟩:=List.getElem?_eq_some_iff.1 h1;obtain⟨b1,b2⟩:=List.getElem?_eq_some_iff.1 h2;rw[List.drop_eq_getElem_cons a1,List.drop_eq_getElem_cons b1,a2,b2];rfl
theorem qq0(f:Nat->Nat×Nat)(k:Nat)(hk:k<16)(w:World):(Instr.index 219 (AP f) (.int .i64 k)).run Tryz.prog w=.ok (.agg #[I (f k).1,I (f k).2]) w:=by
 unfold Instr.index;simp[run_underlying Tryz.underlying219,asIntOf,Result.andThen,part,Tryz.isAgg218,Tryz.sizeOf218];rw[if_pos hk];have e:=qtU (L:=(qal f).toList) (i:=k*2) (x:=I (f k).1) (y:=I (f k).2) (by rw[Array.getElem?_toList];exact qgZ f k hk) (by rw[Array.getElem?_toList];exact qgY f k hk);unfold qal at e;simp only at e;rw[e]
structure MapAt(l:List Int)(b:qa)(w wr:World)(B M n:Nat)(g:Nat×Nat->Option Nat):Prop where
 a:wr.heap[B]?=some (.cells (qg l) 168 (0,0))
 s:wr.heap[B+1]?=some (.cells #[S b] 9 (0,0))
 m:WordMap wr M n g
 lt:B+2<=M
 bel:Below B w wr
theorem MapAt.below{l:List Int}{b:qa}{w wr w1:World}{B M n:Nat}{g:Nat×Nat->Option Nat}(h:MapAt l b w wr B M n g)(hb:Below wr.heap.size wr w1):MapAt l b w w1 B M n g:=by
 have s3:=h.m.lt;have s4:=h.lt;exact⟨(hb.block B (by omega)).trans h.a,(hb.block (B+1) (by omega)).trans h.s,h.m.keep (hb.block M s3),s4,h.bel.trans (hb.mono (by omega))⟩
theorem MapAt.mono{l:List Int}{b:qa}{w wr:World}{B M n n':Nat}{g:Nat×Nat->Option Nat}(h:MapAt l b w wr B M n g)(hn:n<=n'):MapAt l b w wr B M n' g:=by
 obtain⟨D,ho,r⟩:=h.m;exact⟨h.a,h.s,⟨D,ho.mono hn,r⟩,h.lt,h.bel⟩
theorem MapAt.alloc{l:List Int}{b:qa}{w wr:World}{B M n:Nat}{g:Nat×Nat->Option Nat}(h:MapAt l b w wr B M n g)(o:Obj):MapAt l b w (wr.alloc o) B M n g:=h.below ((Below.refl _ _).alloc (Nat.le_refl _) _)
theorem MapAt.put{l:List Int}{b:qa}{w wr w1:World}{B M n n':Nat}{g g':Nat×Nat->Option Nat}(h:MapAt l b w wr B M n g)(hm:WordMap w1 M n' g')(hg:wr.grownBy w1 (some M)):MapAt l b w w1 B M n' g':=by
 have s3:=h.m.lt;have s4:=h.lt;refine⟨(hg.block B (by omega) (by intro e;injection e with e;omega)).trans h.a,(hg.block (B+1) (by omega) (by intro e;injection e with e;omega)).trans h.s,hm,s4,?_⟩;exact h.bel.grown hg (by have:=h.bel.size;omega) (fun k hk=>by injection hk with hk;omega)
structure RdSt(l:List Int)(b:qa)(w wr:World)(B0 M G p:Nat)(o:qa):Prop where
 s:wr.heap[B0+1]?=some (.cells #[S b] 9 (0,0))
 m:WordMap wr M 16 (qa9 l 16)
 o:wr.heap[G]?=some (.cells (o.map B).toArray 5 (0,0))
 c:wr.heap[G+1]?=some (.cells #[I p] 3 (0,0))
 bel:Below B0 w wr
 l1:B0+2<=M
 l2:M<G
theorem RdSt.size{l:List Int}{b o:qa}{w wr:World}{B0 M G p:Nat}(h:RdSt l b w wr B0 M G p o):G+2<=wr.heap.size:=(zE h.c).1
theorem RdSt.keep{l:List Int}{b o:qa}{w wr w1:World}{B0 M G p:Nat}(h:RdSt l b w wr B0 M G p o)(hb:Below (G+2) wr w1):RdSt l b w w1 B0 M G p o:=by
 have h1:=h.l1;have h2:=h.l2;exact⟨(hb.block _ (by omega)).trans h.s,h.m.keep (hb.block _ (by omega)),(hb.block _ (by omega)).trans h.o,(hb.block _ (by omega)).trans h.c,h.bel.trans (hb.mono (by omega)),h1,h2⟩
theorem RdSt.setAt{l:List Int}{b o:qa}{w wr:World}{B0 M G p:Nat}(h:RdSt l b w wr B0 M G p o)(p':Nat):RdSt l b w (wr.setCell ⟨G+1,0,none⟩ (I p')) B0 M G p' o:=by
 have h1:=h.l1;have h2:=h.l2;refine⟨(heap_setCell_other _ _ _ _ (by show B0+1≠G+1;omega)).trans h.s,h.m.keep (heap_setCell_other _ _ _ _ (by show M≠G+1;omega)),(heap_setCell_other _ _ _ _ (by show G≠G+1;omega)).trans h.o,?_,h.bel.setCell (by show B0<=G+1;omega) _,h1,h2⟩;rw[heap_setCell_same _ _ _ _ _ _ h.c];rfl
theorem RdSt.setOut{l:List Int}{b o:qa}{w wr:World}{B0 M G p:Nat}(h:RdSt l b w wr B0 M G p o)(q:Nat)(c:UInt8):RdSt l b w (wr.setCell ⟨G,q,none⟩ (.int .u8 (c.toNat:Int))) B0 M G p (o.set q c):=by
 have h1:=h.l1;have h2:=h.l2;refine⟨(heap_setCell_other _ _ _ _ (by show B0+1≠G;omega)).trans h.s,h.m.keep (heap_setCell_other _ _ _ _ (by show M≠G;omega)),?_,(heap_setCell_other _ _ _ _ (by show G+1≠G;omega)).trans h.c,h.bel.setCell (by show B0<=G;omega) _,h1,h2⟩;rw[heap_setCell_same _ _ _ _ _ _ h.o];simp[B,List.map_set]
theorem RdSt.text{l:List Int}{b o:qa}{w wr:World}{B0 M G p:Nat}(h:RdSt l b w wr B0 M G p o):wr.cell? ⟨B0+1,0,none⟩=some (S b):=by rw[cell_of_row _ _ _ _ _ _ h.s];rfl
theorem RdSt.at_{l:List Int}{b o:qa}{w wr:World}{B0 M G p:Nat}(h:RdSt l b w wr B0 M G p o):wr.cell? ⟨G+1,0,none⟩=some (I p):=by rw[cell_of_row _ _ _ _ _ _ h.c];rfl
theorem RdSt.free{l:List Int}{b o:qa}{w wr:World}{B0 M G p:Nat}(h:RdSt l b w wr B0 M G p o):wr.frozen? ⟨G+1,0,none⟩=false:=frozen_of_row _ _ 0 _ _ h.c
theorem RdSt.byte{l:List Int}{b o:qa}{w wr:World}{B0 M G p q:Nat}{c:UInt8}(h:RdSt l b w wr B0 M G p o)(hq:o[q]?=some c):wr.cell? ⟨G,q,none⟩=some (.int .u8 (c.toNat:Int)):=by rw[cell_of_row _ _ _ _ _ _ h.o];simp[hq,B]
theorem qrn(n:Nat):madeCells #[.int .u8 0] n=((List.replicate n (0:UInt8)).map B).toArray:=by
 apply Array.ext_getElem?;intro j
 by_cases hj:j<n
 ·simp[madeCells,hj,B,Nat.mod_one]
 ·simp[madeCells,hj]
def RdIn(l:List Int)(b:qa)(w wr:World)(B0 M G E N p:Nat)(ks:List Nat)(R:List Bool)(f:Value):Prop :=
 (f=.bool false/\∃s,s<=16/\s<=R.length/\(∀t,1<=t->t<=s->qa9 l 16 (val (R.take t),t)=none)/\RdSt l b w wr B0 M G (p+s) (qbJ ks N)/\wr.heap[E]?=some (.cells #[I (val (R.take s)),I s] 218 (0,0))) \/
 (f=.bool true/\∃x,x<16/\qby l R=some x/\RdSt l b w wr B0 M G (p+ln l x) (qbJ (ks++[x]) N)/\∃a s:Nat,wr.heap[E]?=some (.cells #[I a,I s] 218 (0,0)))
def qk2(E:Nat)(f:Value)(wr:World):Nat :=
 match f with
 | .bool true=>0
 | _=>match wr.cell? ⟨E,1,none⟩with
  | some (.int _ n)=>100-n.toNat
  | _=>0
theorem qwy{l:List Int}{b o:qa}{w wr W w7:World}{B0 M G E p p':Nat}{a c:Value}(h:RdSt l b w wr B0 M G p o)(hEG:G+2<=E)(hE:wr.heap[E]?=some (.cells #[a,c] 218 (0,0)))(h7:∃q,w7=(W.setCell ⟨G+1,0,none⟩ (I p')).drewN q)(hW:Below wr.heap.size wr W) :
  RdSt l b w w7 B0 M G p' o/\w7.heap[E]?=some (.cells #[a,c] 218 (0,0)):=by
 have hr:=(h.keep (hW.mono h.size)).setAt p';have hlt:=(zE hE).1;obtain⟨q,rfl⟩:=h7;refine⟨⟨hr.s,hr.m,hr.o,hr.c,zD hr.bel _,hr.l1,hr.l2⟩,?_⟩;show (W.setCell ⟨G+1,0,none⟩ (I p')).heap[E]?=_;rw[heap_setCell_other _ _ _ _ (by show E≠G+1;omega),hW.block E hlt];exact hE
theorem qqn{w7:World}{E:Nat}{a c:Value}(hh:w7.heap[E]?=some (.cells #[a,c] 218 (0,0))):w7.cell? ⟨E,0,none⟩=some a/\w7.cell? ⟨E,1,none⟩=some c/\w7.frozen? ⟨E,0,none⟩=false/\w7.frozen? ⟨E,1,none⟩=false :=
 ⟨by rw[cell_of_row _ _ _ _ _ _ hh];rfl,by rw[cell_of_row _ _ _ _ _ _ hh];rfl,frozen_of_row _ _ _ _ _ hh,frozen_of_row _ _ _ _ _ hh⟩
theorem qwz{l:List Int}{b o:qa}{w w7:World}{B0 M G E p:Nat}{a c:Value}(h:RdSt l b w w7 B0 M G p o)(hEG:G+2<=E)(hE:w7.heap[E]?=some (.cells #[a,c] 218 (0,0)))(x y:Value) :
  RdSt l b w ((w7.setCell ⟨E,0,none⟩ x).setCell ⟨E,1,none⟩ y) B0 M G p o/\((w7.setCell ⟨E,0,none⟩ x).setCell ⟨E,1,none⟩ y).heap[E]?=some (.cells #[x,y] 218 (0,0)):=by
 refine⟨h.keep (((Below.refl _ _).setCell (by exact hEG) _).setCell (by exact hEG) _),?_⟩;rw[heap_setCell_same _ _ _ _ _ _ (heap_setCell_same _ _ _ _ _ _ hE)];rfl
theorem qwn{s:Nat}(h:s<=15):IntKind.i64.wrap ((s:Int)+1)=((s+1:Nat):Int):=IntWalk.i64_in _ ⟨by omega,by omega⟩
theorem qmF{p s r n:Nat}(h:p+r=8*n)(h2:s<r)(h3:n<=140737488355328):p+s<=2000000000000000:=by omega
theorem qv1{p s r n:Nat}(h:p+r=8*n)(h2:s<r):(((p+s:Nat):Int) == 8*(n:Int))=false:=by rw[zB];omega
theorem qtM(R:List Bool){s:Nat}(h:s<=15):val (R.take s)<=32768:=by
 have h1:=qfB (R.take s);have h2:2 ^ (R.take s).length<=2 ^ 15:=Nat.pow_le_pow_right (by decide) (Nat.le_trans (by rw[List.length_take];exact Nat.min_le_left _ _) h);exact Nat.le_of_lt (Nat.lt_of_lt_of_le h1 h2)
theorem RdIn.found{l:List Int}{b:qa}{w wc:World}{B0 M G E N p pp s s1 u i y:Nat}{ks:List Nat}{R:List Bool}{c1:UInt8}(hEG:G+2<=E)(r9:RdSt l b w wc B0 M G (pp+1) (qbJ ks N))(e9:wc.heap[E]?=some (.cells #[I u,I s1] 218 (0,0)))
  (hy:y<16) (hf:qby l R=some y) (hl:s1=ln l y) (hpp:pp=p+s) (hs:s1=s+1) (ha:qbJ (ks++[y]) N=(qbJ ks N).set i c1) :
  RdIn l b w (wc.setCell ⟨G,i,none⟩ (.int .u8 (c1.toNat:Int))).drew B0 M G E N p ks R (.bool true):=by
 have h:=r9.setOut i c1;rw[<-ha,show pp+1=p+ln l y from by omega]at h;refine .inr ⟨rfl,y,hy,hf,⟨h.s,h.m,h.o,h.c,h.bel.drew,h.l1,h.l2⟩,u,s1,?_⟩;show (wc.setCell ⟨G,i,none⟩ (.int .u8 (c1.toNat:Int))).heap[E]?=_;rw[heap_setCell_other _ _ _ _ (by show E≠G;omega)];exact e9
theorem qjC{w:World}{G N:Nat}{o:qa}{t:TypeId}(h:w.heap[G]?=some (.cells (o.map B).toArray t (0,0)))(hN:o.length=N):(convert 37 9 (.slice (some ⟨G,0,none⟩) N N)).run Tryz.prog w=.ok (S o) w:=by
 subst hN;refine run_convert_bytes_back w 37 9 5 _ o.length o Tryz.underlying37 Tryz.underlying5 Tryz.underlying9 ?_
 intro j hj;have e:(⟨G,0,none⟩:Addr).add j=⟨G,j,none⟩:=by unfold Addr.add;split <;> simp_all
 rw[e,cell_of_row _ _ _ _ _ _ h];simp[hj,B]
theorem qoa{p r n:Nat}(h:p+r=8*n)(h2:n<=140737488355328):wrap64 (8*(n:Int)-(p:Int))=8*(n:Int)-(p:Int):=IntWalk.wrap64_in _ ⟨by omega,by omega⟩
theorem qvn{p n:Nat}(h:(p:Int)<8*(n:Int)):8*n-(intOf ((some (I ((p+1:Nat)))).getD undef)).toNat<8*n-(intOf ((some (I p)).getD undef)).toNat:=by
 simp[intOf];omega
theorem qm3{l:List Int}(hr:Right l){R:List Bool}{s:Nat}(hno:∀t,1<=t->t<=s->qa9 l 16 (val (R.take t),t)=none)(hs:R.length<=s\/15<s):qby l R=none:=by
 cases h:qby l R with
 | none=>rfl
 | some x =>
  exfalso
  obtain⟨h1,h2,h3,h4⟩:=qhZ hr h;have h5:=hr.one x;exact qjB (hno (ln l x) h2 (by omega)) x h1 h2 h4
theorem qvx{ks:List Nat}{N k q:Nat}(hl:ks.length=q)(hq:q<2*N)(hk:∀x∈ks,x<16)(hk16:k<16) :
  ∃ (i r:Nat) (c0 c1:UInt8) (y:Nat),q=2*i+r/\i<N/\(qbJ ks N)[i]?=some c0/\qbJ (ks++[k]) N=(qbJ ks N).set i c1/\y<256/\bits .or .u8 (c0.toNat:Int) (y:Int)=(c1.toNat:Int)/\((r=0/\y=k*16)\/(r=1/\y=k)):=by
 have h1:∀y:Fin 256,bits .or .u8 0 (y.val:Int)=(y.val:Int):=by decide +kernel
 have h2:∀a k:Fin 16,bits .or .u8 ((16*a.val:Nat):Int) (k.val:Int)=((16*a.val+k.val:Nat):Int):=by decide +kernel
 rcases (show q % 2=0\/q % 2=1 by omega)with e|e
 ·obtain⟨e1,e2⟩:=qs0 (ks:=ks) (N:=N) (q:=q / 2) (k:=k) (by omega) (by omega);have e3:(UInt8.ofNat (16*k)).toNat=k*16:=by rw[UInt8.toNat_ofNat'];omega
  refine⟨q / 2,0,0,UInt8.ofNat (16*k),k*16,by omega,by omega,e1,e2,by omega,?_,.inl ⟨rfl,rfl⟩⟩;rw[e3];exact h1 ⟨k*16,by omega⟩
 ·obtain⟨a,ha,e1,e2⟩:=qun (ks:=ks) (N:=N) (q:=q / 2) (k:=k) (by omega) hk;have e3:(UInt8.ofNat (16*a+k)).toNat=16*a+k:=by rw[UInt8.toNat_ofNat'];omega
  have e4:(UInt8.ofNat (16*a)).toNat=16*a:=by rw[UInt8.toNat_ofNat'];omega
  refine⟨q / 2,1,UInt8.ofNat (16*a),UInt8.ofNat (16*a+k),k,by omega,by omega,e1,e2,by omega,?_,.inr ⟨rfl,rfl⟩⟩;rw[e3,e4];exact h2 ⟨a,ha⟩ ⟨k,hk16⟩
theorem quo{q i r k y:Nat}(h:q=2*i+r)(hr:(r=0/\y=k*16)\/(r=1/\y=k))(hk:k<16) :
  (q:Int).tdiv 2=(i:Int)/\(q:Int) / 2=(i:Int)/\(q:Int).tmod 2=(r:Int)/\IntKind.u8.wrap (y:Int)=(y:Int)/\(y:Int) % 256=(y:Int):=by
 refine⟨by rw[Int.tdiv_eq_ediv_of_nonneg (by omega)];omega,by omega,by rw[Int.tmod_eq_emod_of_nonneg (by omega)];omega,by rw[IntKind.wrap_u8];omega,by omega⟩
theorem qt2{k:Nat}(hk:k<16):IntKind.i64.wrap ((k:Int)*16)=((k*16:Nat):Int)/\wrap64 ((k:Int)*16)=((k*16:Nat):Int)/\IntKind.i64.wrap (k:Int)=(k:Int)/\wrap64 (k:Int)=(k:Int):=by
 have e:(k:Int)*16=((k*16:Nat):Int):=by omega
 exact⟨by rw[e];exact IntWalk.i64_in _ ⟨by omega,by omega⟩,by rw[e];exact IntWalk.wrap64_in _ ⟨by omega,by omega⟩,IntWalk.i64_in _ ⟨by omega,by omega⟩,IntWalk.wrap64_in _ ⟨by omega,by omega⟩⟩
theorem qgR{wr:World}{E s:Nat}(h:wr.cell? ⟨E,1,none⟩=some (I s)):qk2 E (.bool false) wr=100-s:=by unfold qk2;simp[h]
theorem RdIn.less{wr w':World}{E s:Nat}(h:wr.cell? ⟨E,1,none⟩=some (I s))(hs:s<=15):qk2 E (.bool true) w'<qk2 E (.bool false) wr:=by
 rw[qgR h];show 0<100-s;omega
theorem qwt(R:List Bool){s:Nat}(h:s<=15):val (R.take (s+1))<=65536:=by
 have h1:=qfB (R.take (s+1));have h2:2 ^ (R.take (s+1)).length<=2 ^ 16:=Nat.pow_le_pow_right (by decide) (Nat.le_trans (by rw[List.length_take];exact Nat.min_le_left _ _) (Nat.succ_le_succ h));exact Nat.le_of_lt (Nat.lt_of_lt_of_le h1 h2)
theorem qt7{v z:Nat}(h:v<=32768)(hz:z<=1):∃v2:Nat,IntKind.i64.wrap ((v:Int)*2)=(v2:Int)/\bits .or .i64 (v2:Int) (z:Int)=((2*v+z:Nat):Int):=by
 refine⟨2*v,?_,?_⟩
 ·rw[show (v:Int)*2=((2*v:Nat):Int)from by omega];exact IntWalk.i64_in _ ⟨by omega,by omega⟩
 ·rw[qhA _ _ (by omega) (by omega)]
  congr 1
  have:=Nat.shiftLeft_add_eq_or_of_lt (b:=z) (i:=1) (by omega) v;rw[Nat.shiftLeft_eq,show v*2 ^ 1=2*v from by omega]at this;exact this.symm
theorem qwA{v m:Nat}(h:v<2 ^ m)(hm:m<=15):v<=1000000000:=by
 have h2:2 ^ m<=32768:=Nat.pow_le_pow_right (n:=2) (by decide) hm;exact Nat.le_trans (Nat.le_of_lt (Nat.lt_of_lt_of_le h h2)) (by decide)
theorem qo7(KW:qng)(l:List Int)(b:qa)(n:Int)(w:World)(hl:l.length=16)(hb:b.length<=140737488355328)(hn1 : -9223372036854775808<=n)(hn2:n<=9223372036854775807) :
  Calls Tryz.prog 199 #[A16 l,S b,.int .i64 n] w fun e w'=>e=.returned (.tuple #[S (qbc l b n),I (qaZ l b n)])/\Below w.heap.size w w':=by
 obtain⟨i0,hi,hz0,hz1,hz2⟩:=info_parts qdn;obtain⟨B0,hB⟩:∃B0,B0=w.heap.size:=⟨_,rfl⟩
 obtain⟨w0,hw0⟩:∃w0,w0=(w.alloc (.cells (qg l) 168)).alloc (.cells #[S b] 9):=⟨_,rfl⟩
 have h1:w0.heap[B0]?=some (.cells (qg l) 168 (0,0)):=by subst hB;rw[hw0];exact heap_alloc2_old _ _ _
 have h2:w0.heap[B0+1]?=some (.cells #[S b] 9 (0,0)):=by subst hB;rw[hw0];exact heap_alloc2_new _ _ _
 have h3:Below B0 w w0:=by subst hB;rw[hw0];exact ((Below.refl _ _).alloc (Nat.le_refl _) _).alloc (by simp) _
 have h4:w0.heap.size=B0+2:=by subst hB;rw[hw0];simp
 have CK:=qij l w0 hl;obtain⟨e0,he0⟩:∃e0,e0=qI l:=⟨_,rfl⟩
 rw[<-he0]at CK;have CK:=zH CK;have HE0:=zH he0;have HB:=zH hB;have HW0:=zH hw0;have H1:=zH h1;have H2:=zH h2;have H3:=zH h3;have H4:=zH h4;have HL:=zH hl;have KW:=zH KW;have hmm:∀(w:World),(Instr.makeMap 246 none).run Tryz.prog w=.ok (.map (some w.heap.size)) (w.alloc (.map #[] 0)):=fun _=>rfl;clear he0 hB hw0 h1 h2 h3 h4 hl;go_enter Tryz.func199,Tryz.ntmps199
 by_cases h0:e0=0
 ·subst h0;have HR:=zH (qdF (zU HL) (zU HE0).symm)
  by_cases hn:n<0\/1024<n
  ·have HN:=zH hn
   have hcs:(n<0/\decide (n<0)=true)\/(¬n<0/\decide (n<0)=false/\1024<n):=by
    rcases Int.lt_or_le n 0 with h|h
    ·exact .inl ⟨h,by simpa using h⟩
    ·exact .inr ⟨by omega,by simpa using h,by omega⟩
   clear hn hn1 hn2
   rcases hcs with⟨d1,d2⟩|⟨d1,d2,d3⟩
   all_goals
    go_wp2_with (first
     | (refine qj rfl (.tmp 3) rfl B0 (by rw[zU HB];rfl) l (zU HL) (by rw[<-zU HW0];exact (zU H1)) ?_;rw[<-zU HW0,<-zU HB])
     | (go_at_call 195;refine (zU CK).mono ?_;rintro e w1 ⟨rfl,hb1⟩;have HB1:=zH hb1;clear hb1))
    go_ret2;obtain⟨e1,e2⟩:=qgQ (b:=b) (zU HE0).symm (zU HN);rw[e1,e2,<-zU HB];exact⟨rfl,(zU H3).trans ((zU HB1).mono (by rw[zU H4];omega))⟩
  ·have HN:=zH hn;obtain⟨N,rfl⟩:=Int.eq_ofNat_of_zero_le (show 0<=n by omega);have hN:N<=1024:=by omega
   have n1:¬(N:Int)<0:=by omega
   have n2:¬(1024:Int)<(N:Int):=by omega
   clear hn hn1 hn2
   go_wp2_with (first
    | (refine qj rfl (.tmp 3) rfl B0 (by rw[zU HB];rfl) l (zU HL) (by rw[<-zU HW0];exact (zU H1)) ?_;rw[<-zU HW0,<-zU HB])
    | (go_at_call 195;refine (zU CK).mono ?_;rintro e w1 ⟨rfl,hb1⟩;have HB1:=zH hb1;clear hb1)
    | (refine qj rfl (.tmp 3) rfl B0 rfl l (zU HL) (by exact (Below.heap_alloc _ _ _ (by have:=zU H4;have:=(zU HB1).size;omega)).trans (((zU HB1).block B0 (by have:=zU H4;omega)).trans (zU H1))) ?_)
    | (go_at_call 196;refine (zU KW l _ (zU HR)).mono ?_;rintro e w2 ⟨rfl,hb2⟩;have HB2:=zH hb2;clear hb2))
   obtain⟨M,hM⟩:∃M,M=w1.heap.size:=⟨_,rfl⟩
   have hs1:=(zU HB1).size;rw[zU H4]at hs1
   have hma:MapAt l b w w2 B0 M 0 (qa9 l 0):=by
    refine MapAt.below ?_ (zU HB2);rw[hM];have hB1:=zU HB1;exact⟨(Below.heap_alloc _ _ _ (by omega)).trans ((hB1.block B0 (by rw[zU H4];omega)).trans (zU H1)),(Below.heap_alloc _ _ _ (by omega)).trans ((hB1.block (B0+1) (by rw[zU H4];omega)).trans (zU H2)),WordMap.made w1,hs1,((zU H3).trans (hB1.mono (by rw[zU H4];omega))).alloc (by omega) _⟩
   rw[<-hM];have HMA:=zH hma;have hMB:B0+2<=M:=by omega
   clear hs1 hM hma;go_loopw [10,11,33] (fun _ _ i wr=>∃k:Nat,k<=16/\i=.int .i64 k/\MapAt l b w wr B0 M k (qa9 l k)) (fun _ _ i _=>16-(intOf i).toNat)
   case atStart=>exact⟨0,by omega,rfl,zU HMA⟩
   case round =>
    obtain⟨k,hk,rfl,hma⟩:=hrel;have HMK:=zH hma;clear hma
    by_cases hk16:k<16
    ·have hix:=fun (W:World)=>qq0 (fun j=>(wv l j,ln l j)) k hk16 W
     have hsg:qa9 l (k+1)=if 0<ln l k then qtN (qa9 l k) (wv l k) (ln l k) k else qa9 l k:=by
      funext q
      rw[qa9]
      by_cases e:0<ln l k
      ·rw[if_pos e,if_pos e];rfl
      ·rw[if_neg e,if_neg e]
     have hwvl:0<ln l k->wv l k<2 ^ ln l k:=fun h=>qnT (zU HR) hk16 h;have hm15:=(zU HR).one k;simp only at hix;obtain⟨m,hm⟩:∃m,m=ln l k:=⟨_,rfl⟩
     obtain⟨v,hv⟩:∃v,v=wv l k:=⟨_,rfl⟩
     rw[<-hm,<-hv]at hix hsg hwvl;rw[<-hm]at hm15
     by_cases hm0:0<m
     ·rw[if_pos hm0]at hsg;have hvb:v<=1000000000:=qwA (hwvl hm0) hm15;have HSG:=zH hsg;clear hsg hwvl hm hv;go_wp2_with (at_mapUpdate;refine qpq rfl _ _ _ rfl M k (qa9 l k) rfl (((zU HMK).alloc _).m) v m k rfl hvb (by omega) rfl (by omega) (by omega) ?_;intro w' hm' hg');go_roundw
      case rel=>exact⟨k+1,by omega,by go_num,by rw[zU HSG];exact ((zU HMK).alloc _).put hm' hg'⟩
      case measure=>exact qjf hk16
     ·rw[if_neg hm0]at hsg;have HSG:=zH hsg;clear hsg hwvl hm hv;go_wp2_with fail;go_roundw
      case rel=>exact⟨k+1,by omega,by go_num,by rw[zU HSG];exact ((zU HMK).mono (by omega)).alloc _⟩
      case measure=>exact qjf hk16
    ·have hk':k=16:=by omega
     rw[hk']at HMK;have hk17:¬(k:Int)<16:=by omega
     clear hk' hk hk16;have hmk:=fun (W:World)=>run_make_row' (P:=Tryz.prog) 37 5 (.int .u8 0) 1 Tryz.underlying37 qdn rfl .i64 .i64 N (by omega) (by omega) W;have hmf:∀(fn:Fn) (first cap:Array Value) (w:World),(Instr.makeFunc fn first cap).run Tryz.prog w=.ok (.func fn first cap) w:=fun _ _ _ _=>rfl;go_wp2_with fail;obtain⟨G,hG⟩:∃G,G=wr.heap.size:=⟨_,rfl⟩
     obtain⟨w4,hw4⟩:∃w4,w4=(wr.alloc (.cells (madeCells #[.int .u8 0] N) 5)).alloc (.cells #[.int .i64 0] 3):=⟨_,rfl⟩
     have hrd:RdSt l b w w4 B0 M G 0 (qbJ [] N):=by
      have hma:=((zU HMK).alloc (.cells (madeCells #[.int .u8 0] N) 5)).alloc (.cells #[.int .i64 0] 3);have hlt:=(zU HMK).m.lt;rw[<-hw4]at hma;refine⟨hma.s,hma.m,?_,?_,hma.bel,hma.lt,by rw[hG];exact hlt⟩
      ·rw[hw4,hG,qrn,show qbJ [] N=List.replicate N 0 from by simp[qbJ,qaV]];exact heap_alloc2_old _ _ _
      ·rw[hw4,hG];exact heap_alloc2_new _ _ _
     rw[<-hw4,<-hG];have HRD:=zH hrd;clear hw4 hG hrd hmk;go_loopw [15,16,17,18,49] (fun _ _ _ _ i wr=>∃ (q p:Nat) (ks:List Nat) (R:List Bool),i=.int .i64 q/\DecAt l (qB b) (2*N) q ks R/\p+R.length=8*b.length/\(qB b).drop p=R/\RdSt l b w wr B0 M G p (qbJ ks N)) (fun _ _ _ _ i _=>2*N-(intOf i).toNat)
     case atStart=>exact⟨0,0,[],qB b,rfl,DecAt.start l _ _,by rw[qcb];omega,rfl,zU HRD⟩
     case round =>
      obtain⟨q,p,ks,R,rfl,hdec,hpR,hdr,hrd⟩:=hrel;have HDEC:=zH hdec;have hqN:=hdec.le;have HRK:=zH hrd;have HPR:=zH hpR;have HDR:=zH hdr;clear hdec hpR hdr hrd
      by_cases hq:q<2*N
      ·have dq:decide ((q:Int)<2*(N:Int))=true:=by rw[decide_eq_true_eq];omega
       go_wp2_with fail;obtain⟨E,hE⟩:∃E,E=wr.heap.size:=⟨_,rfl⟩
       obtain⟨w5,hw5⟩:∃w5,w5=wr.alloc (.cells #[.int .i64 0,.int .i64 0] 218):=⟨_,rfl⟩
       have hin:RdIn l b w w5 B0 M G E N p ks R (.bool false):=by
        refine .inl ⟨rfl,0,by omega,by omega,fun t h1 h2=>absurd h1 (by omega),?_,?_⟩
        ·rw[hw5];exact (zU HRK).keep ((Below.refl _ _).alloc (zU HRK).size _)
        ·rw[hw5,hE,List.take_zero,qlW];exact heap_alloc_new _ _
       have hEG:G+2<=E:=by rw[hE];exact (zU HRK).size
       rw[<-hw5,<-hE];have HIN:=zH hin;clear hw5 hE hin;go_loopw [17,18] (fun f _ wr=>RdIn l b w wr B0 M G E N p ks R f) (fun f _ wr=>qk2 E f wr)
       case atStart=>exact zU HIN
       case round =>
        rcases hrel with⟨rfl,s,hs16,hsR,hnone,hrd,hE⟩|⟨rfl,x,hx16,hfx,hrd,a,s,hE⟩
        ·have cE1:wr.cell? ⟨E,1,none⟩=some (I s):=by rw[cell_of_row _ _ _ _ _ _ hE];rfl
         have cE0:wr.cell? ⟨E,0,none⟩=some (I (val (R.take s))):=by rw[cell_of_row _ _ _ _ _ _ hE];rfl
         have cA:=hrd.at_;have cT:=hrd.text;have HRD5:=zH hrd;have HE5:=zH hE;have HNO:=zH hnone;clear hrd hE hnone
         by_cases hs15:s<=15
         ·by_cases hse:s<R.length
          ·obtain⟨x,hx⟩:∃x,R[s]?=some x:=⟨_,zG hse⟩
           have hvs:=qnk hx;have hux:(qB b)[p+s]?=some x:=by rw[<-hx,<-zU HDR,List.getElem?_drop]
           obtain⟨v,hv⟩:∃v,v=val (R.take s):=⟨_,rfl⟩
           obtain⟨z,hz⟩:∃z,z=bvT x:=⟨_,rfl⟩
           obtain⟨u,hu⟩:∃u,u=2*v+z:=⟨_,rfl⟩
           obtain⟨pp,hpp⟩:∃pp,pp=p+s:=⟨_,rfl⟩
           rw[<-hv]at cE0;rw[<-hpp]at cA hux;rw[<-hv,<-hz,<-hu]at hvs
           have hpb:pp<=2000000000000000:=by
            have:=zU HPR;rw[hpp];exact qmF this hse hb
           have hne:((pp:Int) == 8*(b.length:Int))=false:=by
            have:=zU HPR;rw[hpp];exact qv1 this hse
           obtain⟨v2,f1,f2⟩:=qt7 (v:=v) (z:=z) (by rw[hv];exact qtM R hs15) (by rw[hz];exact qlM x);rw[<-hu]at f2;have HVS:=zH hvs;have HV:=zH hv;have HPP:=zH hpp;have HX:=zH hx;have KB:=zH (fun (W:World) (h1:W.cell? ⟨B0+1,0,none⟩=some (S b)) (h2:W.cell? ⟨G+1,0,none⟩=some (I pp)) (h3:W.frozen? ⟨G+1,0,none⟩=false)=>hz ▸ qjD (B0+1) (G+1) b pp x W h1 h2 h3 hux hpb);clear hvs hv hpp hx hz hu hux;have fA:wr.frozen? ⟨G+1,0,none⟩=false:=(zU HRD5).free;have fE0:wr.frozen? ⟨E,0,none⟩=false:=frozen_of_row _ _ 0 _ _ (zU HE5);have fE1:wr.frozen? ⟨E,1,none⟩=false:=frozen_of_row _ _ 1 _ _ (zU HE5);have HADD:=zH (qwn hs15);have F1:=zH f1;have F2:=zH f2;have d15:(s:Int)<=15:=by omega
           clear f1 f2;go_wp2_with fail;have hadd:=zU HADD;have f1:=zU F1;have f2:=zU F2;go_cut []from 53 to 95 (fun wx=>RdSt l b w wx B0 M G (pp+1) (qbJ ks N)/\wx.heap[E]?=some (.cells #[I u,I (s+1:Nat)] 218 (0,0)))
           case first =>
            go_region_with (refine (zU KB _ (by exact cT) (by exact cA) (by exact fA)).mono ?_;rintro e w7 ⟨rfl,hw7⟩;obtain⟨r7,e7⟩:=qwy (zU HRD5) hEG (zU HE5) hw7 (by first|exact Below.refl _ _|exact (Below.refl _ _).drew|exact zD (Below.refl _ _) _);rw[<-zU HV]at e7;obtain⟨c70,c71,f70,f71⟩:=qqn e7;have R7:=zH r7;have E7:=zH e7;clear hw7 r7 e7)
            all_goals
             obtain⟨r8,e8⟩:=qwz (zU R7) hEG (zU E7) (I u) (I (s+1:Nat));go_wp2_with fail;go_meet;exact⟨r8,e8⟩
           case rest =>
            obtain⟨r9,e9⟩:=hcut;obtain⟨s1,hs1⟩:∃s1,s1=s+1:=⟨_,rfl⟩
            rw[<-hs1]at e9;obtain⟨c90,c91,f90,f91⟩:=qqn e9;have R9:=zH r9;have E9:=zH e9
            have hu9:u<=1000000000:=by
             rw[<-zU HVS];exact Nat.le_trans (qwt R hs15) (by decide)
            have hs9:s1<=1000000000:=by omega
            have hs1R:s1<=R.length:=by omega
            have HS1:=zH hs1;have CE1:=zH cE1;clear r9 e9 hs1 f1 f2 hadd fA fE0 fE1 cE0 cE1 cA cT hne hpb;cases hsg:qa9 l 16 (u,s1)with
            | none =>
             have HSG:=zH hsg;go_wp2_with (at_lookup;refine qga rfl _ _ rfl M 16 (qa9 l 16) rfl (zU R9).m u s1 rfl hu9 hs9 ?_;rw[zU HSG]);go_roundw
             case rel =>
              refine .inl ⟨rfl,s1,by have:=zU HS1;omega,hs1R,fun t h1 h2=>?_,by rw[show p+s1=pp+1 from by have:=zU HS1;have:=zU HPP;omega];exact zU R9,?_⟩
              ·by_cases e:t=s1
               ·rw[e,zU HS1,zU HVS,<-zU HS1];exact zU HSG
               ·exact zU HNO t h1 (by have:=zU HS1;omega)
              ·rw[zU HS1,zU HVS,<-zU HS1];exact zU E9
             case measure =>
              rw[qgR c91,qgR (zU CE1),zU HS1];omega
            | some y =>
             have HSG:=zH hsg;obtain⟨hy16,hy0,hyq⟩:=qgO hsg;have hfy:qby l R=some y:=qnD (zU HR) (t:=s1) hs1R hy16 hy0 (by rw[zU HS1,zU HVS,<-zU HS1];exact hyq);have hly:s1=ln l y:=(Prod.ext_iff.1 hyq).2;obtain⟨i,r,c0,c1,y8,a1,a2,a3,a4,a5,a6,a7⟩:=qvx (zU HDEC).len hq (fun x hx=>((zU HDEC).fine x hx).1) hy16;obtain⟨b1,b2,b3,b4,b5⟩:=quo a1 a7 hy16;obtain⟨d1,d2,d3,d4⟩:=qt2 hy16;have cG:=(zU R9).byte a3;have fG:wc.frozen? ⟨G,i,none⟩=false:=frozen_of_row _ _ i _ _ (zU R9).o;have hiN:(i:Int)<(N:Int):=by omega
             have HFY:=zH hfy;have HLY:=zH hly;have HA4:=zH a4;have HY0:=zH hy0;clear hsg hyq hfy hly a1 a3 a4 hy0
             rcases a7 with⟨rfl,a7⟩|⟨rfl,a7⟩
             ·rw[<-a7]at d1 d2;clear a7;go_wp2_with (at_lookup;refine qga rfl _ _ rfl M 16 (qa9 l 16) rfl (zU R9).m u s1 rfl hu9 hs9 ?_;rw[zU HSG]);go_region;go_roundw
              case rel =>
               have hrf:=RdIn.found hEG (zU R9) (zU E9) hy16 (zU HFY) (zU HLY) (zU HPP) (zU HS1) (zU HA4)
               first
                | exact hrf
                | ((repeat apply Exists.intro);exact⟨hrf,rfl⟩)
              case measure=>exact RdIn.less (zU CE1) hs15
             ·subst a7;go_wp2_with (at_lookup;refine qga rfl _ _ rfl M 16 (qa9 l 16) rfl (zU R9).m u s1 rfl hu9 hs9 ?_;rw[zU HSG]);go_region;go_roundw
              case rel =>
               have hrf:=RdIn.found hEG (zU R9) (zU E9) hy16 (zU HFY) (zU HLY) (zU HPP) (zU HS1) (zU HA4)
               first
                | exact hrf
                | ((repeat apply Exists.intro);exact⟨hrf,rfl⟩)
              case measure=>exact RdIn.less (zU CE1) hs15
          ·have hsl:s=R.length:=by omega
           have hfn:=qm3 (zU HR) (zU HNO) (.inl (by omega));obtain⟨e1,e2⟩:=qeW (b:=b) (zU HE0).symm (zU HN) ((zU HDEC).none hq hfn);have heq:((p+s:Nat):Int)=8*(b.length:Int):=by have:=zU HPR;omega
           obtain⟨pp,hpp⟩:∃pp,pp=p+s:=⟨_,rfl⟩
           rw[<-hpp]at cA heq;have hbq:((pp:Int) == 8*(b.length:Int))=true:=by rw[beq_iff_eq];exact heq
           have d15:(s:Int)<=15:=by omega
           have HE1:=zH e1;have HE2:=zH e2;clear hpp heq hfn e1 e2;go_wp2_with fail;go_ret2;rw[zU HE1,zU HE2,<-zU HB];exact⟨rfl,(zU HRD5).bel⟩
         ·have hfn:=qm3 (zU HR) (zU HNO) (.inr (by omega));obtain⟨e1,e2⟩:=qeW (b:=b) (zU HE0).symm (zU HN) ((zU HDEC).none hq hfn);have d15:¬(s:Int)<=15:=by omega
          have HE1:=zH e1;have HE2:=zH e2;clear hfn e1 e2;go_wp2_with fail;go_ret2;rw[zU HE1,zU HE2,<-zU HB];exact⟨rfl,(zU HRD5).bel⟩
        ·have cE1:wr.cell? ⟨E,1,none⟩=some (I s):=by rw[cell_of_row _ _ _ _ _ _ hE];rfl
         have hst:=(zU HDEC).step hq hfx;obtain⟨_,_,hlx,_⟩:=qhZ (zU HR) hfx;have HST:=zH hst;have HRD6:=zH hrd;clear hst hrd hE hfx;go_wp2_with fail;go_roundw
         case rel=>exact⟨q+1,p+ln l x,ks++[x],R.drop (ln l x),by go_num,zU HST,by have:=zU HPR;rw[List.length_drop];omega,by rw[<-zU HDR,List.drop_drop],zU HRD6⟩
         case measure=>exact qjf hq
      ·have hq':q=2*N:=by omega
       have dq:decide ((q:Int)<2*(N:Int))=false:=by rw[decide_eq_false_iff_not];omega
       have hdone:=zU HDEC;rw[hq']at hdone;have hdd:=hdone.done;have hof:=qsZ (ks:=ks) (N:=N) hdone.len;have hks:ks.length=2*N:=hdone.len;have cA:=(zU HRK).at_;have cT:=(zU HRK).text;have hst:=qjC (zU HRK).o (by rw[qoA (by omega)]);have HDD:=zH hdd;have HOF:=zH hof;clear hdone hdd hof hks hq' hq
       by_cases h8:8<=R.length
       ·have hbg:qaW R=false:=by
         cases hg:qaW R with
         | false=>rfl
         | true=>have:=((qe4 R).1 hg).1;omega
        obtain⟨e1,e2⟩:=qeX (b:=b) (n:=(N:Int)) (zU HE0).symm (zU HN) (zU HDD) hbg;have d8:(8:Int)<=8*(b.length:Int)-(p:Int):=by have:=zU HPR;omega
        have dw:wrap64 (8*(b.length:Int)-(p:Int))=8*(b.length:Int)-(p:Int):=qoa (zU HPR) hb;have HE1:=zH e1;have HE2:=zH e2;clear hbg e1 e2 h8;go_wp2_with fail;go_ret2;rw[zU HE1,zU HE2,<-zU HB];exact⟨rfl,(zU HRK).bel⟩
       ·have d8:¬(8:Int)<=8*(b.length:Int)-(p:Int):=by have:=zU HPR;omega
        have dw:wrap64 (8*(b.length:Int)-(p:Int))=8*(b.length:Int)-(p:Int):=qoa (zU HPR) hb;go_wp2_with fail;go_loopw [] (fun wr=>∃t,t<=R.length/\(R.take t).all (fun b=>!b)=true/\RdSt l b w wr B0 M G (p+t) (qbJ ks N)) (fun wr=>8*b.length-(intOf ((wr.cell? ⟨G+1,0,none⟩).getD undef)).toNat)
        case atStart=>exact⟨0,by omega,rfl,zU HRK⟩
        case round =>
         obtain⟨t,htR,hall,hrd⟩:=hrel;have cA4:=hrd.at_;have cT4:=hrd.text;have fA4:=hrd.free;have hst4:=qjC hrd.o (by rw[qoA (by have:=(zU HDEC).len;have:=(zU HDEC).le;omega)]);have HR4:=zH hrd;have HALL:=zH hall;clear hrd hall
         by_cases htr:t<R.length
         ·obtain⟨x,hx⟩:∃x,R[t]?=some x:=⟨_,zG htr⟩
          have hux:(qB b)[p+t]?=some x:=by rw[<-hx,<-zU HDR,List.getElem?_drop]
          have dl:((p+t:Nat):Int)<8*(b.length:Int):=by have:=zU HPR;omega
          have hpb:p+t<=2000000000000000:=by
           have:=zU HPR;exact qmF this htr hb
          obtain⟨pt,hpt⟩:∃pt,pt=p+t:=⟨_,rfl⟩
          rw[<-hpt]at cA4 dl hux hpb;have KB:=zH (fun (W:World) (h1:W.cell? ⟨B0+1,0,none⟩=some (S b)) (h2:W.cell? ⟨G+1,0,none⟩=some (I pt)) (h3:W.frozen? ⟨G+1,0,none⟩=false)=>qjD (B0+1) (G+1) b pt x W h1 h2 h3 hux hpb);have hsn:(R.take (t+1)).all (fun b=>!b) = !x:=by rw[List.take_add_one,hx,List.all_append,zU HALL];simp
          have hgx:x=true->qaW R=false:=by
           intro e;unfold qaW;rw[Bool.and_eq_false_iff];right;rw[List.all_eq_false];exact⟨x,List.mem_of_getElem? hx,by rw[e];simp⟩
          have HPT:=zH hpt;have HSN:=zH hsn;clear hux hx hpt hsn hpb;cases x with
          | true =>
           obtain⟨e1,e2⟩:=qeX (b:=b) (n:=(N:Int)) (zU HE0).symm (zU HN) (zU HDD) (hgx rfl);have HE1:=zH e1;have HE2:=zH e2;clear e1 e2 hgx;go_wp2_with (go_at_call 220;refine (zU KB _ (by exact cT4) (by exact cA4) (by exact fA4)).mono ?_;rintro e w7 ⟨rfl,hw7⟩;have HW7:=zH hw7;clear hw7);go_ret2;obtain⟨q7,e7⟩:=zU HW7;rw[zU HE1,zU HE2,<-zU HB,e7];exact⟨rfl,zD ((zU HR4).setAt _).bel _⟩
          | false =>
           clear hgx;go_wp2_with (go_at_call 220;refine (zU KB _ (by exact cT4) (by exact cA4) (by exact fA4)).mono ?_;rintro e w7 ⟨rfl,hw7⟩;have HW7:=zH hw7;clear hw7);go_roundw
           case rel =>
            obtain⟨q7,e7⟩:=zU HW7;have r7:=(zU HR4).setAt (pt+1);refine⟨t+1,htr,zU HSN,?_⟩;rw[e7,show p+(t+1)=pt+1 from by have:=zU HPT;omega];exact⟨r7.s,r7.m,r7.o,r7.c,zD r7.bel _,r7.l1,r7.l2⟩
           case measure =>
            obtain⟨q7,e7⟩:=zU HW7;have r7:=((zU HR4).setAt (pt+1)).at_;have c7:w7.cell? ⟨G+1,0,none⟩=some (I ((pt+1:Nat))):=by rw[e7];exact r7
            rw[c7,cA4];exact qvn dl
         ·have hg:qaW R=true:=by
           unfold qaW;have:=zU HALL;rw[List.take_of_length_le (by omega)]at this;rw[this];simp;omega
          obtain⟨e1,e2⟩:=qhj (b:=b) (n:=(N:Int)) (zU HE0).symm (zU HN) (zU HDD) hg;have dl:¬((p+t:Nat):Int)<8*(b.length:Int):=by have:=zU HPR;omega
          obtain⟨pt,hpt⟩:∃pt,pt=p+t:=⟨_,rfl⟩
          rw[<-hpt]at cA4 dl;have HE1:=zH e1;have HE2:=zH e2;clear e1 e2 hg hpt;go_wp2_with fail;go_ret2;rw[zU HE1,zU HE2,<-zU HOF,<-zU HB];exact⟨rfl,(zU HR4).bel⟩
 ·have z1:((e0:Int) == 0)=false:=by rw[zB];omega
  have z2:((e0:Int) != 0)=true:=by rw[bne_iff_ne];omega
  have H0:=zH h0;clear h0
  go_wp2_with (first
   | (refine qj rfl (.tmp 3) rfl B0 (by rw[zU HB];rfl) l (zU HL) (by rw[<-zU HW0];exact (zU H1)) ?_;rw[<-zU HW0,<-zU HB])
   | (go_at_call 195;refine (zU CK).mono ?_;rintro e w1 ⟨rfl,hb1⟩;have HB1:=zH hb1;clear hb1))
  go_ret2;obtain⟨e1,e2⟩:=qhk (l:=l) (b:=b) (n:=n) (by rw[<-zU HE0];exact zU H0);rw[e1,e2,<-zU HE0,<-zU HB];exact⟨rfl,(zU H3).trans ((zU HB1).mono (by rw[zU H4];omega))⟩
theorem qp3(s:qa)(w:World)(hs:s.length<=140737488355328) :
  Calls Tryz.prog 171 #[S s] w fun e w'=>qmn (qaG s) e/\Below w.heap.size w w':=by
 by_cases h8:s.length<8
 ·have hd:qaG s=none:=by unfold qaG;rw[if_pos h8]
  rw[hd];have h8i:(s.length:Int)<8:=by omega
  go_enter Tryz.func171,Tryz.ntmps171;go_wp2_with fail;go_ret2;exact⟨.inr ⟨1,rfl,by decide,rfl⟩,Below.refl _ _⟩
 ·have hz:=qff;obtain⟨L,hL⟩:∃L,L=qgg s:=⟨_,rfl⟩
  have hl16:L.length=16:=by rw[hL];exact qj3 (by omega)
  obtain⟨X,hX⟩:∃X,X=slice s 8 s.length:=⟨_,rfl⟩
  have hX2:X=s.drop 8:=by rw[hX,qcc]
  have hXl:X.length<=s.length:=by rw[hX2,List.length_drop];omega
  have hdec:qaG s=qeJ L X:=by
   unfold qaG;rw[if_neg h8,hX2,hL]
  rw[hdec];have HL:=zH hL;have HL16:=zH hl16;have HX:=zH hX;obtain⟨B,hB⟩:∃B,B=w.heap.size:=⟨_,rfl⟩
  obtain⟨w0,hw0⟩:∃w0,w0=w.alloc (.cells (qg (Lf fun _=>0)) 168):=⟨_,rfl⟩
  have H0:=zH (show BoxL (Lf fun _=>0) w w0 B B by rw[hw0,hB];exact BoxL.new _ _);have HB:=zH hB;have h8n:8<=s.length:=by omega
  have h8i:¬((s.length:Int)<8):=by omega
  clear h8 hX2 hL hl16 hdec;go_enter Tryz.func171,Tryz.ntmps171;go_wp2_with fail;rw[<-hw0,<-zU HB];clear hw0 hB;go_loopw [12] (fun iv wr=>∃k:Nat,k<=16/\iv=.int .i64 k/\BoxL (qcm L k) w wr B B) (fun iv _=>16-(intOf iv).toNat)
  case atStart=>exact⟨0,by omega,rfl,by rw[qjT];exact zU H0⟩
  case round =>
   obtain⟨k,hk,rfl,hat⟩:=hrel;have HAT:=zH hat;have hsz:=hat.lt;clear hat
   by_cases hk16:k<16
   ·obtain⟨q,r,hkq,hr2⟩:∃q r,k=2*q+r/\r<2:=⟨k / 2,k % 2,by omega,by omega⟩
    have hq:q<s.length:=by omega
    obtain⟨c,hcc⟩:∃c,(⟨s.toArray⟩:ByteArray)[q]'hq=c:=⟨_,rfl⟩
    have hsc:s[q]?=some c:=by rw[zG hq];exact congrArg some hcc
    obtain⟨n1,n2⟩:=qn4 (b:=s) (q:=q) (by omega) hsc;rw[<-zU HL]at n1 n2;have hc256:=c.toNat_lt;have t1:(k:Int).tdiv 2=(q:Int):=by rw[Int.tdiv_eq_ediv_of_nonneg (by omega)];omega
    have t2:(k:Int) / 2=(q:Int):=by omega
    have t3:(k:Int).tmod 2=(r:Int):=by rw[Int.tmod_eq_emod_of_nonneg (by omega)];omega
    have t4:(k:Int) % 2=(r:Int):=by omega
    have a1:=qwl c;have a2:=qu8 c
    obtain⟨x,hxk,hx16,aa⟩:∃x:Nat,L[k]?=some (x:Int)/\x<16/\((r=0/\bits .and .i64 ((c.toNat:Int) / 16) 15=(x:Int))\/(r=1/\bits .and .i64 (c.toNat:Int) 15=(x:Int))):=by
     rcases (show r=0\/r=1 by omega)with e|e
     ·exact⟨c.toNat / 16,by rw[hkq,e];exact n1,by omega,.inl ⟨e,a2⟩⟩
     ·exact⟨c.toNat % 16,by rw[hkq,e];exact n2,by omega,.inr ⟨e,a1⟩⟩
    have hst:=(zU HAT).put k (x:Int);rw[qek hxk]at hst;have HST:=zH hst;have f1:=(zU HAT).free k;obtain⟨y,hy⟩:∃y,(qcm L k)[k]?=some y:=⟨_,zG (by rw[qf1];exact hk16)⟩
    have c1:=(zU HAT).get hy;have HKQ:=zH hkq;clear hsc n1 n2 a1 a2 hxk hst hy hkq
    rcases aa with⟨rfl,a1⟩|⟨rfl,a1⟩
    all_goals
     go_wp2_with fail;go_roundw
     case rel=>exact⟨k+1,by omega,by go_num,zU HST⟩
     case measure=>simp[intOf];omega
   ·have hk':k=16:=by omega
    subst hk';rw[qls (zU HL16)]at HAT;cases ht:take X with
    | none =>
     have HD:=zH (qgw (L:=L) ht);have c1:=zH (fun W=>qi9 ht W (by omega));have HXX:=zU HX;clear ht;go_wp2_with fail;rw[<-HXX];refine (zU c1 _).mono ?_;rintro e w1 ⟨rfl,hb1⟩;have H1:=zH ((zU HAT).below hb1);clear hb1;go_wp2_with fail;go_ret2;rw[zU HD,<-zU HB];exact⟨.inr ⟨1,rfl,by decide,rfl⟩,(zU H1).bel⟩
    | some p =>
     obtain⟨n,r⟩:=p;have hd:=qfa (L:=L) ht;obtain⟨e1,e2⟩:=qaI ht;have hrl:r.length<=X.length:=by rw[e1,zL];omega
     have hn:n<=2147483647:=e2;have c1:=zH (fun W=>qi8 ht W (by omega));have c2:=fun (W:World)=>qo7 qih L r (n:Int) W (zU HL16) (by omega) (by omega) (by omega);obtain⟨te,hte⟩:∃te,te=qaZ L r (n:Int):=⟨_,rfl⟩
     obtain⟨T,hT⟩:∃T,T=qbc L r (n:Int):=⟨_,rfl⟩
     have hres:qmn (if te=0 then some T else none) (.returned (.tuple #[S T,I (te:Int)])):=by
      by_cases h0:te=0
      ·rw[if_pos h0,h0];exact .inl ⟨T,rfl,rfl⟩
      ·rw[if_neg h0];have:T=[]:=by rw[hT];exact qq7 (by rw[<-hte];exact h0)
       rw[this];exact .inr ⟨te,rfl,h0,rfl⟩
     rw[<-hte,<-hT]at c2 hd;have HD:=zH hd;have c2:=zH c2;have HRES:=zH hres;have HXX:=zU HX;clear hte hT hres e1 e2 ht hd;go_wp2_with fail;rw[<-HXX];refine (zU c1 _).mono ?_;rintro e w1 ⟨rfl,hb1⟩;have H1:=zH ((zU HAT).below hb1);clear hb1
     go_wp2_with (first
      | (refine qj rfl (.tmp 4) rfl B rfl L (zU HL16) (zU H1).o ?_))
     refine (zU c2 _).mono ?_;rintro e w2 ⟨rfl,hb2⟩;have H2:=zH ((zU H1).below hb2);clear hb2;go_wp2_with fail;go_ret2;rw[zU HD,<-zU HB];exact⟨zU HRES,(zU H2).bel⟩
theorem qit{s:qa}(h:take s=none):qZ s=none:=by unfold qZ;rw[h]
theorem qh2{s r:qa}{n:Nat}(h:take s=some (n,r))(e:n % 2=0)(hl:r.length<n / 2):qZ s=none:=by
 unfold qZ;rw[h];simp only;rw[if_pos e,if_pos hl]
theorem qiu{s r:qa}{n:Nat}(h:take s=some (n,r))(e:n % 2=0)(hl:¬r.length<n / 2):qZ s=some (⟨slice r 0 (n / 2),0,0⟩,slice r (n / 2) r.length):=by
 unfold qZ;rw[h];simp only;rw[if_pos e,if_neg hl,qeU,qcc]
theorem qh3{s r:qa}{n:Nat}(h:take s=some (n,r))(e:¬n % 2=0)(h2:take r=none):qZ s=none:=by
 unfold qZ;rw[h];simp only;rw[if_neg e,h2]
theorem qjy{s r r2:qa}{n f:Nat}(h:take s=some (n,r))(e:¬n % 2=0)(h2:take r=some (f,r2)):qZ s=some (⟨[],(f:Nat),((n / 2:Nat):Int)⟩,r2):=by
 unfold qZ;rw[h];simp only;rw[if_neg e,h2]
def qg5:Value->Nat
 | .string b=>b.data.toList.length
 | _=>0
def FromToks(w':World)(e:Ending)(r:Option (List Tok)):Prop :=
 ∃v is,e=.returned (.tuple #[v,.bool is])/\((is=false/\v=.slice none 0 0/\r=none)\/(is=true/\∃l,r=some l/\qnZ w' v l))
theorem FromToks.no{w':World}{r:Option (List Tok)}(h:r=none):FromToks w' (.returned (.tuple #[.slice none 0 0,.bool false])) r:=⟨_,_,rfl,.inl ⟨rfl,rfl,h⟩⟩
theorem qkR{s rest r:qa}{o:List Tok}{t:Tok}(h:qaT s=(qaT rest).map (o++·))(hs:rest≠[])(ht:qZ rest=some (t,r)) :
  qaT s=(qaT r).map ((o++[t])++·):=by
 rw[h,qjx hs ht,Option.map_map]
 congr 1
 funext x;simp
def qvS(w wr:World)(s:qa)(v sv:Value):Prop :=
 ∃ (n:Nat) (o:List Tok) (rest:qa),sv=S rest/\n<=512/\rest.length<=s.length/\wr.ownsRow w.heap.size 186 3 v n (qD o)/\qaT s=(qaT rest).map (o++·)/\Below w.heap.size w wr
theorem qeT(dict s:qa)(w:World)(hd:dict.length<=256)(hs:s.length<=4611686018427387904) :
  Calls Tryz.prog 149 #[S dict,S s] w fun e w'=>FromToks w' e (read dict s)/\Below w.heap.size w w':=by
 go_enter Tryz.func149,Tryz.ntmps149;go_wp2_with fail;go_loopw [6,1] (fun v sv wr=>qvS w wr s v sv) (fun _ sv _=>qg5 sv)
 case atStart=>exact⟨0,[],s,rfl,by omega,Nat.le_refl _,World.ownsRow_nil _ _ _ _,by simp,Below.refl _ _⟩
 case round =>
  obtain⟨n,o,rest,rfl,hn,hrl,hown,hto,hbel⟩:=hrel;obtain⟨A,cap,rfl⟩:=qeG hown;have HTO:=zH hto;have HOWN:=zH hown;clear hto hown
  by_cases hr:rest=[]
  ·subst hr;have hto2:qaT s=some o:=by rw[zU HTO,qqK];simp
   obtain⟨A',cap',hAe,hat,hlen⟩:=qcr (zU HOWN);obtain⟨rfl,rfl⟩:A=A'/\cap=cap':=by injection hAe with a b c;exact⟨a,c⟩
   have HT2:=zH hto2;have HAT:=zH hat;clear hto2 hAe hlen hat;have C1:=zH (qii dict A n cap o wr (zU HAT) (by omega) (by omega))
   by_cases hp:(qF dict o).2=0
   ·have hrd:=qmC hd (zU HT2) hp;have HRD:=zH hrd;have e1:(((qF dict o).2:Int) == 0)=true:=by rw[hp];rfl
    have e2:(((qF dict o).2:Int) != 0)=false:=by rw[hp];rfl
    clear hrd hp;go_wp2_with fail;refine (zU C1).mono ?_;rintro e w1 ⟨rfl,hb1⟩;go_wp2_with fail;go_ret2;have hat1:=(zU HAT).below hb1;refine⟨⟨_,_,rfl,.inr ⟨rfl,o,zU HRD,A,n,cap,rfl,?_⟩⟩,hbel.trans (hb1.mono hbel.size)⟩;exact⟨hat1.1,fun hn=>by obtain⟨b,off,e,hb,hc⟩:=hat1.2 hn;exact⟨b,off,e,Nat.lt_of_lt_of_le hb hb1.size,hc⟩⟩
   ·have hrd:=qos hd (zU HT2) hp;have HRD:=zH hrd;have e1:(((qF dict o).2:Int) == 0)=false:=by rw[zB];omega
    have e2:(((qF dict o).2:Int) != 0)=true:=by rw[bne_iff_ne];omega
    clear hrd hp;go_wp2_with fail;refine (zU C1).mono ?_;rintro e w1 ⟨rfl,hb1⟩;go_wp2_with fail;go_ret2;exact⟨FromToks.no (zU HRD),hbel.trans (hb1.mono hbel.size)⟩
  ·have hr1:rest.isEmpty=false:=by simpa using hr
   have hr2:(rest == [])=false:=by simpa using hr
   have HR:=zH hr;have hsl:rest.length<=9223372036854775807:=by omega
   clear hr;cases hk:take rest with
   | none =>
    have C1:=zH (fun W=>qhr hk W hsl);have hrd:read dict s=none:=qgE hd (by rw[zU HTO,qgN (zU HR) (qit hk)];rfl);have HRD:=zH hrd;clear hrd hk;go_wp2_with fail;refine (zU C1 _).mono ?_;rintro e w1 ⟨rfl,hb1⟩;go_wp2_with fail;go_ret2;exact⟨FromToks.no (zU HRD),hbel.trans (hb1.mono hbel.size)⟩
   | some p =>
    obtain⟨q,r⟩:=p;have C1:=zH (fun W=>qhq hk W hsl);have hq:q<=2147483647:=(qaI hk).2;have hrlen:=Pl.take_len hk;obtain⟨m,hm⟩:∃m,m=q / 2:=⟨_,rfl⟩
    have hm2:(q:Int) / 2=(m:Int):=by omega
    have hmb:m<=1073741824:=by omega
    by_cases he:q % 2=0
    ·have he2:(q:Int) % 2=0:=by omega
     by_cases hsh:r.length<m
     ·have hrd:read dict s=none:=qgE hd (by rw[zU HTO,qgN (zU HR) (qh2 hk he (by omega))];rfl);have HRD:=zH hrd;have hsh2:decide (r.length<m)=true:=by simp;omega
      clear hrd hk hm he;go_wp2_with fail;refine (zU C1 _).mono ?_;rintro e w1 ⟨rfl,hb1⟩;go_wp2_with fail;go_ret2;exact⟨FromToks.no (zU HRD),(hbel.trans (hb1.mono hbel.size)).alloc (Nat.le_trans hbel.size hb1.size) _⟩
     ·have hsh2:decide (r.length<m)=false:=by simp;omega
      have htf:=qiu hk he (by omega);rw[<-hm]at htf;have htm:=qkR (zU HTO) (zU HR) htf;have HTM:=zH htm;have HM:=zH hm;have hsl2:=qbU r m r.length;clear hk hm he htf htm;go_wp2_with fail;refine (zU C1 _).mono ?_;rintro e w1 ⟨rfl,hb1⟩;have hbw:=Nat.le_trans hbel.size hb1.size
      by_cases hmany:512<n+1
      ·go_wp2_with (at_builtin;refine qbl rfl (.tmp 52) (.tmp 54) rfl w.heap.size _ n o rfl ((qo (zU HOWN) hb1).alloc _) (slice r 0 m) 0 0 (w1.heap.size+1) (by simp) rfl (by omega) (by simp;omega) ?_;intro A4 cap4 w4 hown4 hb4 hg4);go_ret2;have hrd:read dict s=none:=qmB hd (zU HTM) (by have:=hown4.1;rw[qfK]at this;omega);exact⟨FromToks.no hrd,((hbel.trans (hb1.mono hbel.size)).alloc hbw _).trans hb4⟩
      ·go_wp2_with (at_builtin;refine qbl rfl (.tmp 52) (.tmp 54) rfl w.heap.size _ n o rfl ((qo (zU HOWN) hb1).alloc _) (slice r 0 m) 0 0 (w1.heap.size+1) (by simp) rfl (by omega) (by simp;omega) ?_;intro A4 cap4 w4 hown4 hb4 hg4);go_roundw
       case rel=>exact⟨n+1,_,slice r m r.length,rfl,by omega,by omega,hown4,zU HTM,((hbel.trans (hb1.mono hbel.size)).alloc hbw _).trans hb4⟩
       case measure=>simp[qg5];omega
    ·have he2:(q:Int) % 2=1:=by omega
     cases hk2:take r with
     | none =>
      have C2:=zH (fun W=>qhr hk2 W (by omega));have hrd:read dict s=none:=qgE hd (by rw[zU HTO,qgN (zU HR) (qh3 hk he hk2)];rfl);have HRD:=zH hrd;clear hrd hk hm he hk2;go_wp2_with fail;refine (zU C1 _).mono ?_;rintro e w1 ⟨rfl,hb1⟩;have hbw:=Nat.le_trans hbel.size hb1.size;go_wp2_with fail;refine (zU C2 _).mono ?_;rintro e w2 ⟨rfl,hb2⟩;have B0:=(hb2.block w1.heap.size (by simp)).trans (heap_alloc_new w1 _);have K0:w2.cell? ⟨w1.heap.size,0,none⟩=some (S []):=by rw[cell_of_row w2 _ 0 _ _ _ B0];rfl
      have K1:w2.cell? ⟨w1.heap.size,1,none⟩=some (I 0):=by rw[cell_of_row w2 _ 1 _ _ _ B0];rfl
      have K2:w2.cell? ⟨w1.heap.size,2,none⟩=some (I m):=by rw[cell_of_row w2 _ 2 _ _ _ B0];rfl
      have F1:w2.frozen? ⟨w1.heap.size,1,none⟩=false:=qa3 w2 _ 1 _ _ B0;clear B0;go_wp2_with fail;go_ret2;exact⟨FromToks.no (zU HRD),(((hbel.trans (hb1.mono hbel.size)).alloc hbw _).trans (hb2.mono (by simp;omega))).setCell (by simpa using hbw) _⟩
     | some p2 =>
      obtain⟨f,r2⟩:=p2;have C2:=zH (fun W=>qhq hk2 W (by omega));have hr2len:=Pl.take_len hk2;have htf:=qjy hk he hk2;rw[<-hm]at htf;have htm:=qkR (zU HTO) (zU HR) htf;have HTM:=zH htm;clear hk hm he hk2 htf htm;go_wp2_with fail;refine (zU C1 _).mono ?_;rintro e w1 ⟨rfl,hb1⟩;have hbw:=Nat.le_trans hbel.size hb1.size;go_wp2_with fail;refine (zU C2 _).mono ?_;rintro e w2 ⟨rfl,hb2⟩;have hz2:w1.heap.size+1<=w2.heap.size:=by have:=hb2.size;simpa using this
      have B0:=(hb2.block w1.heap.size (by simp)).trans (heap_alloc_new w1 _);have K0:w2.cell? ⟨w1.heap.size,0,none⟩=some (S []):=by rw[cell_of_row w2 _ 0 _ _ _ B0];rfl
      have K1:w2.cell? ⟨w1.heap.size,1,none⟩=some (I 0):=by rw[cell_of_row w2 _ 1 _ _ _ B0];rfl
      have K2:w2.cell? ⟨w1.heap.size,2,none⟩=some (I m):=by rw[cell_of_row w2 _ 2 _ _ _ B0];rfl
      have F1:w2.frozen? ⟨w1.heap.size,1,none⟩=false:=qa3 w2 _ 1 _ _ B0;clear B0;have hbX:Below w.heap.size w (w2.setCell ⟨w1.heap.size,1,none⟩ (I f)):=(((hbel.trans (hb1.mono hbel.size)).alloc hbw _).trans (hb2.mono (by simp;omega))).setCell (by simpa using hbw) _
      have hownX:(w2.setCell ⟨w1.heap.size,1,none⟩ (I f)).ownsRow w.heap.size 186 3 (.slice A n cap) n (qD o):=by
       have h1:=qo (zU HOWN) hb1;have h2:=qo (h1.alloc _) hb2;exact qgi h2 fun g hg=>Below.heap_setCell _ _ _ _ (by have:=(h1.lt g hg).2;simp;omega)
      have HBX:=zH hbX;have HOX:=zH hownX;clear hbX hownX
      by_cases hmany:512<n+1
      ·go_wp2_with (at_builtin;refine qbl rfl (.tmp 52) (.tmp 54) rfl w.heap.size _ n o rfl (zU HOX) [] f m w2.heap.size (by simp) rfl (by omega) (by simp;omega) ?_;intro A4 cap4 w4 hown4 hb4 hg4);go_ret2;have hrd:read dict s=none:=qmB hd (zU HTM) (by have:=hown4.1;rw[qfK]at this;omega);exact⟨FromToks.no hrd,(zU HBX).trans hb4⟩
      ·go_wp2_with (at_builtin;refine qbl rfl (.tmp 52) (.tmp 54) rfl w.heap.size _ n o rfl (zU HOX) [] f m w2.heap.size (by simp) rfl (by omega) (by simp;omega) ?_;intro A4 cap4 w4 hown4 hb4 hg4);go_roundw
       case rel=>exact⟨n+1,_,r2,rfl,by omega,by omega,hown4,zU HTM,(zU HBX).trans hb4⟩
       case measure=>simp[qg5];omega
end
end Go.Proofs.YtbnmfdlaabdlhaaGreatDoor
