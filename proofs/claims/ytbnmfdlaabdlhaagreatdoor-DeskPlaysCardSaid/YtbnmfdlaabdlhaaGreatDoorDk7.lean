/- Parts of the proofs. -/
import Derived.Test.YtbnmfdlaabdlhaaGreatDoorDk6
import Derived.Maps.OwnRows
import Derived.Deep.LoopGhost
import Derived.WideMake
import Derived.Lib.Strings
import Derived.Lib.Slices
import Derived.Lib.Walk
import Derived.Lib.Builder
import Derived.Lib.UnsafeStr
import Derived.Laws.Externs
import Derived.Laws.IdiomCopy
set_option maxHeartbeats 16000000
set_option maxRecDepth 100000
namespace Go.Proofs.YtbnmfdlaabdlhaaGreatDoor
section
open Go.RowKit Go.Lib Pl
attribute [local go_sem] qf qe
theorem qvk(c:UInt8):bits .and .u8 (c.toNat:Int) 15=((c.toNat % 16:Nat):Int):=by
 have h:∀y:Fin 256,bits .and .u8 (y.val:Int) 15=((y.val % 16:Nat):Int):=by decide +kernel
 exact h ⟨c.toNat,c.toNat_lt⟩
theorem qvN(c:UInt8):bits .and .u8 ((c.toNat:Int) / 16) 15=((c.toNat / 16:Nat):Int):=by
 have h:∀y:Fin 256,bits .and .u8 ((y.val:Int) / 16) 15=((y.val / 16:Nat):Int):=by decide +kernel
 exact h ⟨c.toNat,c.toNat_lt⟩
structure PAt(l:List Int)(w w3:World)(B D:Nat):Prop where
 o:w3.heap[D]?=some (.cells (qal fun j=>(wv l j,ln l j)) 219 (0,0))
 bel:Below B w w3
 lt:B<=D
theorem PAt.made{l:List Int}{w w1:World}{B:Nat}(h:BoxAt l w w1 B) :
  PAt l w ((w1.alloc (.cells (qal fun _=>(0,0)) 219)).setRow w1.heap.size (qal fun j=>(wv l j,ln l j))) B w1.heap.size:=by
 obtain⟨ha,hb⟩:=h;have s1:=(zE ha).1;exact⟨setRow_heap _ _ _ _ _ _ (heap_alloc_new _ _),below_setRow (hb.alloc (by omega) _) (by omega) _,by omega⟩
theorem qvL{n:Nat}(h:n<=30720):n+1<=maxLen/\(n+1)*1<=140737488355328:=⟨by unfold maxLen;omega,by omega⟩
theorem le8{a b:Nat}(h:a+b=8):b<=8:=by omega
theorem qvU(b:UInt8):(b.toNat:Int) % 256=(b.toNat:Int):=by have:=b.toNat_lt;omega
theorem qww{a b c:Nat}(h:c=a+b)(h1:a<8)(h2:b<=15):c<=22:=by omega
theorem qwv{a b c:Nat}(h:c=a+b)(h1:a<=4194304)(h2:b<32768):c<1000000000:=by omega
theorem qr9{hv m v:Nat}(h1:hv<128)(hm:m<=15)(hv2:v<2 ^ m) :
  ∃P,P=hv*2 ^ m/\P<=4194304/\v<32768/\wrap64 ((hv:Int)*2 ^ m)=(P:Int)/\bits .or .i64 (P:Int) (v:Int)=((P+v:Nat):Int):=by
 have h2:2 ^ m<=32768:=Nat.pow_le_pow_right (n:=2) (by decide) hm;have h3:hv*2 ^ m<=128*32768:=Nat.mul_le_mul (Nat.le_of_lt h1) h2;have h4:v<32768:=Nat.lt_of_lt_of_le hv2 h2;have e:(hv:Int)*2 ^ m=((hv*2 ^ m:Nat):Int):=by norm_cast
 have h5:∀P:Nat,P<=4194304->wrap64 (P:Int)=(P:Int):=fun P hP=>IntWalk.wrap64_in _ ⟨by omega,by omega⟩;refine⟨hv*2 ^ m,rfl,h3,h4,by rw[e];exact h5 _ h3,?_⟩;have h6:∀P:Nat,P<=4194304->bits .or .i64 (P:Int) (v:Int)=((P ||| v:Nat):Int):=fun P hP=>qhA _ _ (by clear h2 h3 hv2 e h5;omega) (by clear h2 h3 hv2 e h5;omega);rw[h6 _ h3,<-Nat.shiftLeft_eq,Nat.shiftLeft_add_eq_or_of_lt hv2]
theorem qqY(h p:Nat):∃b:UInt8,b.toNat=h / 2 ^ p % 256/\IntKind.u8.wrap ((h:Int) / 2 ^ p)=(b.toNat:Int):=by
 refine⟨UInt8.ofNat (h / 2 ^ p),by rw[UInt8.toNat_ofNat'],?_⟩;have e:(h:Int) / 2 ^ p=((h / 2 ^ p:Nat):Int):=by norm_cast
 rw[e,IntKind.wrap_u8,UInt8.toNat_ofNat'];generalize h / 2 ^ p=q;simp
theorem qs9{h lf:Nat}(h1:h<1000000000)(h2:lf<8) :
  ∃T U:Nat,wrap64 ((2:Int) ^ lf)=(T:Int)/\wrap64 ((T:Int)-1)=(U:Int)/\bits .and .i64 (h:Int) (U:Int)=((h % 2 ^ lf:Nat):Int):=by
 have h3:2 ^ lf<=128:=Nat.pow_le_pow_right (n:=2) (by decide) (show lf<=7 by omega);have h4:0<2 ^ lf:=Nat.pow_pos (by decide);have e:(2:Int) ^ lf=((2 ^ lf:Nat):Int):=by norm_cast
 have key:∀T:Nat,T<=128->0<T->wrap64 (T:Int)=(T:Int)/\wrap64 ((T:Int)-1)=((T-1:Nat):Int)/\bits .and .i64 (h:Int) ((T-1:Nat):Int)=((h &&& (T-1):Nat):Int):=by
  clear h3 h4 e;intro T hT h0;refine⟨IntWalk.wrap64_in _ ⟨by omega,by omega⟩,?_,qpW _ _ (by omega) (by omega)⟩;rw[show (T:Int)-1=((T-1:Nat):Int)from by omega];exact IntWalk.wrap64_in _ ⟨by omega,by omega⟩
 obtain⟨a,b,c⟩:=key _ h3 h4;refine⟨2 ^ lf,2 ^ lf-1,by rw[e];exact a,b,?_⟩;rw[c,Nat.and_two_pow_sub_one_eq_mod]
theorem qte{h left p:Nat}(h1:h<2 ^ left)(h2:left+p=8):∃b:UInt8,b.toNat=h*2 ^ p/\wrap64 ((h:Int)*2 ^ p)=(b.toNat:Int)/\IntKind.u8.wrap (b.toNat:Int)=(b.toNat:Int):=by
 have h3:h*2 ^ p<2 ^ left*2 ^ p:=Nat.mul_lt_mul_of_pos_right h1 (Nat.pow_pos (by decide));rw[<-Nat.pow_add,h2]at h3;have e:(h:Int)*2 ^ p=((h*2 ^ p:Nat):Int):=by norm_cast
 have key:∀q:Nat,q<256->∃b:UInt8,b.toNat=q/\wrap64 (q:Int)=(b.toNat:Int)/\IntKind.u8.wrap (b.toNat:Int)=(b.toNat:Int):=by
  clear h3 e h1 h2;intro q hq;have hb:(UInt8.ofNat q).toNat=q:=by rw[UInt8.toNat_ofNat'];omega
  refine⟨UInt8.ofNat q,hb,by rw[hb];exact IntWalk.wrap64_in _ ⟨by omega,by omega⟩,?_⟩;rw[hb,IntKind.wrap_u8];omega
 obtain⟨b,b1,b2,b3⟩:=key _ h3;exact⟨b,b1,by rw[e];exact b2,b3⟩
theorem qnO(KW:qng)(l:List Int)(s:qa)(w:World)(hl:l.length=16) :
  Calls Tryz.prog 166 #[A16 l,S s] w fun e w'=>e=.returned (.tuple #[S (qan l s),I (qas l s)])/\Below w.heap.size w w':=by
 have hz:=qqh;obtain⟨i0,hi,hz0,hz1,hz2⟩:=info_parts qdn;obtain⟨B,hB⟩:∃B,B=w.heap.size:=⟨_,rfl⟩
 obtain⟨w0,hw0⟩:∃w0,w0=w.alloc (.cells (qg l) 168):=⟨_,rfl⟩
 have hx0:BoxAt l w w0 B:=by rw[hw0,hB];exact BoxAt.boxed l w
 have CK:=qij l w0 hl;obtain⟨e0,he0⟩:∃e0,e0=qI l:=⟨_,rfl⟩
 rw[<-he0]at CK;have CK:=zH CK;have HE0:=zH he0;have HB:=zH hB;have HW0:=zH hw0;have HX0:=zH hx0;have HL:=zH hl;have KW:=zH KW;clear he0 hB hw0 hx0 hl;go_enter Tryz.func166,Tryz.ntmps166
 by_cases h0:e0=0
 ·subst h0;have HR:=zH (qdF (zU HL) (zU HE0).symm)
  by_cases hs1:s.length<=1024
  ·go_wp2_with (first
    | (refine qj rfl (.tmp 2) rfl B (by rw[zU HB];rfl) l (zU HL) (by rw[<-zU HW0];exact (zU HX0).a) ?_;rw[<-zU HW0,<-zU HB])
    | (go_at_call 195;refine (zU CK).mono ?_;rintro e w1 ⟨rfl,hb1⟩;have HX1:=zH ((zU HX0).below hb1);clear hb1)
    | (refine qj rfl (.tmp 2) rfl B rfl l (zU HL) (zU HX1).a ?_)
    | (go_at_call 196;refine (zU KW l _ (zU HR)).mono ?_;rintro e w2 ⟨rfl,hb2⟩;have HX2:=zH ((zU HX1).below hb2);clear hb2)
    | (refine wpList_store_row rfl 219 (.tmp 7) (.tmp 22) rfl w2.heap.size _ rfl rfl 219 _ (heap_alloc_new _ _) (by rw[qjb,qbS]) (by rw[qbS,qbS]) (qlJ _) ?_;obtain⟨w3,hw3⟩:∃w3,w3=(w2.alloc (.cells (qal fun _=>(0,0)) 219)).setRow w2.heap.size (qal fun j=>(wv l j,ln l j)):=⟨_,rfl⟩;obtain⟨g,hg⟩:∃g,g=w2.heap.size:=⟨_,rfl⟩;have HC0:=zH (PAt.made (zU HX2));rw[<-hw3,<-hg]at HC0;rw[<-hw3,<-hg];clear hw3 hg))
   have hD:=(zE (zU HC0).o).1;go_loopw [8,9,10,11,12,26] (fun v h m _ _ i wr=>∃ (k:Nat) (out:qa) (hv left:Nat),k<=2*s.length/\i=.int .i64 k/\h=.int .i64 hv/\m=.int .i64 left/\WSt l s k out hv left/\wr.ownsRow (g+1) 5 1 v out.length (out.map Go.Proofs.YtbnmfdlaabdlhaaGreatDoor.B)/\Below (g+1) w3 wr) (fun _ _ _ _ _ i _=>2*s.length-(intOf i).toNat)
   case atStart=>exact⟨0,[],0,0,by omega,rfl,rfl,rfl,WSt.start l s,World.ownsRow_nil _ _ _ _,Below.refl _ _⟩
   case round =>
    obtain⟨k,out,hv,left,hk,rfl,rfl,rfl,hx,hown,hbel⟩:=hrel;have HX:=zH hx;have HOWN:=zH hown;have HBEL:=zH hbel;clear hx hown hbel
    by_cases hkn:k<2*s.length
    ·obtain⟨q,r,hkq,hr2⟩:∃q r,k=2*q+r/\r<2:=⟨k / 2,k % 2,by omega,by omega⟩
     have hq:q<s.length:=by omega
     obtain⟨c,hcc⟩:∃c,(⟨s.toArray⟩:ByteArray)[q]'hq=c:=⟨_,rfl⟩
     have hsc:s[q]?=some c:=by rw[zG hq];exact congrArg some hcc
     obtain⟨n1,n2⟩:=qki hsc;have hc256:c.toNat<256:=c.toNat_lt
     -- the sign
     obtain⟨x,hx16,hnx,hxr⟩:∃x,x<16/\(qp s)[k]?=some x/\((r=0/\x=c.toNat / 16)\/(r=1/\x=c.toNat % 16)):=by
      rcases (show r=0\/r=1 by omega)with e|e
      ·exact⟨c.toNat / 16,by omega,by rw[hkq,e];exact n1,.inl ⟨e,rfl⟩⟩
      ·exact⟨c.toNat % 16,by omega,by rw[hkq,e];exact n2,.inr ⟨e,rfl⟩⟩
     have t1:(k:Int).tdiv 2=(q:Int):=by rw[Int.tdiv_eq_ediv_of_nonneg (by omega)];omega
     have t2:(k:Int) / 2=(q:Int):=by omega
     have t3:(k:Int).tmod 2=(r:Int):=by rw[Int.tmod_eq_emod_of_nonneg (by omega)];omega
     have a1:=qvk c;have a2:=qvN c;have hgo:=(zU HC0).o;have hgo2:=((zU HBEL).block g (by omega)).trans hgo;have c1:wr.cell? ⟨g,x*2,none⟩=some (I (wv l x)):=by rw[cell_of_row _ _ _ _ _ _ hgo2];exact qgZ _ _ hx16
     have c2:wr.cell? ⟨g,x*2+1,none⟩=some (I (ln l x)):=by rw[cell_of_row _ _ _ _ _ _ hgo2];exact qgY _ _ hx16
     have d1:decide ((k:Int)<2*(s.length:Int))=true:=by rw[decide_eq_true_eq];omega
     have hgs:g<wr.heap.size:=Nat.lt_of_lt_of_le hD (zU HBEL).size;obtain⟨m,hm⟩:∃m,m=ln l x:=⟨_,rfl⟩
     obtain⟨v,hv2⟩:∃v,v=wv l x:=⟨_,rfl⟩
     rw[<-hv2]at c1;rw[<-hm]at c2;have hm15:m<=15:=by rw[hm];exact (zU HR).one x
     have HM:=zH hm;have HV:=zH hv2;have HNX:=zH hnx;have HSC:=zH hsc;have HKQ:=zH hkq;clear hm hv2 hnx hsc n1 n2 hgo hgo2
     have aa:(r=0/\bits .and .u8 ((c.toNat:Int) / 16) 15=(x:Int))\/(r=1/\bits .and .u8 (c.toNat:Int) 15=(x:Int)):=by
      rcases hxr with⟨e,hxc⟩|⟨e,hxc⟩
      ·exact .inl ⟨e,by rw[hxc];exact a2⟩
      ·exact .inr ⟨e,by rw[hxc];exact a1⟩
     clear a1 a2 hxr hkq;have hst:=zH (fun h0=>(zU HX).next (zU HR) (zU HNX) hx16 h0);rw[<-zU HM,<-zU HV]at hst
     by_cases hm0:m=0
     ·have hlx:qaS l (qp s)=true:=qny (i:=k+1) (by rw[qli (zU HNX),<-zU HM,hm0];simp);have HLX:=zH hlx;have z1:((m:Int) == 0)=true:=by rw[hm0];rfl
      have z2:(m == 0)=true:=by rw[hm0];rfl
      have hbw:Below B w w3:=(zU HC0).bel;have hbr:Below B w (wr.alloc (.cells #[Value.int .i64 v,Value.int .i64 m] 218)):=(hbw.trans ((zU HBEL).mono (by have:=(zU HC0).lt;omega))).alloc (by have:=hbw.size;have:=(zU HC0).lt;omega) _;have HBR:=zH hbr;clear hlx hst hm0 hbw hbr
      rcases aa with⟨rfl,a1⟩|⟨rfl,a1⟩
      all_goals
       go_wp2_with fail;go_ret2;obtain⟨e1,e2⟩:=qjs (zU HE0).symm (by omega) (zU HLX);rw[e1,e2,<-zU HB];exact⟨rfl,zU HBR⟩
     ·have hst2:=zU hst (by omega);have hh128:=hst2.2.2;have HST:=zH hst2;have z1:((m:Int) == 0)=false:=by rw[zB];omega
      have z2:(m == 0)=false:=by rw[zB];omega
      clear hst hst2;obtain⟨P,hP,hP2,hvb,hsh,hor⟩:=qr9 (v:=v) hh128 hm15 (by rw[zU HV,zU HM];exact qnT (zU HR) hx16 (by rw[<-zU HM];exact Nat.pos_of_ne_zero hm0));have HP:=zH hP;have HSH:=zH hsh;have HOR:=zH hor;clear hP hsh hor;obtain⟨h2,hh2⟩:∃h2,h2=P+v:=⟨_,rfl⟩
      obtain⟨L,hL⟩:∃L,L=left+m:=⟨_,rfl⟩
      obtain⟨X,hX⟩:∃X,X=qbk l ((qp s).take (k+1)):=⟨_,rfl⟩
      have hleft:=(zU HX).lt
      have hadd:wrap64 ((left:Int)+(m:Int))=(L:Int):=by
       rw[hL];exact IntWalk.wrap64_in _ ⟨by omega,by omega⟩
      have hwt:=(zU HST).1;rw[<-zU HP,<-hh2,<-hL,<-hX]at hwt
      have hXl:X.length<=30720:=by
       have:=qfp (zU HR) ((qp s).take (k+1));rw[List.length_take,qbK]at this;rw[hX];omega
      have hL22:L<=22:=qww hL hleft hm15;have hh30:h2<1000000000:=qwv hh2 hP2 hvb;have hor:=zU HOR;rw[<-hh2]at hor;have hsh:=zU HSH;have HWT:=zH hwt;have HXX:=zH hX;clear hh2 hL hX hP2 hvb hwt hleft
      rcases aa with⟨rfl,a1⟩|⟨rfl,a1⟩
      all_goals
       go_wp2_with fail;go_quiet (fail);simp only[hsh,hadd];obtain⟨w4,hw4⟩:∃w4,w4=(wr.alloc (.cells #[Value.int .i64 v,Value.int .i64 m] 218)).drewN nq:=⟨_,rfl⟩
       have hb4:Below (g+1) w3 w4:=by rw[hw4];exact zD ((zU HBEL).alloc (by omega) _) _
       have hown4:w4.ownsRow (g+1) 5 1 u8 out.length (out.map Go.Proofs.YtbnmfdlaabdlhaaGreatDoor.B):=by rw[hw4];exact (zU HOWN).alloc _
       rw[<-hw4];have HB4:=zH hb4;have HOWN4:=zH hown4;clear hw4 hb4 hown4 c1 c2 z1 z2 a1 t1 t2 t3 hsh hor hadd;go_wp2_with fail;go_loopw [8,10] (fun v m w5=>∃ (out2:qa) (lf:Nat),m=.int .i64 lf/\lf<=22/\Wait X out.length out2 h2 lf/\w5.ownsRow (g+1) 5 1 v out2.length (out2.map Go.Proofs.YtbnmfdlaabdlhaaGreatDoor.B)/\Below (g+1) w3 w5) (fun _ m _=>(intOf m).toNat)
       case atStart=>exact⟨out,L,rfl,hL22,zU HWT,zU HOWN4,zU HB4⟩
       case round =>
        obtain⟨out2,lf,rfl,hlf22,hw2,hown2,hbel2⟩:=hrel;have HW2:=zH hw2;have HOWN2:=zH hown2;have HBEL2:=zH hbel2;have hol:out2.length<=30720:=by have:=hw2.len;omega
        clear hw2
        by_cases hlf:lf<8
        ·obtain⟨T,U,m1,m2,m3⟩:=qs9 hh30 hlf;obtain⟨h3,hh3⟩:∃h3,h3=h2 % 2 ^ lf:=⟨_,rfl⟩
         rw[<-hh3]at m3;have HH3:=zH hh3;clear hh3 hown2 hbel2;go_wp2_with fail;go_roundw
         case rel=>exact⟨k+1,out2,h3,lf,by omega,by go_num,rfl,rfl,⟨by rw[zU HH3,<-zU HXX];exact (zU HW2).cut,hlf,(zU HST).2.1⟩,zU HOWN2,zU HBEL2⟩
         case measure=>simp[intOf];omega
        ·obtain⟨p,hp⟩:∃p,lf=p+8:=⟨lf-8,by omega⟩
         obtain⟨b,hb1,hb2⟩:=qqY h2 p
         have hw8:IntKind.i64.wrap ((lf:Int)-8)=(p:Int):=by
          rw[hp,show ((p+8:Nat):Int)-8=(p:Int)from by omega];exact IntWalk.i64_in _ ⟨by omega,by omega⟩
         have hst3:=(zU HW2).step (show 8<=lf by omega) b (by rw[show lf-8=p from by omega];exact hb1);rw[show lf-8=p from by omega]at hst3;have HST3:=zH hst3;have HP8:=zH hp;have hsz:=hbel2.size;have hp22:p<=22:=by omega
         have hsz2:g+1<=wr.heap.size:=by omega
         clear hst3 hb1 hp;go_wp2_with (at_builtin;refine qdh rfl _ _ _ rfl (g+1) 5 i0 _ 1 Tryz.underlying37 hi hz0 hz1 hz2 rfl _ _ _ rfl hown2 _ _ rfl rfl ?_ ?_ hsz2 ?_;(unfold maxLen;omega);omega;intro v' w' hown' hb hg;have HOWN':=zH (qgo b hown' rfl);have HB':=zH hb;clear hown' hb hg);go_roundw
         case rel =>
          first
           | exact⟨out2++[b],p,rfl,hp22,zU HST3,by simpa using zU HOWN',(zU HBEL2).trans (zU HB')⟩
           | ((repeat apply Exists.intro);exact⟨⟨out2++[b],p,rfl,hp22,zU HST3,by simpa using zU HOWN',(zU HBEL2).trans (zU HB')⟩,rfl⟩)
         case measure =>
          have:=zU HP8;simp[intOf];omega
    ·have hk':k=2*s.length:=by omega
     subst hk';have hfin:=zU HX;have hnl:(qp s).take (2*s.length)=qp s:=List.take_of_length_le (by rw[qbK];exact Nat.le_refl _);have hwt:=hfin.wait;have hlk:=hfin.has;rw[hnl]at hwt hlk;obtain⟨e1,e2⟩:=qmq (zU HE0).symm (by omega) hlk;have hle8:=hfin.lt;have hbw:Below B w wr:=(zU HC0).bel.trans ((zU HBEL).mono (by have:=(zU HC0).lt;omega));have HBW:=zH hbw;have HE1:=zH e1;have HE2:=zH e2
     by_cases hl0:left=0
     ·subst hl0;have hd:=hwt.done;have hst:=qdl (P:=Tryz.prog) (zU HOWN) 37 9 Tryz.underlying37 Tryz.underlying5 Tryz.underlying9;have HD:=zH hd;clear hfin hwt hlk e1 e2 hbw hd hnl;go_wp2_with fail;go_ret2;rw[zU HE1,zU HE2,<-zU HD,<-zU HB];exact⟨rfl,zU HBW⟩
     ·obtain⟨p,hp⟩:∃p,left+p=8:=⟨8-left,by omega⟩
      have hvl:=hwt.lt;rw[Nat.sub_self,Nat.mul_zero,Nat.zero_add]at hvl;obtain⟨b,b1,b2,b3⟩:=qte hvl hp;have hd:=hwt.last (by omega) hle8 b (by rw[show 8-left=p from by omega];exact b1)
      have hw8:IntKind.i64.wrap (8-(left:Int))=(p:Int):=by
       rw[show 8-(left:Int)=(p:Int)from by omega];exact IntWalk.i64_in _ ⟨by omega,by omega⟩
      have hol:out.length<=30720:=by
       have:=qfp (zU HR) (qp s);rw[qbK]at this;have:=hwt.len;omega
      have hown:=zU HOWN;have hsz:g+1<=wr.heap.size:=by have:=(zU HBEL).size;omega
      have HD:=zH hd;have hbd:=qvL hol;have hp8:p<=8:=le8 hp;have b4:=qvU b;clear hfin hwt hlk e1 e2 hbw hd hnl hvl b1 hp;go_wp2_with (at_builtin;refine qdh rfl _ _ _ rfl (g+1) 5 i0 _ 1 Tryz.underlying37 hi hz0 hz1 hz2 rfl _ _ _ rfl hown _ _ rfl rfl ?_ ?_ hsz ?_;exact hbd.1;exact hbd.2;intro v' w' hown' hb hg;have hst:=qdl (P:=Tryz.prog) (qgo b hown' rfl) 37 9 Tryz.underlying37 Tryz.underlying5 Tryz.underlying9;clear hown');go_ret2;rw[zU HE1,zU HE2,<-zU HD,<-zU HB];exact⟨rfl,(zU HBW).trans (hb.mono (by have:=(zU HC0).lt;omega))⟩
  ·have HS1:=zH hs1;have hs2:(1024:Int)<(s.length:Int):=by omega
   clear hs1
   go_wp2_with (first
    | (refine qj rfl (.tmp 2) rfl B (by rw[zU HB];rfl) l (zU HL) (by rw[<-zU HW0];exact (zU HX0).a) ?_;rw[<-zU HW0,<-zU HB])
    | (go_at_call 195;refine (zU CK).mono ?_;rintro e w1 ⟨rfl,hb1⟩;have HX1:=zH ((zU HX0).below hb1);clear hb1))
   go_ret2;obtain⟨e1,e2⟩:=qjt (l:=l) (zU HE0).symm (show 1024<s.length by have:=zU HS1;omega);rw[e1,e2,<-zU HB];exact⟨rfl,(zU HX1).bel⟩
 ·have z1:((e0:Int) == 0)=false:=by rw[zB];omega
  have z2:((e0:Int) != 0)=true:=by rw[bne_iff_ne];omega
  have H0:=zH h0;clear h0
  go_wp2_with (first
   | (refine qj rfl (.tmp 2) rfl B (by rw[zU HB];rfl) l (zU HL) (by rw[<-zU HW0];exact (zU HX0).a) ?_;rw[<-zU HW0,<-zU HB])
   | (go_at_call 195;refine (zU CK).mono ?_;rintro e w1 ⟨rfl,hb1⟩;have HX1:=zH ((zU HX0).below hb1);clear hb1))
  go_ret2;obtain⟨e1,e2⟩:=qju (l:=l) (s:=s) (by rw[<-zU HE0];exact zU H0);rw[e1,e2,<-zU HE0,<-zU HB];exact⟨rfl,(zU HX1).bel⟩
theorem qrN{s:qa}{k:Nat}{c:UInt8}(hc:s[k]?=some c) :
  ((qa2 (qp (s.take k))).set (c.toNat / 16) (((qp (s.take k)).count (c.toNat / 16):Nat)+1:Int)).set (c.toNat % 16) (((qp (s.take k)++[c.toNat / 16]).count (c.toNat % 16):Nat)+1:Int)=qa2 (qp (s.take (k+1))):=by
 rw[qeL,qeL,List.take_add_one,hc,qkj,List.append_assoc];rfl
theorem qha(s:qa)(k i:Nat):(qp (s.take k)).count i<=2*k:=by
 have:=List.count_le_length (a:=i) (l:=qp (s.take k));rw[qbK,List.length_take]at this;omega
theorem quO{l:List Int}{j:Nat}(h:j<8):(hdB l).take (j+1)=(hdB l).take j++[UInt8.ofNat (16*ln l (2*j)+ln l (2*j+1))]:=by
 rw[List.take_add_one];unfold hdB;rw[List.getElem?_map,List.getElem?_range h];rfl
theorem qog{w:World}{ops:Array Oper}{o:Oper}{a:Act}{K:Act->World->Prop}{Q:Exit->Act->World->Prop}{E:Prop}(hgd:o.guard=none)(s x:Operand)
  (ho:o.op=.call { callee:=.builtin .append,args:=#[s,x],argTypes:=#[37,37] })
  (base:Nat) (v:Value) (n:Nat) (l:qa) (hs:a.eval s=v) (hown:w.ownsRow base 5 1 v n (l.map Go.Proofs.YtbnmfdlaabdlhaaGreatDoor.B)) (g0:Nat) (b:UInt8) (hx:a.eval x=.slice (some ⟨g0,0,none⟩) 1 1)
  (hc:w.cell? ⟨g0,0,none⟩=some (.int .u8 (b.toNat:Int)))
  (hn:n<=1000000) (hbase:base<=w.heap.size)
  (h:∀A' cap' w',w'.ownsRow base 5 1 (.slice A' (n+1) cap') (n+1) ((l++[b]).map Go.Proofs.YtbnmfdlaabdlhaaGreatDoor.B)->w.grownBy w' v.ownBlock->K (a.put o.dst (.slice A' (n+1) cap')) w') :
  if Region.wanted o (yielded ops a.tmps)=true then Oper.wp Tryz.prog o a w K Q else E:=by
 obtain⟨i0,hi0,hz0,hz1,hz2⟩:=info_parts qdn;refine step_append_lies _ hgd s x _ ho base 5 i0 _ 1 1 Tryz.underlying37 hi0 hz0 hz1 hz2 rfl (by decide) v n (l.map Go.Proofs.YtbnmfdlaabdlhaaGreatDoor.B) hs hown ⟨g0,0,none⟩ 1 1 [Go.Proofs.YtbnmfdlaabdlhaaGreatDoor.B b] hx rfl ?_ (by intro y hy;simp at hy;subst hy;rfl) (by decide) (by unfold maxLen;omega) (by omega) hbase w.heap.size rfl ?_
 ·intro j u hj
  match j,hj with
  | 0,hj=>simp at hj;subst hj;simpa[Addr.add]using hc
 ·intro g cap w' hown' hg _ _;refine h _ cap w' ?_ hg;rw[List.map_append];exact hown'
theorem qnP(w:World)(v:Value)(t:TypeId):((w.alloc (.cells #[v] t)).drew).cell? ⟨w.heap.size,0,none⟩=some v:=World.cell?_alloc_new _ _ _ _
theorem qvw(w:World)(base:Nat)(b:UInt8)(h:base<=w.heap.size):(w.alloc (.cells #[Go.Proofs.YtbnmfdlaabdlhaaGreatDoor.B b] 5)).ownsRow base 5 1 (.slice (some ⟨w.heap.size,0,none⟩) 1 1) 1 ([b].map Go.Proofs.YtbnmfdlaabdlhaaGreatDoor.B) :=
 ⟨rfl,.inr ⟨w.heap.size,1,_,rfl,h,heap_alloc_new _ _,Nat.le_refl _,by unfold maxLen;omega,rfl,rfl⟩⟩
theorem qwI{x y:Nat}(hx:x<16)(hy:y<16):bits .or .i64 ((16*x:Nat):Int) (y:Int)=((16*x+y:Nat):Int):=by
 have h:∀a b:Fin 16,bits .or .i64 ((16*a.val:Nat):Int) (b.val:Int)=((16*a.val+b.val:Nat):Int):=by decide +kernel
 exact h ⟨x,hx⟩ ⟨y,hy⟩
attribute [local go_sem ↓] qba in
theorem qtw(s:qa)(w:World)(hs:s.length<=1024) :
  Calls Tryz.prog 133 #[S s] w fun e w'=>e=.returned (.tuple #[S (if s=[]then []else qaR s),.bool (decide (s≠[]))])/\Below w.heap.size w w':=by
 have hz:=qff;obtain⟨B,hB⟩:∃B,B=w.heap.size:=⟨_,rfl⟩
 obtain⟨w0,hw0⟩:∃w0,w0=w.alloc (.cells (qg (Lf fun _=>0)) 168):=⟨_,rfl⟩
 have H0:=zH (show BoxL (Lf fun _=>0) w w0 B B by rw[hw0,hB];exact BoxL.new _ _);have HB:=zH hB;go_enter Tryz.func133,Tryz.ntmps133;go_wp2_with fail;rw[<-hw0,<-zU HB];clear hw0 hB;go_loopw [16] (fun iv wr=>∃k:Nat,k<=s.length/\iv=.int .i64 k/\BoxL (qa2 (qp (s.take k))) w wr B B) (fun iv _=>s.length-(intOf iv).toNat)
 case atStart=>exact⟨0,by omega,rfl,by rw[List.take_zero,show qp []=[]from rfl,qkH];exact zU H0⟩
 case round =>
  obtain⟨k,hk,rfl,hat⟩:=hrel;have HAT:=zH hat;have hsz:=hat.lt;clear hat
  by_cases hks:k<s.length
  ·obtain⟨c,hcc⟩:∃c,(⟨s.toArray⟩:ByteArray)[k]'hks=c:=⟨_,rfl⟩
   have hsc:s[k]?=some c:=by rw[zG hks];exact congrArg some hcc
   have hst:=qrN hsc;have a1:=qvk c;obtain⟨h,hh⟩:∃h,h=c.toNat / 16:=⟨_,rfl⟩
   obtain⟨m,hm⟩:∃m,m=c.toNat % 16:=⟨_,rfl⟩
   rw[<-hh,<-hm]at hst;rw[<-hm]at a1;have hc256:=c.toNat_lt;have hh16:h<16:=by omega
   have hm16:m<16:=by omega
   have a0:(c.toNat:Int) / 16=(h:Int):=by omega
   have b1:=qha s k h
   have b2:(qp (s.take k)++[h]).count m<=2*k+1:=by
    have:=qha s k m;rw[List.count_append];have h2:=List.count_le_length (a:=m) (l:=[h]);rw[List.length_singleton]at h2;omega
   have c1:wr.cell? ⟨B,h,none⟩=some (.int .i64 ((qp (s.take k)).count h:Nat)):=(zU HAT).get (qhR _ hh16);have h1:=(zU HAT).put h (((qp (s.take k)).count h:Nat)+1:Int);rw[qeL]at h1 hst;have c2:(wr.setCell ⟨B,h,none⟩ (.int .i64 (((qp (s.take k)).count h:Nat)+1:Int))).cell? ⟨B,m,none⟩=some (.int .i64 ((qp (s.take k)++[h]).count m:Nat)):=h1.get (qhR _ hm16);have h2:=h1.put m (((qp (s.take k)++[h]).count m:Nat)+1:Int);rw[hst]at h2;have f1:=(zU HAT).free h;have f2:=h1.free m;obtain⟨x,hx⟩:∃x,x=(qp (s.take k)).count h:=⟨_,rfl⟩
   obtain⟨y,hy⟩:∃y,y=(qp (s.take k)++[h]).count m:=⟨_,rfl⟩
   rw[<-hx]at b1 c1 c2 h2 f2;rw[<-hy]at b2 c2 h2;have H2:=zH h2;clear hsc hh hm hx hy h1 h2 hst;have hx2:x<=9223372036854775806:=by omega
   have hy2:y<=9223372036854775806:=by omega
   obtain⟨w1,hw1⟩:∃w1,w1=wr.setCell ⟨B,h,none⟩ (.int .i64 ((x:Int)+1)):=⟨_,rfl⟩
   rw[<-hw1]at c2 H2 f2;have HW1:=zH hw1;clear hw1;go_upto_region 6 with fail
   rw[<-zU HW1];go_wp2_with fail;go_roundw
   case rel=>exact⟨k+1,by omega,by go_num,zU H2⟩
   case measure=>simp[intOf];omega
  ·have hk':k=s.length:=by omega
   subst hk';rw[List.take_length]at HAT;obtain⟨C,hC⟩:∃C,C=qa2 (qp s):=⟨_,rfl⟩
   rw[<-hC]at HAT;have hC16:C.length=16:=by rw[hC];exact qdO _
   have c1:=fun (W:World)=>qtB C W hC16;obtain⟨L,hL⟩:∃L,L=qfw s:=⟨_,rfl⟩
   have hLd:qay C=L:=by rw[hL,hC];rfl
   have HC16:=zH hC16;rw[hLd]at c1;have hl16:L.length=16:=by rw[hL];exact qcz _
   have HL:=zH hL;have HL16:=zH hl16;have HLD:=zH hLd;clear hLd hC16
   by_cases hnil:s=[]
   ·have hb5:qav C=5:=by rw[hC,hnil];exact qty
    rw[hb5]at c1;have c1:=zH c1;have HNIL:=zH hnil;clear hb5 hC hnil hL
    go_wp2_with (first
     | (refine qj rfl (.tmp 4) rfl B rfl C (zU HC16) (zU HAT).o ?_))
    refine (zU c1 _).mono ?_;rintro e w1 ⟨rfl,hb1⟩;have H1:=zH ((zU HAT).below hb1);clear hb1
    go_upto_region 9 with (first
     | (refine wpList_store_row rfl 168 (.tmp 6) (.tmp 39) rfl w1.heap.size (qg L) rfl rfl 168 _ (heap_alloc_new _ _) (by rw[qbP,qt (zU HL16)]) (by rw[qt (zU HL16),qt (qab _)]) (qaY _) ?_))
    have H2:=zH (BoxL.laid L (zU H1).bel (Nat.le_of_lt (Nat.lt_of_le_of_lt (zU H1).le (zU H1).lt)));go_wp2_with fail;go_ret2;rw[<-zU HB];exact⟨by first|rfl|(rw[if_pos (zU HNIL),decide_eq_false (by simpa using zU HNIL)];rfl),(zU H2).bel⟩
   ·have hb0:qav C=0:=by rw[hC];exact qgU hnil hs
    rw[hb0]at c1;have c1:=zH c1;have hr:qI L=0:=by rw[<-zU HLD];exact qfY hb0
    have HR:=zH (qdF hl16 hr);have c2:=zH (fun (W:World)=>qsI s.length W (by omega));have c3:=zH (fun (W:World)=>qnO qih L s W hl16);have HN:=zH hnil;have h015:=zH (qem hr).1;clear hb0 hr hnil hL hl16 hC
    go_wp2_with (first
     | (refine qj rfl (.tmp 4) rfl B rfl C (zU HC16) (zU HAT).o ?_))
    refine (zU c1 _).mono ?_;rintro e w1 ⟨rfl,hb1⟩;have H1:=zH ((zU HAT).below hb1);clear hb1
    go_upto_region 9 with (first
     | (refine wpList_store_row rfl 168 (.tmp 6) (.tmp 39) rfl w1.heap.size (qg L) rfl rfl 168 _ (heap_alloc_new _ _) (by rw[qbP,qt (zU HL16)]) (by rw[qt (zU HL16),qt (qab _)]) (qaY _) ?_))
    obtain⟨w2,hw2⟩:∃w2,w2=(w1.alloc (.cells (qg (Lf fun _=>0)) 168)).setRow w1.heap.size (qg L):=⟨_,rfl⟩
    obtain⟨E,hE⟩:∃E,E=w1.heap.size:=⟨_,rfl⟩
    have H2:=zH (show BoxL L w w2 B E by rw[hw2,hE];exact BoxL.laid L (zU H1).bel (Nat.le_of_lt (Nat.lt_of_le_of_lt (zU H1).le (zU H1).lt)));rw[<-hw2,<-hE];clear hw2 hE;have hE2:=(zU H2).lt;have O3:=zH (qvw w2 (E+1) 2 hE2);have H3:=zH ((zU H2).below ((Below.refl _ _).alloc (Nat.le_refl _) (.cells #[Go.Proofs.YtbnmfdlaabdlhaaGreatDoor.B 2] 5)));go_wp2_with fail;go_loopw [8,9] (fun v iv wr=>∃j:Nat,j<=8/\iv=.int .i64 ((2*j:Nat):Int)/\wr.ownsRow (E+1) 5 1 v (j+1) ((2::(hdB L).take j).map Go.Proofs.YtbnmfdlaabdlhaaGreatDoor.B)/\BoxL L w wr B E) (fun _ iv _=>16-(intOf iv).toNat)
    case atStart=>exact⟨0,by omega,rfl,zU O3,zU H3⟩
    case round =>
     obtain⟨j,hj,rfl,hown,hbx⟩:=hrel;have HOWN:=zH hown;have HBX:=zH hbx;have hE3:=hbx.lt;clear hown hbx
     by_cases hj8:j<8
     ·obtain⟨x,hx⟩:∃x,x=ln L (2*j):=⟨_,rfl⟩
      obtain⟨y,hy⟩:∃y,y=ln L (2*j+1):=⟨_,rfl⟩
      have hx15:x<=15:=by rw[hx];exact (zU HR).one _
      have hy15:y<=15:=by rw[hy];exact (zU HR).one _
      obtain⟨i,hi⟩:∃i,i=2*j:=⟨_,rfl⟩
      have c1:wr.cell? ⟨E,i,none⟩=some (.int .i64 (x:Int)):=by rw[hi,hx];exact (zU HBX).get (qdc (zU HR) (by omega))
      have c2:wr.cell? ⟨E,i+1,none⟩=some (.int .i64 (y:Int)):=by rw[hi,hy];exact (zU HBX).get (qdc (zU HR) (by omega))
      obtain⟨b,hb⟩:∃b,b=UInt8.ofNat (16*x+y):=⟨_,rfl⟩
      have hbn:b.toNat=16*x+y:=by rw[hb,UInt8.toNat_ofNat'];omega
      have hnx:(hdB L).take (j+1)=(hdB L).take j++[b]:=by rw[quO hj8,hb,hx,hy]
      have HNX:=zH hnx;rw[<-hi];have hi16:(i:Int)<16:=by omega
      have hi15:i<15:=by omega
      have HI:=zH hi;have HBN:=zH hbn;clear hx hy hb hnx hi hbn;have w1i:IntKind.i64.wrap ((i:Int)+1)=(i:Int)+1:=IntWalk.i64_in _ ⟨by omega,by omega⟩;have w2i:(0:Int)<=(i:Int)+1:=by omega
      have w3i:(i:Int)+1<16:=by omega
      have w4i:((i:Int)+1).toNat=i+1:=by omega
      go_wp2_with fail
      have hv:IntKind.u8.wrap (bits BinOp.or IntKind.i64 (IntKind.i64.wrap ((x:Int)*16)) (y:Int))=(b.toNat:Int):=by
       have e1:(x:Int)*16=((16*x:Nat):Int):=by omega
       rw[e1,show IntKind.i64.wrap ((16*x:Nat):Int)=((16*x:Nat):Int)from IntWalk.i64_in _ ⟨by omega,by omega⟩,qwI (by omega) (by omega),zU HBN,IntKind.wrap_u8];omega
      go_region_law (go_loud (refine qog rfl _ _ rfl (E+1) _ (j+1) (2::(hdB L).take j) rfl (by exact (zU HOWN).alloc _) wr.heap.size b rfl (by exact qnP _ _ _) (by omega) (by simp;omega) ?_);intro A1 cap1 w5 hown5 hg5;have HOWN5:=zH hown5;have HG5:=zH hg5;clear hown5 hg5)
      all_goals
       go_wp2_with fail;go_roundw
       case rel =>
        refine⟨j+1,by omega,by rw[zU HI];go_num,by rw[zU HNX];exact zU HOWN5,((zU HBX).alloc _).drew.grown (zU HG5) fun k hk=>((zU HOWN).lt k hk).1⟩
       case measure=>simp[intOf];omega
     ·have hj':j=8:=by omega
      subst hj';have hown:=zU HOWN;obtain⟨A,cap,rfl⟩:=qeg hown;rw[List.take_of_length_le (by rw[qfm];exact Nat.le_refl _)]at hown;obtain⟨T,hT⟩:∃T,T=qan L s:=⟨_,rfl⟩
      obtain⟨te,hte⟩:∃te,te=qas L s:=⟨_,rfl⟩
      have hTl:T.length<=4000:=by
       rw[hT]
       by_cases h:qas L s=0
       ·have hx:=(qci h).2.1;unfold qan;rw[if_pos h,qiI];have:=qfp (zU HR) (qp s);rw[qbK]at this;omega
       ·unfold qan;rw[if_neg h];simp
      have hnl:=qb1 4 s.length (by omega);obtain⟨N,hN⟩:∃N,N=nb s.length:=⟨_,rfl⟩
      obtain⟨H,hH⟩:∃H,H=2::hdB L:=⟨_,rfl⟩
      have hHl:H.length=9:=by rw[hH,List.length_cons,qfm]
      have c2':=zU c2;have c3':=zU c3;rw[<-hN]at c2' hnl;rw[<-hT,<-hte]at c3';rw[<-hH]at hown;have c2':=zH c2';have c3':=zH c3';have HOWN2:=zH hown
      have hth:qaR s=H++(N++T):=by
       unfold qaR;rw[<-zU HL,hH,hN,hT,List.cons_append,List.append_assoc]
      have HTH:=zH hth;have k1:H.length+N.length<=9223372036854775807:=by omega
      have k2:H.length+N.length+T.length<=9223372036854775807:=by omega
      have k3:H.length+(N.length+T.length)<=9223372036854775807:=by omega
      clear hown hT hte hN hH hth hHl hnl hTl;go_wp2_with fail;refine (zU c2' _).mono ?_;rintro e w6 ⟨rfl,hb6⟩;have H6:=zH ((zU HBX).below hb6);have O6:=zH (qho (zU HOWN2) fun k _ h2=>hb6.block k h2);clear hb6
      go_wp2_with (first
       | (refine qj rfl (.tmp 6) rfl E rfl L (zU HL16) (zU H6).o ?_))
      refine (zU c3' _).mono ?_;rintro e w7 ⟨rfl,hb7⟩;have H7:=zH ((zU H6).below hb7);have hst:=qdl (P:=Tryz.prog) (qho (zU O6) fun k _ h2=>hb7.block k h2) 37 9 Tryz.underlying37 Tryz.underlying5 Tryz.underlying9;clear hb7;go_wp2_with fail;go_ret2;rw[zU HTH,<-zU HB];exact⟨rfl,(zU H7).bel⟩
end
section
open Go.RowKit Go.Lib Pl Go.ChangeMaps Go.MapKept Go.ChangeShapes
open Go.WideElems (Fit)
open Go.Maps (Keyed string_keyed IsMap atKey_put_same atKey_put_other)
theorem keyed_str:Keyed Tryz.prog 9:=string_keyed Tryz.underlying9
theorem qmo(w:World):(zeroValue 145).run Tryz.prog w=.ok (.slice none 0 0) w:=by kernel_rfl
section
variable {P : Program}
theorem qiV{k:TypeId}(hk:P.underlying k=some .string)(s:ByteArray):∀(es:List MapEntry) (i:Nat),(∀e∈es,∃l,keyOf P k e.key=some l)->∃r,Instr.findNow .string (.string s) es i=some r
 | [],i,_=>⟨_,rfl⟩
 | e::es,i,h=>by
  obtain⟨l,hl⟩:=h e (by simp)
  have hst:∃t,e.key=.string t:=by
   obtain⟨t,ht,_⟩:=WideMaps.string_of_keyOf hk hl;exact⟨t,ht⟩
  obtain⟨t,ht⟩:=hst;obtain⟨r,hr⟩:=qiV hk s es (i+1) (fun e he=>h e (by simp[he]));cases hst:(s == t)
  ·exact⟨r,by simp[Instr.findNow,Instr.sameNow,ht,hst,hr]⟩
  ·exact⟨some (i,e.val),by simp[Instr.findNow,Instr.sameNow,ht,hst]⟩
theorem qpP{t k E:TypeId}(hk:P.underlying k=some .string)(ht:P.underlying t=some (.map k E)){z:Value}(hz:∀w,(zeroValue E).run P w=.ok z w){b:Nat}{es:Array MapEntry}{clock:Nat}
  (hkeys:∀e∈es.toList,∃l,keyOf P k e.key=some l) (s:ByteArray) (hs:s.size<=maxLen) :
  ∃v,∀w:World,w.heap[b]?=some (.map es clock)->(Instr.lookup t (.map (some b)) (.string s) false).run P w=.ok v w:=by
 obtain⟨r,hr⟩:=qiV hk s es.toList 0 hkeys;have hc:=fun w=>(string_keyed hk).check w es.isEmpty (WideMaps.keyOf_string_mk hk hs)
 have hf:∀w,(Instr.findKey k (.string s) es.toList).run P w=.ok r w:=fun w=>by
  unfold Instr.findKey;simp[run_underlying hk,hr]
 cases r with
 | none=>exact⟨z,fun w hb=>by simp[Instr.lookup,run_underlying ht,MapKept.run_getObj_map hb,hc w,hf w,hz w,Result.andThen]⟩
 | some p=>exact⟨p.2,fun w hb=>by obtain⟨j,v⟩:=p;simp[Instr.lookup,run_underlying ht,MapKept.run_getObj_map hb,hc w,hf w,Result.andThen]⟩
end
def qai(s:qa)(m:Nat)(kb:qa):List Int:=((List.range m).filter (fun p=>slice s p (p+3) == kb)).map Int.ofNat
theorem qgS(s:qa)(m:Nat)(kb:qa):qai s (m+1) kb=qai s m kb++(if slice s m (m+3)=kb then [(m:Int)]else []):=by
 unfold qai;rw[List.range_succ,List.filter_append,List.map_append]
 congr 1
 by_cases h:slice s m (m+3)=kb
 ·simp[h]
 ·simp[h]
def qwo(d:DataW Unit)(zs:List Int):Prop:=(d=.nil/\zs=[])\/d=.slice (lits .i64 zs) []
def Whr(w:World)(base b m:Nat)(s:qa):Prop :=
 ∃D:DataW Unit,w.ownsGroups Tryz.prog 9 base 3 .i64 b m D/\IsMap D/\∀kb:qa,qwo (D.atKey (.string kb) .nil) (qai s m kb)
def Fd(w:World)(base F b m:Nat)(s:qa):Prop :=
 w.heap[F]?=some (.cells #[S s,.map (some b),I m] 184 (0,0))/\Whr w base b m s
theorem quw{a b:List Int}(h:(lits .i64 a:List (DataW Unit))=lits .i64 b):a=b:=by
 unfold lits at h;exact (List.map_inj_right (fun x y hxy=>by injection hxy with h1;injection h1)).1 h
theorem qsB{a b:List Int}(h:(.slice (lits .i64 a) []:DataW Unit)=.slice (lits .i64 b) []):a=b:=quw (DataW.slice.inj h).1
theorem qv6{α:Type}{a b:α}{w w':World}(h:(Result.ok a w:Result α)=.ok b w'):a=b:=(Result.ok.inj h).1
theorem Whr.at_{w:World}{base b m:Nat}{s:qa}(h:Whr w base b m s)(hm:m<=1000000)(kb:qa)(hkb:kb.length<=1000000) :
  ∃v,(∀w':World,w'.heap[b]?=w.heap[b]?->(Instr.lookup 182 (.map (some b)) (S kb) false).run Tryz.prog w'=.ok v w') /\
   w.ownsInts base 3 .i64 v (qai s m kb)/\b<base /\
   (∀(w1:World) (v':Value),w.grownBy w1 v.ownBlock->w1.ownsInts base 3 .i64 v' (qai s m kb++[(m:Int)])->(v'.ownBlock=v.ownBlock\/∃g,v'.ownBlock=some g/\w.heap.size<=g)->slice s m (m+3)=kb ->
    ∃w2,(Instr.mapUpdate 182 (.map (some b)) (S kb) v').run Tryz.prog w1=.ok () w2/\Whr w2 base b (m+1) s/\w1.grownBy w2 (some b)):=by
 obtain⟨D,hg,hD,hr⟩:=h;have hsz:(⟨kb.toArray⟩:ByteArray).size<=maxLen:=by show kb.length<=_;unfold maxLen;omega
 have hkey:=WideMaps.keyOf_string_mk Tryz.underlying9 hsz;have hkl:(⟨kb.toArray⟩:ByteArray).data.toList=kb:=by simp
 rw[hkl]at hkey;obtain⟨v,zs,hrun,hat,hoi,hzl,hback⟩:=hg.at keyed_str Tryz.underlying182 (qmo w) (by unfold maxLen;omega) hkey
 have hzs:zs=qai s m kb:=by
  have h1:=hr kb;rw[hat]at h1
  rcases hoi.datum (H:=Unit)with⟨h2,h3⟩|h2
  ·rw[h2]at h1
   rcases h1 with⟨_,h4⟩|h4
   ·rw[h3,h4]
   ·cases h4
  ·rw[h2]at h1
   rcases h1 with⟨h4,_⟩|h4
   ·cases h4
   ·exact qsB h4
 subst hzs;have hg':=hg;obtain⟨es,clock,hb,F,hs,hDe,hbb,hlen,hap⟩:=hg;obtain⟨v2,hv2⟩:=qpP Tryz.underlying9 Tryz.underlying182 qmo F.keys ⟨kb.toArray⟩ hsz (b:=b) (clock:=clock)
 have hvv:v2=v:=by
  have h1:=hv2 w hb;rw[hrun]at h1;exact (qv6 h1).symm
 subst hvv;refine⟨v2,fun w' hw'=>hv2 w' (hw'.trans hb),hoi,hbb,?_⟩;intro w1 v' hg1 hown1 hloc hk;have hlen1:(qai s m kb++[(m:Int)]).length<=m+1:=by rw[zL];simp;exact hzl
 obtain⟨w2,hrun2,hown2,hgr2⟩:=hback w1 v' _ hg1 hown1 hlen1 hloc;refine⟨w2,hrun2,⟨_,hown2,hD.put _ _,?_⟩,hgr2⟩;intro kb';rw[qgS,hk]
 by_cases he:kb'=kb
 ·subst he;rw[atKey_put_same hD (keyed_str.key hkey),if_pos rfl];exact .inr (hown1.datum_pos (by simp))
 ·rw[atKey_put_other (by intro h;injection h with h;exact he h),if_neg (fun h=>he h.symm),List.append_nil];exact hr kb'
theorem qmS{w w':World}{base:Nat}{e:TypeId}{q:IntKind}{v:Value}{zs:List Int}(h:w.ownsInts base e q v zs)(hr:∀(g:Nat) (cs:Array Value),base<=g->w.heap[g]?=some (.cells cs e (0,0))->w'.heap[g]?=some (.cells cs e (0,0))):w'.ownsInts base e q v zs:=by
 refine⟨⟨h.1.1,?_⟩,h.2⟩
 rcases h.1.2 with hn|⟨g,cap,cur,hv,hbg,hgg,rest⟩
 ·exact .inl hn
 ·exact .inr ⟨g,cap,cur,hv,hbg,hr g cur hbg hgg,rest⟩
theorem Whr.keep{w w':World}{base b m:Nat}{s:qa}(h:Whr w base b m s)(hb:w'.heap[b]?=w.heap[b]?)(hr:∀(g:Nat) (cs:Array Value),base<=g->w.heap[g]?=some (.cells cs 3 (0,0))->w'.heap[g]?=some (.cells cs 3 (0,0))):Whr w' base b m s:=by
 obtain⟨D,⟨es,clock,hbk,F,hs,hDe,hbb,hlen,hap⟩,hD,hrd⟩:=h
 have hst:∀x∈es.toList,∀z,rowElem (H:=Unit) w base 3 .i64 x.val=some z->rowElem (H:=Unit) w' base 3 .i64 x.val=some z:=by
  intro x _ z hz;obtain⟨zs,ho,rfl⟩:=rowElem_inv hz;exact rowElem_mk (qmS ho hr)
 obtain⟨F',hmap,_⟩:=F.stay hst;refine⟨D,⟨es,clock,hb.trans hbk,F',hs,by rw[hDe,hmap],hbb,?_,hap⟩,hD,hrd⟩;intro x hx zs hzs;obtain⟨y,hy⟩:=F.reads x hx;obtain⟨zv,hzv,_⟩:=WideElems.rd_val hy;obtain⟨zs0,ho,_⟩:=rowElem_inv hzv;have:=hzs.unique (qmS ho hr);rw[this];exact hlen x hx zs0 ho
end
section
open Pl
theorem qsx{s:qa}{a:Nat}(h:a+3<=s.length):slice s a (a+3)=[s.getD a 0,s.getD (a+1) 0,s.getD (a+2) 0]:=by
 unfold slice
 have e:∀i,i<s.length->s[i]?=some (s.getD i 0):=fun i hi=>by
  rw[List.getD_eq_getElem?_getD,zG hi];rfl
 apply List.ext_getElem?;intro i;rw[List.getElem?_drop,List.getElem?_take]
 match i with
 | 0=>rw[if_pos (by omega),Nat.add_zero,e a (by omega)];rfl
 | 1=>rw[if_pos (by omega),e (a+1) (by omega)];rfl
 | 2=>rw[if_pos (by omega),e (a+2) (by omega)];rfl
 | i+3=>rw[if_neg (by omega)];rfl
theorem qvh{s:qa}{p y:Nat}(hy:y<p)(hp:p+3<=s.length) :
  (slice s y (y+3)=slice s p (p+3)->qa4 s p (p-y)=qbF s p (p-y) 61 3)/\(slice s y (y+3)=slice s p (p+3)↔3<=qa4 s p (p-y)):=by
 rw[qsx (by omega),qsx hp];have e0:p+0-(p-y)=y:=by omega
 have e1:p+1-(p-y)=y+1:=by omega
 have e2:p+2-(p-y)=y+2:=by omega
 have hle:=qkG s p (p-y) (by omega) 61 3 (by omega)
 have key:qa4 s p (p-y)=if s.getD p 0=s.getD y 0 then (if s.getD (p+1) 0=s.getD (y+1) 0 then (if s.getD (p+2) 0=s.getD (y+2) 0 then qbF s p (p-y) 61 3 else 2)else 1)else 0:=by
  unfold qa4;rw[qbF,e0,Nat.add_zero]
  by_cases h0:s.getD p 0=s.getD y 0
  ·rw[if_pos ⟨by omega,h0⟩,if_pos h0,qbF,e1]
   by_cases h1:s.getD (p+1) 0=s.getD (y+1) 0
   ·rw[if_pos ⟨by omega,h1⟩,if_pos h1,qbF,e2]
    by_cases h2:s.getD (p+2) 0=s.getD (y+2) 0
    ·rw[if_pos ⟨by omega,h2⟩,if_pos h2]
    ·rw[if_neg (fun h=>h2 h.2),if_neg h2]
   ·rw[if_neg (fun h=>h1 h.2),if_neg h1]
  ·rw[if_neg (fun h=>h0 h.2),if_neg h0]
 constructor
 ·intro h;injection h with a h;injection h with b h;injection h with c _
  rw[key,if_pos a.symm,if_pos b.symm,if_pos c.symm]
 ·constructor
  ·intro h;injection h with a h;injection h with b h;injection h with c _
   rw[key,if_pos a.symm,if_pos b.symm,if_pos c.symm];exact hle.1
  ·intro h;rw[key]at h
   by_cases h0:s.getD p 0=s.getD y 0
   ·rw[if_pos h0]at h
    by_cases h1:s.getD (p+1) 0=s.getD (y+1) 0
    ·rw[if_pos h1]at h
     by_cases h2:s.getD (p+2) 0=s.getD (y+2) 0
     ·rw[h0,h1,h2]
     ·rw[if_neg h2]at h;omega
    ·rw[if_neg h1]at h;omega
   ·rw[if_neg h0]at h;omega
def qca(s:qa)(p x:Nat):Nat×Nat:=qbT s p (p-x)
theorem qne(s:qa)(p:Nat):qca s p p=(0,0):=by unfold qca;rw[Nat.sub_self];rfl
theorem qr1(s:qa)(p:Nat):qca s p 0=best s p:=by unfold qca best;rfl
theorem qtF{s:qa}{p y:Nat}(hy:y<p)(h:3<=qa4 s p (p-y)) :
  qca s p y=if (qca s p (y+1)).2<qa4 s p (p-y)then (p-y,qa4 s p (p-y))else qca s p (y+1):=by
 unfold qca;obtain⟨f,hf⟩:∃f,p-y=f+1:=⟨p-y-1,by omega⟩
 rw[hf]at h ⊢;have e:p-(y+1)=f:=by omega
 rw[e,qbT]
 by_cases h1:(qbT s p f).2<qa4 s p (f+1)
 ·rw[if_pos ⟨h,h1⟩,if_pos h1]
 ·rw[if_neg (fun h2=>h1 h2.2),if_neg h1]
theorem qr2{s:qa}{p y:Nat}(hy:y<p)(h:¬3<=qa4 s p (p-y)):qca s p y=qca s p (y+1):=by
 unfold qca;obtain⟨f,hf⟩:∃f,p-y=f+1:=⟨p-y-1,by omega⟩
 rw[hf]at h ⊢;have e:p-(y+1)=f:=by omega
 rw[e,qbT,if_neg (fun h2=>h h2.1)]
theorem qjF{s:qa}{p:Nat}(hp:p+3<=s.length):∀x,x<=p ->
  (qai s x (slice s p (p+3))=[]/\qca s p x=best s p) \/
  ∃y,y<x/\slice s y (y+3)=slice s p (p+3)/\qai s x (slice s p (p+3))=qai s y (slice s p (p+3))++[(y:Int)]/\qca s p x=qca s p (y+1)
 | 0,_=>.inl ⟨by simp[qai],qr1 s p⟩
 | x+1,hx=>by
  rw[qgS]
  by_cases h:slice s x (x+3)=slice s p (p+3)
  ·rw[if_pos h];exact .inr ⟨x,by omega,h,rfl,rfl⟩
  ·rw[if_neg h,List.append_nil];have hm:qca s p x=qca s p (x+1):=qr2 (by omega) (fun h2=>h ((qvh (by omega) hp).2.2 h2));rw[<-hm]
   rcases qjF hp x (by omega)with h1|⟨y,h1,h2,h3,h4⟩
   ·exact .inl h1
   ·exact .inr ⟨y,by omega,h2,h3,h4⟩
theorem qr0{s:qa}{p:Nat}(hp:p<=s.length)(h:s.length<p+3):best s p=(0,0):=by
 have:∀f,qbT s p f=(0,0):=fun f=>by
  induction f with
  | zero=>rfl
  | succ f ih =>
   have:=(qf8 s p (f+1) hp).2;rw[qbT,if_neg (by omega),ih]
 exact this p
theorem qk7(s:qa)(m:Nat)(kb:qa):(qai s m kb).length<=m:=by
 unfold qai;rw[List.length_map];exact Nat.le_trans (List.length_filter_le _ _) (by simp)
end
section
open Go.RowKit Go.Lib Pl
attribute [local go_sem] qf qe
structure FdFrame(base F b:Nat)(w w':World):Prop where
 os:w'.os=w.os
 tape:w'.tape=w.tape
 output:w'.output=w.output
 size:w.heap.size<=w'.heap.size
 block:∀(k:Nat) (o:Obj),w.heap[k]?=some o->k≠b->k≠F->(base<=k->∀cs,o≠.cells cs 3 (0,0))->w'.heap[k]?=some o
section
variable {base F b : Nat} {u v x : World}
theorem FdFrame.refl(base F b:Nat)(w:World):FdFrame base F b w w:=⟨rfl,rfl,rfl,Nat.le_refl _,fun _ _ h _ _ _=>h⟩
theorem FdFrame.trans(h:FdFrame base F b u v)(k:FdFrame base F b v x):FdFrame base F b u x :=
 ⟨k.os.trans h.os,k.tape.trans h.tape,k.output.trans h.output,Nat.le_trans h.size k.size,fun i o hi h1 h2 h3=>k.block i o (h.block i o hi h1 h2 h3) h1 h2 h3⟩
theorem FdFrame.of_below(h:Below u.heap.size u v):FdFrame base F b u v :=
 ⟨h.os,h.tape,h.output,h.size,fun i _ hi _ _ _=>(h.block i (zE hi).1).trans hi⟩
theorem FdFrame.below(h:FdFrame base F b u v){B:Nat}(h1:B<=b)(h2:B<=F)(h3:B<=base)(h4:B<=u.heap.size):Below B u v :=
 ⟨h.os,h.tape,h.output,h.size,fun k hk=>by
  have hlt:k<u.heap.size:=by omega
  have:=h.block k u.heap[k] (Array.getElem?_eq_getElem hlt) (by omega) (by omega) (fun h5=>by omega);rw[this,Array.getElem?_eq_getElem hlt]⟩
end
theorem qlt{w:World}{base F:Nat}{cs:Array Value}{fz:Nat×Nat}{v:Value}{zs:List Int}(hblk:w.heap[F]?=some (.cells cs 184 fz))(ho:w.ownsInts base 3 .i64 v zs):v.ownBlock≠some F:=by
 rcases ho.1.2 with⟨rfl,_⟩|⟨g,cap,cur,rfl,_,hg,_⟩
 ·simp[Value.ownBlock]
 ·intro e;have:g=F:=by simpa[Value.ownBlock]using e
  subst this;rw[hblk]at hg;injection hg with hg
  injection hg with _ h2
  exact absurd h2 (by decide)
theorem qoS:(Tryz.prog.info? 3).map (fun i=>(i.zero,i.size,i.bytes))=some (some (.int .i64 0),1,8):=by kernel_rfl
theorem qrA{w:World}{base:Nat}{e:TypeId}{q:IntKind}{v:Value}{zs:List Int}(h:w.ownsInts base e q v zs)(k:Nat):(w.drewN k).ownsInts base e q v zs:=h
theorem qnn{w:World}{ops:Array Oper}{o:Oper}{a:Act}{K:Act->World->Prop}{Q:Exit->Act->World->Prop}{E:Prop}(hgd:o.guard=none)(s x:Operand)
  (ho:o.op=.call { callee:=.builtin .append,args:=#[s,x],argTypes:=#[145,145] })
  (base:Nat) (v:Value) (zs:List Int) (hs:a.eval s=v) (hown:w.ownsInts base 3 .i64 v zs) (g0:Nat) (z:Int) (hx:a.eval x=.slice (some ⟨g0,0,none⟩) 1 1) (hc:w.cell? ⟨g0,0,none⟩=some (I z)) (hz:(Lit.int .i64 z).wf=true)
  (hn:zs.length<=1000000) (hbase:base<=w.heap.size)
  (h:∀g cap w',w'.ownsInts base 3 .i64 (.slice (some ⟨g,0,none⟩) (zs.length+1) cap) (zs++[z])->w.grownBy w' v.ownBlock->(v.ownBlock=some g\/g=w.heap.size)->K (a.put o.dst (.slice (some ⟨g,0,none⟩) (zs.length+1) cap)) w') :
  if Region.wanted o (yielded ops a.tmps)=true then Oper.wp Tryz.prog o a w K Q else E:=by
 obtain⟨i0,hi0,hz0,hz1,hz2⟩:=info_parts qoS;refine step_append_lies _ hgd s x _ ho base 3 i0 _ 1 8 Tryz.underlying145 hi0 hz0 hz1 hz2 rfl (by decide) v zs.length (zs.map (Value.int .i64)) hs hown.1 ⟨g0,0,none⟩ 1 1 [I z] hx rfl ?_ (by intro y hy;simp at hy;subst hy;rfl) (by decide) (by unfold maxLen;omega) (by omega) hbase w.heap.size rfl ?_
 ·intro j u hj
  match j,hj with
  | 0,hj=>simp at hj;subst hj;simpa[Addr.add]using hc
 ·intro g cap w' hown' hg hat _;exact h g cap w' (hown.appended hown' hz) hg hat
theorem qmk(w:World)(k:Nat)(x:Value)(t:TypeId):((w.drewN k).alloc (.cells #[x] t)).cell? ⟨w.heap.size,0,none⟩=some x:=by
 have:=cell_one_new (w.drewN k) x t 0 x rfl;simpa[Addr.add]using this
theorem qji{w w1:World}{F:Nat}{o:Obj}{row:Option Nat}(h:w.heap[F]?=some o)(hne:row≠some F)(hg:w.grownBy w1 row):w1.heap[F]?=some o :=
 (hg.block F (zE h).1 (fun e=>hne e.symm)).trans h
theorem Whr.ne_{w:World}{base b m F:Nat}{s:qa}{cs:Array Value}{t:TypeId}{fz:Nat×Nat}(h:Whr w base b m s)(hF:w.heap[F]?=some (.cells cs t fz)):b≠F:=by
 rintro rfl;obtain⟨D,⟨es,clock,hb,_⟩,_⟩:=h;rw[hb]at hF;cases hF
theorem qd5{w w1:World}{o:Obj}{k:Nat}{row:Option Nat}(h:((w.drewN k).alloc o).grownBy w1 row):w.grownBy w1 row :=
 ⟨h.os,h.tape,h.output,Nat.le_trans (by simp) h.size,fun i hi hne=>(h.block i (by simp;omega) hne).trans (Below.heap_alloc (w.drewN k) o i hi)⟩
theorem qv5{w:World}{o:Obj}{k g n c:Nat}{v:Value}(h:v.ownBlock=some g\/g=((w.drewN k).alloc o).heap.size):(Value.slice (some ⟨g,0,none⟩) n c).ownBlock=v.ownBlock\/∃g',(Value.slice (some ⟨g,0,none⟩) n c).ownBlock=some g'/\w.heap.size<=g':=by
 rcases h with h|h
 ·exact .inl h.symm
 ·exact .inr ⟨g,rfl,by rw[h];simp⟩
theorem qs4{wr w1 w2:World}{base F b q:Nat}{s:qa}{v:Value}{zs:List Int}(hblk:wr.heap[F]?=some (.cells #[S s,.map (some b),I q] 184 (0,0)))(ho:wr.ownsInts base 3 .i64 v zs)(hbF:some b≠some F)
  (hg1:wr.grownBy w1 v.ownBlock) (hg2:w1.grownBy w2 (some b)) (hW2:Whr w2 base b (q+1) s) :
  Fd (w2.setCell ⟨F,2,none⟩ (.int .i64 ((q:Int)+1))) base F b (q+1) s/\FdFrame base F b wr (w2.setCell ⟨F,2,none⟩ (.int .i64 ((q:Int)+1))):=by
 have hF1:=qji hblk (qlt hblk ho) hg1;have hF2:=qji hF1 hbF hg2;have hbF':b≠F:=fun e=>hbF (by rw[e]);refine⟨⟨?_,hW2.keep (Below.heap_setCell _ _ _ _ hbF') ?_⟩,⟨?_,?_,?_,?_,?_⟩⟩
 ·rw[qd0 hF2];rfl
 ·intro g cs _ hg
  rw[Below.heap_setCell _ _ _ _ (fun e=>by
   have e':g=F:=e;subst e';rw[hF2]at hg;injection hg with hg;injection hg with _ h2;exact absurd h2 (by decide))]
  exact hg
 ·exact hg2.os.trans hg1.os
 ·exact hg2.tape.trans hg1.tape
 ·exact hg2.output.trans hg1.output
 ·rw[qcj];exact Nat.le_trans hg1.size hg2.size
 ·intro k o hk h1 h2 h3;have hlt:k<wr.heap.size:=(zE hk).1
  have hne:some k≠v.ownBlock:=fun e=>by
   rcases ho.1.2 with⟨rfl,_⟩|⟨g,cap,cur,rfl,hbg,hg,_⟩
   ·simp[Value.ownBlock]at e
   ·have e':k=g:=by simpa[Value.ownBlock]using e
    subst e';rw[hg]at hk;injection hk with hk
    exact h3 hbg cur hk.symm
  rw[Below.heap_setCell _ _ _ _ (fun e=>h2 e),hg2.block k (Nat.lt_of_lt_of_le hlt hg1.size) (fun e=>h1 (by injection e)),hg1.block k hlt hne];exact hk
theorem qur(s:qa)(base F b m p:Nat)(w:World)(hF:Fd w base F b m s)(hbs:base<=w.heap.size)(hmp:m<=p)(hp:p<=s.length)(hs:s.length<=768) :
  Calls Tryz.prog 189 #[.pointer (some ⟨F,0,none⟩),I p] w fun e w'=>e=.returned (.tuple #[])/\∃m',m<=m'/\m'<=p/\(m'=p\/s.length<m'+3)/\Fd w' base F b m' s/\FdFrame base F b w w':=by
 obtain⟨i0,hi0,hz0,hz1,hz2⟩:=info_parts qoS;go_enter Tryz.func189,Tryz.ntmps189;go_wp2_with fail;go_loopg [4] (p-m) (fun gk _ wr=>∃m',gk=p-m'/\m<=m'/\m'<=p/\Fd wr base F b m' s/\FdFrame base F b w wr)
 case atStart=>exact⟨m,rfl,Nat.le_refl _,hmp,hF,FdFrame.refl _ _ _ _⟩
 case round =>
  obtain⟨q,hgk,hmq,hqp,hFd,hfr⟩:=hrel;obtain⟨hblk,hwhr⟩:=hFd;have hFlt:F<wr.heap.size:=(zE hblk).1;have c0:wr.cell? ⟨F,0,none⟩=some (S s):=by rw[cell_of_row wr F 0 _ _ _ hblk];rfl
  have c1:wr.cell? ⟨F,1,none⟩=some (.map (some b)):=by rw[cell_of_row wr F 1 _ _ _ hblk];rfl
  have c2:wr.cell? ⟨F,2,none⟩=some (I q):=by rw[cell_of_row wr F 2 _ _ _ hblk];rfl
  have f2:wr.frozen? ⟨F,2,none⟩=false:=by simp[World.frozen?,hblk]
  have hbs2:=hfr.size;have HG:=zH hgk;clear hgk
  by_cases hlt:q<p
  ·have d1:decide (q<p)=true:=by simp;omega
   have d1i:decide ((q:Int)<(p:Int))=true:=by simp;omega
   have hw3:IntKind.i64.wrap ((q:Int)+3)=(q:Int)+3:=IntWalk.i64_in _ ⟨by omega,by omega⟩
   by_cases h3:q+3<=s.length
   ·have d2:decide ((q:Int)+3<=(s.length:Int))=true:=by simp;omega
    have n1:(0:Int)<=(q:Int):=by omega
    have n2:(0:Int)<=(q:Int)+3:=by omega
    have n3:((q:Int)+3).toNat=q+3:=by omega
    have n4:(q:Int)<=(q:Int)+3:=by omega
    have n5:(q:Int)+3<=(s.length:Int):=by omega
    have hsl:=qbU s q (q+3);obtain⟨v,hv,hoi,hbb,hback⟩:=hwhr.at_ (by omega) (slice s q (q+3)) (by omega)
    obtain⟨A,cap,hvs⟩:∃A cap,v=.slice A (qai s q (slice s q (q+3))).length cap:=by
     rcases hoi.1.2 with⟨rfl,h0⟩|⟨g,cap,cur,rfl,_⟩
     ·exact⟨none,0,by rw[h0]⟩
     ·exact⟨_,_,rfl⟩
    subst hvs
    have hpl:(qai s q (slice s q (q+3))).length<=q:=by
     unfold qai;rw[List.length_map];exact Nat.le_trans (List.length_filter_le _ _) (by simp)
    have HV:=zH hv;have HO:=zH hoi;have HB:=zH hback;have HK:=zH hblk;clear hv hoi hback hblk hsl;go_wp2_with fail;go_quiet (fail);go_wp2_with fail;go_quiet (fail);go_wp2_with fail;have hblt:b<wr.heap.size:=by omega
    have hbF:some b≠some F:=fun e=>by injection e with e;exact hwhr.ne_ (zU HK) e
    have hqwf:(Lit.int .i64 (q:Int)).wf=true:=WalkArith.wf_i64 (by omega);have hl1:=fun (k:Nat)=>zU HV (wr.drewN k) rfl;have hl2:=fun (k:Nat) (o:Obj)=>zU HV ((wr.drewN k).alloc o) (Below.heap_alloc (wr.drewN k) o b hblt);have hx1:=fun (k:Nat) (o:Obj)=>(World.cell?_alloc_lt (wr.drewN k) o ⟨F,1,none⟩ hFlt).trans c1;have hx2:=fun (k:Nat) (o:Obj)=>(World.cell?_alloc_lt (wr.drewN k) o ⟨F,2,none⟩ hFlt).trans c2
    go_region_held3 (fun w'=>w'.cell? ⟨F,1,none⟩=some (.map (some b))/\w'.cell? ⟨F,2,none⟩=some (I q))
     (first
      | go_keep
      | (
        go_split_ands;refine⟨?_,?_⟩
        ·exact hx1 _ _
        ·exact hx2 _ _)
      | (
        go_split_ands;refine⟨?_,?_⟩
        ·first|exact (cell_of_row w1 F 1 _ _ _ hF1).trans rfl|exact (cell_of_row w2 F 1 _ _ _ hF2).trans rfl
        ·first|exact (cell_of_row w1 F 2 _ _ _ hF1).trans rfl|exact (cell_of_row w2 F 2 _ _ _ hF2).trans rfl))
     ((refine qnn rfl _ _ rfl base _ (qai s q (slice s q (q+3))) rfl (by exact ((qrA (zU HO) _).alloc _)) wr.heap.size (q:Int) rfl (qmk wr _ _ _) hqwf (by omega) (by simp;omega) ?_;intro g1 cap1 w1 hown1 hgrow1 hat1;have hF1:=qji (zU HK) (qlt (zU HK) (zU HO)) (qd5 hgrow1);obtain⟨w2,hrun2,hW2,hg2⟩:=zU HB w1 _ (qd5 hgrow1) hown1 (qv5 hat1) (by first|trivial|rfl);have hF2:=qji hF1 hbF hg2))
    all_goals
     obtain⟨hc1',hc2'⟩:=‹w2.cell? ⟨F,1,none⟩=some (.map (some b))/\w2.cell? ⟨F,2,none⟩=some (I q)›;have hf2':w2.frozen? ⟨F,2,none⟩=false:=qa3 w2 F 2 _ _ hF2;clear hl1 hl2 hx1 hx2 c0 c1 c2 f2;go_wp2_with fail;go_roundg (p-(q+1))
     case measure=>have:=zU HG;omega
     case rel =>
      obtain⟨h1,h2⟩:=qs4 (zU HK) (zU HO) hbF (qd5 hgrow1) hg2 hW2;exact⟨q+1,rfl,by omega,by omega,h1,hfr.trans h2⟩
   ·have d2:decide ((q:Int)+3<=(s.length:Int))=false:=by simp;omega
    clear hbs2;go_wp2_with fail;go_quiet (fail);go_wp2_with fail;go_end0;exact⟨rfl,q,hmq,hqp,.inr (by omega),⟨hblk,hwhr⟩,hfr.trans (FdFrame.of_below (zD (Below.refl _ _) _))⟩
  ·have d1:decide (q<p)=false:=by simp;omega
   have d1i:decide ((q:Int)<(p:Int))=false:=by simp;omega
   clear hbs2;go_wp2_with fail;go_quiet (fail);go_wp2_with fail;go_end0;exact⟨rfl,q,hmq,hqp,.inl (by omega),⟨hblk,hwhr⟩,hfr.trans (FdFrame.of_below (zD (Below.refl _ _) _))⟩
theorem qh8(s:qa)(kb:qa)(x:Nat):∀d,∃r,qai s (x+d) kb=qai s x kb++r
 | 0=>⟨[],by simp⟩
 | d+1=>by
  obtain⟨r,hr⟩:=qh8 s kb x d;rw[<-Nat.add_assoc,qgS,hr];exact⟨_,List.append_assoc _ _ _⟩
theorem qrb{s:qa}{kb:qa}{x y p:Nat}(hx:x<=p)(h:qai s x kb=qai s y kb++[(y:Int)]):(qai s p kb)[(qai s y kb).length]?=some (y:Int):=by
 obtain⟨r,hr⟩:=qh8 s kb x (p-x);rw[show x+(p-x)=p from by omega]at hr;rw[hr,h,List.append_assoc,List.getElem?_append_right (Nat.le_refl _),Nat.sub_self];rfl
theorem qwg{α:Type}{l:List α}{i:Nat}{a:α}(h:l[i]?=some a):i<l.length:=(List.getElem?_eq_some_iff.1 h).1
theorem quE{α:Type}(l:List α)(a:α):(((l++[a]).length:Nat):Int)-1=(l.length:Int):=by simp
theorem qu4(s:qa)(base F b m p:Nat)(w:World)(hF:Fd w base F b m s)(hbs:base<=w.heap.size)(_hFb:F<base)(hmp:m<=p)(hp:p<=s.length)(hs:s.length<=768) :
  Calls Tryz.prog 162 #[.pointer (some ⟨F,0,none⟩),I p] w fun e w'=>e=.returned (.tuple #[I (best s p).1,I (best s p).2])/\∃m',m<=m'/\m'<=p/\Fd w' base F b m' s/\FdFrame base F b w w':=by
 have cN:=zH (qur s base F b m p w hF hbs hmp hp hs);go_enter Tryz.func162,Tryz.ntmps162;go_wp2_with fail;refine (zU cN).mono ?_;rintro e w1 ⟨rfl,q,hmq,hqp,hq,hFd,hfr⟩;have hFd':=hFd;obtain⟨hblk,hwhr⟩:=hFd;have hFlt:F<w1.heap.size:=(zE hblk).1;have c0:w1.cell? ⟨F,0,none⟩=some (S s):=by rw[cell_of_row w1 F 0 _ _ _ hblk];rfl
 have c1:w1.cell? ⟨F,1,none⟩=some (.map (some b)):=by rw[cell_of_row w1 F 1 _ _ _ hblk];rfl
 by_cases h3:s.length<p+3
 ·have hbest:=qr0 hp h3;have HB:=zH hbest;have h3i:(s.length:Int)<(p:Int)+3:=by omega
  clear hbest;go_wp2_with fail;go_ret2;rw[zU HB];exact⟨rfl,q,hmq,hqp,hFd',hfr⟩
 ·have hqp2:q=p:=by omega
  have h3b:p+3<=s.length:=by omega
  have h3i:(p:Int)+3<=(s.length:Int):=by omega
  have n1:(0:Int)<=(p:Int):=by omega
  have n2:(0:Int)<=(p:Int)+3:=by omega
  have n3:((p:Int)+3).toNat=p+3:=by omega
  have n4:(p:Int)<=(p:Int)+3:=by omega
  have hw3:IntKind.i64.wrap ((p:Int)+3)=(p:Int)+3:=IntWalk.i64_in _ ⟨by omega,by omega⟩;have hsl:=qbU s p (p+3);obtain⟨v,hv,hoi,hbb,_⟩:=hwhr.at_ (by omega) (slice s p (p+3)) (by omega);rw[hqp2]at hoi;have hpl:=qk7 s p (slice s p (p+3))
  obtain⟨A,cap,hvs⟩:∃A cap,v=.slice A (qai s p (slice s p (p+3))).length cap:=by
   rcases hoi.1.2 with⟨rfl,h0⟩|⟨g,cap,cur,rfl,_⟩
   ·exact⟨none,0,by rw[h0]⟩
   ·exact⟨_,_,rfl⟩
  subst hvs;have hl0:=fun (k:Nat)=>hv (w1.drewN k) rfl;have HV:=zH hv;have HO:=zH hoi;have HFD:=zH hFd';have HQ:=zH hqp2;obtain⟨P,hP⟩:∃P,P=qai s p (slice s p (p+3)):=⟨_,rfl⟩
  rw[<-hP]at hl0 hpl;clear hv hoi hsl hwhr hFd' hqp2 hblk hq;go_wp2_with fail;go_quiet (fail);go_wp2_with fail;clear hl0 c1;have hPi:(0:Int)<=(P.length:Int):=by omega
  have hPj:IntKind.i64.wrap ((P.length:Int)-1)=(P.length:Int)-1:=IntWalk.i64_in _ ⟨by omega,by omega⟩;have HP:=zH hP;clear hP;go_wp2_with fail
  go_loopw [7,8,9] (fun fv sv i wr=>∃x:Nat,x<=p/\i=.int .i64 (((qai s x (slice s p (p+3))).length:Int)-1)/\fv=.int .i64 (qca s p x).1/\sv=.int .i64 (qca s p x).2/\Below w1.heap.size w1 wr)
   (fun _ _ i _=>(intOf i+1).toNat)
  case atStart =>
   refine⟨p,Nat.le_refl _,by rw[<-zU HP];rw[IntWalk.wrap64_in _ ⟨by omega,by omega⟩],by rw[qne];rfl,by rw[qne];rfl,zD (Below.refl _ _) _⟩
  case round =>
   obtain⟨x,hx,hi,hf7,hs8,hbel⟩:=hrel;have c0':wr.cell? ⟨F,0,none⟩=some (S s):=(hbel.cell (p:=⟨F,0,none⟩) hFlt).trans c0
   rcases qjF h3b x hx with⟨he,hb⟩|⟨y,hyx,hy3,hpe,hb⟩
   ·rw[he]at hi;subst hi;rw[hb]at hf7 hs8;subst hf7 hs8;clear he hb;go_wp2_with fail;go_ret2;refine⟨rfl,p,by omega,Nat.le_refl _,?_,?_⟩
    ·have h5:=zU HFD;have h6:=hfr.size;rw[zU HQ]at h5;exact⟨(hbel.block F hFlt).trans h5.1,h5.2.keep (hbel.block b (by omega)) (fun g cs _ hg=>(hbel.block g (zE hg).1).trans hg)⟩
    ·exact hfr.trans (FdFrame.of_below hbel)
   ·have hget:=qrb hx hpe;rw[hpe,quE]at hi;obtain⟨L,hL⟩:∃L,L=(qai s y (slice s p (p+3))).length:=⟨_,rfl⟩
    have hLy:L<=y:=by rw[hL];exact qk7 _ _ _
    rw[<-hL]at hi hget;rw[<-zU HP]at hget;have hLP:=qwg hget;subst hi;obtain⟨⟨bf,bs⟩,hbp⟩:∃q:Nat×Nat,q=qca s p x:=⟨_,rfl⟩
    rw[<-hbp]at hf7 hs8;subst hf7 hs8;have hO:=zU HO;rw[<-zU HP]at hO
    obtain⟨g,hg⟩:∃g,A=some ⟨g,0,none⟩:=by
     rcases hO.1.2 with⟨h5,_⟩|⟨g,_,_,h5,_⟩
     ·injection h5 with h6 h7 _;omega
     ·injection h5 with h6;exact⟨g,h6⟩
    subst hg;have hgl:=(OwnM.of hO.1).lt g rfl;have hcL:=(OwnM.of hO.1).cells (g:=g) rfl L (I y) (by rw[List.getElem?_map,hget];rfl);rw[show (⟨g,0,none⟩:Addr).add L=⟨g,L,none⟩from by simp[Addr.add];exact Eq.symm]at hcL;obtain⟨hcq,hc3⟩:=qvh (s:=s) (p:=p) (y:=y) (by omega) h3b;have hcome:=hcq hy3;have hge:=hc3.1 hy3;have hle:=(qf8 s p (p-y) hp)
    obtain⟨c,hc⟩:∃c,c=qa4 s p (p-y):=⟨_,rfl⟩
    have hhit:=qtF (s:=s) (p:=p) (y:=y) (by omega) hge;rw[<-hb,<-hbp]at hhit;rw[<-hc]at hhit hge hle;have HH:=zH hhit;have HC:=zH hc;have HCM:=zH hcome;have HB:=zH hb;have HBP:=zH hbp;have HPE:=zH hpe;have HLL:=zH hL;have q1:decide ((L:Int) ≥ 0)=true:=by simp
    have q2:(0:Int)<=(L:Int):=by omega
    have q4:L<(qai s p (slice s p (p+3))).length:=by rw[<-zU HP];exact hLP
    have q3:(L:Int)<((qai s p (slice s p (p+3))).length:Int):=by omega
    clear hhit hc hcome hb hbp hpe hL hO hget hy3 hc3 hcq c0';go_wp2_with fail;go_loopw [10] (fun i wn=>∃n:Nat,3<=n/\n<=64/\i=.int .i64 n/\qa4 s p (p-y)=qbF s p (p-y) (64-n) n/\Below w1.heap.size w1 wn) (fun i _=>64-(intOf i).toNat)
    case atStart=>exact⟨3,by omega,by omega,rfl,zU HCM,hbel⟩
    case round =>
     obtain⟨n,hn3,hn64,rfl,hcn,hbeln⟩:=hrel;have c0n:wr.cell? ⟨F,0,none⟩=some (S s):=(hbeln.cell (p:=⟨F,0,none⟩) hFlt).trans c0;have cLn:wr.cell? ⟨g,L,none⟩=some (I y):=(hbeln.cell (p:=⟨g,L,none⟩) hgl.2).trans hcL;clear c0 hcL;have r2:IntKind.i64.wrap ((p:Int)-(y:Int))=(p:Int)-(y:Int):=IntWalk.i64_in _ ⟨by omega,by omega⟩
     by_cases hn:n<64
     ·have d1:decide ((n:Int)<64)=true:=by simp;omega
      have hpk:IntKind.i64.wrap ((p:Int)+(n:Int))=(p:Int)+(n:Int):=IntWalk.i64_in _ ⟨by omega,by omega⟩;have hyk:IntKind.i64.wrap ((y:Int)+(n:Int))=(y:Int)+(n:Int):=IntWalk.i64_in _ ⟨by omega,by omega⟩
      by_cases hpn:p+n<s.length
      ·have d2:decide ((p:Int)+(n:Int)<(s.length:Int))=true:=by simp;omega
       have hyl:y+n<s.length:=by omega
       have e1:(0:Int)<=(p:Int)+(n:Int):=by omega
       have e2:((p:Int)+(n:Int)).toNat=p+n:=by omega
       have e3:(p:Int)+(n:Int)<(s.length:Int):=by omega
       have f1:(0:Int)<=(y:Int)+(n:Int):=by omega
       have f2:((y:Int)+(n:Int)).toNat=y+n:=by omega
       have f3:(y:Int)+(n:Int)<(s.length:Int):=by omega
       obtain⟨a,ha⟩:∃a,(⟨s.toArray⟩:ByteArray)[y+n]'hyl=a:=⟨_,rfl⟩
       obtain⟨b',hb'⟩:∃b',(⟨s.toArray⟩:ByteArray)[p+n]'hpn=b':=⟨_,rfl⟩
       have hga:s.getD (p+n) 0=b':=by rw[List.getD_eq_getElem?_getD,zG hpn];exact hb'
       have hgb:s.getD (p+n-(p-y)) 0=a:=by rw[show p+n-(p-y)=y+n from by omega,List.getD_eq_getElem?_getD,zG hyl];exact ha
       have h64:64-n=(63-n)+1:=by omega
       rw[h64,qbF,hga,hgb]at hcn;have HCN:=zH hcn;clear hcn hga hgb h64
       by_cases hab:a=b'
       ·subst hab;have g1:((a.toNat:Int) == (a.toNat:Int))=true:=by simp
        go_wp2_with fail;go_quiet (fail);go_wp2_with fail;go_roundw
        case rel =>
         refine⟨n+1,by omega,by omega,by go_num,?_,zD hbeln _⟩;rw[zU HCN,if_pos ⟨hpn,by first|trivial|rfl⟩,show 64-(n+1)=63-n from by omega]
        case measure=>simp[intOf];omega
       ·have g1:((a.toNat:Int) == (b'.toNat:Int))=false:=by
         rw[zB];intro h;exact hab (UInt8.toNat_inj.1 (by omega))
        have hfin:c=n:=by rw[zU HC,zU HCN,if_neg (fun h=>hab h.2.symm)]
        subst hfin;clear hab;go_wp2_with fail;go_quiet (fail);go_wp2_with fail
        all_goals
         have hh:=zU HH;have hbe:Below w1.heap.size w1 (wr.drewN nq):=zD hbeln _;refine⟨⟨y,by omega,by rw[zU HLL],?_,?_,by first|exact hbe|exact zD hbe _⟩,by simp[intOf] <;> omega⟩
         all_goals first
          | (rw[if_neg (by omega)]at hh;rw[hh])
          | (rw[if_pos (by omega)]at hh;rw[hh];first | done | rfl | (apply congrArg <;> omega) | (rw[r2];apply congrArg <;> omega))
      ·have d2:decide ((p:Int)+(n:Int)<(s.length:Int))=false:=by simp;omega
       have hfin:c=n:=by rw[zU HC,hcn,show 64-n=(63-n)+1 from by omega,qbF,if_neg (fun h=>hpn h.1)]
       subst hfin;clear hcn;go_wp2_with fail;go_quiet (fail);go_wp2_with fail
       all_goals
        have hh:=zU HH;have hbe:Below w1.heap.size w1 (wr.drewN nq):=zD hbeln _;refine⟨⟨y,by omega,by rw[zU HLL],?_,?_,by first|exact hbe|exact zD hbe _⟩,by simp[intOf] <;> omega⟩
        all_goals first
         | (rw[if_neg (by omega)]at hh;rw[hh])
         | (rw[if_pos (by omega)]at hh;rw[hh];first | done | rfl | (apply congrArg <;> omega) | (rw[r2];apply congrArg <;> omega))
     ·have d1:decide ((n:Int)<64)=false:=by simp;omega
      have hfin:c=n:=by rw[zU HC,hcn,show 64-n=0 from by omega,qbF]
      subst hfin;clear hcn;go_wp2_with fail;go_quiet (fail);go_wp2_with fail
      all_goals
       have hh:=zU HH;have hbe:Below w1.heap.size w1 (wr.drewN nq):=zD hbeln _;refine⟨⟨y,by omega,by rw[zU HLL],?_,?_,by first|exact hbe|exact zD hbe _⟩,by simp[intOf] <;> omega⟩
       all_goals first
        | (rw[if_neg (by omega)]at hh;rw[hh])
        | (rw[if_pos (by omega)]at hh;rw[hh];first | done | rfl | (apply congrArg <;> omega) | (rw[r2];apply congrArg <;> omega))
structure PSt(B:Nat)(w:World)(s:qa)(a p m:Nat)(v:Value)(n:Nat)(o:List Tok):Prop where
 pf:w.heap[B+2]?=some (.cells #[.pointer (some ⟨B+1,0,none⟩)] 181 (0,0))
 po:w.heap[B+3]?=some (.cells #[v] 151 (0,0))
 pa:w.heap[B+4]?=some (.cells #[I a] 3 (0,0))
 pt:w.heap[B+5]?=some (.cells #[I p] 3 (0,0))
 own:w.ownsRow (B+6) 186 3 v n (qD o)
 fd:Fd w (B+6) (B+1) B m s
theorem qgi{w w':World}{base e size n:Nat}{v:Value}{xs:List Value}(h:w.ownsRow base e size v n xs)(hk:∀g,v.ownBlock=some g->w'.heap[g]?=w.heap[g]?):w'.ownsRow base e size v n xs:=by
 refine⟨h.1,?_⟩
 rcases h.2 with hn|⟨g,cap,cur,hv,hb,hg,rest⟩
 ·exact .inl hn
 ·exact .inr ⟨g,cap,cur,hv,hb,(hk g (by rw[hv];rfl)).trans hg,rest⟩
theorem qt4{w:World}{base e size n g:Nat}{v:Value}{xs:List Value}{cs:Array Value}{t:TypeId}{fz:Nat×Nat}(h:w.ownsRow base e size v n xs)(hv:v.ownBlock=some g)(hg:w.heap[g]?=some (.cells cs t fz)):t=e:=by
 rcases h.2 with⟨rfl,_⟩|⟨g',cap,cur,rfl,hb,hgg,rest⟩
 ·simp[Value.ownBlock]at hv
 ·have e':g'=g:=by simpa[Value.ownBlock]using hv
  subst e';rw[hg]at hgg;injection hgg with hgg
  injection hgg
section
variable {B : Nat} {w w1 : World} {s : qa} {a p m n : Nat} {v : Value} {o : List Tok}
theorem PSt.pushed(h:PSt B w s a p m v n o){v1:Value}{n1:Nat}{o1:List Tok}(hg:w.grownBy w1 v.ownBlock)(ho:w1.ownsRow (B+6) 186 3 v1 n1 (qD o1)) :
  PSt B (w1.setCell ⟨B+3,0,none⟩ v1) s a p m v1 n1 o1/\Below B w (w1.setCell ⟨B+3,0,none⟩ v1):=by
 have hlo:=h.own.lt;have far:∀k,k<B+6->k<w.heap.size->w1.heap[k]?=w.heap[k]?:=fun k hk hks=>hg.block k hks (fun e=>by have:=(hlo k e.symm).1;omega);have hs5:=(zE h.pt).1;have st:∀k,k≠B+3->(w1.setCell ⟨B+3,0,none⟩ v1).heap[k]?=w1.heap[k]?:=fun k hk=>Below.heap_setCell _ _ _ _ hk;have one:∀k,k<B+6->k≠B+3->(w1.setCell ⟨B+3,0,none⟩ v1).heap[k]?=w.heap[k]?:=fun k h1 h2=>(st k h2).trans (far k h1 (by omega));have hpo:w1.heap[B+3]?=some (.cells #[v] 151 (0,0)):=(far _ (by omega) (by omega)).trans h.po;have hlo1:=ho.lt;refine⟨⟨(one _ (by omega) (by omega)).trans h.pf,?_,(one _ (by omega) (by omega)).trans h.pa,(one _ (by omega) (by omega)).trans h.pt,?_,⟨(one _ (by omega) (by omega)).trans h.fd.1,h.fd.2.keep (one _ (by omega) (by omega)) ?_⟩⟩,?_⟩
 ·rw[qd0 hpo];rfl
 ·exact qgi ho fun g e=>st g (by have:=(hlo1 g e).1;omega)
 ·intro g cs hbg hgg
  have hne:some g≠v.ownBlock:=fun e=>by
   have:=qt4 h.own e.symm hgg;exact absurd this (by decide)
  exact (st g (by omega)).trans ((hg.block g (zE hgg).1 hne).trans hgg)
 ·exact⟨hg.os,hg.tape,hg.output,by rw[qcj];exact hg.size,fun k hk=>one k (by omega) (by omega)⟩
theorem PSt.drewN(h:PSt B w s a p m v n o)(k:Nat):PSt B (w.drewN k) s a p m v n o:=⟨h.pf,h.po,h.pa,h.pt,h.own,h.fd⟩
end
theorem qnm{w:World}{ops:Array Oper}{o:Oper}{a:Act}{K:Act->World->Prop}{Q:Exit->Act->World->Prop}{E:Prop}(hgd:o.guard=none)(s x:Operand)
  (ho:o.op=.call { callee:=.builtin .append,args:=#[s,x],argTypes:=#[151,151] })
  (base:Nat) (v:Value) (n:Nat) (l:List Tok) (hs:a.eval s=v) (hown:w.ownsRow base 186 3 v n (qD l)) (g0:Nat) (b:qa) (f m:Int) (hx:a.eval x=.slice (some ⟨g0,0,none⟩) 1 1)
  (hc:∀j u,[S b,I f,I m][j]?=some u->w.cell? ((⟨g0,0,none⟩:Addr).add j)=some u)
  (hn:n<=1000000) (hbase:base<=w.heap.size)
  (h:∀A' cap' w',w'.ownsRow base 186 3 (.slice A' (n+1) cap') (n+1) (qD (l++[⟨b,f,m⟩]))->w.grownBy w' v.ownBlock->K (a.put o.dst (.slice A' (n+1) cap')) w') :
  if Region.wanted o (yielded ops a.tmps)=true then Oper.wp Tryz.prog o a w K Q else E:=by
 obtain⟨i0,hi0,hz0,hz1,hz2⟩:=info_parts qoR;refine step_append_lies _ hgd s x _ ho base 186 i0 _ 3 32 Tryz.underlying151 hi0 hz0 hz1 hz2 rfl (by decide) v n (qD l) hs hown ⟨g0,0,none⟩ 1 1 [S b,I f,I m] hx rfl hc ?_ (by decide) (by unfold maxLen;omega) (by omega) hbase w.heap.size rfl ?_
 ·intro y hy;simp at hy
  rcases hy with rfl|rfl|rfl <;> rfl
 ·intro g cap w' hown' hg _ _;refine h _ cap w' ?_ hg;rw[qg3];exact hown'
theorem qpe(w:World)(k:Nat)(x y z:Value)(t:TypeId):∀j u,[x,y,z][j]?=some u->((w.drewN k).alloc (.cells #[x,y,z] t)).cell? ((⟨w.heap.size,0,none⟩:Addr).add j)=some u :=
 fun j u h=>by simpa using qlK (w.drewN k) x y z t j u h
theorem qpY{B:Nat}{w w1:World}{s:qa}{a p m n:Nat}{v:Value}{o:List Tok}(h:PSt B w s a p m v n o)(hg:w.grownBy w1 v.ownBlock) :
  w1.heap[B+3]?=some (.cells #[v] 151 (0,0))/\w1.cell? ⟨B+1,0,none⟩=some (S s)/\w1.cell? ⟨B+2,0,none⟩=some (.pointer (some ⟨B+1,0,none⟩))/\w1.cell? ⟨B+4,0,none⟩=some (I a)/\w1.cell? ⟨B+5,0,none⟩=some (I p):=by
 have hlo:=h.own.lt;have hs5:=(zE h.pt).1;have far:∀k,k<B+6->w1.heap[k]?=w.heap[k]?:=fun k hk=>hg.block k (by omega) (fun e=>by have:=(hlo k e.symm).1;omega);refine⟨(far _ (by omega)).trans h.po,?_,?_,?_,?_⟩
 ·rw[cell_of_row w1 _ 0 _ _ _ ((far _ (by omega)).trans h.fd.1)];rfl
 ·rw[cell_of_row w1 _ 0 _ _ _ ((far _ (by omega)).trans h.pf)];rfl
 ·rw[cell_of_row w1 _ 0 _ _ _ ((far _ (by omega)).trans h.pa)];rfl
 ·rw[cell_of_row w1 _ 0 _ _ _ ((far _ (by omega)).trans h.pt)];rfl
attribute [local go_sem] World.cell?_alloc_some in
theorem qm6(B:Nat)(w:World)(s:qa)(a p m:Nat)(v:Value)(n:Nat)(o:List Tok)(hP:PSt B w s a p m v n o)(ha:a<=p)(hp:p<=s.length)(hn:n<=10000) :
  Calls Tryz.prog 161 #[.pointer (some ⟨B+4,0,none⟩),.pointer (some ⟨B+5,0,none⟩),.pointer (some ⟨B+3,0,none⟩),.pointer (some ⟨B+2,0,none⟩)] w fun e w'=>e=.returned (.tuple #[])/\(∃v' n',n'<=n+1/\PSt B w' s a p m v' n' (o++qb9 s a p))/\Below B w w':=by
 have c5:w.cell? ⟨B+5,0,none⟩=some (I p):=by rw[cell_of_row w _ 0 _ _ _ hP.pt];rfl
 have c4:w.cell? ⟨B+4,0,none⟩=some (I a):=by rw[cell_of_row w _ 0 _ _ _ hP.pa];rfl
 have c3:w.cell? ⟨B+3,0,none⟩=some v:=by rw[cell_of_row w _ 0 _ _ _ hP.po];rfl
 have c2:w.cell? ⟨B+2,0,none⟩=some (.pointer (some ⟨B+1,0,none⟩)):=by rw[cell_of_row w _ 0 _ _ _ hP.pf];rfl
 have c1:w.cell? ⟨B+1,0,none⟩=some (S s):=by rw[cell_of_row w _ 0 _ _ _ hP.fd.1];rfl
 have hs5:=(zE hP.pt).1;have HPS:=zH hP
 by_cases hap:a<p
 ·have d1:decide (a<p)=true:=by simp;omega
  have n1:(0:Int)<=(a:Int):=by omega
  have n2:(0:Int)<=(p:Int):=by omega
  have n3:(a:Int)<=(p:Int):=by omega
  have n4:(p:Int)<=(s.length:Int):=by omega
  have hfl:qb9 s a p=[qei (slice s a p)]:=by unfold qb9;rw[if_pos hap]
  have HF:=zH hfl;have hown:=hP.own;have HO:=zH hown;clear hfl hP hown;have ne3:=World.new_ne w ⟨B+3,0,none⟩ c3;go_enter Tryz.func161,Tryz.ntmps161;go_wp2_with fail;have hx:=fun (k:Nat) (o:Obj) (i:Nat) (hi:i<=B+5)=>World.cell?_alloc_lt (w.drewN k) o ⟨i,0,none⟩ (by show i<w.heap.size;omega);have hx3:=fun (k:Nat) (o:Obj)=>(hx k o (B+3) (by omega)).trans c3;go_region_law ((refine qnm rfl _ _ rfl (B+6) _ n o rfl (by exact ((qgi (zU HO) (fun g e=>rfl)).alloc _)) w.heap.size (slice s a p) 0 0 rfl (qpe w _ _ _ _ _) (by omega) (by simp;omega) ?_;intro A1 cap1 w1 hown1 hgrow1;have hg1:=qd5 hgrow1;obtain⟨hpo1,hcs⟩:=qpY (zU HPS) hg1;have hf1:w1.frozen? ⟨B+3,0,none⟩=false:=qa3 w1 (B+3) 0 _ _ hpo1;have hc1:w1.cell? ⟨B+3,0,none⟩=some v:=by rw[cell_of_row w1 _ 0 _ _ _ hpo1];rfl))
  all_goals
   go_end0;obtain⟨h1,h2⟩:=(zU HPS).pushed hg1 hown1;rw[zU HF];exact⟨rfl,⟨_,n+1,Nat.le_refl _,h1⟩,h2⟩
 ·have d1:decide (a<p)=false:=by simp;omega
  have hfl:qb9 s a p=[]:=by unfold qb9;rw[if_neg hap]
  have HF:=zH hfl;clear hfl hP;go_enter Tryz.func161,Tryz.ntmps161;go_wp2_with fail;go_end0;rw[zU HF,List.append_nil];exact⟨rfl,⟨_,n,by omega,(zU HPS)⟩,Below.refl _ _⟩
theorem quY(l:qa)(p far:Nat)(w:World)(hl:l.length<=4611686018427387904)(hp:p<=l.length)(hf:far<=p) :
  Calls Tryz.prog 210 #[S l,I p,I far] w fun e w'=>e=.returned (I (qa4 l p far))/\Below w.heap.size w w':=by
 go_enter Tryz.func210,Tryz.ntmps210;go_wp2_with fail;go_loopw [7] (fun i wr=>∃k:Nat,k<=64/\i=.int .i64 k/\qa4 l p far=qbF l p far (64-k) k/\Below w.heap.size w wr) (fun i _=>64-(intOf i).toNat)
 case atStart=>exact⟨0,by omega,rfl,rfl,Below.refl _ _⟩
 case round =>
  obtain⟨k,hk,rfl,hc,hbel⟩:=hrel
  by_cases hk64:k<64
  ·have d1:decide ((k:Int)<64)=true:=by simp;omega
   have hpk:IntKind.i64.wrap ((p:Int)+(k:Int))=(p:Int)+(k:Int):=IntWalk.i64_in _ ⟨by omega,by omega⟩
   by_cases hpl:p+k<l.length
   ·have d2:decide ((p:Int)+(k:Int)<(l.length:Int))=true:=by simp;omega
    have hsub:IntKind.i64.wrap ((p:Int)+(k:Int)-(far:Int))=(p:Int)+(k:Int)-(far:Int):=IntWalk.i64_in _ ⟨by omega,by omega⟩;have n1:(0:Int)<=(p:Int)+(k:Int):=by omega
    have n2:((p:Int)+(k:Int)).toNat=p+k:=by omega
    have n3:(p:Int)+(k:Int)<(l.length:Int):=by omega
    obtain⟨q,hq⟩:∃q,q=p+k-far:=⟨_,rfl⟩
    have hql:q<l.length:=by omega
    have m1:(0:Int)<=(p:Int)+(k:Int)-(far:Int):=by omega
    have m2:((p:Int)+(k:Int)-(far:Int)).toNat=q:=by omega
    have m3:(p:Int)+(k:Int)-(far:Int)<(l.length:Int):=by omega
    obtain⟨a,ha⟩:∃a,(⟨l.toArray⟩:ByteArray)[p+k]'hpl=a:=⟨_,rfl⟩
    obtain⟨b,hb⟩:∃b,(⟨l.toArray⟩:ByteArray)[q]'hql=b:=⟨_,rfl⟩
    have hga:l.getD (p+k) 0=a:=by rw[List.getD_eq_getElem?_getD,zG hpl];exact ha
    have hgb:l.getD (p+k-far) 0=b:=by rw[<-hq,List.getD_eq_getElem?_getD,zG hql];exact hb
    have h64:64-k=(63-k)+1:=by omega
    rw[h64,qbF,hga,hgb]at hc;have HC:=zH hc;have HQ:=zH hq;clear hc hq hga hgb h64
    by_cases hab:a=b
    ·subst hab;have e1:((a.toNat:Int) == (a.toNat:Int))=true:=by simp
     go_wp2_with fail;go_quiet (fail);go_wp2_with fail;go_roundw
     case rel =>
      refine⟨k+1,by omega,by go_num,?_,zD hbel _⟩;rw[zU HC,if_pos ⟨hpl,by first|trivial|rfl⟩,show 64-(k+1)=63-k from by omega]
     case measure=>simp[intOf];omega
    ·have e1:((a.toNat:Int) == (b.toNat:Int))=false:=by
      rw[zB];intro h;exact hab (UInt8.toNat_inj.1 (by omega))
     have hfin:qa4 l p far=k:=by rw[zU HC,if_neg (fun h=>hab h.2)]
     have HF:=zH hfin;clear hfin hab;go_wp2_with fail;go_quiet (fail);go_wp2_with fail;go_ret;rw[zU HF];exact⟨rfl,zD hbel _⟩
   ·have d2:decide ((p:Int)+(k:Int)<(l.length:Int))=false:=by simp;omega
    have hfin:qa4 l p far=k:=by rw[hc,show 64-k=(63-k)+1 from by omega,qbF,if_neg (fun h=>hpl h.1)]
    have HF:=zH hfin;clear hfin hc;go_wp2_with fail;go_quiet (fail);go_wp2_with fail;go_ret;rw[zU HF];exact⟨rfl,zD hbel _⟩
  ·have d1:decide ((k:Int)<64)=false:=by simp;omega
   have hfin:qa4 l p far=k:=by rw[hc,show 64-k=0 from by omega,qbF]
   have HF:=zH hfin;clear hfin hc;go_wp2_with fail;go_quiet (fail);go_wp2_with fail;go_ret;rw[zU HF];exact⟨rfl,zD hbel _⟩
def qnZ(w':World)(v:Value)(l:List Tok):Prop:=∃A n cap,v=.slice A n cap/\ToksAt w' w'.heap.size A n l
theorem qfW(l:qa)(a:Nat):slice l a a=[]:=by
 unfold slice;exact List.drop_of_length_le (by simp;omega)
theorem qqU{l:qa}{a p:Nat}(ha:a<=p)(hp:p<l.length):slice l a (p+1)=slice l a p++slice l p (p+1):=by
 have h:l[p]?=some l[p]:=zG hp;rw[qmy h];unfold slice;rw[List.take_add_one,h,List.drop_append_of_le_length (by simp;omega)];rfl
theorem qoz(dict text:qa)(w:World)(hd:dict.length<=256)(ht:text.length<=512) :
  Calls Tryz.prog 184 #[S dict,S text] w fun e w'=>(∃v,e=.returned v/\qnZ w' v (qbd dict text))/\Below w.heap.size w w':=by
 obtain⟨l,hl⟩:∃l,l=dict++text:=⟨_,rfl⟩
 have hll:l.length=dict.length+text.length:=by rw[hl,zL]
 have hlb:l.length<=768:=by omega
 have hdl:dict.length<=l.length:=by omega
 have hap:=qe dict text;rw[<-hl]at hap
 have hpe:qbd dict text=qbv l (l.length-dict.length) dict.length dict.length:=by
  unfold qbd;rw[<-hl,hll];congr 1;omega
 have HPE:=zH hpe;have HLL:=zH hll;clear hl hll hpe;go_enter Tryz.func184,Tryz.ntmps184;go_wp2_with fail
 go_loopw [6,7,8] (fun v sv i wr=>∃ (p a n fu:Nat) (o:List Tok),p<=l.length/\a<=p/\l.length<=p+fu/\i=.int .i64 p/\sv=S (slice l a p)/\wr.ownsRow w.heap.size 186 3 v n (qD o)/\n<=2*p /\
   o++qbv l fu p a=qbd dict text/\Below w.heap.size w wr)
  (fun _ _ i _=>l.length-(intOf i).toNat)
 case atStart =>
  refine⟨dict.length,dict.length,0,l.length-dict.length,[],hdl,Nat.le_refl _,by omega,rfl,?_,World.ownsRow_nil _ _ _ _,by omega,?_,Below.refl _ _⟩
  ·simp[slice]
  ·rw[zU HPE];rfl
 case round =>
  obtain⟨p,a,n,fu,o,hp,ha,hfu,rfl,rfl,hown,hn,hpa,hbel⟩:=hrel;have HPA:=zH hpa;clear hpa
  by_cases hpl:p<l.length
  ·have hbl:=qhU l p hp p;go_wp2_with fail;obtain⟨wo,hwo⟩:∃wo:World,wo=wr:=⟨_,rfl⟩
   go_loopw [9,10,11] (fun bv fv i w2=>∃f:Nat,f<=p/\i=.int .i64 (f+1:Nat)/\bv=.int .i64 (qbD l p f).2/\fv=.int .i64 (qbD l p f).1/\Below wr.heap.size wr w2)
    (fun _ _ i _=>p+1-(intOf i).toNat)
   case atStart=>exact⟨0,by omega,rfl,rfl,rfl,Below.refl _ _⟩
   case round =>
    obtain⟨f,hf,rfl,rfl,rfl,hb2⟩:=hrel;obtain⟨x,hx⟩:∃x,x=(qbD l p f).1:=⟨_,rfl⟩
    obtain⟨y,hy⟩:∃y,y=(qbD l p f).2:=⟨_,rfl⟩
    have hbf:=qhU l p hp f;rw[<-hx,<-hy]at hbf ⊢;obtain⟨hbf1,hbf2,hbf3⟩:=hbf
    by_cases hfp:f<p
    ·obtain⟨c,hc⟩:∃c,c=qa4 l p (f+1):=⟨_,rfl⟩
     have hcl:=(qf8 l p (f+1) hp).1;rw[<-hc]at hcl;have c1:=fun (W:World)=>quY l p (f+1) W (by omega) hp (by omega);rw[<-hc,Int.natCast_add]at c1;have C1:=zH c1;have HX:=zH hx;have HY:=zH hy;have HC:=zH hc;clear c1 hx hy hc hwo
     by_cases hyc:y<c
     ·go_wp2_with (go_at_call 210;refine (zU C1 _).mono ?_;rintro e w3 ⟨rfl,hb3⟩);go_roundw
      case rel =>
       refine⟨f+1,by omega,by go_num,?_,?_,hb2.trans (hb3.mono hb2.size)⟩
       ·rw[qbD,<-zU HY,<-zU HC,if_pos hyc]
       ·rw[qbD,<-zU HY,<-zU HC,if_pos hyc];go_num
      case measure=>simp[intOf];omega
     ·go_wp2_with (go_at_call 210;refine (zU C1 _).mono ?_;rintro e w3 ⟨rfl,hb3⟩);go_roundw
      case rel =>
       refine⟨f+1,by omega,by go_num,?_,?_,hb2.trans (hb3.mono hb2.size)⟩
       ·rw[qbD,<-zU HY,<-zU HC,if_neg hyc,<-zU HY]
       ·rw[qbD,<-zU HY,<-zU HC,if_neg hyc,<-zU HX]
      case measure=>simp[intOf];omega
    ·have hfp2:f=p:=by omega
     subst hfp2;have hbest:=qqE l f;have hown2:=qo hown hb2;obtain⟨A0,cap0,rfl⟩:=qeG hown2;have hsz2:=hb2.size;have hszw:=hbel.size;have hbel2:=hbel.trans (hb2.mono hszw);obtain⟨fu',rfl⟩:∃fu',fu=fu'+1:=⟨fu-1,by omega⟩
     have hpa:=zU HPA;rw[qbv,if_pos hpl]at hpa
     by_cases hy3:y<3
     ·rw[<-hy,if_pos hy3]at hbest;rw[hbest]at hpa;simp only[if_true]at hpa;have hsl:=qqU (l:=l) (a:=a) (p:=f) ha hpl;have HS:=zH hsl;have hl1:=qbU l a f;have hl2:=qbU l f (f+1);have hl3:(slice l a f).length<=768:=by omega
      have hl4:(slice l f (f+1)).length<=768:=by omega
      have HPA2:=zH hpa;clear hx hy hbest hpa HPA hsl hl1 hl2 hwo;go_wp2_with fail;go_roundw
      case rel =>
       refine⟨f+1,a,n,fu',o,by omega,by omega,by omega,by go_num,?_,hown2,by omega,zU HPA2,hbel2⟩;rw[zU HS]
      case measure=>simp[intOf];omega
     ·rw[<-hy,if_neg hy3]at hbest;have e1:(best l f).1=x:=by rw[hbest,hx]
      have e2:(best l f).2=y:=by rw[hbest,hy]
      rw[e1,e2,if_neg (by omega)]at hpa;have HPA2:=zH hpa;clear hx hy hbest hpa HPA e1 e2 hwo
      by_cases haf:a<f
      ·have hne:(slice l a f).isEmpty=false:=by
        rw[List.isEmpty_eq_false_iff];intro h;have:=qbU l a f;rw[h]at this;simp at this;omega
       have hne2:(slice l a f == [])=false:=by
        rw[zB];intro h;rw[h]at hne;simp at hne
       have HN:=zH hne;go_wp2_with (first|(at_builtin;refine qbW rfl (.tmp 49) (.tmp 52) rfl w.heap.size _ n o rfl hown2 (slice l a f) 0 0 rfl (by omega) (by omega) ?_;intro A3 cap3 w3 hown3 hb3 hg3;have hsz3:=hb3.size)|(at_builtin;refine qbW rfl (.tmp 54) (.tmp 58) rfl w.heap.size _ (n+1) (o++[⟨slice l a f,0,0⟩]) rfl hown3 [] x y rfl (by omega) (by omega) ?_;intro A4 cap4 w4 hown4 hb4 hg4));go_roundw
       case rel =>
        refine⟨f+y,f+y,n+1+1,fu',o++[⟨slice l a f,0,0⟩]++[⟨[],x,y⟩],by omega,by omega,by omega,by go_num,?_,hown4,by omega,?_,(hbel2.trans hb3).trans hb4⟩
        ·rw[qfW]
        ·rw[<-zU HPA2];unfold qb9 qei qdo;rw[if_pos haf];simp
       case measure=>simp[intOf];omega
      ·have haf2:a=f:=by omega
       subst haf2;have hsa:=qfW l a;go_wp2_with (first|(at_builtin;refine qbW rfl (.tmp 54) (.tmp 58) rfl w.heap.size _ n o rfl hown2 [] x y rfl (by omega) (by omega) ?_;intro A3 cap3 w3 hown3 hb3 hg3;have hsz3:=hb3.size));go_roundw
       case rel =>
        refine⟨a+y,a+y,n+1,fu',o++[⟨[],x,y⟩],by omega,by omega,by omega,by go_num,?_,hown3,by omega,?_,hbel2.trans hb3⟩
        ·rw[qfW]
        ·rw[<-zU HPA2];unfold qb9 qdo;rw[if_neg haf];simp
       case measure=>simp[intOf];omega
  ·have hpl2:p=l.length:=by omega
   obtain⟨A0,cap0,rfl⟩:=qeG hown;have hszw:=hbel.size;have hpa:=zU HPA
   have hfl:qbv l fu p a=qb9 l a p:=by
    cases fu with
    | zero=>rw[qbv]
    | succ fu=>rw[qbv,if_neg hpl]
   rw[hfl]at hpa;have HPA2:=zH hpa;clear hpa hfl HPA hpl2
   by_cases haf:a<p
   ·have hne:(slice l a p).isEmpty=false:=by
     rw[List.isEmpty_eq_false_iff];intro h;have:=qbU l a p;rw[h]at this;simp at this;omega
    have hne2:(slice l a p == [])=false:=by
     rw[zB];intro h;rw[h]at hne;simp at hne
    go_wp2_with (first|(at_builtin;refine qbW rfl (.tmp 65) (.tmp 68) rfl w.heap.size _ n o rfl hown (slice l a p) 0 0 rfl (by omega) (by omega) ?_;intro A3 cap3 w3 hown3 hb3 hg3;have hsz3:=hb3.size));go_ret;obtain⟨A9,cap9,hv9,ht9,_⟩:=qcr hown3;refine⟨⟨_,rfl,A9,n+1,cap9,hv9,?_⟩,hbel.trans hb3⟩;rw[<-zU HPA2];unfold qb9 qei;rw[if_pos haf];exact ht9
   ·have haf2:a=p:=by omega
    subst haf2;have hsa:=qfW l a;go_wp2_with fail;go_ret;obtain⟨A9,cap9,hv9,ht9,_⟩:=qcr hown;refine⟨⟨_,rfl,A9,n,cap9,hv9,?_⟩,hbel⟩;rw[<-zU HPA2];unfold qb9;rw[if_neg haf,List.append_nil];exact ht9
theorem qie(w:World)(o:Obj):(w.alloc o).heap[w.heap.size]?=some o:=(MapKept.heap_alloc w o).1
theorem qdd{w:World}{k:Nat}(o:Obj)(h:w.heap.size=k):(w.alloc o).heap[k]?=some o:=by subst h;exact qie w o
theorem qW{w:World}{k:Nat}{x:Obj}(o:Obj)(h:w.heap[k]?=some x):(w.alloc o).heap[k]?=some x :=
 (Below.heap_alloc w o k (zE h).1).trans h
def qkk(w:World)(l:qa)(d:Nat):World :=
 ((((((w.alloc (.map #[] 0)).alloc (.cells #[S l,.map (some w.heap.size),I 0] 184)).alloc (.cells #[.pointer (some ⟨w.heap.size+1,0,none⟩)] 181)).alloc (.cells #[.slice none 0 0] 151)).alloc (.cells #[I d] 3)).alloc (.cells #[I d] 3))
theorem PSt.init(w:World)(l:qa)(d:Nat):PSt w.heap.size (qkk w l d) l d d 0 (.slice none 0 0) 0 []/\Below w.heap.size w (qkk w l d):=by
 unfold qkk;have e1:(w.alloc (.map #[] 0)).heap.size=w.heap.size+1:=by simp
 refine⟨⟨?_,?_,?_,?_,World.ownsRow_nil _ _ _ _,?_,⟨.map [],?_,Go.Maps.isMap_empty,?_⟩⟩,?_⟩
 ·exact qW _ (qW _ (qW _ (qdd _ (by simp))))
 ·exact qW _ (qW _ (qdd _ (by simp)))
 ·exact qW _ (qdd _ (by simp))
 ·exact qdd _ (by simp)
 ·exact qW _ (qW _ (qW _ (qW _ (qdd _ (by simp)))))
 ·exact⟨#[],0,qW _ (qW _ (qW _ (qW _ (qW _ (qie _ _))))),⟨by simp,Go.MapKept.stamped_empty 0,by simp⟩,Nat.le_refl _,rfl,by omega,by simp,by simp⟩
 ·intro kb;exact .inl ⟨rfl,by simp[qai]⟩
 ·exact ((((((Below.refl _ _).alloc (Nat.le_refl _) _).alloc (by simp) _).alloc (by simp;omega) _).alloc (by simp;omega) _).alloc (by simp;omega) _).alloc (by simp;omega) _
theorem qoX{w w1:World}{o:Obj}{row:Option Nat}(h:(w.alloc o).grownBy w1 row):w.grownBy w1 row :=
 ⟨h.os,h.tape,h.output,Nat.le_trans (by simp) h.size,fun i hi hne=>(h.block i (by simp;omega) hne).trans (Below.heap_alloc w o i hi)⟩
theorem qpX{B:Nat}{w w1:World}{s:qa}{a p m n:Nat}{v:Value}{o:List Tok}(h:PSt B w s a p m v n o)(hg:w.grownBy w1 v.ownBlock) :
  w1.cell? ⟨B+5,0,none⟩=some (I p)/\w1.cell? ⟨B+4,0,none⟩=some (I a)/\w1.cell? ⟨B+3,0,none⟩=some v/\w1.frozen? ⟨B+5,0,none⟩=false/\w1.frozen? ⟨B+4,0,none⟩=false/\w1.frozen? ⟨B+3,0,none⟩=false:=by
 have hlo:=h.own.lt;have hs5:=(zE h.pt).1;have far:∀k,k<B+6->w1.heap[k]?=w.heap[k]?:=fun k hk=>hg.block k (by omega) (fun e=>by have:=(hlo k e.symm).1;omega);have h5:=(far (B+5) (by omega)).trans h.pt;have h4:=(far (B+4) (by omega)).trans h.pa;have h3:=(far (B+3) (by omega)).trans h.po;exact⟨by rw[cell_of_row w1 _ 0 _ _ _ h5];rfl,by rw[cell_of_row w1 _ 0 _ _ _ h4];rfl,by rw[cell_of_row w1 _ 0 _ _ _ h3];rfl,qa3 w1 _ 0 _ _ h5,qa3 w1 _ 0 _ _ h4,qa3 w1 _ 0 _ _ h3⟩
theorem qvM(l:qa)(p:Nat)(hp:p<=l.length):(best l p).2<=64/\p+(best l p).2<=l.length/\(best l p).1<=p:=by
 have h:=qhU l p hp p;rw[qqE]
 split
 ·exact⟨by simp,by simpa using hp,by simp⟩
 ·exact h
section
variable {B : Nat} {w w2 : World} {s : qa} {a p m n : Nat} {v : Value} {o : List Tok}
theorem PSt.best(h:PSt B w s a p m v n o){m':Nat}(hF:Fd w2 (B+6) (B+1) B m' s)(hf:FdFrame (B+6) (B+1) B w w2):PSt B w2 s a p m' v n o:=by
 refine⟨hf.block _ _ h.pf (by omega) (by omega) (fun _=>by omega),hf.block _ _ h.po (by omega) (by omega) (fun _=>by omega),hf.block _ _ h.pa (by omega) (by omega) (fun _=>by omega),hf.block _ _ h.pt (by omega) (by omega) (fun _=>by omega),?_,hF⟩;refine⟨h.own.1,?_⟩
 rcases h.own.2 with hn|⟨g,cap,cur,hv,hb,hg,rest⟩
 ·exact .inl hn
 ·exact .inr ⟨g,cap,cur,hv,hb,hf.block _ _ hg (by omega) (by omega) (fun _ cs e=>by injection e with _ e2;exact absurd e2 (by decide)),rest⟩
theorem PSt.set_(h:PSt B w s a p m v n o)(i:Nat)(hi:i=B+4\/i=B+5)(u:Value) :
  (∀k,k≠i->(w.setCell ⟨i,0,none⟩ u).heap[k]?=w.heap[k]?)/\(w.setCell ⟨i,0,none⟩ u).ownsRow (B+6) 186 3 v n (qD o)/\Fd (w.setCell ⟨i,0,none⟩ u) (B+6) (B+1) B m s/\Below B w (w.setCell ⟨i,0,none⟩ u):=by
 have st:∀k,k≠i->(w.setCell ⟨i,0,none⟩ u).heap[k]?=w.heap[k]?:=fun k hk=>Below.heap_setCell _ _ _ _ hk;have hs5:=(zE h.pt).1;refine⟨st,qgi h.own fun g e=>st g (by have:=(h.own.lt g e).1;omega),⟨(st _ (by omega)).trans h.fd.1,h.fd.2.keep (st _ (by omega)) fun g cs hg hgg=>(st g (by omega)).trans hgg⟩,⟨rfl,rfl,rfl,by rw[qcj];omega,fun k hk=>st k (by omega)⟩⟩
theorem PSt.setAt(h:PSt B w s a p m v n o)(q:Nat):PSt B (w.setCell ⟨B+5,0,none⟩ (I q)) s a q m v n o:=by
 obtain⟨st,h1,h2,_⟩:=h.set_ (B+5) (.inr rfl) (I q);exact⟨(st _ (by omega)).trans h.pf,(st _ (by omega)).trans h.po,(st _ (by omega)).trans h.pa,by rw[qd0 h.pt];rfl,h1,h2⟩
theorem PSt.setFrom(h:PSt B w s a p m v n o)(q:Nat):PSt B (w.setCell ⟨B+4,0,none⟩ (I q)) s q p m v n o:=by
 obtain⟨st,h1,h2,_⟩:=h.set_ (B+4) (.inl rfl) (I q);exact⟨(st _ (by omega)).trans h.pf,(st _ (by omega)).trans h.po,by rw[qd0 h.pa];rfl,(st _ (by omega)).trans h.pt,h1,h2⟩
theorem PSt.cells(hP:PSt B w s a p m v n o):w.cell? ⟨B+5,0,none⟩=some (I p)/\w.cell? ⟨B+4,0,none⟩=some (I a)/\w.cell? ⟨B+3,0,none⟩=some v/\w.cell? ⟨B+2,0,none⟩=some (.pointer (some ⟨B+1,0,none⟩))/\w.cell? ⟨B+1,0,none⟩=some (S s)/\w.frozen? ⟨B+5,0,none⟩=false/\w.frozen? ⟨B+4,0,none⟩=false/\w.frozen? ⟨B+3,0,none⟩=false:=by
 refine⟨?_,?_,?_,?_,?_,qa3 w _ 0 _ _ hP.pt,qa3 w _ 0 _ _ hP.pa,qa3 w _ 0 _ _ hP.po⟩
 ·rw[cell_of_row w _ 0 _ _ _ hP.pt];rfl
 ·rw[cell_of_row w _ 0 _ _ _ hP.pa];rfl
 ·rw[cell_of_row w _ 0 _ _ _ hP.po];rfl
 ·rw[cell_of_row w _ 0 _ _ _ hP.pf];rfl
 ·rw[cell_of_row w _ 0 _ _ _ hP.fd.1];rfl
end
attribute [local go_sem] World.cell?_alloc_some in
theorem qre(dict text:qa)(w:World)(hd:dict.length<=256)(ht:text.length<=512) :
  Calls Tryz.prog 131 #[S dict,S text] w fun e w'=>(∃v,e=.returned (.tuple #[v,I 0])/\qnZ w' v (qbd dict text))/\Below w.heap.size w w':=by
 obtain⟨l,hl⟩:∃l,l=dict++text:=⟨_,rfl⟩
 have hll:l.length=dict.length+text.length:=by rw[hl,zL]
 have hlb:l.length<=768:=by omega
 have hdl:dict.length<=l.length:=by omega
 have hap:=qe dict text;rw[<-hl]at hap
 have hpe:qbd dict text=qbv l (l.length-dict.length) dict.length dict.length:=by
  unfold qbd;rw[<-hl,hll];congr 1;omega
 have HPE:=zH hpe;have HLL:=zH hll;have d1:decide ((dict.length:Int) > 256)=false:=by simp;omega
 have d2:decide ((text.length:Int) > 512)=false:=by simp;omega
 have hmf:∀(fn:Fn) (first cap:Array Value) (w:World),(Instr.makeFunc fn first cap).run Tryz.prog w=.ok (.func fn first cap) w:=fun _ _ _ _=>rfl;have hmm:∀(w:World),(Instr.makeMap 182 none).run Tryz.prog w=.ok (.map (some w.heap.size)) (w.alloc (.map #[] 0)):=fun _=>rfl;clear hl hll hpe;go_enter Tryz.func131,Tryz.ntmps131;go_wp2_with fail;simp only[Nat.add_assoc,Nat.reduceAdd];obtain⟨hinit,hbel0⟩:=PSt.init w l dict.length;obtain⟨B,hB⟩:∃B,B=w.heap.size:=⟨_,rfl⟩
 rw[<-hB]at hinit hbel0 ⊢;go_loopg [11,12] (l.length-dict.length) (fun gk _ _ wr=>∃ (p a m n fu:Nat) (v:Value) (o:List Tok),gk=l.length-p/\p<=l.length/\a<=p/\m<=p/\l.length<=p+fu/\n<=2*p/\PSt B wr l a p m v n o/\o++qbv l fu p a=qbd dict text/\Below B w wr)
 case atStart =>
  refine⟨dict.length,dict.length,0,0,l.length-dict.length,.slice none 0 0,[],rfl,hdl,Nat.le_refl _,by omega,by omega,by omega,?_,by rw[zU HPE];rfl,?_⟩
  ·rw[hB]at hinit ⊢;exact hinit
  ·rw[hB]at hbel0 ⊢;exact hbel0
 case round =>
  obtain⟨p,a,m,n,fu,v,o,hgk,hp,ha,hm,hfu,hn,hP,hpa,hbel⟩:=hrel;obtain⟨c5,c4,c3,c2,c1,f5,f4,f3⟩:=hP.cells;have hBs:=(zE hP.pt).1;have HG:=zH hgk;have HPA:=zH hpa;have HP:=zH hP;have HB:=zH hB;clear hgk hpa hP hB hinit hbel0
  by_cases hpl:p<l.length
  ·have q1:decide ((p:Int)<(l.length:Int))=true:=by simp;omega
   go_wp2_with fail;go_quiet (fail);have cB:=fun (W:World) (h1:Fd W (B+6) (B+1) B m l) (h2:B+6<=W.heap.size)=>qu4 l (B+6) (B+1) B m p W h1 h2 (by omega) hm hp hlb;obtain⟨⟨x,y⟩,hxy⟩:∃q:Nat×Nat,q=best l p:=⟨_,rfl⟩
   rw[<-hxy]at cB;have CB:=zH cB;have HXY:=zH hxy;clear cB hxy
   by_cases hy:y=0
   ·subst hy;go_wp2_with (go_at_call 162;refine (zU CB (wr.drewN _) ((zU HP).drewN _).fd (by simp;omega)).mono ?_;rintro e w2 ⟨rfl,m2,hm2,hm3,hFd2,hfr2⟩;have hP2:=((zU HP).drewN _).best hFd2 hfr2;have HP2:=zH hP2;obtain⟨C5,C4,C3,C2,C1,F5,F4,F3⟩:=hP2.cells;clear hP2);go_roundg (l.length-(p+1))
    case measure=>have:=zU HG;omega
    case rel =>
     obtain⟨fu',rfl⟩:∃fu',fu=fu'+1:=⟨fu-1,by omega⟩
     refine⟨p+1,a,m2,n,fu',v,o,rfl,by omega,by omega,by omega,by omega,by omega,(zU HP2).setAt (p+1),?_,((zD hbel _).trans (FdFrame.below (B:=B) hfr2 (by omega) (by omega) (by omega) (by simp;omega))).trans ((zU HP2).set_ (B+5) (.inr rfl) _).2.2.2⟩;have h:=zU HPA;rw[qbv,if_pos hpl,<-zU HXY]at h;simpa using h
   ·have q2:((y:Int) == 0)=false:=by rw[zB];omega
    have hcl:=qvM l p hp;rw[<-zU HXY]at hcl;simp only at hcl;have hpy:IntKind.i64.wrap ((p:Int)+(y:Int))=(p:Int)+(y:Int):=IntWalk.i64_in _ ⟨by omega,by omega⟩;have cF:=zH (fun (W:World) (m2:Nat) (h:PSt B W l a p m2 v n o)=>qm6 B W l a p m2 v n o h ha hp (by omega))
    go_wp2_with (first
     | (go_at_call 162;refine (zU CB (wr.drewN _) ((zU HP).drewN _).fd (by simp;omega)).mono ?_;rintro e w2 ⟨rfl,m2,hm2,hm3,hFd2,hfr2⟩;have HP2:=zH (((zU HP).drewN _).best hFd2 hfr2))
     | (go_at_call 161;refine (zU cF w2 m2 (zU HP2)).mono ?_;rintro e w3 ⟨rfl,⟨v3,n3,hn3,hP3⟩,hb3⟩;obtain⟨A3,cap3,rfl⟩:=qeG hP3.own;have hs3:=(zE hP3.pt).1;have HP3:=zH hP3;obtain⟨C5,C4,C3,C2,C1,F5,F4,F3⟩:=hP3.cells;clear hP3)
     | (at_builtin;refine qbW rfl (.tmp 50) (.tmp 54) rfl (B+6) _ n3 (o++qb9 l a p) rfl (zU HP3).own [] x y rfl (by omega) (by omega) ?_;intro A4 cap4 w4 hown4 hb4 hg4;have hg5:=qoX hg4;obtain⟨K5,K4,K3,J5,J4,J3⟩:=qpX (zU HP3) hg5))
    go_roundg (l.length-(p+y))
    case measure=>have:=zU HG;omega
    case rel =>
     obtain⟨fu',rfl⟩:∃fu',fu=fu'+1:=⟨fu-1,by omega⟩
     obtain⟨h5,b5⟩:=(zU HP3).pushed hg5 hown4;have b2:=(zD hbel _).trans (FdFrame.below (B:=B) hfr2 (by omega) (by omega) (by omega) (by simp;omega));rw[show (Value.int .i64 ((p:Int)+(y:Int)))=I ((p+y:Nat):Int)from by rw[Int.natCast_add]];refine⟨p+y,p+y,m2,n3+1,fu',_,o++qb9 l a p++[⟨[],x,y⟩],rfl,by omega,by omega,by omega,by omega,by omega,(h5.setAt (p+y)).setFrom (p+y),?_,(((b2.trans hb3).trans b5).trans (h5.set_ (B+5) (.inr rfl) _).2.2.2).trans ((h5.setAt (p+y)).set_ (B+4) (.inl rfl) _).2.2.2⟩;have h:=zU HPA;rw[qbv,if_pos hpl,<-zU HXY,if_neg hy]at h;rw[<-h];simp[qdo]
  ·have q1:decide ((p:Int)<(l.length:Int))=false:=by simp;omega
   have cF:=zH (fun (W:World) (h:PSt B W l a p m v n o)=>qm6 B W l a p m v n o h ha hp (by omega));go_wp2_with fail;go_quiet (fail);go_wp2_with (go_at_call 161;refine (zU cF (wr.drewN _) ((zU HP).drewN _)).mono ?_;rintro e w3 ⟨rfl,⟨v3,n3,hn3,hP3⟩,hb3⟩;obtain⟨A3,cap3,rfl⟩:=qeG hP3.own;have HP3:=zH hP3;obtain⟨C5,C4,C3,C2,C1,F5,F4,F3⟩:=hP3.cells;clear hP3);go_ret2;have hfin:qbv l fu p a=qb9 l a p:=by cases fu <;> simp[qbv,hpl]
   have h:=zU HPA;rw[hfin]at h;obtain⟨A5,cap5,hv5,hat,hlen⟩:=qcr (zU HP3).own;rw[<-zU HB];refine⟨⟨_,rfl,A5,n3,cap5,hv5,?_⟩,(zD hbel _).trans hb3⟩;rw[<-h];exact hat
theorem qrf(dict text:qa)(w:World)(h:256<dict.length\/512<text.length) :
  Calls Tryz.prog 131 #[S dict,S text] w fun e w'=>e=.returned (.tuple #[.slice none 0 0,I 2])/\Below w.heap.size w w':=by
 by_cases hd:256<dict.length
 ·have d1:decide ((dict.length:Int) > 256)=true:=by simp;omega
  clear h;go_enter Tryz.func131,Tryz.ntmps131;go_wp2_with fail;go_ret2;exact⟨rfl,Below.refl _ _⟩
 ·have d1:decide ((dict.length:Int) > 256)=false:=by simp;omega
  have d2:decide ((text.length:Int) > 512)=true:=by simp;omega
  clear h hd;go_enter Tryz.func131,Tryz.ntmps131;go_wp2_with fail;go_ret2;exact⟨rfl,Below.refl _ _⟩
end
section
open Go.RowKit Go.Lib Pl
def qi5:Obj->Bool
 | .cells _ t _=>t == 39 || t == 5
 | _=>false
theorem qpi:∃j,Tryz.prog.info? 39=some j/\j.size=2:=by
 have h:(Tryz.prog.info? 39).map (·.size)=some 2:=by kernel_rfl
 obtain⟨j,hj,hs⟩:=Option.map_eq_some_iff.1 h;exact⟨j,hj,hs⟩
theorem qu2:liesAt Tryz.prog Tryz.prog.depth 39 (2 / Tryz.prog.cellsOf 39) 0 39 1=true:=by kernel_rfl
section
variable (b : Nat) (w : World)
theorem qml(h0:w.cell? ⟨b,0,none⟩=some (.pointer (some ⟨b,0,none⟩))) :
  Calls Tryz.prog 21 #[.pointer (some ⟨b,0,none⟩)] w fun e w'=>e=.returned (.tuple #[])/\w'=w:=by
 obtain⟨j,hj,hjs⟩:=qpi;go_enter Tryz.func21,Tryz.ntmps21;go_wp2;rw[Lib.run_neq_ptr_same w _ Tryz.underlying36 hj];go_wp2;go_end0;exact⟨rfl,rfl⟩
theorem qlP(h0:w.cell? ⟨b,0,none⟩=some (.pointer none))(hsh:w.shape? b=some (39,2))(hfz:w.frozen? ⟨b,0,none⟩=false) :
  Calls Tryz.prog 21 #[.pointer (some ⟨b,0,none⟩)] w fun e w'=>e=.returned (.tuple #[])/\w'=w.setCell ⟨b,0,none⟩ (.pointer (some ⟨b,0,none⟩)):=by
 obtain⟨j,hj,hjs⟩:=qpi;go_enter Tryz.func21,Tryz.ntmps21;go_wp2;rw[Lib.run_to_unsafe w ⟨b,0,none⟩ Tryz.underlying36 Tryz.underlying79 hj (by rw[hjs];decide) hsh (Nat.zero_lt_succ 1)];simp only[Result.andThen];rw[Oper.upon_value];go_wp2;rw[run_callFunc_extern Tryz.func48 (by kernel_rfl) (by kernel_rfl) (by kernel_rfl) (e:=Extern.AbiNoEscape.same) (by kernel_rfl)];rw[Lib.run_noEscape];simp only[Result.andThen];rw[Oper.upon_value];go_wp2;rw[Lib.run_from_unsafe w ⟨b,0,none⟩ Tryz.underlying79 Tryz.underlying36 hj hsh qu2];simp only[Result.andThen];rw[Oper.upon_value];go_wp2;go_end0;exact⟨rfl,rfl⟩
end
abbrev IsB(B b:Nat)(l:List UInt8)(w:World):Prop:=Lib.IsBuilder 39 5 B b (Lib.byteCells l) w
theorem qtE(B b:Nat)(bs:List Value)(w:World)(h:Lib.IsBuilder 39 5 B b bs w) :
  Calls Tryz.prog 21 #[.pointer (some ⟨b,0,none⟩)] w fun e w'=>e=.returned (.tuple #[])/\(Lib.BuilderAt 39 5 B b (.pointer (some ⟨b,0,none⟩)) bs w'/\Below B w w'/\Keeps qi5 w w'):=by
 rcases h with h|h
 ·refine (qlP b w h.cell0 h.shape h.frozen0).mono ?_;rintro e w' ⟨rfl,rfl⟩;obtain⟨_,v,hb,_⟩:=id h;exact⟨rfl,h.used _,(Below.refl B w).setCell (p:=⟨b,0,none⟩) h.1 _,(Keeps.refl _ _).setCell (p:=⟨b,0,none⟩) _ hb rfl⟩
 ·refine (qml b w h.cell0).mono ?_;rintro e w' ⟨rfl,rfl⟩;exact⟨rfl,h,Below.refl B _,Keeps.refl _ _⟩
theorem qnR(B b:Nat)(bs:List Value)(s:ByteArray)(w:World)(h:Lib.IsBuilder 39 5 B b bs w)(hlen:bs.length+s.size<=140737488355328)(hBw:B<=w.heap.size) :
  Calls Tryz.prog 10 #[.pointer (some ⟨b,0,none⟩),.string s] w fun e w'=>e=.returned (.tuple #[.int .i64 s.size,.nilIface])/\(Lib.BuilderAt 39 5 B b (.pointer (some ⟨b,0,none⟩)) (bs++Lib.strCells s) w'/\Below B w w'/\Keeps qi5 w w'):=by
 obtain⟨i0,hi,hz0,hz1,hz2⟩:=info_parts qdn;go_enter Tryz.func10,Tryz.ntmps10;go_wp2_with (go_at_call 21;refine (qtE B b bs _ h).mono ?_);rintro e w1 ⟨rfl,h1,hb1,hk1⟩;obtain⟨hB,v,hbk,hown,hne⟩:=h1;have c0:w1.cell? ⟨b,0,none⟩=some (.pointer (some ⟨b,0,none⟩)):=by rw[Lib.cell_of_heap hbk];rfl
 have c1:w1.cell? ⟨b,1,none⟩=some v:=by rw[Lib.cell_of_heap hbk];rfl
 go_wp2_with (at_builtin;refine Lib.wpList_append_own_string _ rfl _ _ 37 9 rfl B 5 i0 Tryz.underlying37 Tryz.underlying9 hi hz0 hz1 hz2 _ _ _ rfl hown s rfl ?c3 ?c4 ?c5 ?_)
 case c3=>unfold maxLen;omega
 case c4=>omega
 case c5=>have:=hb1.size;omega
 intro v' w2 hown' hgrow _
 have hlt:b<w1.heap.size:=by
  rcases Nat.lt_or_ge b w1.heap.size with h'|h'
  ·exact h'
  ·simp[Array.getElem?_eq_none h']at hbk
 have hb2:w2.heap[b]?=some (.cells #[.pointer (some ⟨b,0,none⟩),v] 39 (0,0)):=by
  rw[hgrow.block b hlt (fun e=>hne e.symm)];exact hbk
 have d0:w2.cell? ⟨b,0,none⟩=some (.pointer (some ⟨b,0,none⟩)):=by rw[Lib.cell_of_heap hb2];rfl
 have d1:w2.cell? ⟨b,1,none⟩=some v:=by rw[Lib.cell_of_heap hb2];rfl
 have f1:w2.frozen? ⟨b,1,none⟩=false:=Lib.frozen_of_heap hb2 1
 obtain⟨ao,n',cap,rfl⟩:∃ao n' cap,v'=.slice ao n' cap:=by
  rcases hown'.2 with⟨hv,_⟩|⟨g,cap,cur,hv,_⟩
  ·exact⟨_,_,_,hv⟩
  ·exact⟨_,_,_,hv⟩
 go_wp2;go_ret2;refine⟨rfl,?_,?_,?_⟩
 ·exact Lib.BuilderAt.put (T:=39) (e:=5) hB hb2 (bs':=bs++Lib.strCells s) (by simpa[Lib.strCells_length]using hown') (by decide)
 ·exact (hb1.grown hgrow (by have:=hb1.size;omega) (fun k hk=>(hown.lt k hk).1)).setCell (p:=⟨b,1,none⟩) hB _
 ·refine (hk1.grown hgrow (fun g hg=>?_)).setCell (p:=⟨b,1,none⟩) _ hb2 rfl
  rcases hown.2 with⟨rfl,_⟩|⟨g',cap',cur,rfl,_,hgg,_⟩
  ·simp[Value.ownBlock]at hg
  ·simp[Value.ownBlock]at hg;subst hg;exact⟨_,hgg,rfl⟩
theorem qi2(B b:Nat)(l s:List UInt8)(w:World)(h:IsB B b l w)(hlen:l.length+s.length<=140737488355328)(hBw:B<=w.heap.size) :
  Calls Tryz.prog 10 #[.pointer (some ⟨b,0,none⟩),S s] w fun e w'=>e=.returned (.tuple #[I s.length,.nilIface])/\IsB B b (l++s) w'/\Below B w w'/\Keeps qi5 w w':=by
 refine (qnR B b (Lib.byteCells l) ⟨s.toArray⟩ w h (by have e:(⟨s.toArray⟩:ByteArray).size=s.length:=rfl;rw[e];simpa[Lib.byteCells]using hlen) hBw).mono ?_;rintro e w' ⟨he,h1,h2,h3⟩;refine⟨he,.inr ?_,h2,h3⟩;have e1:Lib.byteCells l++Lib.strCells ⟨s.toArray⟩=Lib.byteCells (l++s):=by simp[Lib.byteCells,Lib.strCells]
 rw[<-e1];exact h1
end
section
open Go.RowKit Go.Lib Pl
attribute [local go_sem] qf qe
theorem IsB.kept{B b:Nat}{l:List UInt8}{w w':World}(h:IsB B b l w)(hk:Below w.heap.size w w'):IsB B b l w':=by
 have key:∀p,Lib.BuilderAt 39 5 B b p (Lib.byteCells l) w->Lib.BuilderAt 39 5 B b p (Lib.byteCells l) w':=by
  intro p h1;have hlt:=h1.lt;obtain⟨hB,v,hb,hown,hne⟩:=h1;exact⟨hB,v,(hk.block b hlt).trans hb,qo hown hk,hne⟩
 exact h.elim (fun x=>.inl (key _ x)) (fun x=>.inr (key _ x))
theorem IsB.new(w:World):IsB w.heap.size w.heap.size [] (w.alloc (.cells #[.pointer none,.slice none 0 0] 39)):=Lib.fresh_isBuilder _ _ w
theorem qj1(B b:Nat)(l:List UInt8)(n:Int)(w:World)(h:IsB B b l w)(h0:0<=n)(h1:n<=2147483647)(hlen:l.length<=100000000)(hBw:B<=w.heap.size) :
  Calls Tryz.prog 164 #[I n,.pointer (some ⟨b,0,none⟩)] w fun e w'=>e=.returned (.tuple #[])/\IsB B b (l++nb n.toNat) w'/\Below B w w'/\Keeps qi5 w w':=by
 have hnl:(nb n.toNat).length<=5:=by
  have:=qb1 4 n.toNat (by omega);omega
 have C1:=zH (qow n w h0 h1);have H:=zH h;clear h;go_enter Tryz.func164,Tryz.ntmps164;go_wp2_with fail;refine (zU C1).mono ?_;rintro e w1 ⟨rfl,hb1⟩;have C2:=zH (qi2 B b l (nb n.toNat) w1 (IsB.kept (zU H) hb1) (by omega) (Nat.le_trans hBw hb1.size));go_wp2_with fail;refine (zU C2).mono ?_;rintro e w2 ⟨rfl,h2,hb2,hk2⟩;go_wp2_with fail;go_end0;exact⟨rfl,h2,(hb1.mono hBw).trans hb2,(Keeps.of_below hb1).trans hk2⟩
theorem qtK(dict:qa)(A:Option Addr)(n cap:Nat)(l:List Tok)(w:World)(hl:ToksAt w w.heap.size A n l)(hd:dict.length<=9223372036854775807)(hn:n<=4611686018427387904)(hp:(qF dict l).2=0) :
  Calls Tryz.prog 132 #[S dict,.slice A n cap] w fun e w'=>e=.returned (.tuple #[S (qad l),I 0])/\Below w.heap.size w w':=by
 have hln:=hl.1;have hn5:=qcW hp;have hsm:∀t∈l,qlS t:=qmI hp;have C1:=qnc dict A n cap l w hl hd hn;rw[hp]at C1;have C1:=zH C1;have HSM:=zH hsm;have hn6:n<=512:=by omega
 clear hsm hp;go_enter Tryz.func132,Tryz.ntmps132;go_wp2_with fail;refine (zU C1).mono ?_;rintro e w1 ⟨rfl,hb1⟩;have hz:=hb1.size;go_wp2_with fail;go_loopw [20] (fun i wr=>∃k:Nat,k<=n/\i=.int .i64 k/\IsB w1.heap.size w1.heap.size (qad (l.take k)) wr/\Below w1.heap.size w1 wr/\w1.heap.size<wr.heap.size) (fun i _=>n-(intOf i).toNat)
 case atStart=>exact⟨0,by omega,rfl,IsB.new w1,(Below.refl _ _).alloc (Nat.le_refl _) _,by simp⟩
 case round =>
  obtain⟨k,hk,rfl,hB,hbel,hlt⟩:=hrel;have haln:=qdi (l.take k) (fun u hu=>zU HSM u (List.mem_of_mem_take hu));rw[List.length_take]at haln;obtain⟨acc0,hacc⟩:∃a,a=qad (l.take k):=⟨_,rfl⟩
  rw[<-hacc]at hB haln;have HACC:=zH hacc;have HB:=zH hB;clear hacc hB
  by_cases hkn:k<n
  ·obtain⟨b,off,t,rfl,hb,ht,q0,q1,q2⟩:=((hl.below hb1).below (hbel.mono hz)).at_ hkn;obtain⟨s1,s2,s3,s4,s5⟩:=zU HSM t (List.mem_of_getElem? ht);obtain⟨tl,tf,tn⟩:=t;simp only at s1 s2 s3 s4 s5 q0 q1 q2;have HT:=zH ht;clear ht
   by_cases hlit:tl=[]
   ·subst hlit;have w2:IntKind.i64.wrap (2*tn)=2*tn:=IntWalk.i64_in _ ⟨by omega,by omega⟩;have w3:IntKind.i64.wrap (2*tn+1)=2*tn+1:=IntWalk.i64_in _ ⟨by omega,by omega⟩;have w4:=qeH (n:=(2*tn+1).toNat) (by omega);have P1:=zH (fun (W:World) (h:IsB w1.heap.size w1.heap.size acc0 W) (hW:w1.heap.size<=W.heap.size)=>qj1 w1.heap.size w1.heap.size acc0 (2*tn+1) W h (by omega) (by omega) (by omega) hW);have P2:=zH (fun (W:World) (h:IsB w1.heap.size w1.heap.size (acc0++nb (2*tn+1).toNat) W) (hW:w1.heap.size<=W.heap.size)=>qj1 w1.heap.size w1.heap.size (acc0++nb (2*tn+1).toNat) tf W h (by omega) (by omega) (by rw[zL];omega) hW);go_wp2_with fail;refine (zU P1 _ (IsB.kept (zU HB) ((Below.refl _ _).alloc (Nat.le_refl _) _)) (by simp;omega)).mono ?_;rintro e w2 ⟨rfl,hB2,hb2,hk2⟩;have HB2:=zH hB2;have B0:=hk2.block wr.heap.size _ (heap_alloc_new wr _) rfl;have K1:w2.cell? ⟨wr.heap.size,1,none⟩=some (I tf):=by rw[cell_of_row w2 _ 1 _ _ _ B0];rfl
    clear B0 hB2;have hz2:=hb2.size;have hz3:w1.heap.size<=w2.heap.size:=by simp at hz2;omega
    go_wp2_with fail;refine (zU P2 _ (zU HB2) hz3).mono ?_;rintro e w3 ⟨rfl,hB3,hb3,hk3⟩;have HB3:=zH hB3;have hz4:=hb3.size;clear hB3;go_wp2_with fail;go_roundw
    case rel =>
     refine⟨k+1,by omega,by go_num,?_,((hbel.alloc (by omega) _).trans hb2).trans hb3,by simp at hz2;omega⟩;rw[qfS (zU HT),<-zU HACC];have e1:(2*tn+1).toNat=2*tn.toNat+1:=by omega
     have:=zU HB3;rw[e1]at this;simpa[qdq]using this
    case measure=>simp[intOf];omega
   ·have hl1:tl.isEmpty=false:=by simpa using hlit
    have hl2:(tl == [])=false:=by simpa using hlit
    have HL:=zH hlit;clear hlit;have w2:IntKind.i64.wrap (2*(tl.length:Int))=2*(tl.length:Int):=IntWalk.i64_in _ ⟨by omega,by omega⟩;have w4:=qeH (n:=(2*(tl.length:Int)).toNat) (by omega);have P1:=zH (fun (W:World) (h:IsB w1.heap.size w1.heap.size acc0 W) (hW:w1.heap.size<=W.heap.size)=>qj1 w1.heap.size w1.heap.size acc0 (2*(tl.length:Int)) W h (by omega) (by omega) (by omega) hW);have P2:=zH (fun (W:World) (h:IsB w1.heap.size w1.heap.size (acc0++nb (2*(tl.length:Int)).toNat) W) (hW:w1.heap.size<=W.heap.size)=>qi2 w1.heap.size w1.heap.size (acc0++nb (2*(tl.length:Int)).toNat) tl W h (by rw[zL];omega) hW);go_wp2_with fail;refine (zU P1 _ (IsB.kept (zU HB) ((Below.refl _ _).alloc (Nat.le_refl _) _)) (by simp;omega)).mono ?_;rintro e w2 ⟨rfl,hB2,hb2,hk2⟩;have HB2:=zH hB2;have B0:=hk2.block wr.heap.size _ (heap_alloc_new wr _) rfl;have K1:w2.cell? ⟨wr.heap.size,0,none⟩=some (S tl):=by rw[cell_of_row w2 _ 0 _ _ _ B0];rfl
    clear B0 hB2;have hz2:=hb2.size;have hz3:w1.heap.size<=w2.heap.size:=by simp at hz2;omega
    go_wp2_with fail;refine (zU P2 _ (zU HB2) hz3).mono ?_;rintro e w3 ⟨rfl,hB3,hb3,hk3⟩;have HB3:=zH hB3;have hz4:=hb3.size;clear hB3;go_wp2_with fail;go_roundw
    case rel =>
     refine⟨k+1,by omega,by go_num,?_,((hbel.alloc (by omega) _).trans hb2).trans hb3,by simp at hz2;omega⟩;rw[qfS (zU HT),<-zU HACC];have e1:(2*(tl.length:Int)).toNat=2*tl.length:=by omega
     have:=zU HB3;rw[e1]at this;simpa[qdq,zU HL]using this
    case measure=>simp[intOf];omega
  ·have hfin:acc0=qad l:=by rw[zU HACC,List.take_of_length_le (by omega)]
   have C9:=Tryz.Builder_String_any w1.heap.size w1.heap.size acc0 wr (zU HB) (by omega);have C9:=zH C9;have HF:=zH hfin;have hk2:decide ((k:Int)<(n:Int))=false:=by simp;omega
   clear hfin;go_wp2_with fail;refine (zU C9).mono ?_;rintro e w2 ⟨rfl,hb2⟩;go_wp2_with fail;go_ret2;exact⟨by rw[zU HF];rfl,hb1.trans ((hbel.trans hb2).mono hz)⟩
theorem qr7(dict:qa)(A:Option Addr)(n cap:Nat)(l:List Tok)(w:World)(hl:ToksAt w w.heap.size A n l)(hd:dict.length<=9223372036854775807)(hn:n<=4611686018427387904) :
  Calls Tryz.prog 132 #[S dict,.slice A n cap] w fun e w'=>e=.returned (.tuple #[S (write dict l).1,I (write dict l).2])/\Below w.heap.size w w':=by
 by_cases hp:(qF dict l).2=0
 ·have e:write dict l=(qad l,0):=by unfold write;exact if_neg (by omega)
  rw[e];exact qtK dict A n cap l w hl hd hn hp
 ·have e:write dict l=([],(qF dict l).2):=by unfold write;exact if_pos hp
  rw[e];have C1:=zH (qnc dict A n cap l w hl hd hn);have e1:(((qF dict l).2:Int) == 0)=false:=by rw[zB];omega
  have e2:(((qF dict l).2:Int) != 0)=true:=by rw[bne_iff_ne];omega
  clear hp e;go_enter Tryz.func132,Tryz.ntmps132;go_wp2_with fail;refine (zU C1).mono ?_;rintro e w1 ⟨rfl,hb1⟩;go_wp2_with fail;go_ret2;exact⟨rfl,hb1⟩
end
end Go.Proofs.YtbnmfdlaabdlhaaGreatDoor
