/- Parts of the proofs. -/
import Derived.Test.YtbnmfdlaabdlhaaGreatDoorDk9
import Derived.Lib.Join
set_option maxHeartbeats 16000000
set_option maxRecDepth 100000
namespace Go.Proofs.YtbnmfdlaabdlhaaGreatDoor
section
open Go.RowKit Go.Lib Pl
attribute [local go_sem] qf qe
theorem qk4(dict:qa)(A:Option Addr)(n cap:Nat)(l:List Tok)(w:World)(hl:ToksAt w w.heap.size A n l)(hd:dict.length<=9223372036854775807)(hn:n<=4611686018427387904) :
  Calls Tryz.prog 150 #[S dict,.slice A n cap] w fun e w'=>e=.returned (S (qF dict l).1)/\Below w.heap.size w w':=by
 have c1:=zH (qii dict A n cap l w hl hd hn);go_enter Tryz.func150,Tryz.ntmps150;go_wp2_with fail;refine (zU c1).mono ?_;rintro e w1 ⟨rfl,hb⟩;go_wp2_with fail;go_ret;exact⟨rfl,hb⟩
theorem qi7{L:List Int}{w W:World}{B D j:Nat}{x y:Int}(h:BoxL (qcm L (2*j)) w W B D)(hx:L[2*j]?=some x)(hy:L[2*j+1]?=some y){i:Nat}(hi:i=2*j) :
  BoxL (qcm L (2*(j+1))) w ((W.setCell ⟨D,i,none⟩ (.int .i64 x)).setCell ⟨D,i+1,none⟩ (.int .i64 y)) B D:=by
 subst hi;have h1:=h.put (2*j) x;rw[qek hx]at h1;have h2:=h1.put (2*j+1) y;rw[qek hy]at h2;exact h2
def qwE(b:qa)(o:Option qa)(e:Ending):Prop:=(∃t,o=some t/\e=.returned (.tuple #[S t,.bool true]))\/(∃t:qa,o=none/\t.length<=b.length/\e=.returned (.tuple #[S t,.bool false]))
theorem qir(dict b:qa)(w:World)(hd:dict.length<=256)(hb:b.length<=140737488355328) :
  Calls Tryz.prog 111 #[S dict,S b] w fun e w'=>qwE b (ql dict b) e/\Below w.heap.size w w':=by
 cases b with
 | nil =>
  go_enter Tryz.func111,Tryz.ntmps111;go_wp2_with fail;go_ret2;exact⟨.inr ⟨[],rfl,Nat.le_refl _,rfl⟩,Below.refl _ _⟩
 | cons k s =>
  have hsl:s.length<=4611686018427387904:=by rw[List.length_cons]at hb;omega
  have hsl2:s.length<=140737488355328:=by rw[List.length_cons]at hb;omega
  have hcons:(k::s).length=s.length+1:=rfl;have n1:((k::s) == [])=false:=rfl;have n2:slice (k::s) 1 (k::s).length=s:=by rw[qcc];rfl
  have n2b:slice (k::s) 1 (s.length+1)=s:=n2;have n3:(0:Nat)<(k::s).length:=by simp
  have n4:(⟨(k::s).toArray⟩:ByteArray)[0]'n3=k:=rfl;have n5:(1:Nat)<=(k::s).length:=by simp
  have hk256:=k.toNat_lt;have e0:k=0↔k.toNat=0:=⟨fun e=>by rw[e];rfl,fun e=>UInt8.toNat_inj.1 e⟩
  have e1:k=1↔k.toNat=1:=⟨fun e=>by rw[e];rfl,fun e=>UInt8.toNat_inj.1 e⟩
  have e2:k=2↔k.toNat=2:=⟨fun e=>by rw[e];rfl,fun e=>UInt8.toNat_inj.1 e⟩
  have HB0:=zH (Below.refl w.heap.size w)
  by_cases h0:k=0
  ·subst h0
   by_cases h512:s.length<=512
   ·have HO:=zH (show ql dict (0::s)=some s by rw[ql,if_pos rfl,if_pos h512]);have h512i:(s.length:Int)<=512:=by omega
    have h512d:decide ((s.length:Int)<=512)=true:=decide_eq_true h512i;clear e0 e1 e2;go_enter Tryz.func111,Tryz.ntmps111;go_wp2_with fail;go_quiet (fail);go_wp2_with fail;go_ret2;rw[zU HO];exact⟨.inl ⟨s,rfl,rfl⟩,zD (Below.refl _ _) _⟩
   ·have HO:=zH (show ql dict (0::s)=none by rw[ql,if_pos rfl,if_neg h512]);have h512i:¬(s.length:Int)<=512:=by omega
    have h512d:decide ((s.length:Int)<=512)=false:=decide_eq_false h512i;clear e0 e1 e2;go_enter Tryz.func111,Tryz.ntmps111;go_wp2_with fail;go_quiet (fail);go_wp2_with fail;go_ret2;rw[zU HO];exact⟨.inr ⟨s,rfl,by simp,rfl⟩,zD (Below.refl _ _) _⟩
  ·have f0:((k.toNat:Int) == 0)=false:=by rw[zB];intro e;exact h0 (e0.2 (by omega))
   by_cases h1:k=1
   ·have z1:k.toNat=1:=e1.1 h1;have f2:((k.toNat:Int) == 2)=false:=by rw[zB];omega
    have f3:¬(2:Int)<(k.toNat:Int):=by omega
    have hun:ql dict (k::s)=qbQ dict s:=by rw[ql,if_neg h0,if_pos h1]
    clear e0 e1 e2 h0 h1;go_enter Tryz.func111,Tryz.ntmps111;go_wp2_with fail;go_quiet (fail);have H1:=zH (zD (Below.refl w.heap.size w) nq);cases hrd:read dict s with
    | none =>
     have c2:=fun (W:World)=>qeT dict s W hd hsl;rw[hrd]at c2;have c2:=zH c2;have HO:=zH (show ql dict (k::s)=none by rw[hun];unfold qbQ;rw[hrd];rfl);clear hrd hun;go_wp2_with fail;refine (zU c2 _).mono ?_;rintro e w2 ⟨hv,hb2⟩;have H2:=zH ((zU H1).trans (hb2.mono (zU H1).size));clear hb2;obtain⟨v,is,rfl,hv⟩:=hv
     rcases hv with⟨rfl,rfl,_⟩|⟨_,l,hl,_⟩
     ·go_wp2_with fail;go_ret2;rw[zU HO];exact⟨.inr ⟨[],rfl,by simp,rfl⟩,zU H2⟩
     ·cases hl
    | some l =>
     have c2:=fun (W:World)=>qeT dict s W hd hsl;rw[hrd]at c2;have c2:=zH c2
     have hpl:(qF dict l).2=0:=by
      have hw:=qeN hd hrd
      by_cases e:(qF dict l).2=0
      ·exact e
      ·unfold write at hw;rw[if_pos e]at hw;exact absurd (Prod.ext_iff.1 hw).2 e
     have hln:=qcW hpl;have c3:=fun (W:World) (A:Option Addr) (n cap:Nat) (h:ToksAt W W.heap.size A n l)=>qk4 dict A n cap l W h (by omega) (by have:=h.1;omega);obtain⟨t,ht⟩:∃t,t=(qF dict l).1:=⟨_,rfl⟩
     rw[<-ht]at c3;have c3:=zH c3;have HO:=zH (show ql dict (k::s)=some t by rw[hun];unfold qbQ;rw[hrd,ht];rfl);clear hrd hpl hln ht hun;go_wp2_with fail;refine (zU c2 _).mono ?_;rintro e w2 ⟨hv,hb2⟩;have H2:=zH ((zU H1).trans (hb2.mono (zU H1).size));clear hb2;obtain⟨v,is,rfl,hv⟩:=hv
     rcases hv with⟨_,_,hl⟩|⟨rfl,l',hl,A,n,cap,rfl,hat⟩
     ·cases hl
     ·cases hl;have HAT:=zH hat;clear hat;go_wp2_with fail;refine (zU c3 _ _ _ _ (zU HAT)).mono ?_;rintro e w3 ⟨rfl,hb3⟩;have H3:=zH ((zU H2).trans (hb3.mono (zU H2).size));clear hb3;go_wp2_with fail;go_ret2;rw[zU HO];exact⟨.inl ⟨t,rfl,rfl⟩,zU H3⟩
   ·have f1:((k.toNat:Int) == 1)=false:=by rw[zB];intro e;exact h1 (e1.2 (by omega))
    by_cases h2:k=2
    ·subst h2
     by_cases h8:s.length<8
     ·have HO:=zH (show ql dict (2::s)=none by rw[ql,if_neg h0,if_neg h1,if_pos rfl];unfold qaG;rw[if_pos h8];rfl);have h8i:(s.length:Int)<8:=by omega
      clear e0 e1 e2 h0 h1 f0 f1;go_enter Tryz.func111,Tryz.ntmps111;go_wp2_with fail;go_quiet (fail);go_wp2_with fail;go_ret2;rw[zU HO];exact⟨.inr ⟨[],rfl,by simp,rfl⟩,zD (Below.refl _ _) _⟩
     ·have hz:=qff;have hun:ql dict (2::s)=(qaG s).bind (qbQ dict):=by rw[ql,if_neg h0,if_neg h1,if_pos rfl]
      have h8n:8<=s.length:=by omega
      have h8i:¬(s.length:Int)<8:=by omega
      obtain⟨L,hL⟩:∃L,L=qgg s:=⟨_,rfl⟩
      have hl16:L.length=16:=by rw[hL];exact qj3 (by omega)
      obtain⟨X,hX⟩:∃X,X=slice s 8 s.length:=⟨_,rfl⟩
      have hX2:X=s.drop 8:=by rw[hX,qcc]
      have hXl:X.length<=s.length:=by rw[hX2,List.length_drop];omega
      have hdec:qaG s=qeJ L X:=by unfold qaG;rw[if_neg h8,hX2,hL]
      have HL:=zH hL;have HL16:=zH hl16;have HX:=zH hX;have HDEC:=zH hdec;have HUN:=zH hun;clear e0 e1 e2 h0 h1 f0 f1 hX2 hL hl16 hdec h8 hun n3 n4 n5 hX;go_enter Tryz.func111,Tryz.ntmps111;go_wp2_with fail;go_quiet (fail);obtain⟨w1,hw1⟩:∃w1,w1=w.drewN nq:=⟨_,rfl⟩
      have H1:=zH (show Below w.heap.size w w1 by rw[hw1];exact zD (Below.refl w.heap.size w) nq);rw[<-hw1];clear hw1;go_wp2_with fail;obtain⟨D,hD⟩:∃D,D=w1.heap.size:=⟨_,rfl⟩
      obtain⟨w2,hw2⟩:∃w2,w2=w1.alloc (.cells (qg (Lf fun _=>0)) 168):=⟨_,rfl⟩
      have H2:=zH (show BoxL (Lf fun _=>0) w w2 w.heap.size D from ⟨by rw[hw2,hD];exact heap_alloc_new _ _,by rw[hD];exact (zU H1).size,by rw[hw2];exact (zU H1).alloc (zU H1).size _⟩);rw[<-hw2,<-hD];clear hw2 hD;go_loopw [9] (fun iv wr=>∃j:Nat,j<=8/\iv=.int .i64 j/\BoxL (qcm L (2*j)) w wr w.heap.size D) (fun iv _=>8-(intOf iv).toNat)
      case atStart=>exact⟨0,by omega,rfl,by rw[Nat.mul_zero,qjT];exact zU H2⟩
      case round =>
       obtain⟨j,hj,rfl,hat⟩:=hrel;have HAT:=zH hat;clear hat
       by_cases hj8:j<8
       ·have hq:j<s.length:=by omega
        obtain⟨c,hcc⟩:∃c,(⟨s.toArray⟩:ByteArray)[j]'hq=c:=⟨_,rfl⟩
        have hsc:s[j]?=some c:=by rw[zG hq];exact congrArg some hcc
        obtain⟨m1,m2⟩:=qn4 (b:=s) (q:=j) hj8 hsc;rw[<-zU HL]at m1 m2;obtain⟨h,hh⟩:∃h,h=c.toNat / 16:=⟨_,rfl⟩
        obtain⟨m,hm⟩:∃m,m=c.toNat % 16:=⟨_,rfl⟩
        rw[<-hh]at m1;rw[<-hm]at m2;have hc256:=c.toNat_lt;have a1:(c.toNat:Int).tdiv 16=(h:Int):=by rw[Int.tdiv_eq_ediv_of_nonneg (by omega)];omega
        have a2:(c.toNat:Int).tmod 16=(m:Int):=by rw[Int.tmod_eq_emod_of_nonneg (by omega)];omega
        have a3:IntKind.u8.wrap ((c.toNat:Int) / 16)=(h:Int):=by
         have e:(c.toNat:Int) / 16=(h:Int):=by omega
         rw[e,IntKind.wrap_u8];omega
        have hh16:h<16:=by omega
        have hm16:m<16:=by omega
        obtain⟨i,hi⟩:∃i,i=2*j:=⟨_,rfl⟩
        have hst1:=(zU HAT).put (2*j) (h:Int);rw[qek m1]at hst1;have hst2:=hst1.put (2*j+1) (m:Int);rw[qek m2]at hst2;rw[<-hi]at hst1 hst2;have g1:=(zU HAT).free i;have g2:=(zU HAT).free (i+1);obtain⟨y1,hy1⟩:∃y,(qcm L (2*j))[i]?=some y:=⟨_,zG (by rw[qf1];omega)⟩
        obtain⟨y2,hy2⟩:∃y,(qcm L (2*j))[i+1]?=some y:=⟨_,zG (by rw[qf1];omega)⟩
        have c1:=(zU HAT).get hy1;have c2:=(zU HAT).get hy2;obtain⟨y3,hy3⟩:∃y,(qcm L (i+1))[i+1]?=some y:=⟨_,zG (by rw[qf1];omega)⟩
        have c3:=hst1.get hy3;have v1:wrap64 (2*(j:Int))=(i:Int):=by rw[hi];exact (IntWalk.wrap64_in _ ⟨by omega,by omega⟩).trans (by omega)
        have v1b:IntKind.i64.wrap (2*(j:Int))=(i:Int):=by rw[hi];exact (IntWalk.i64_in _ ⟨by omega,by omega⟩).trans (by omega)
        have v2:IntKind.i64.wrap ((i:Int)+1)=(i:Int)+1:=IntWalk.i64_in _ ⟨by omega,by omega⟩;have v3:(0:Int)<=(i:Int)+1:=by omega
        have v4:(i:Int)+1<16:=by omega
        have v5:((i:Int)+1).toNat=i+1:=by omega
        have v6:(i:Int)<16:=by omega
        have M1:=zH m1;have M2:=zH m2;have HI:=zH hi;clear hsc m1 m2 hh hm hi hst1 hst2 hy1 hy2 hy3;go_wp2_with fail;go_region_law (fail)
        all_goals
         go_wp2_with fail;go_roundw
         case rel =>
          first
           | exact⟨j+1,by omega,by go_num,qi7 (zU HAT) (zU M1) (zU M2) (zU HI)⟩
           | exact⟨j+1,by omega,by go_num,qi7 (zU HAT).drew (zU M1) (zU M2) (zU HI)⟩
           | ((repeat apply Exists.intro);exact⟨⟨j+1,by omega,by go_num,qi7 (zU HAT).drew (zU M1) (zU M2) (zU HI)⟩,rfl⟩)
           | ((repeat apply Exists.intro);exact⟨⟨j+1,by omega,by go_num,qi7 (zU HAT) (zU M1) (zU M2) (zU HI)⟩,rfl⟩)
         case measure=>simp[intOf];omega
       ·have hj':j=8:=by omega
        subst hj';rw[show 2*8=16 from rfl,qls (zU HL16)]at HAT;cases ht:take X with
        | none =>
         have HO:=zH (show ql dict (2::s)=none by rw[zU HUN,zU HDEC,qgw ht];rfl);have c1:=zH (fun W=>qhr ht W (by omega));have c2:=fun (W:World)=>qiF L [] 0 W (zU HL16) (by simp) (by omega) (by omega);obtain⟨T,hT⟩:∃T,T=qbc L [] 0:=⟨_,rfl⟩
         obtain⟨te,hte⟩:∃te,te=qaZ L [] 0:=⟨_,rfl⟩
         rw[<-hT,<-hte]at c2;have c2:=zH c2;have HXX:=zU HX;clear ht hT hte;go_wp2_with fail;rw[<-HXX];refine (zU c1 _).mono ?_;rintro e w3 ⟨rfl,hb3⟩;have H3:=zH ((zU HAT).below hb3);clear hb3
         go_wp2_with (first
          | (refine qj rfl (.tmp 8) rfl D rfl L (zU HL16) (zU H3).o ?_))
         refine (zU c2 _).mono ?_;rintro e w4 ⟨rfl,hb4⟩;have H4:=zH ((zU H3).below hb4);clear hb4;go_wp2_with fail;go_ret2;rw[zU HO];exact⟨.inr ⟨[],rfl,by simp,rfl⟩,(zU H4).bel⟩
        | some p =>
         obtain⟨n,r⟩:=p;obtain⟨e1,e2⟩:=qaI ht;have hrl:r.length<=X.length:=by rw[e1,zL];omega
         have hn:n<=2147483647:=e2;have hd1:=qfa (L:=L) ht;have c1:=zH (fun W=>qhq ht W (by omega));have c2:=fun (W:World)=>qiF L r (n:Int) W (zU HL16) (by omega) (by omega) (by omega);obtain⟨x,hT⟩:∃T,T=qbc L r (n:Int):=⟨_,rfl⟩
         obtain⟨te,hte⟩:∃te,te=qaZ L r (n:Int):=⟨_,rfl⟩
         rw[<-hT,<-hte]at c2 hd1;have HTE:=zH hte;have HT:=zH hT;have c2:=zH c2;have HXX:=zU HX
         by_cases h0:te=0
         ·have hxl:x.length<=4611686018427387904:=by
           rw[hT];rw[hte]at h0;have:=(qci (qfd h0).1).2.1;omega
          rw[if_pos h0]at hd1;have hdx:qaG s=some x:=(zU HDEC).trans hd1;have HDX:=zH hdx;subst h0;clear ht hT hte e1 e2 hd1 hdx;go_wp2_with fail;rw[<-HXX];refine (zU c1 _).mono ?_;rintro e w3 ⟨rfl,hb3⟩;have H3:=zH ((zU HAT).below hb3);clear hb3
          go_wp2_with (first
           | (refine qj rfl (.tmp 8) rfl D rfl L (zU HL16) (zU H3).o ?_))
          refine (zU c2 _).mono ?_;rintro e w4 ⟨rfl,hb4⟩;have H4:=zH ((zU H3).below hb4).bel;clear hb4;cases hrd:read dict x with
          | none =>
           have c2:=fun (W:World)=>qeT dict x W hd hxl;rw[hrd]at c2;have c2:=zH c2;have HO:=zH (show ql dict (2::s)=none by rw[zU HUN,zU HDX];simp only[Option.bind_some];unfold qbQ;rw[hrd];rfl);clear hrd;go_wp2_with fail;refine (zU c2 _).mono ?_;rintro e w2 ⟨hv,hb2⟩;have H2:=zH ((zU H4).trans (hb2.mono (zU H4).size));clear hb2;obtain⟨v,is,rfl,hv⟩:=hv
           rcases hv with⟨rfl,rfl,_⟩|⟨_,l,hl,_⟩
           ·go_wp2_with fail;go_ret2;rw[zU HO];exact⟨.inr ⟨[],rfl,by simp,rfl⟩,zU H2⟩
           ·cases hl
          | some l =>
           have c2:=fun (W:World)=>qeT dict x W hd hxl;rw[hrd]at c2;have c2:=zH c2
           have hpl:(qF dict l).2=0:=by
            have hw:=qeN hd hrd
            by_cases e:(qF dict l).2=0
            ·exact e
            ·unfold write at hw;rw[if_pos e]at hw;exact absurd (Prod.ext_iff.1 hw).2 e
           have hln:=qcW hpl;have c3:=fun (W:World) (A:Option Addr) (n cap:Nat) (h:ToksAt W W.heap.size A n l)=>qk4 dict A n cap l W h (by omega) (by have:=h.1;omega);obtain⟨t,ht⟩:∃t,t=(qF dict l).1:=⟨_,rfl⟩
           rw[<-ht]at c3;have c3:=zH c3;have HO:=zH (show ql dict (2::s)=some t by rw[zU HUN,zU HDX];simp only[Option.bind_some];unfold qbQ;rw[hrd,ht];rfl);clear hrd hpl hln ht;go_wp2_with fail;refine (zU c2 _).mono ?_;rintro e w2 ⟨hv,hb2⟩;have H2:=zH ((zU H4).trans (hb2.mono (zU H4).size));clear hb2;obtain⟨v,is,rfl,hv⟩:=hv
           rcases hv with⟨_,_,hl⟩|⟨rfl,l',hl,A,n,cap,rfl,hat⟩
           ·cases hl
           ·cases hl;have HAT:=zH hat;clear hat;go_wp2_with fail;refine (zU c3 _ _ _ _ (zU HAT)).mono ?_;rintro e w3 ⟨rfl,hb3⟩;have H3:=zH ((zU H2).trans (hb3.mono (zU H2).size));clear hb3;go_wp2_with fail;go_ret2;rw[zU HO];exact⟨.inl ⟨t,rfl,rfl⟩,zU H3⟩
         ·have HO:=zH (show ql dict (2::s)=none by rw[zU HUN,zU HDEC,hd1,if_neg h0];rfl);have d1:((te:Int) != 0)=true:=by rw[bne_iff_ne];omega
          have d2:((te:Int) == 0)=false:=by rw[zB];omega
          clear ht hT hte e1 e2 hd1 h0;go_wp2_with fail;rw[<-HXX];refine (zU c1 _).mono ?_;rintro e w3 ⟨rfl,hb3⟩;have H3:=zH ((zU HAT).below hb3);clear hb3
          go_wp2_with (first
           | (refine qj rfl (.tmp 8) rfl D rfl L (zU HL16) (zU H3).o ?_))
          refine (zU c2 _).mono ?_;rintro e w4 ⟨rfl,hb4⟩;have H4:=zH ((zU H3).below hb4);clear hb4;go_wp2_with fail;go_ret2;rw[zU HO];exact⟨.inr ⟨[],rfl,by simp,rfl⟩,(zU H4).bel⟩
    ·have f2:((k.toNat:Int) == 2)=false:=by rw[zB];intro e;exact h2 (e2.2 (by omega))
     have f3:(2:Int)<(k.toNat:Int):=by
      have a0:k.toNat≠0:=fun e=>h0 (e0.2 e);have a1:k.toNat≠1:=fun e=>h1 (e1.2 e);have a2:k.toNat≠2:=fun e=>h2 (e2.2 e);omega
     have HO:=zH (show ql dict (k::s)=none by rw[ql,if_neg h0,if_neg h1,if_neg h2]);clear e0 e1 e2 h0 h1 h2;go_enter Tryz.func111,Tryz.ntmps111;go_wp2_with fail;go_quiet (fail);go_wp2_with fail;go_ret2;rw[zU HO];exact⟨.inr ⟨[],rfl,by simp,rfl⟩,zD (Below.refl _ _) _⟩
theorem qfJ{dict b t:qa}(w:World)(hd:dict.length<=256)(hb:b.length<=140737488355328)(h:ql dict b=some t) :
  Calls Tryz.prog 111 #[S dict,S b] w fun e w'=>e=.returned (.tuple #[S t,.bool true])/\Below w.heap.size w w' :=
 (qir dict b w hd hb).mono fun e w' ⟨hr,hb⟩=>by
  rcases hr with⟨t2,h1,h2⟩|⟨t2,h1,_,_⟩
  ·rw[h]at h1;cases h1;exact⟨h2,hb⟩
  ·rw[h]at h1;cases h1
theorem qh0{dict b:qa}(w:World)(hd:dict.length<=256)(hb:b.length<=140737488355328)(h:ql dict b=none) :
  Calls Tryz.prog 111 #[S dict,S b] w fun e w'=>(∃t:qa,e=.returned (.tuple #[S t,.bool false]))/\Below w.heap.size w w' :=
 (qir dict b w hd hb).mono fun e w' ⟨hr,hb⟩=>by
  rcases hr with⟨t2,h1,h2⟩|⟨t2,h1,_,h2⟩
  ·rw[h]at h1;cases h1
  ·exact⟨⟨t2,h2⟩,hb⟩
structure AF(A:Option Addr)(n cap:Nat)(A2:Option Addr)(n2 cap2:Nat)(a:Arc)(f:Fil)(w W:World)(B D:Nat):Prop where
 ab:ABox A n cap A2 n2 cap2 a w W B
 fb:FBox f w W B D
theorem AF.below{A A2:Option Addr}{n cap n2 cap2:Nat}{a:Arc}{f:Fil}{w W W1:World}{B D:Nat}(h:AF A n cap A2 n2 cap2 a f w W B D)(hb:Below W.heap.size W W1):AF A n cap A2 n2 cap2 a f w W1 B D:=⟨h.ab.below hb,h.fb.below hb⟩
theorem AF.drew{A A2:Option Addr}{n cap n2 cap2:Nat}{a:Arc}{f:Fil}{w W:World}{B D:Nat}(h:AF A n cap A2 n2 cap2 a f w W B D):AF A n cap A2 n2 cap2 a f w W.drew B D:=h.below (Below.refl _ _).drew
theorem AF.drewN{A A2:Option Addr}{n cap n2 cap2:Nat}{a:Arc}{f:Fil}{w W:World}{B D:Nat}(h:AF A n cap A2 n2 cap2 a f w W B D)(k:Nat):AF A n cap A2 n2 cap2 a f w (W.drewN k) B D:=h.below (zD (Below.refl _ _) k)
theorem qna{ds:List qa}{k:Int} : (qL ds k).isSome=decide (0<=k/\k<=(ds.length:Int)):=by
 by_cases h0:k=0
 ·subst h0;rw[qhL,decide_eq_true (by omega)];rfl
 ·by_cases h1:k<0\/(ds.length:Int)<k
  ·rw[qiX h1,decide_eq_false (by omega)];rfl
  ·unfold qL;rw[if_neg h0,if_neg (by omega),decide_eq_true (by omega)];rfl
theorem qu3{ds:List qa}{k:Nat}{d:qa}(h:ds[k]?=some d):(ds.take (k+1)).any qaX=((ds.take k).any qaX || qaX d):=by
 rw[List.take_add_one,h,List.any_append];simp
theorem qbN(A:Option Addr)(n cap:Nat)(A2:Option Addr)(n2 cap2:Nat)(a:Arc)(w:World)(h:ArcIn w A n A2 n2 a)(hz:ArcSz a) :
  Calls Tryz.prog 67 #[qv A n cap A2 n2 cap2] w fun e w'=>e=.returned (I (qh a))/\Below w.heap.size w w':=by
 obtain⟨B,hB⟩:∃B,B=w.heap.size:=⟨_,rfl⟩
 obtain⟨w0,hw0⟩:∃w0,w0=w.alloc (.cells #[.slice A n cap,.slice A2 n2 cap2] 33):=⟨_,rfl⟩
 have H0:=zH (show ABox A n cap A2 n2 cap2 a w w0 B by rw[hw0,hB];exact ABox.new h cap cap2);have hn1:n<=4611686018427387904:=by have:=hz.nd;have:=h.s.1;omega
 have hn2:n2<=4611686018427387904:=by have:=hz.nf;have:=h.f.1;omega
 have hl1:=h.s.1;have hl2:=h.f.1;have HB:=zH hB;have HW0:=zH hw0;have HZ:=zH hz;have hck:qh a=if 4<n\/12<n2\/a.ds.any qaX=true then 2 else if qaL a.ds [] a.fs=true then 0 else 1:=by unfold qh;rw[hl1,hl2]
 have HCK:=zH hck;clear hB hw0 h hz hck
 by_cases h4:4<n
 ·have e1:qh a=2:=by rw[zU HCK,if_pos (Or.inl h4)]
  rw[e1];have d1:(4:Int)<(n:Int):=by omega
  clear e1;go_enter Tryz.func67,Tryz.ntmps67;go_upto_region 1 with fail
  rw[<-zU HW0,<-zU HB];obtain⟨q0,q1⟩:=(zU H0).c;go_wp2_with fail;go_ret;rw[<-zU HB];exact⟨rfl,(zU H0).bel⟩
 by_cases h12:12<n2
 ·have e1:qh a=2:=by rw[zU HCK,if_pos (Or.inr (Or.inl h12))]
  rw[e1];have d1:¬(4:Int)<(n:Int):=by omega
  have d2:(12:Int)<(n2:Int):=by omega
  clear e1;go_enter Tryz.func67,Tryz.ntmps67;go_upto_region 1 with fail
  rw[<-zU HW0,<-zU HB];obtain⟨q0,q1⟩:=(zU H0).c;go_wp2_with fail;go_ret;rw[<-zU HB];exact⟨rfl,(zU H0).bel⟩
 have d1:¬(4:Int)<(n:Int):=by omega
 have d2:¬(12:Int)<(n2:Int):=by omega
 have hck2:qh a=if a.ds.any qaX=true then 2 else if qaL a.ds [] a.fs=true then 0 else 1:=by
  rw[zU HCK]
  by_cases hb:a.ds.any qaX=true
  ·rw[if_pos (Or.inr (Or.inr hb)),if_pos hb]
  ·rw[if_neg (fun x=>x.elim h4 fun x=>x.elim h12 hb),if_neg hb]
 obtain⟨rs,hrs⟩:∃rs,rs=qh a:=⟨_,rfl⟩
 rw[<-hrs]at hck2 ⊢;have HCK2:=zH hck2;clear hck2 hrs HCK;go_enter Tryz.func67,Tryz.ntmps67;go_upto_region 1 with fail
 rw[<-zU HW0,<-zU HB];obtain⟨q0,q1⟩:=(zU H0).c;go_wp2_with fail;go_loop [3] (fun iv=>∃k:Nat,k<=n/\iv=.int .i64 k/\(a.ds.take k).any qaX=false) (fun iv=>n-(intOf iv).toNat)
 case atStart=>exact⟨0,by omega,rfl,by simp⟩
 case round =>
  obtain⟨k,hk,rfl,hnb⟩:=hrel;have HNB:=zH hnb;clear hnb
  by_cases hkn:k<n
  ·obtain⟨b,off,d,rfl,hb,hd,x0⟩:=(zU H0).i.s.at_ hkn;have hdz:=(zU HZ).ds d (List.mem_of_getElem? hd);have hnx:=qu3 hd
   by_cases hbig:256<d.length
   ·have hbd:qaX d=true:=decide_eq_true hbig;have hall:a.ds.any qaX=true:=List.any_eq_true.2 ⟨d,List.mem_of_getElem? hd,hbd⟩;have HR:=zH (show rs=2 by rw[zU HCK2,if_pos hall]);have e1:(256:Int)<(d.length:Int):=by omega
    clear hnx hd hbd hall;go_wp2_with fail;go_ret;rw[zU HR,<-zU HB];exact⟨rfl,(zU H0).bel⟩
   ·have hbd:qaX d=false:=decide_eq_false hbig;have HNX:=zH (show (a.ds.take (k+1)).any qaX=false by rw[hnx,zU HNB,hbd];rfl);have e1:¬(256:Int)<(d.length:Int):=by omega
    clear hnx hd hbd hbig;go_wp2_with fail;go_round
    case rel=>exact⟨k+1,by omega,by go_num,zU HNX⟩
    case measure=>simp[intOf];omega
  ·have hk':n=k:=by omega
   subst hk';have hnb2:=zU HNB;rw[List.take_of_length_le (by omega)]at hnb2
   have hds:∀d∈a.ds,d.length<=256:=fun d hd=>by
    have:=List.any_eq_false.1 hnb2 d hd;simp only[qaX,decide_eq_true_eq]at this;omega
   have HDS:=zH hds;have HR:=zH (show rs=if qaL a.ds [] a.fs=true then 0 else 1 by rw[zU HCK2,if_neg (by rw[hnb2];simp)]);clear hnb2 hds HNB HCK2;go_wp2_with fail;go_loopw [4] (fun iv wr=>∃k:Nat,k<=n2/\iv=.int .i64 k/\ABox A n cap A2 n2 cap2 a w wr B/\qaL a.ds [] a.fs=qaL a.ds (qfx a.fs k) (a.fs.drop k)) (fun iv _=>n2-(intOf iv).toNat)
   case atStart=>exact⟨0,by omega,rfl,zU H0,rfl⟩
   case round =>
    clear q0 q1 hk hkn;obtain⟨j,hj,rfl,hbx,hrj⟩:=hrel;have HBX:=zH hbx;obtain⟨p0,p1⟩:=hbx.c
    by_cases hjn:j<n2
    ·obtain⟨b,off,f,rfl,hb,hf,x0,x1,x2,x3,x4⟩:=hbx.i.f.at_ hjn;have hfz:=(zU HZ).fs f (List.mem_of_getElem? hf);have hnx:=qhx hf;rw[qqC hf,qaL]at hrj;have HRJ:=zH hrj;have HNX:=zH hnx;obtain⟨w2,hw2⟩:∃w2,w2=wr.alloc (.cells #[S f.name,I f.dict,I f.size,I f.sum,S f.block] 89):=⟨_,rfl⟩
     obtain⟨D,hD⟩:∃D,D=wr.heap.size:=⟨_,rfl⟩
     have AF2:=zH (show AF A n cap (some ⟨b,off,none⟩) n2 cap2 a f w w2 B D from ⟨by rw[hw2];exact hbx.below ((Below.refl _ _).alloc (Nat.le_refl _) _),by rw[hw2,hD];exact FBox.new f hbx.bel (Nat.le_of_lt hbx.lt)⟩)
     have hprev:j=0\/∃i g,j=i+1/\a.fs[i]?=some g/\wr.cell? ⟨b,off+i*5,none⟩=some (S g.name)/\w2.cell? ⟨b,off+i*5,none⟩=some (S g.name)/\qfx a.fs j=g.name:=by
      rcases Nat.eq_zero_or_pos j with h0|h0
      ·exact .inl h0
      ·obtain⟨i,rfl⟩:∃i,j=i+1:=⟨j-1,by omega⟩
       obtain⟨b2,off2,g,hA,hb2,hg,y0,_⟩:=hbx.i.f.at_ (k:=i) (by omega);cases hA;exact .inr ⟨i,g,rfl,hg,y0,by rw[hw2];exact (World.cell?_alloc_lt wr _ ⟨b,off+i*5,none⟩ hb).trans y0,qhx hg⟩
     have c3:=fun (W:World)=>qlo f.name W hfz.nm;obtain⟨m,hm⟩:∃m,m=qbw f.name:=⟨_,rfl⟩
     rw[<-hm]at c3;have c3:=zH c3;have c4:=fun (W:World)=>(qb4 f.dict 0 (n:Int) W).mono fun e w' ⟨h1,h2⟩=>(⟨h1,h2.symm⟩:e=Ending.returned (.bool (decide (0<=f.dict/\f.dict<=(n:Int))))/\w'=W)
     have hdi:=@qna a.ds f.dict;rw[hl1]at hdi;rw[<-hdi]at c4;have KD:=fun (hs:(qL a.ds f.dict).isSome=true) (W:World) (hW:ArcIn W A n (some ⟨b,off,none⟩) n2 a)=>qhK A n cap (some ⟨b,off,none⟩) n2 cap2 a f.dict W hW hn1 hs;obtain⟨o,ho⟩:∃o,o=qL a.ds f.dict:=⟨_,rfl⟩
     rw[<-ho]at c4 KD;have c4:=zH c4;have hdl:∀d,o=some d->d.length<=256:=fun d hd2=>qdM (zU HDS) (ho.symm.trans hd2);have htx:qao a.ds f=o.bind fun d=>qbH d f.block f.size f.sum:=by unfold qao;rw[ho]
     have hw2':=hw2.symm;have hD':=hD.symm;have R:=zH (show (∀W:World,AF A n cap (some ⟨b,off,none⟩) n2 cap2 a f w W B D->W.cell? ⟨B,0,none⟩=some (.slice A n cap))/\(∀W:World,AF A n cap (some ⟨b,off,none⟩) n2 cap2 a f w W B D->W.cell? ⟨B,1,none⟩=some (.slice (some ⟨b,off,none⟩) n2 cap2))/\(∀W:World,AF A n cap (some ⟨b,off,none⟩) n2 cap2 a f w W B D->W.cell? ⟨D,1,none⟩=some (I f.dict))/\(∀W:World,AF A n cap (some ⟨b,off,none⟩) n2 cap2 a f w W B D->W.cell? ⟨D,4,none⟩=some (S f.block))from ⟨fun W h=>h.ab.c.1,fun W h=>h.ab.c.2,fun W h=>h.fb.c.2.1,fun W h=>h.fb.c.2.2.2.2⟩);have hfb:qea a.ds f=((qao a.ds f).isSome && m):=by rw[hm];rfl
     have hne:m=true->f.name≠[]:=fun h=>qoG (by rw[<-hm];exact h);clear hrj hnx hbx hf hb ho hdi hm hw2 hD;cases m with
     | false =>
      have HRR:=zH (show rs=1 by rw[zU HR,zU HRJ,hfb];cases (qao a.ds f).isSome <;> rfl);clear hfb htx KD hdl hne hprev;go_upto_region 12 with fail
      try rw[hw2']
      try rw[hD']
      obtain⟨g0,g1⟩:=(zU AF2).ab.c;obtain⟨y0,y1,y2,y3,y4⟩:=(zU AF2).fb.c;clear x0 x1 x2 x3 x4 p0 p1;go_wp2_with fail;go_quiet (first|(go_at_call 109;refine Calls.quiet_of_same (zU c3 _))|(go_at_call 110;refine Calls.quiet_of_same (zU c4 _)));obtain⟨w3,hw3⟩:∃w3,w3=w2.drewN nq:=⟨_,rfl⟩
      have AF3:=zH (show AF A n cap (some ⟨b,off,none⟩) n2 cap2 a f w w3 B D by rw[hw3];exact (zU AF2).drewN _);rw[<-hw3];clear hw3 g0 g1 y0 y1 y2 y3 y4;go_wp2_with fail;go_ret;rw[zU HRR,<-zU HB];exact⟨rfl,(zU AF3).fb.bel⟩
     | true =>
      rcases hprev with rfl|⟨i,g,rfl,hg,yw,ye,hlast⟩
      ·have hlt:qs (qfx a.fs 0) f.name=true:=qmO (hne rfl);simp only[Nat.zero_mul,Nat.add_zero]at x0 x1 x2 x3 x4;cases o with
       | none =>
        have HRR:=zH (show rs=1 by rw[zU HR,zU HRJ,hfb,htx];rfl);clear hfb htx KD hdl hne;have c4:=c4;go_upto_region 12 with fail
        try rw[hw2']
        try rw[hD']
        obtain⟨g0,g1⟩:=(zU AF2).ab.c;obtain⟨y0,y1,y2,y3,y4⟩:=(zU AF2).fb.c;clear x0 x1 x2 x3 x4 p0 p1;go_wp2_with fail;go_quiet (first|(go_at_call 109;refine Calls.quiet_of_same (zU c3 _))|(go_at_call 110;refine Calls.quiet_of_same (zU c4 _)));obtain⟨w3,hw3⟩:∃w3,w3=w2.drewN nq:=⟨_,rfl⟩
        have AF3:=zH (show AF A n cap (some ⟨b,off,none⟩) n2 cap2 a f w w3 B D by rw[hw3];exact (zU AF2).drewN _);rw[<-hw3];clear hw3 g0 g1 y0 y1 y2 y3 y4;go_wp2_with fail;go_ret;rw[zU HRR,<-zU HB];exact⟨rfl,(zU AF3).fb.bel⟩
       | some d =>
        have KD2:=zH (KD rfl);have hdd:=hdl d rfl;have htx2:qao a.ds f=qbH d f.block f.size f.sum:=htx;cases hu:ql d f.block with
        | none =>
         have KU:=zH (fun (W:World)=>qh0 W hdd hfz.bl hu);have HRR:=zH (show rs=1 by rw[zU HR,zU HRJ,hfb,htx2];unfold qbH;rw[hu];rfl);clear hfb htx htx2 KD hdl hne hu;go_upto_region 12 with fail
         try rw[hw2']
         try rw[hD']
         obtain⟨g0,g1⟩:=(zU AF2).ab.c;obtain⟨y0,y1,y2,y3,y4⟩:=(zU AF2).fb.c;clear x0 x1 x2 x3 x4 p0 p1;go_wp2_with fail;go_quiet (first|(go_at_call 109;refine Calls.quiet_of_same (zU c3 _))|(go_at_call 110;refine Calls.quiet_of_same (zU c4 _)));obtain⟨w3,hw3⟩:∃w3,w3=w2.drewN nq:=⟨_,rfl⟩
         have AF3:=zH (show AF A n cap (some ⟨b,off,none⟩) n2 cap2 a f w w3 B D by rw[hw3];exact (zU AF2).drewN _);rw[<-hw3];clear hw3 g0 g1 y0 y1 y2 y3 y4;obtain⟨r1,r2,r3,r4⟩:=zU R;go_wp2_with fail
         go_region_held3 (fun w'=>AF A n cap (some ⟨b,off,none⟩) n2 cap2 a f w w' B D) (first|exact (zU AF3).drew|assumption|exact AF.drew (by assumption)|exact AF.below (by assumption) (by assumption))
          ((first
           | (go_at_call 112;have hAF:=‹AF A n cap (some ⟨b,off,none⟩) n2 cap2 a f w _ B D›;refine (zU KD2 _ (by exact hAF.ab.i)).mono ?_;clear hAF;rintro e w4 ⟨rfl,hb4⟩)
           | (go_at_call 111;refine (zU KU _).mono ?_;rintro e w5 ⟨⟨t,rfl⟩,hb5⟩)))
         have AF5:=zH ‹AF A n cap (some ⟨b,off,none⟩) n2 cap2 a f w w5 B D›;clear r1 r2 r3 r4;obtain⟨g0,g1⟩:=(zU AF5).ab.c;obtain⟨y0,y1,y2,y3,y4⟩:=(zU AF5).fb.c;go_wp2_with fail;go_quiet (fail);go_wp2_with fail;go_ret;rw[zU HRR,<-zU HB];exact⟨rfl,zD (zU AF5).fb.bel _⟩
        | some t =>
         have htl:=qeS hu;have KU:=zH (fun (W:World)=>qfJ W hdd hfz.bl hu);have c6:=fun (W:World)=>(qix t W (by omega)).mono fun e w' ⟨h1,h2⟩=>(⟨h1,h2.symm⟩:e=Ending.returned (I (qaF t))/\w'=W)
         obtain⟨sm,hsm⟩:∃sm,sm=qaF t:=⟨_,rfl⟩
         rw[<-hsm]at c6;have c6:=zH c6
         have hcase:((t.length:Int) == f.size)=false/\((t.length:Int) != f.size)=true/\qao a.ds f=none\/((t.length:Int) == f.size)=true/\((t.length:Int) != f.size)=false/\((sm:Int) == f.sum)=false/\((sm:Int) != f.sum)=true/\qao a.ds f=none\/((t.length:Int) == f.size)=true/\((t.length:Int) != f.size)=false/\((sm:Int) == f.sum)=true/\((sm:Int) != f.sum)=false/\qao a.ds f=some t:=by
          rw[htx2];unfold qbH;rw[hu];simp only[Option.bind_some];rw[hsm]
          by_cases k1:(t.length:Int)=f.size
          ·by_cases k2:((qaF t:Nat):Int)=f.sum
           ·exact .inr (.inr ⟨by rw[beq_iff_eq];exact k1,by rw[bne_eq_false_iff_eq];exact k1,by rw[beq_iff_eq];exact k2,by rw[bne_eq_false_iff_eq];exact k2,if_pos ⟨k1,k2⟩⟩)
           ·exact .inr (.inl ⟨by rw[beq_iff_eq];exact k1,by rw[bne_eq_false_iff_eq];exact k1,by rw[zB];exact k2,by rw[bne_iff_ne];exact k2,if_neg (fun e=>k2 e.2)⟩)
          ·exact .inl ⟨by rw[zB];exact k1,by rw[bne_iff_ne];exact k1,if_neg (fun e=>k1 e.1)⟩
         clear htx htx2 KD hdl hu hsm
         rcases hcase with⟨e1,e2,e5⟩|⟨e1,e2,e3,e4,e5⟩|⟨e1,e2,e3,e4,e5⟩
         ·have HRR:=zH (show rs=1 by rw[zU HR,zU HRJ,hfb,e5];rfl);clear hfb e5 hne;go_upto_region 12 with fail
          try rw[hw2']
          try rw[hD']
          obtain⟨g0,g1⟩:=(zU AF2).ab.c;obtain⟨y0,y1,y2,y3,y4⟩:=(zU AF2).fb.c;clear x0 x1 x2 x3 x4 p0 p1;go_wp2_with fail;go_quiet (first|(go_at_call 109;refine Calls.quiet_of_same (zU c3 _))|(go_at_call 110;refine Calls.quiet_of_same (zU c4 _)));obtain⟨w3,hw3⟩:∃w3,w3=w2.drewN nq:=⟨_,rfl⟩
          have AF3:=zH (show AF A n cap (some ⟨b,off,none⟩) n2 cap2 a f w w3 B D by rw[hw3];exact (zU AF2).drewN _);rw[<-hw3];clear hw3 g0 g1 y0 y1 y2 y3 y4;obtain⟨r1,r2,r3,r4⟩:=zU R;go_wp2_with fail
          go_region_held3 (fun w'=>AF A n cap (some ⟨b,off,none⟩) n2 cap2 a f w w' B D) (first|exact (zU AF3).drew|assumption|exact AF.drew (by assumption)|exact AF.below (by assumption) (by assumption))
           ((first
            | (go_at_call 112;have hAF:=‹AF A n cap (some ⟨b,off,none⟩) n2 cap2 a f w _ B D›;refine (zU KD2 _ (by exact hAF.ab.i)).mono ?_;clear hAF;rintro e w4 ⟨rfl,hb4⟩)
            | (go_at_call 111;refine (zU KU _).mono ?_;rintro e w5 ⟨rfl,hb5⟩)))
          have AF5:=zH ‹AF A n cap (some ⟨b,off,none⟩) n2 cap2 a f w w5 B D›;clear r1 r2 r3 r4;obtain⟨g0,g1⟩:=(zU AF5).ab.c;obtain⟨y0,y1,y2,y3,y4⟩:=(zU AF5).fb.c;go_wp2_with fail;go_quiet (first|(go_at_call 113;refine Calls.quiet_of_same (zU c6 _)));go_wp2_with fail;go_ret;rw[zU HRR,<-zU HB];exact⟨rfl,zD (zU AF5).fb.bel _⟩
         ·have HRR:=zH (show rs=1 by rw[zU HR,zU HRJ,hfb,e5];rfl);clear hfb e5 hne;go_upto_region 12 with fail
          try rw[hw2']
          try rw[hD']
          obtain⟨g0,g1⟩:=(zU AF2).ab.c;obtain⟨y0,y1,y2,y3,y4⟩:=(zU AF2).fb.c;clear x0 x1 x2 x3 x4 p0 p1;go_wp2_with fail;go_quiet (first|(go_at_call 109;refine Calls.quiet_of_same (zU c3 _))|(go_at_call 110;refine Calls.quiet_of_same (zU c4 _)));obtain⟨w3,hw3⟩:∃w3,w3=w2.drewN nq:=⟨_,rfl⟩
          have AF3:=zH (show AF A n cap (some ⟨b,off,none⟩) n2 cap2 a f w w3 B D by rw[hw3];exact (zU AF2).drewN _);rw[<-hw3];clear hw3 g0 g1 y0 y1 y2 y3 y4;obtain⟨r1,r2,r3,r4⟩:=zU R;go_wp2_with fail
          go_region_held3 (fun w'=>AF A n cap (some ⟨b,off,none⟩) n2 cap2 a f w w' B D) (first|exact (zU AF3).drew|assumption|exact AF.drew (by assumption)|exact AF.below (by assumption) (by assumption))
           ((first
            | (go_at_call 112;have hAF:=‹AF A n cap (some ⟨b,off,none⟩) n2 cap2 a f w _ B D›;refine (zU KD2 _ (by exact hAF.ab.i)).mono ?_;clear hAF;rintro e w4 ⟨rfl,hb4⟩)
            | (go_at_call 111;refine (zU KU _).mono ?_;rintro e w5 ⟨rfl,hb5⟩)))
          have AF5:=zH ‹AF A n cap (some ⟨b,off,none⟩) n2 cap2 a f w w5 B D›;clear r1 r2 r3 r4;obtain⟨g0,g1⟩:=(zU AF5).ab.c;obtain⟨y0,y1,y2,y3,y4⟩:=(zU AF5).fb.c;go_wp2_with fail;go_quiet (first|(go_at_call 113;refine Calls.quiet_of_same (zU c6 _)));go_wp2_with fail;go_ret;rw[zU HRR,<-zU HB];exact⟨rfl,zD (zU AF5).fb.bel _⟩
         ·have HST:=zH (show qaL a.ds [] a.fs=qaL a.ds (qfx a.fs (0+1)) (a.fs.drop (0+1))by rw[zU HRJ,hfb,e5,hlt,zU HNX];rfl);clear hfb e5 hne;go_upto_region 12 with fail
          try rw[hw2']
          try rw[hD']
          obtain⟨g0,g1⟩:=(zU AF2).ab.c;obtain⟨y0,y1,y2,y3,y4⟩:=(zU AF2).fb.c;clear x0 x1 x2 x3 x4 p0 p1;go_wp2_with fail;go_quiet (first|(go_at_call 109;refine Calls.quiet_of_same (zU c3 _))|(go_at_call 110;refine Calls.quiet_of_same (zU c4 _)));obtain⟨w3,hw3⟩:∃w3,w3=w2.drewN nq:=⟨_,rfl⟩
          have AF3:=zH (show AF A n cap (some ⟨b,off,none⟩) n2 cap2 a f w w3 B D by rw[hw3];exact (zU AF2).drewN _);rw[<-hw3];clear hw3 g0 g1 y0 y1 y2 y3 y4;obtain⟨r1,r2,r3,r4⟩:=zU R;go_wp2_with fail
          go_region_held3 (fun w'=>AF A n cap (some ⟨b,off,none⟩) n2 cap2 a f w w' B D) (first|exact (zU AF3).drew|assumption|exact AF.drew (by assumption)|exact AF.below (by assumption) (by assumption))
           ((first
            | (go_at_call 112;have hAF:=‹AF A n cap (some ⟨b,off,none⟩) n2 cap2 a f w _ B D›;refine (zU KD2 _ (by exact hAF.ab.i)).mono ?_;clear hAF;rintro e w4 ⟨rfl,hb4⟩)
            | (go_at_call 111;refine (zU KU _).mono ?_;rintro e w5 ⟨rfl,hb5⟩)))
          have AF5:=zH ‹AF A n cap (some ⟨b,off,none⟩) n2 cap2 a f w w5 B D›;clear r1 r2 r3 r4;obtain⟨g0,g1⟩:=(zU AF5).ab.c;obtain⟨y0,y1,y2,y3,y4⟩:=(zU AF5).fb.c;go_wp2_with fail;go_quiet (first|(go_at_call 113;refine Calls.quiet_of_same (zU c6 _)));go_wp2_with fail;go_roundw
          case rel =>
           first
            | exact⟨0+1,by omega,by go_num,((zU AF5).drewN _).ab,zU HST⟩
            | ((repeat apply Exists.intro);exact⟨⟨0+1,by omega,by go_num,((zU AF5).drewN _).ab,zU HST⟩,rfl⟩)
          case measure=>simp[intOf];omega
      ·have v1:IntKind.i64.wrap (((i+1:Nat):Int)-1)=(i:Int):=by rw[show ((i+1:Nat):Int)-1=(i:Int)from by omega];exact IntWalk.i64_in _ ⟨by omega,by omega⟩
       have v1b:IntKind.i64.wrap ((i:Int)+1-1)=(i:Int):=by rw[show (i:Int)+1-1=(i:Int)from by omega];exact IntWalk.i64_in _ ⟨by omega,by omega⟩
       have v2:IntKind.i64.wrap (i:Int)=(i:Int):=IntWalk.i64_in _ ⟨by omega,by omega⟩;have v3:(0:Int)<(i:Int)+1:=by omega
       have v4:(i:Int)<(n2:Int):=by omega
       have v5:(i:Int)+1<(n2:Int):=by omega
       by_cases hlt:qs g.name f.name=true
       ·have s1:Op.bytesLess g.name f.name=true:=by rw[qbf];exact hlt
        rw[<-hlast]at hlt;cases o with
        | none =>
         have HRR:=zH (show rs=1 by rw[zU HR,zU HRJ,hfb,htx];rfl);clear hfb htx KD hdl hne;have c4:=c4;go_upto_region 12 with fail
         try rw[hw2']
         try rw[hD']
         obtain⟨g0,g1⟩:=(zU AF2).ab.c;obtain⟨y0,y1,y2,y3,y4⟩:=(zU AF2).fb.c;clear x0 x1 x2 x3 x4 p0 p1;go_wp2_with fail;go_quiet (first|(go_at_call 109;refine Calls.quiet_of_same (zU c3 _))|(go_at_call 110;refine Calls.quiet_of_same (zU c4 _)));obtain⟨w3,hw3⟩:∃w3,w3=w2.drewN nq:=⟨_,rfl⟩
         have AF3:=zH (show AF A n cap (some ⟨b,off,none⟩) n2 cap2 a f w w3 B D by rw[hw3];exact (zU AF2).drewN _);rw[<-hw3];clear hw3 g0 g1 y0 y1 y2 y3 y4 ye;go_wp2_with fail;go_ret;rw[zU HRR,<-zU HB];exact⟨rfl,(zU AF3).fb.bel⟩
        | some d =>
         have KD2:=zH (KD rfl);have hdd:=hdl d rfl;have htx2:qao a.ds f=qbH d f.block f.size f.sum:=htx;cases hu:ql d f.block with
         | none =>
          have KU:=zH (fun (W:World)=>qh0 W hdd hfz.bl hu);have HRR:=zH (show rs=1 by rw[zU HR,zU HRJ,hfb,htx2];unfold qbH;rw[hu];rfl);clear hfb htx htx2 KD hdl hne hu;go_upto_region 12 with fail
          try rw[hw2']
          try rw[hD']
          obtain⟨g0,g1⟩:=(zU AF2).ab.c;obtain⟨y0,y1,y2,y3,y4⟩:=(zU AF2).fb.c;clear x0 x1 x2 x3 x4 p0 p1;go_wp2_with fail;go_quiet (first|(go_at_call 109;refine Calls.quiet_of_same (zU c3 _))|(go_at_call 110;refine Calls.quiet_of_same (zU c4 _)));obtain⟨w3,hw3⟩:∃w3,w3=w2.drewN nq:=⟨_,rfl⟩
          have AF3:=zH (show AF A n cap (some ⟨b,off,none⟩) n2 cap2 a f w w3 B D by rw[hw3];exact (zU AF2).drewN _);rw[<-hw3];clear hw3 g0 g1 y0 y1 y2 y3 y4 ye;obtain⟨r1,r2,r3,r4⟩:=zU R;go_wp2_with fail
          go_region_held3 (fun w'=>AF A n cap (some ⟨b,off,none⟩) n2 cap2 a f w w' B D) (first|exact (zU AF3).drew|assumption|exact AF.drew (by assumption)|exact AF.below (by assumption) (by assumption))
           ((first
            | (go_at_call 112;have hAF:=‹AF A n cap (some ⟨b,off,none⟩) n2 cap2 a f w _ B D›;refine (zU KD2 _ (by exact hAF.ab.i)).mono ?_;clear hAF;rintro e w4 ⟨rfl,hb4⟩)
            | (go_at_call 111;refine (zU KU _).mono ?_;rintro e w5 ⟨⟨t,rfl⟩,hb5⟩)))
          have AF5:=zH ‹AF A n cap (some ⟨b,off,none⟩) n2 cap2 a f w w5 B D›;clear r1 r2 r3 r4;obtain⟨g0,g1⟩:=(zU AF5).ab.c;obtain⟨y0,y1,y2,y3,y4⟩:=(zU AF5).fb.c;go_wp2_with fail;go_quiet (fail);go_wp2_with fail;go_ret;rw[zU HRR,<-zU HB];exact⟨rfl,zD (zU AF5).fb.bel _⟩
         | some t =>
          have htl:=qeS hu;have KU:=zH (fun (W:World)=>qfJ W hdd hfz.bl hu);have c6:=fun (W:World)=>(qix t W (by omega)).mono fun e w' ⟨h1,h2⟩=>(⟨h1,h2.symm⟩:e=Ending.returned (I (qaF t))/\w'=W)
          obtain⟨sm,hsm⟩:∃sm,sm=qaF t:=⟨_,rfl⟩
          rw[<-hsm]at c6;have c6:=zH c6
          have hcase:((t.length:Int) == f.size)=false/\((t.length:Int) != f.size)=true/\qao a.ds f=none\/((t.length:Int) == f.size)=true/\((t.length:Int) != f.size)=false/\((sm:Int) == f.sum)=false/\((sm:Int) != f.sum)=true/\qao a.ds f=none\/((t.length:Int) == f.size)=true/\((t.length:Int) != f.size)=false/\((sm:Int) == f.sum)=true/\((sm:Int) != f.sum)=false/\qao a.ds f=some t:=by
           rw[htx2];unfold qbH;rw[hu];simp only[Option.bind_some];rw[hsm]
           by_cases k1:(t.length:Int)=f.size
           ·by_cases k2:((qaF t:Nat):Int)=f.sum
            ·exact .inr (.inr ⟨by rw[beq_iff_eq];exact k1,by rw[bne_eq_false_iff_eq];exact k1,by rw[beq_iff_eq];exact k2,by rw[bne_eq_false_iff_eq];exact k2,if_pos ⟨k1,k2⟩⟩)
            ·exact .inr (.inl ⟨by rw[beq_iff_eq];exact k1,by rw[bne_eq_false_iff_eq];exact k1,by rw[zB];exact k2,by rw[bne_iff_ne];exact k2,if_neg (fun e=>k2 e.2)⟩)
           ·exact .inl ⟨by rw[zB];exact k1,by rw[bne_iff_ne];exact k1,if_neg (fun e=>k1 e.1)⟩
          clear htx htx2 KD hdl hu hsm
          rcases hcase with⟨e1,e2,e5⟩|⟨e1,e2,e3,e4,e5⟩|⟨e1,e2,e3,e4,e5⟩
          ·have HRR:=zH (show rs=1 by rw[zU HR,zU HRJ,hfb,e5];rfl);clear hfb e5 hne;go_upto_region 12 with fail
           try rw[hw2']
           try rw[hD']
           obtain⟨g0,g1⟩:=(zU AF2).ab.c;obtain⟨y0,y1,y2,y3,y4⟩:=(zU AF2).fb.c;clear x0 x1 x2 x3 x4 p0 p1;go_wp2_with fail;go_quiet (first|(go_at_call 109;refine Calls.quiet_of_same (zU c3 _))|(go_at_call 110;refine Calls.quiet_of_same (zU c4 _)));obtain⟨w3,hw3⟩:∃w3,w3=w2.drewN nq:=⟨_,rfl⟩
           have AF3:=zH (show AF A n cap (some ⟨b,off,none⟩) n2 cap2 a f w w3 B D by rw[hw3];exact (zU AF2).drewN _);rw[<-hw3];clear hw3 g0 g1 y0 y1 y2 y3 y4 ye;obtain⟨r1,r2,r3,r4⟩:=zU R;go_wp2_with fail
           go_region_held3 (fun w'=>AF A n cap (some ⟨b,off,none⟩) n2 cap2 a f w w' B D) (first|exact (zU AF3).drew|assumption|exact AF.drew (by assumption)|exact AF.below (by assumption) (by assumption))
            ((first
             | (go_at_call 112;have hAF:=‹AF A n cap (some ⟨b,off,none⟩) n2 cap2 a f w _ B D›;refine (zU KD2 _ (by exact hAF.ab.i)).mono ?_;clear hAF;rintro e w4 ⟨rfl,hb4⟩)
             | (go_at_call 111;refine (zU KU _).mono ?_;rintro e w5 ⟨rfl,hb5⟩)))
           have AF5:=zH ‹AF A n cap (some ⟨b,off,none⟩) n2 cap2 a f w w5 B D›;clear r1 r2 r3 r4;obtain⟨g0,g1⟩:=(zU AF5).ab.c;obtain⟨y0,y1,y2,y3,y4⟩:=(zU AF5).fb.c;go_wp2_with fail;go_quiet (first|(go_at_call 113;refine Calls.quiet_of_same (zU c6 _)));go_wp2_with fail;go_ret;rw[zU HRR,<-zU HB];exact⟨rfl,zD (zU AF5).fb.bel _⟩
          ·have HRR:=zH (show rs=1 by rw[zU HR,zU HRJ,hfb,e5];rfl);clear hfb e5 hne;go_upto_region 12 with fail
           try rw[hw2']
           try rw[hD']
           obtain⟨g0,g1⟩:=(zU AF2).ab.c;obtain⟨y0,y1,y2,y3,y4⟩:=(zU AF2).fb.c;clear x0 x1 x2 x3 x4 p0 p1;go_wp2_with fail;go_quiet (first|(go_at_call 109;refine Calls.quiet_of_same (zU c3 _))|(go_at_call 110;refine Calls.quiet_of_same (zU c4 _)));obtain⟨w3,hw3⟩:∃w3,w3=w2.drewN nq:=⟨_,rfl⟩
           have AF3:=zH (show AF A n cap (some ⟨b,off,none⟩) n2 cap2 a f w w3 B D by rw[hw3];exact (zU AF2).drewN _);rw[<-hw3];clear hw3 g0 g1 y0 y1 y2 y3 y4 ye;obtain⟨r1,r2,r3,r4⟩:=zU R;go_wp2_with fail
           go_region_held3 (fun w'=>AF A n cap (some ⟨b,off,none⟩) n2 cap2 a f w w' B D) (first|exact (zU AF3).drew|assumption|exact AF.drew (by assumption)|exact AF.below (by assumption) (by assumption))
            ((first
             | (go_at_call 112;have hAF:=‹AF A n cap (some ⟨b,off,none⟩) n2 cap2 a f w _ B D›;refine (zU KD2 _ (by exact hAF.ab.i)).mono ?_;clear hAF;rintro e w4 ⟨rfl,hb4⟩)
             | (go_at_call 111;refine (zU KU _).mono ?_;rintro e w5 ⟨rfl,hb5⟩)))
           have AF5:=zH ‹AF A n cap (some ⟨b,off,none⟩) n2 cap2 a f w w5 B D›;clear r1 r2 r3 r4;obtain⟨g0,g1⟩:=(zU AF5).ab.c;obtain⟨y0,y1,y2,y3,y4⟩:=(zU AF5).fb.c;go_wp2_with fail;go_quiet (first|(go_at_call 113;refine Calls.quiet_of_same (zU c6 _)));go_wp2_with fail;go_ret;rw[zU HRR,<-zU HB];exact⟨rfl,zD (zU AF5).fb.bel _⟩
          ·have HST:=zH (show qaL a.ds [] a.fs=qaL a.ds (qfx a.fs (i+1+1)) (a.fs.drop (i+1+1))by rw[zU HRJ,hfb,e5,hlt,zU HNX];rfl);clear hfb e5 hne;go_upto_region 12 with fail
           try rw[hw2']
           try rw[hD']
           obtain⟨g0,g1⟩:=(zU AF2).ab.c;obtain⟨y0,y1,y2,y3,y4⟩:=(zU AF2).fb.c;clear x0 x1 x2 x3 x4 p0 p1;go_wp2_with fail;go_quiet (first|(go_at_call 109;refine Calls.quiet_of_same (zU c3 _))|(go_at_call 110;refine Calls.quiet_of_same (zU c4 _)));obtain⟨w3,hw3⟩:∃w3,w3=w2.drewN nq:=⟨_,rfl⟩
           have AF3:=zH (show AF A n cap (some ⟨b,off,none⟩) n2 cap2 a f w w3 B D by rw[hw3];exact (zU AF2).drewN _);rw[<-hw3];clear hw3 g0 g1 y0 y1 y2 y3 y4 ye;obtain⟨r1,r2,r3,r4⟩:=zU R;go_wp2_with fail
           go_region_held3 (fun w'=>AF A n cap (some ⟨b,off,none⟩) n2 cap2 a f w w' B D) (first|exact (zU AF3).drew|assumption|exact AF.drew (by assumption)|exact AF.below (by assumption) (by assumption))
            ((first
             | (go_at_call 112;have hAF:=‹AF A n cap (some ⟨b,off,none⟩) n2 cap2 a f w _ B D›;refine (zU KD2 _ (by exact hAF.ab.i)).mono ?_;clear hAF;rintro e w4 ⟨rfl,hb4⟩)
             | (go_at_call 111;refine (zU KU _).mono ?_;rintro e w5 ⟨rfl,hb5⟩)))
           have AF5:=zH ‹AF A n cap (some ⟨b,off,none⟩) n2 cap2 a f w w5 B D›;clear r1 r2 r3 r4;obtain⟨g0,g1⟩:=(zU AF5).ab.c;obtain⟨y0,y1,y2,y3,y4⟩:=(zU AF5).fb.c;go_wp2_with fail;go_quiet (first|(go_at_call 113;refine Calls.quiet_of_same (zU c6 _)));go_wp2_with fail;go_roundw
           case rel =>
            first
             | exact⟨i+1+1,by omega,by go_num,((zU AF5).drewN _).ab,zU HST⟩
             | ((repeat apply Exists.intro);exact⟨⟨i+1+1,by omega,by go_num,((zU AF5).drewN _).ab,zU HST⟩,rfl⟩)
           case measure=>simp[intOf];omega
       ·have hlt:qs g.name f.name=false:=by simpa using hlt
        have s1:Op.bytesLess g.name f.name=false:=by rw[qbf];exact hlt
        rw[<-hlast]at hlt;have HRR:=zH (show rs=1 by rw[zU HR,zU HRJ,hfb,hlt];cases (qao a.ds f).isSome <;> rfl);clear hfb htx KD hdl hne;go_upto_region 12 with fail
        try rw[hw2']
        try rw[hD']
        obtain⟨g0,g1⟩:=(zU AF2).ab.c;obtain⟨y0,y1,y2,y3,y4⟩:=(zU AF2).fb.c;clear x0 x1 x2 x3 x4 p0 p1;go_wp2_with fail;go_quiet (first|(go_at_call 109;refine Calls.quiet_of_same (zU c3 _))|(go_at_call 110;refine Calls.quiet_of_same (zU c4 _)));obtain⟨w3,hw3⟩:∃w3,w3=w2.drewN nq:=⟨_,rfl⟩
        have AF3:=zH (show AF A n cap (some ⟨b,off,none⟩) n2 cap2 a f w w3 B D by rw[hw3];exact (zU AF2).drewN _);rw[<-hw3];clear hw3 g0 g1 y0 y1 y2 y3 y4 ye;go_wp2_with fail;go_ret;rw[zU HRR,<-zU HB];exact⟨rfl,(zU AF3).fb.bel⟩
    ·have hj':j=n2:=by omega
     subst hj';rw[List.drop_of_length_le (by omega),qaL]at hrj;have HRR:=zH (show rs=0 by rw[zU HR,hrj];rfl);clear hrj;go_wp2_with fail;go_ret;rw[zU HRR,<-zU HB];exact⟨rfl,(zU HBX).bel⟩
structure HAt(L:List Int)(w wr:World)(B:Nat):Prop where
 z:wr.heap[B]?=some (.cells (qg (Lf fun _=>0)) 168 (0,0))
 o:wr.heap[B+1]?=some (.cells (qg L) 168 (0,0))
 bel:Below B w wr
theorem HAt.size{L:List Int}{w wr:World}{B:Nat}(h:HAt L w wr B):B+2<=wr.heap.size:=(zE h.o).1
theorem HAt.put{L:List Int}{w wr:World}{B:Nat}(h:HAt L w wr B)(i:Nat)(v:Int):HAt (L.set i v) w (wr.setCell ⟨B+1,i,none⟩ (.int .i64 v)) B:=by
 refine⟨?_,?_,?_⟩
 ·rw[heap_setCell_other _ _ _ _ (by show B≠B+1;omega)];exact h.z
 ·rw[heap_setCell_same _ _ _ _ _ _ h.o,qg0]
 ·exact h.bel.setCell (by show B<=B+1;omega) _
theorem HAt.start(w:World):HAt (Lf fun _=>0) w ((w.alloc (.cells (qg (Lf fun _=>0)) 168)).alloc (.cells (qg (Lf fun _=>0)) 168)) w.heap.size :=
 ⟨heap_alloc2_old _ _ _,heap_alloc2_new _ _ _,((Below.refl _ _).alloc (Nat.le_refl _) _).alloc (by simp) _⟩
theorem qig(s:qa)(k i:Nat):(qp (s.take k)).count i<=2*k:=by
 have:=List.count_le_length (a:=i) (l:=qp (s.take k));rw[qbK,List.length_take]at this;omega
theorem qtx{s:qa}{k:Nat}{c:UInt8}(hc:s[k]?=some c) :
  ((qa2 (qp (s.take k))).set (c.toNat / 16) (((qp (s.take k)).count (c.toNat / 16):Nat)+1:Int)).set (c.toNat % 16) (((qp (s.take k)++[c.toNat / 16]).count (c.toNat % 16):Nat)+1:Int)=qa2 (qp (s.take (k+1))):=by
 rw[qeL,qeL,qgH hc,List.append_assoc];rfl
theorem qrE(s:qa)(w:World)(hs:s.length<=1000000000000) :
  Calls Tryz.prog 212 #[S s] w fun e w'=>e=.returned (A16 (qa2 (qp s)))/\Below w.heap.size w w':=by
 have hz:=qff;obtain⟨B,hB⟩:∃B,B=w.heap.size:=⟨_,rfl⟩
 obtain⟨w0,hw0⟩:∃w0,w0=(w.alloc (.cells (qg (Lf fun _=>0)) 168)).alloc (.cells (qg (Lf fun _=>0)) 168):=⟨_,rfl⟩
 have h0:HAt (Lf fun _=>0) w w0 B:=by rw[hB,hw0];exact HAt.start w
 have H0:=zH h0;have HB:=zH hB;clear h0;go_enter Tryz.func212,Tryz.ntmps212;go_wp2_with fail;rw[<-hw0,<-zU HB];clear hw0 hB;go_loopw [4] (fun iv wr=>∃k:Nat,k<=s.length/\iv=.int .i64 k/\HAt (qa2 (qp (s.take k))) w wr B) (fun iv _=>s.length-(intOf iv).toNat)
 case atStart=>exact⟨0,by omega,rfl,by rw[List.take_zero,show qp []=[]from rfl,qkH];exact zU H0⟩
 case round =>
  obtain⟨k,hk,rfl,hat⟩:=hrel;have HAT:=zH hat;have hsz:=hat.size;clear hat
  by_cases hks:k<s.length
  ·obtain⟨c,hcc⟩:∃c,(⟨s.toArray⟩:ByteArray)[k]'hks=c:=⟨_,rfl⟩
   have hsc:s[k]?=some c:=by rw[zG hks];exact congrArg some hcc
   have hst:=qtx hsc;obtain⟨h,hh⟩:∃h,h=c.toNat / 16:=⟨_,rfl⟩
   obtain⟨m,hm⟩:∃m,m=c.toNat % 16:=⟨_,rfl⟩
   rw[<-hh,<-hm]at hst;have hc256:=c.toNat_lt;have hh16:h<16:=by omega
   have hm16:m<16:=by omega
   have a1:(c.toNat:Int).tdiv 16=(h:Int):=by rw[Int.tdiv_eq_ediv_of_nonneg (by omega)];omega
   have a2:(c.toNat:Int).tmod 16=(m:Int):=by rw[Int.tmod_eq_emod_of_nonneg (by omega)];omega
   have a3:IntKind.u8.wrap ((c.toNat:Int) / 16)=(h:Int):=by
    have e:(c.toNat:Int) / 16=(h:Int):=by omega
    rw[e,IntKind.wrap_u8];omega
   have b1:=qig s k h
   have b2:(qp (s.take k)++[h]).count m<=2*k+1:=by
    have:=qig s k m;rw[List.count_append];have h2:=List.count_le_length (a:=m) (l:=[h]);rw[List.length_singleton]at h2;omega
   have c1:wr.cell? ⟨B+1,h,none⟩=some (.int .i64 ((qp (s.take k)).count h:Nat)):=qbC (zU HAT).o (qhR _ hh16);have h1:=(zU HAT).put h (((qp (s.take k)).count h:Nat)+1:Int);rw[qeL]at h1 hst;have c2:(wr.setCell ⟨B+1,h,none⟩ (.int .i64 (((qp (s.take k)).count h:Nat)+1:Int))).cell? ⟨B+1,m,none⟩=some (.int .i64 ((qp (s.take k)++[h]).count m:Nat)):=qbC h1.o (qhR _ hm16);have h2:=h1.put m (((qp (s.take k)++[h]).count m:Nat)+1:Int);rw[hst]at h2;have f1:wr.frozen? ⟨B+1,h,none⟩=false:=frozen_of_row _ _ _ _ _ (zU HAT).o;have f2:wr.frozen? ⟨B+1,m,none⟩=false:=frozen_of_row _ _ _ _ _ (zU HAT).o;obtain⟨x,hx⟩:∃x,x=(qp (s.take k)).count h:=⟨_,rfl⟩
   obtain⟨y,hy⟩:∃y,y=(qp (s.take k)++[h]).count m:=⟨_,rfl⟩
   rw[<-hx]at b1 c1 c2 h2;rw[<-hy]at b2 c2 h2;have H2:=zH h2;clear hsc hh hm hx hy h1 h2 hst;have hx2:x<=9223372036854775806:=by omega
   have hy2:y<=9223372036854775806:=by omega
   obtain⟨w1,hw1⟩:∃w1,w1=wr.setCell ⟨B+1,h,none⟩ (.int .i64 ((x:Int)+1)):=⟨_,rfl⟩
   rw[<-hw1]at c2 H2;have f3:w1.frozen? ⟨B+1,m,none⟩=false:=by rw[hw1,qhD];exact f2
   have HW1:=zH hw1;clear hw1;go_upto_region 6 with fail
   rw[<-zU HW1];go_wp2_with fail;go_roundw
   case rel=>exact⟨k+1,by omega,by go_num,zU H2⟩
   case measure=>simp[intOf];omega
  ·have hk':k=s.length:=by omega
   subst hk';rw[List.take_length]at HAT
   go_wp2_with (first
    | (refine qj rfl (.tmp 3) rfl (B+1) rfl _ (qdO _) (zU HAT).o ?_)
    | (refine wpList_store_row rfl 168 (.tmp 2) (.tmp 27) rfl B (qg (qa2 (qp s))) rfl rfl 168 _ (zU HAT).z (by rw[qbP,qt (qdO _)]) (by rw[qt (qdO _),qt (qab _)]) (qaY _) ?_))
   refine bodyPost_ret (results_cell_row rfl _ _ B 168 (qg (qa2 (qp s))) (0,0) _ rfl (setRow_heap _ _ _ _ _ _ (zU HAT).z) Tryz.underlying168 rfl (by rw[qbP,qt (qdO _)])) rfl ⟨rfl,?_⟩;rw[<-zU HB];exact below_setRow (zU HAT).bel (Nat.le_refl _) _
theorem qtj{l:List Int}{j:Nat}(h:j<8):(hdB l).take (j+1)=(hdB l).take j++[UInt8.ofNat (16*ln l (2*j)+ln l (2*j+1))]:=by
 rw[List.take_add_one];unfold hdB;rw[List.getElem?_map,List.getElem?_range h];rfl
theorem qqG(L:List Int)(s:qa):(qan L s).length<=30*s.length+7:=by
 by_cases h:qas L s=0
 ·unfold qan;rw[if_pos h,qiI];have hc:=(qem (qci h).1).1
  have h1:∀ks:List Nat,(qbk L ks).length<=15*ks.length:=by
   intro ks
   induction ks with
   | nil=>simp[qbk]
   | cons k ks ih =>
    rw[qgK,zL,qac,List.length_cons]
    have:ln L k<=15:=by
     unfold ln;rw[List.getD_eq_getElem?_getD];cases hk:L[k]? with
     | none=>simp
     | some x=>have:=hc x (List.mem_of_getElem? hk);simp;omega
    omega
  have:=h1 (qp s);rw[qbK]at this;omega
 ·unfold qan;rw[if_neg h];simp
attribute [local go_sem ↓] qba in
theorem qsr(s:qa)(w:World)(hs:s.length<=1024)(hne:s≠[]) :
  Calls Tryz.prog 185 #[S s] w fun e w'=>e=.returned (S (qaR s))/\Below w.heap.size w w':=by
 have hz:=qff;have kb:=fun (W:World) (x:UInt8)=>True.intro;have c1:=zH (fun (W:World)=>qrE s W (by omega));have hb0:qav (qa2 (qp s))=0:=qgU hne hs;have c2:=fun (W:World)=>qp8 (qa2 (qp s)) W (qdO _);obtain⟨L,hL⟩:∃L,L=qfw s:=⟨_,rfl⟩
 rw[hb0,show qay (qa2 (qp s))=L from hL.symm]at c2;obtain⟨C,hC⟩:∃C,C=qa2 (qp s):=⟨_,rfl⟩
 rw[<-hC]at c1 c2;have c2:=zH c2;have hl16:L.length=16:=by rw[hL];exact qcz _
 have hr:qI L=0:=by rw[hL];exact qfY hb0
 have HR:=zH (qdF hl16 hr);have HL16:=zH hl16;obtain⟨T,hT⟩:∃T,T=qan L s:=⟨_,rfl⟩
 obtain⟨te,hte⟩:∃te,te=qas L s:=⟨_,rfl⟩
 have hTl:T.length<=40000:=by rw[hT];have:=qqG L s;omega
 have c3:=fun (W:World)=>qhY L s W hl16 (by omega);rw[<-hT,<-hte]at c3;have c3:=zH c3;have hnl:=qb1 4 s.length (by omega);have c4:=fun (W:World)=>qe3 s.length W (by omega);obtain⟨N,hN⟩:∃N,N=nb s.length:=⟨_,rfl⟩
 rw[<-hN]at c4 hnl;have c4:=zH c4;obtain⟨H,hH⟩:∃H,H=2::hdB L:=⟨_,rfl⟩
 have hHl:H.length=9:=by rw[hH,List.length_cons,qfm]
 have hth:qaR s=H++(N++T):=by
  unfold qaR;rw[<-hL,hH,hN,hT,List.cons_append,List.append_assoc]
 have HTH:=zH hth;have HH:=zH hH;have k1:H.length+N.length<=9223372036854775807:=by omega
 have k2:H.length+N.length+T.length<=9223372036854775807:=by omega
 have k3:H.length+(N.length+T.length)<=9223372036854775807:=by omega
 clear hb0 hL hC hl16 hr hT hte hTl hnl hN hH hHl hth hne;obtain⟨B,hB⟩:∃B,B=w.heap.size:=⟨_,rfl⟩
 have HB:=zH hB;go_enter Tryz.func185,Tryz.ntmps185;go_wp2_with fail;refine (zU c1 _).mono ?_;rintro e w1 ⟨rfl,hb1⟩;have H1:=zH hb1;clear hb1;go_wp2_with fail;refine (zU c2 _).mono ?_;rintro e w2 ⟨rfl,hb2⟩;have H2:=zH ((zU H1).trans (hb2.mono (zU H1).size));clear hb2
 go_upto_region 2 with (first
  | (refine wpList_store_row rfl 168 (.tmp 3) (.tmp 13) rfl w2.heap.size (qg L) rfl rfl 168 _ (heap_alloc_new _ _) (by rw[qbP,qt (zU HL16)]) (by rw[qt (zU HL16),qt (qab _)]) (qaY _) ?_))
 obtain⟨w3,hw3⟩:∃w3,w3=(w2.alloc (.cells (qg (Lf fun _=>0)) 168)).setRow w2.heap.size (qg L):=⟨_,rfl⟩
 obtain⟨E,hE⟩:∃E,E=w2.heap.size:=⟨_,rfl⟩
 have H3:=zH (show BoxL L w w3 B E by rw[hw3,hE,hB];exact BoxL.laid L (zU H2) (zU H2).size);rw[<-hw3,<-hE];clear hw3 hE;go_wp2_with fail;go_loopw [5,6] (fun bv iv wr=>∃j:Nat,j<=8/\iv=.int .i64 (j:Int)/\bv=S (2::(hdB L).take j)/\BoxL L w wr B E) (fun _ iv _=>8-(intOf iv).toNat)
 case atStart=>exact⟨0,by omega,rfl,rfl,zU H3⟩
 case round =>
  obtain⟨j,hj,rfl,rfl,hbx⟩:=hrel;have HBX:=zH hbx;have hE3:=hbx.lt;clear hbx
  by_cases hj8:j<8
  ·obtain⟨x,hx⟩:∃x,x=ln L (2*j):=⟨_,rfl⟩
   obtain⟨y,hy⟩:∃y,y=ln L (2*j+1):=⟨_,rfl⟩
   have hx15:x<=15:=by rw[hx];exact (zU HR).one _
   have hy15:y<=15:=by rw[hy];exact (zU HR).one _
   obtain⟨i,hi⟩:∃i,i=2*j:=⟨_,rfl⟩
   have c1:wr.cell? ⟨E,i,none⟩=some (.int .i64 (x:Int)):=by rw[hi,hx];exact (zU HBX).get (qdc (zU HR) (by omega))
   have c2:wr.cell? ⟨E,i+1,none⟩=some (.int .i64 (y:Int)):=by rw[hi,hy];exact (zU HBX).get (qdc (zU HR) (by omega))
   obtain⟨b,hb⟩:∃b,b=UInt8.ofNat (16*x+y):=⟨_,rfl⟩
   have hbn:b.toNat=16*x+y:=by rw[hb,UInt8.toNat_ofNat'];omega
   have hnx:(2::(hdB L).take j)++[b]=2::(hdB L).take (j+1):=by rw[qtj hj8,hb,hx,hy];rfl
   have HNX:=zH hnx;have v1:wrap64 (2*(j:Int))=(i:Int):=by rw[hi];exact (IntWalk.wrap64_in _ ⟨by omega,by omega⟩).trans (by omega)
   have v1b:IntKind.i64.wrap (2*(j:Int))=(i:Int):=by rw[hi];exact (IntWalk.i64_in _ ⟨by omega,by omega⟩).trans (by omega)
   have v2:IntKind.i64.wrap ((i:Int)+1)=(i:Int)+1:=IntWalk.i64_in _ ⟨by omega,by omega⟩;have v3:(0:Int)<=(i:Int)+1:=by omega
   have v4:(i:Int)+1<16:=by omega
   have v5:((i:Int)+1).toNat=i+1:=by omega
   have v6:(i:Int)<16:=by omega
   have v7:wrap64 (16*(x:Int))=16*(x:Int):=IntWalk.wrap64_in _ ⟨by omega,by omega⟩;have v7b:IntKind.i64.wrap (16*(x:Int))=16*(x:Int):=IntWalk.i64_in _ ⟨by omega,by omega⟩;have v8:IntKind.i64.wrap (16*(x:Int)+(y:Int))=16*(x:Int)+(y:Int):=IntWalk.i64_in _ ⟨by omega,by omega⟩;have v9:IntKind.u8.wrap (16*(x:Int)+(y:Int))=(b.toNat:Int):=by rw[hbn,IntKind.wrap_u8];omega
   have hpre:(2::(hdB L).take j).length<=10:=by rw[List.length_cons,List.length_take];omega
   obtain⟨P,hP⟩:∃P,P=2::(hdB L).take j:=⟨_,rfl⟩
   rw[<-hP]at hpre HNX ⊢;clear hx hy hb hnx hi hbn hP;have p1:P.length+1<=9223372036854775807:=by omega
   have q1:=qfj (P:=Tryz.prog) wr b rfl 5 37 9 5 Tryz.underlying37 Tryz.underlying5 Tryz.underlying9
   have q2:=qbZ (P:=Tryz.prog) wr b rfl 5 37 9 5 Tryz.underlying37 Tryz.underlying5 Tryz.underlying9
   go_wp2_with fail;go_region_law (fail)
   all_goals
    go_wp2_with fail;go_roundw
    case rel=>exact⟨j+1,by omega,by go_num,by rw[zU HNX],by first|exact (zU HBX).alloc _|exact ((zU HBX).alloc _).drew|exact (zU HBX).drew.alloc _⟩
    case measure=>simp[intOf];omega
  ·have hj':j=8:=by omega
   subst hj';rw[List.take_of_length_le (by rw[qfm];exact Nat.le_refl _),<-zU HH]
   go_wp2_with (first
    | (refine qj rfl (.tmp 3) rfl E rfl L (zU HL16) (zU HBX).o ?_))
   refine (zU c3 _).mono ?_;rintro e w6 ⟨rfl,hb6⟩;have H6:=zH ((zU HBX).below hb6);clear hb6;go_wp2_with fail;refine (zU c4 _).mono ?_;rintro e w7 ⟨rfl,hb7⟩;have H7:=zH ((zU H6).below hb7);clear hb7;go_wp2_with fail;go_ret;rw[zU HTH,<-zU HB];exact⟨rfl,(zU H7).bel⟩
attribute [local go_sem ↓] qba in
theorem qrg(dict text:qa)(w:World)(hd:dict.length<=256)(ht:text.length<=512) :
  Calls Tryz.prog 151 #[S dict,S text] w fun e w'=>e=.returned (S (qfM dict text))/\Below w.heap.size w w':=by
 have c1:=zH (qoz dict text w hd ht);have hpl:=qeY hd ht;have hsm:∀t∈qbd dict text,qlS t:=qmI (by rw[hpl]);have hln:(qbd dict text).length<=512:=qcW (by rw[hpl]);have c2:=fun (W:World) (A:Option Addr) (n cap:Nat) (h:ToksAt W W.heap.size A n (qbd dict text))=>qn6 A n cap _ W h (by have:=h.1;omega) hsm;have hs:=qgT hd ht;have hpk:qfM dict text=qbe text (qad (qbd dict text)):=rfl;rw[hpk];obtain⟨s,hse⟩:∃s,s=qad (qbd dict text):=⟨_,rfl⟩
 rw[<-hse]at c2 hs ⊢;have c2:=zH c2;have c3:=fun (W:World) (h:s≠[])=>qsr s W hs h;have hwh:=qvd text s;obtain⟨T,hT⟩:∃T,T=qaR s:=⟨_,rfl⟩
 have k1:[(0:UInt8)].length+text.length<=9223372036854775807:=by simp;omega
 have k2:[(1:UInt8)].length+s.length<=9223372036854775807:=by simp;omega
 have k3:1+text.length<=9223372036854775807:=by omega
 have k4:1+s.length<=9223372036854775807:=by omega
 have k5:text.length+1<=9223372036854775807:=by omega
 have k6:s.length+1<=9223372036854775807:=by omega
 obtain⟨X,hX⟩:∃X,X=qbe text s:=⟨_,rfl⟩
 rw[<-hX]at hwh ⊢;clear hpl hsm hln hpk hse hX;cases hwh with
 | a0 hne hlt he hX =>
  subst hne;subst hX;clear he c3 hT;have i3:text.length=0:=by have:([]:qa).length=0:=rfl;omega
  clear hlt;go_enter Tryz.func151,Tryz.ntmps151;go_wp2_with fail;refine (zU c1).mono ?_;rintro e w1 ⟨⟨v,rfl,A,n,cap,rfl,hat⟩,hb1⟩;have HAT:=zH hat;have H1:=zH hb1;clear hat hb1;go_wp2_with fail;refine (zU c2 _ _ _ _ (zU HAT)).mono ?_;rintro e w2 ⟨rfl,hb2⟩;have H2:=zH ((zU H1).trans (hb2.mono (zU H1).size));clear hb2;go_wp2_with fail;go_ret;exact⟨rfl,zU H2⟩
 | a1 hne hlt he hX =>
  subst hne;subst hX;clear he c3 hT;have i3:0<text.length:=hlt;have i2:(0:Int)<(text.length:Int):=by omega
  clear hlt;go_enter Tryz.func151,Tryz.ntmps151;go_wp2_with fail;refine (zU c1).mono ?_;rintro e w1 ⟨⟨v,rfl,A,n,cap,rfl,hat⟩,hb1⟩;have HAT:=zH hat;have H1:=zH hb1;clear hat hb1;go_wp2_with fail;refine (zU c2 _ _ _ _ (zU HAT)).mono ?_;rintro e w2 ⟨rfl,hb2⟩;have H2:=zH ((zU H1).trans (hb2.mono (zU H1).size));clear hb2;go_wp2_with fail;go_ret;exact⟨rfl,zU H2⟩
 | b0 hne hlt hcmp he hX =>
  have c3:=fun (W:World)=>c3 W hne;rw[<-hT]at c3 hcmp hX;have c3:=zH c3;have i1:¬(s.length:Int)+1<(text.length:Int)+1:=by omega
  have i2:¬(s.length:Int)<(text.length:Int):=by omega
  have i3:text.length<=s.length:=by omega
  have j1:(T.length:Int)<(text.length:Int)+1:=by omega
  have j2:T.length<text.length+1:=by omega
  have m1:(s == [])=false:=by rw[zB];exact hne
  have m2:(s != [])=true:=by rw[bne_iff_ne];exact hne
  rw[hX];clear hX he hne hcmp hlt hT;go_enter Tryz.func151,Tryz.ntmps151;go_wp2_with fail;refine (zU c1).mono ?_;rintro e w1 ⟨⟨v,rfl,A,n,cap,rfl,hat⟩,hb1⟩;have HAT:=zH hat;have H1:=zH hb1;clear hat hb1;go_wp2_with fail;refine (zU c2 _ _ _ _ (zU HAT)).mono ?_;rintro e w2 ⟨rfl,hb2⟩;have H2:=zH ((zU H1).trans (hb2.mono (zU H1).size));clear hb2;go_wp2_with fail;refine (zU c3 _).mono ?_;rintro e w3 ⟨rfl,hb3⟩;have H3:=zH ((zU H2).trans (hb3.mono (zU H2).size));clear hb3;go_wp2_with fail;go_ret;exact⟨rfl,zU H3⟩
 | b1 hne hlt hcmp he hX =>
  have c3:=fun (W:World)=>c3 W hne;rw[<-hT]at c3 hcmp hX;have c3:=zH c3;have i1:(s.length:Int)+1<(text.length:Int)+1:=by omega
  have i2:(s.length:Int)<(text.length:Int):=by omega
  have j1:(T.length:Int)<(s.length:Int)+1:=by omega
  have j2:T.length<s.length+1:=by omega
  have m1:(s == [])=false:=by rw[zB];exact hne
  have m2:(s != [])=true:=by rw[bne_iff_ne];exact hne
  rw[hX];clear hX he hne hcmp hlt hT;go_enter Tryz.func151,Tryz.ntmps151;go_wp2_with fail;refine (zU c1).mono ?_;rintro e w1 ⟨⟨v,rfl,A,n,cap,rfl,hat⟩,hb1⟩;have HAT:=zH hat;have H1:=zH hb1;clear hat hb1;go_wp2_with fail;refine (zU c2 _ _ _ _ (zU HAT)).mono ?_;rintro e w2 ⟨rfl,hb2⟩;have H2:=zH ((zU H1).trans (hb2.mono (zU H1).size));clear hb2;go_wp2_with fail;refine (zU c3 _).mono ?_;rintro e w3 ⟨rfl,hb3⟩;have H3:=zH ((zU H2).trans (hb3.mono (zU H2).size));clear hb3;go_wp2_with fail;go_ret;exact⟨rfl,zU H3⟩
 | c0 hne hlt hcmp he hX =>
  have c3:=fun (W:World)=>c3 W hne;rw[<-hT]at c3 hcmp;have c3:=zH c3;have i1:¬(s.length:Int)+1<(text.length:Int)+1:=by omega
  have i2:¬(s.length:Int)<(text.length:Int):=by omega
  have i3:text.length<=s.length:=by omega
  have j1:¬(T.length:Int)<(text.length:Int)+1:=by omega
  have j2:¬T.length<text.length+1:=by omega
  have j3:text.length+1<=T.length:=by omega
  have j4:(text.length:Int)+1<=(T.length:Int):=by omega
  have m1:(s == [])=false:=by rw[zB];exact hne
  have m2:(s != [])=true:=by rw[bne_iff_ne];exact hne
  rw[hX];clear hX he hne hcmp hlt hT;go_enter Tryz.func151,Tryz.ntmps151;go_wp2_with fail;refine (zU c1).mono ?_;rintro e w1 ⟨⟨v,rfl,A,n,cap,rfl,hat⟩,hb1⟩;have HAT:=zH hat;have H1:=zH hb1;clear hat hb1;go_wp2_with fail;refine (zU c2 _ _ _ _ (zU HAT)).mono ?_;rintro e w2 ⟨rfl,hb2⟩;have H2:=zH ((zU H1).trans (hb2.mono (zU H1).size));clear hb2;go_wp2_with fail;refine (zU c3 _).mono ?_;rintro e w3 ⟨rfl,hb3⟩;have H3:=zH ((zU H2).trans (hb3.mono (zU H2).size));clear hb3;go_wp2_with fail;go_ret;exact⟨rfl,zU H3⟩
 | c1 hne hlt hcmp he hX =>
  have c3:=fun (W:World)=>c3 W hne;rw[<-hT]at c3 hcmp;have c3:=zH c3;have i1:(s.length:Int)+1<(text.length:Int)+1:=by omega
  have i2:(s.length:Int)<(text.length:Int):=by omega
  have j1:¬(T.length:Int)<(s.length:Int)+1:=by omega
  have j2:¬T.length<s.length+1:=by omega
  have j3:s.length+1<=T.length:=by omega
  have j4:(s.length:Int)+1<=(T.length:Int):=by omega
  have m1:(s == [])=false:=by rw[zB];exact hne
  have m2:(s != [])=true:=by rw[bne_iff_ne];exact hne
  rw[hX];clear hX he hne hcmp hlt hT;go_enter Tryz.func151,Tryz.ntmps151;go_wp2_with fail;refine (zU c1).mono ?_;rintro e w1 ⟨⟨v,rfl,A,n,cap,rfl,hat⟩,hb1⟩;have HAT:=zH hat;have H1:=zH hb1;clear hat hb1;go_wp2_with fail;refine (zU c2 _ _ _ _ (zU HAT)).mono ?_;rintro e w2 ⟨rfl,hb2⟩;have H2:=zH ((zU H1).trans (hb2.mono (zU H1).size));clear hb2;go_wp2_with fail;refine (zU c3 _).mono ?_;rintro e w3 ⟨rfl,hb3⟩;have H3:=zH ((zU H2).trans (hb3.mono (zU H2).size));clear hb3;go_wp2_with fail;go_ret;exact⟨rfl,zU H3⟩
attribute [local go_sem] World.cell?_alloc_some in
theorem qlv(A:Option Addr)(n cap:Nat)(A2:Option Addr)(n2 cap2:Nat)(a:Arc)(name:qa)(w:World)(h:ArcIn w A n A2 n2 a)(hn:n2<=1000000) :
  Calls Tryz.prog 117 #[qv A n cap A2 n2 cap2,S name] w fun e w'=>((qbB name a.fs=none/\e=.returned (I (-1)))\/(∃i f,a.fs[i]?=some f/\qbB name a.fs=some f/\e=.returned (I (i:Nat))))/\Below w.heap.size w w':=by
 obtain⟨B,hB⟩:∃B,B=w.heap.size:=⟨_,rfl⟩
 obtain⟨w0,hw0⟩:∃w0,w0=w.alloc (.cells #[.slice A n cap,.slice A2 n2 cap2] 33):=⟨_,rfl⟩
 have H0:=zH (show ABox A n cap A2 n2 cap2 a w w0 B by rw[hw0,hB];exact ABox.new h cap cap2);have hl2:=h.f.1;rw[<-hB];have HB:=zH hB;have HW0:=zH hw0;clear hB hw0 h;go_enter Tryz.func117,Tryz.ntmps117;go_upto_region 1 with fail
 rw[<-zU HW0,<-zU HB];obtain⟨q0,q1⟩:=(zU H0).c;go_wp2_with fail;go_loop [5] (fun iv=>∃k:Nat,k<=n2/\iv=.int .i64 k/\qbB name a.fs=qbB name (a.fs.drop k)) (fun iv=>n2-(intOf iv).toNat)
 case atStart=>exact⟨0,Nat.zero_le _,rfl,by simp⟩
 case round =>
  obtain⟨k,hk,rfl,hs⟩:=hrel
  by_cases hkn:k<n2
  ·obtain⟨b,off,f,rfl,hb,hf,x0,x1,x2,x3,x4⟩:=(zU H0).i.f.at_ (k:=k) hkn;have hfd:=qtq (name:=name) hf;rw[hfd]at hs;have z1:(k:Int)<(n2:Int):=by omega
   by_cases hnm:f.name=name
   ·rw[if_pos hnm]at hs;have HS:=zH hs;have HF:=zH hf;have d1:(f.name == name)=true:=by simpa using hnm
    clear hs hf hfd hnm;go_wp2_with fail;go_ret;exact⟨.inr ⟨k,f,zU HF,zU HS,rfl⟩,(zU H0).bel⟩
   ·rw[if_neg hnm]at hs;have HS:=zH hs;have d1:(f.name == name)=false:=by simpa using hnm
    clear hs hf hfd hnm;go_wp2_with fail;go_round
    case rel=>exact⟨k+1,by omega,by go_num,zU HS⟩
    case measure=>simp[intOf];omega
  ·have hnone:qbB name a.fs=none:=by rw[hs,List.drop_of_length_le (by omega)];rfl
   have HN:=zH hnone;have z1:¬(k:Int)<(n2:Int):=by omega
   clear hs hnone;go_wp2_with fail;go_ret;exact⟨.inl ⟨zU HN,rfl⟩,(zU H0).bel⟩
structure TxK(A:Option Addr)(n cap:Nat)(b off n2 cap2:Nat)(a:Arc)(f:Fil)(i:Nat)(w W:World)(B:Nat):Prop where
 ab:ABox A n cap (some ⟨b,off,none⟩) n2 cap2 a w W B
 d:W.cell? ⟨b,off+i*5+1,none⟩=some (I f.dict)
 k:W.cell? ⟨b,off+i*5+4,none⟩=some (S f.block)
theorem TxK.below{A:Option Addr}{n cap b off n2 cap2 i B:Nat}{a:Arc}{f:Fil}{w W W1:World}(h:TxK A n cap b off n2 cap2 a f i w W B)(hb:Below W.heap.size W W1):TxK A n cap b off n2 cap2 a f i w W1 B :=
 ⟨h.ab.below hb,(hb.cell (block_lt_of_cell h.d)).trans h.d,(hb.cell (block_lt_of_cell h.k)).trans h.k⟩
theorem TxK.drew{A:Option Addr}{n cap b off n2 cap2 i B:Nat}{a:Arc}{f:Fil}{w W:World}(h:TxK A n cap b off n2 cap2 a f i w W B):TxK A n cap b off n2 cap2 a f i w W.drew B:=h.below (Below.refl _ _).drew
theorem qkT(A:Option Addr)(n cap:Nat)(A2:Option Addr)(n2 cap2:Nat)(a:Arc)(i:Nat)(f:Fil)(w:World)(h:ArcIn w A n A2 n2 a)(hra:RightA a)(hz:FilSz f)(hf:a.fs[i]?=some f) :
  Calls Tryz.prog 118 #[qv A n cap A2 n2 cap2,I i] w fun e w'=>e=.returned (S (qH a.ds f))/\Below w.heap.size w w':=by
 obtain⟨B,hB⟩:∃B,B=w.heap.size:=⟨_,rfl⟩
 obtain⟨w0,hw0⟩:∃w0,w0=w.alloc (.cells #[.slice A n cap,.slice A2 n2 cap2] 33):=⟨_,rfl⟩
 have H0:=zH (show ABox A n cap A2 n2 cap2 a w w0 B by rw[hw0,hB];exact ABox.new h cap cap2);have hl1:=h.s.1;have hl2:=h.f.1;have hi:=(List.getElem?_eq_some_iff.1 hf).1;have htx:=qd9 (hra.fr.each f (List.mem_of_getElem? hf))
 obtain⟨d,hd⟩:∃d,qL a.ds f.dict=some d:=by
  unfold qao at htx;cases h:qL a.ds f.dict with
  | none=>rw[h]at htx;cases htx
  | some d=>exact⟨d,rfl⟩
 have hdl:=qdM hra.sd hd
 obtain⟨t,hu⟩:∃t,ql d f.block=some t:=by
  unfold qao qbH at htx;rw[hd]at htx;simp only[Option.bind_some]at htx;cases h:ql d f.block with
  | none=>rw[h]at htx;cases htx
  | some t=>exact⟨t,rfl⟩
 have htd:qH a.ds f=t:=by
  unfold qao qbH at htx;rw[hd]at htx;simp only[Option.bind_some,hu]at htx
  split at htx
  ·injection htx with htx;exact htx.symm
  ·cases htx
 have KU:=zH (fun (W:World)=>qfJ W hdl hz.bl hu);have KD:=zH (fun (W:World) (hW:ArcIn W A n A2 n2 a)=>qhK A n cap A2 n2 cap2 a f.dict W hW (by have:=hra.nd;omega) (by rw[hd];rfl));rw[hd]at KD;rw[htd,<-hB];obtain⟨b,off,f',rfl,hb,hf',x0,x1,x2,x3,x4⟩:=(zU H0).i.f.at_ (k:=i) (by omega);obtain rfl:f'=f:=by rw[hf]at hf';injection hf' with e;exact e.symm
 have HT:=zH (show TxK A n cap b off n2 cap2 a f' i w w0 B from ⟨zU H0,x1,x4⟩);have HB:=zH hB;have HW0:=zH hw0;have z1:(i:Int)<(n2:Int):=by omega
 have z2:i<n2:=by omega
 have R:=zH (show (∀W:World,TxK A n cap b off n2 cap2 a f' i w W B->W.cell? ⟨B,0,none⟩=some (.slice A n cap))/\(∀W:World,TxK A n cap b off n2 cap2 a f' i w W B->W.cell? ⟨B,1,none⟩=some (.slice (some ⟨b,off,none⟩) n2 cap2))/\(∀W:World,TxK A n cap b off n2 cap2 a f' i w W B->W.cell? ⟨b,off+i*5+1,none⟩=some (I f'.dict))/\(∀W:World,TxK A n cap b off n2 cap2 a f' i w W B->W.cell? ⟨b,off+i*5+4,none⟩=some (S f'.block))from ⟨fun W h=>h.ab.c.1,fun W h=>h.ab.c.2,fun W h=>h.d,fun W h=>h.k⟩);clear hB hw0 h hra hz hf hf' hi htx hd hdl hu htd hb x0 x1 x2 x3 x4 hl1 hl2;go_enter Tryz.func118,Tryz.ntmps118;go_upto_region 1 with fail
 rw[<-zU HW0,<-zU HB];obtain⟨r1,r2,r3,r4⟩:=zU R
 go_region_held3 (fun w'=>TxK A n cap b off n2 cap2 a f' i w w' B) (first|exact (zU HT).drew|assumption|exact TxK.drew (by assumption)|exact TxK.below (by assumption) (by assumption))
  ((first
   | (go_at_call 112;have hAF:=‹TxK A n cap b off n2 cap2 a f' i w _ B›;refine (zU KD _ (by exact hAF.ab.i)).mono ?_;clear hAF;rintro e w4 ⟨rfl,hb4⟩)
   | (go_at_call 111;refine (zU KU _).mono ?_;rintro e w5 ⟨rfl,hb5⟩)))
 have HT5:=zH ‹TxK A n cap b off n2 cap2 a f' i w w5 B›;clear r1 r2 r3 r4;go_wp2_with fail;go_ret;exact⟨rfl,(zU HT5).ab.bel⟩
theorem qm1(A:Option Addr)(n cap:Nat)(A2:Option Addr)(n2 cap2:Nat)(a:Arc)(file:qa)(w:World)(h:ArcIn w A n A2 n2 a)(hz:ArcSz a) :
  Calls Tryz.prog 73 #[qv A n cap A2 n2 cap2,S file] w fun e w'=>e=.returned (.tuple #[S (get a file).1,I (get a file).2])/\Below w.heap.size w w':=by
 obtain⟨B,hB⟩:∃B,B=w.heap.size:=⟨_,rfl⟩
 obtain⟨w0,hw0⟩:∃w0,w0=w.alloc (.cells #[.slice A n cap,.slice A2 n2 cap2] 33):=⟨_,rfl⟩
 have H0:=zH (show ABox A n cap A2 n2 cap2 a w w0 B by rw[hw0,hB];exact ABox.new h cap cap2);have hl1:=h.s.1;have hl2:=h.f.1;have CK:∀W,ABox A n cap A2 n2 cap2 a w W B->Calls Tryz.prog 67 #[qv A n cap A2 n2 cap2] W fun e w'=>e=.returned (I (qh a))/\Below W.heap.size W w':=fun W hW=>qbN A n cap A2 n2 cap2 a W hW.i hz;obtain⟨r,hr⟩:∃r,r=get a file:=⟨_,rfl⟩
 rw[<-hr,<-hB];have hput:r=if qh a≠0 then ([],qh a)else match qbB file a.fs with|none=>([],5)|some f=>(qH a.ds f,0):=hr
 have HB:=zH hB;have HW0:=zH hw0;clear hB hw0 h hr
 by_cases hck:qh a≠0
 ·rw[if_pos hck]at hput;obtain⟨c,hc⟩:∃c,c=qh a:=⟨_,rfl⟩
  rw[<-hc]at CK hput hck;have CK:=zH CK;have d1:((c:Int) != 0)=true:=by rw[bne_iff_ne];omega
  have d2:((c:Int) == 0)=false:=by rw[zB];omega
  have d3:¬(c:Int)=0:=by omega
  subst hput;clear hck hc hz;go_enter Tryz.func73,Tryz.ntmps73;go_upto_region 1 with fail
  rw[<-zU HW0,<-zU HB];obtain⟨q0,q1⟩:=(zU H0).c;go_wp2_with fail;refine (zU CK _ (zU H0)).mono ?_;rintro e w1 ⟨rfl,hb1⟩;have H1:=zH ((zU H0).below hb1);clear hb1 q0 q1;go_wp2_with fail;go_ret2;exact⟨rfl,(zU H1).bel⟩
 have hck0:qh a=0:=Decidable.not_not.1 hck;have hra:=(qak a).1 hck0;rw[if_neg hck]at hput;rw[hck0]at CK;have CK:=zH CK;have CF:∀W,ABox A n cap A2 n2 cap2 a w W B->Calls Tryz.prog 117 #[qv A n cap A2 n2 cap2,S file] W fun e w'=>((qbB file a.fs=none/\e=.returned (I (-1)))\/(∃i f,a.fs[i]?=some f/\qbB file a.fs=some f/\e=.returned (I (i:Nat))))/\Below W.heap.size W w':=fun W hW=>qlv A n cap A2 n2 cap2 a file W hW.i (by have:=hra.nf;omega);have CF:=zH CF;have CT:∀(i:Nat) (f:Fil),a.fs[i]?=some f->∀W,ABox A n cap A2 n2 cap2 a w W B->Calls Tryz.prog 118 #[qv A n cap A2 n2 cap2,I i] W fun e w'=>e=.returned (S (qH a.ds f))/\Below W.heap.size W w':=fun i f hf W hW=>qkT A n cap A2 n2 cap2 a i f W hW.i hra (hz.fs f (List.mem_of_getElem? hf)) hf;have CT:=zH CT;have HPUT:=zH hput;clear hck hck0 hra hz hput;go_enter Tryz.func73,Tryz.ntmps73;go_upto_region 1 with fail
 rw[<-zU HW0,<-zU HB];obtain⟨q0,q1⟩:=(zU H0).c;go_wp2_with fail;refine (zU CK _ (zU H0)).mono ?_;rintro e w1 ⟨rfl,hb1⟩;have H1:=zH ((zU H0).below hb1);clear hb1 q0 q1;obtain⟨q0,q1⟩:=(zU H1).c;go_wp2_with fail;refine (zU CF _ (zU H1)).mono ?_;rintro e w2 ⟨hres,hb2⟩;have H2:=zH ((zU H1).below hb2);clear hb2 q0 q1;obtain⟨q0,q1⟩:=(zU H2).c
 rcases hres with⟨hnone,rfl⟩|⟨i,f,hi,hsome,rfl⟩
 ·have HR:=zH (show r=([],5)by rw[zU HPUT,hnone]);clear hnone;go_wp2_with fail;go_ret2;rw[zU HR];exact⟨rfl,(zU H2).bel⟩
 ·have HR:=zH (show r=(qH a.ds f,0)by rw[zU HPUT,hsome]);have C3:=zH (zU CT i f hi);have d1:¬(i:Int)<0:=by omega
  clear hsome hi;go_wp2_with fail;refine (zU C3 _ (zU H2)).mono ?_;rintro e w3 ⟨rfl,hb3⟩;have H3:=zH ((zU H2).below hb3);clear hb3 q0 q1;go_wp2_with fail;go_ret2;rw[zU HR];exact⟨rfl,(zU H3).bel⟩
theorem qpD(A:Option Addr)(n cap:Nat)(A2:Option Addr)(n2 cap2:Nat)(a:Arc)(file:qa)(m k:Int)(w:World)(h:ArcIn w A n A2 n2 a)(hz:ArcSz a)
  (hm0 : -9223372036854775808<=m) (hm1:m<=9223372036854775807) (hk0 : -9223372036854775808<=k) (hk1:k<=9223372036854775807) :
  Calls Tryz.prog 74 #[qv A n cap A2 n2 cap2,S file,I m,I k] w fun e w'=>e=.returned (.tuple #[S (range a file m k).1,I (range a file m k).2])/\Below w.heap.size w w':=by
 obtain⟨B,hB⟩:∃B,B=w.heap.size:=⟨_,rfl⟩
 obtain⟨w0,hw0⟩:∃w0,w0=w.alloc (.cells #[.slice A n cap,.slice A2 n2 cap2] 33):=⟨_,rfl⟩
 have H0:=zH (show ABox A n cap A2 n2 cap2 a w w0 B by rw[hw0,hB];exact ABox.new h cap cap2);have CG:∀W,ABox A n cap A2 n2 cap2 a w W B->Calls Tryz.prog 73 #[qv A n cap A2 n2 cap2,S file] W fun e w'=>e=.returned (.tuple #[S (get a file).1,I (get a file).2])/\Below W.heap.size W w':=fun W hW=>qm1 A n cap A2 n2 cap2 a file W hW.i hz;have hlen:=qjh a file;obtain⟨r,hr⟩:∃r,r=range a file m k:=⟨_,rfl⟩
 rw[<-hr,<-hB];unfold range at hr;obtain⟨c,hc⟩:∃c,c=(get a file).2:=⟨_,rfl⟩
 obtain⟨t,ht⟩:∃t,t=(get a file).1:=⟨_,rfl⟩
 rw[<-hc,<-ht]at hr CG;rw[<-ht]at hlen;have HB:=zH hB;have HW0:=zH hw0;clear hB hw0 h hz hc ht
 by_cases hck:c≠0
 ·rw[if_pos hck]at hr;have CG:=zH CG;have d1:((c:Int) != 0)=true:=by rw[bne_iff_ne];omega
  have d2:((c:Int) == 0)=false:=by rw[zB];omega
  have d3:¬(c:Int)=0:=by omega
  subst hr;clear hck;go_enter Tryz.func74,Tryz.ntmps74;go_upto_region 1 with fail
  rw[<-zU HW0,<-zU HB];obtain⟨q0,q1⟩:=(zU H0).c;go_wp2_with fail;refine (zU CG _ (zU H0)).mono ?_;rintro e w1 ⟨rfl,hb1⟩;have H1:=zH ((zU H0).below hb1);clear hb1 q0 q1;go_wp2_with fail;go_ret2;exact⟨rfl,(zU H1).bel⟩
 rw[if_neg hck]at hr;obtain rfl:c=0:=Decidable.not_not.1 hck;have CG:=zH CG;clear hck;unfold qo5 at hr;have W1:=fun (W:World)=>(qb4 m 0 (t.length:Int) W).mono fun e w' ⟨h1,h2⟩=>(⟨h1,h2.symm⟩:e=Ending.returned (.bool (decide (0<=m/\m<=(t.length:Int))))/\w'=W)
 by_cases hm:0<=m/\m<=(t.length:Int)
 ·rw[decide_eq_true hm]at W1;have W1:=zH W1;have W2:=fun (W:World)=>(qb4 k 0 ((t.length:Int)-m) W).mono fun e w' ⟨h1,h2⟩=>(⟨h1,h2.symm⟩:e=Ending.returned (.bool (decide (0<=k/\k<=(t.length:Int)-m)))/\w'=W)
  have e1:IntKind.i64.wrap ((t.length:Int)-m)=(t.length:Int)-m:=IntWalk.i64_in _ ⟨by omega,by omega⟩;have e2:wrap64 ((t.length:Int)-m)=(t.length:Int)-m:=IntWalk.wrap64_in _ ⟨by omega,by omega⟩
  by_cases hk:0<=k/\k<=(t.length:Int)-m
  ·rw[decide_eq_true hk]at W2;have W2:=zH W2;rw[if_neg (by omega)]at hr;obtain⟨i,rfl⟩:∃i:Nat,m=(i:Int):=⟨m.toNat,by omega⟩
   obtain⟨j,rfl⟩:∃j:Nat,k=(j:Int):=⟨k.toNat,by omega⟩
   rw[Int.toNat_natCast,Int.toNat_natCast]at hr;subst hr;have e3:IntKind.i64.wrap ((i:Int)+(j:Int))=((i+j:Nat):Int):=by rw[show (i:Int)+(j:Int)=((i+j:Nat):Int)from by omega];exact IntWalk.i64_in _ ⟨by omega,by omega⟩
   have e4:wrap64 ((i:Int)+(j:Int))=((i+j:Nat):Int):=by rw[show (i:Int)+(j:Int)=((i+j:Nat):Int)from by omega];exact IntWalk.wrap64_in _ ⟨by omega,by omega⟩
   have c5:i<=i+j:=by omega
   have c6:i+j<=t.length:=by omega
   clear hm hk;go_enter Tryz.func74,Tryz.ntmps74;go_upto_region 1 with fail
   rw[<-zU HW0,<-zU HB];obtain⟨q0,q1⟩:=(zU H0).c;go_wp2_with fail;refine (zU CG _ (zU H0)).mono ?_;rintro e w1 ⟨rfl,hb1⟩;have H1:=zH ((zU H0).below hb1);clear hb1 q0 q1;go_wp2_with fail;refine (zU W1 _).mono ?_;rintro e wx ⟨rfl,hwx⟩;rw[hwx];clear hwx;go_wp2_with fail;refine (zU W2 _).mono ?_;rintro e wx ⟨rfl,hwx⟩;rw[hwx];clear hwx;go_wp2_with fail;go_ret2;exact⟨rfl,(zU H1).bel⟩
  ·rw[decide_eq_false hk]at W2;have W2:=zH W2;rw[if_pos (by omega)]at hr;subst hr;clear hm hk;go_enter Tryz.func74,Tryz.ntmps74;go_upto_region 1 with fail
   rw[<-zU HW0,<-zU HB];obtain⟨q0,q1⟩:=(zU H0).c;go_wp2_with fail;refine (zU CG _ (zU H0)).mono ?_;rintro e w1 ⟨rfl,hb1⟩;have H1:=zH ((zU H0).below hb1);clear hb1 q0 q1;go_wp2_with fail;refine (zU W1 _).mono ?_;rintro e wx ⟨rfl,hwx⟩;rw[hwx];clear hwx;go_wp2_with fail;refine (zU W2 _).mono ?_;rintro e wx ⟨rfl,hwx⟩;rw[hwx];clear hwx;go_wp2_with fail;go_ret2;exact⟨rfl,(zU H1).bel⟩
 ·rw[decide_eq_false hm]at W1;have W1:=zH W1;rw[if_pos (by omega)]at hr;subst hr;clear hm;go_enter Tryz.func74,Tryz.ntmps74;go_upto_region 1 with fail
  rw[<-zU HW0,<-zU HB];obtain⟨q0,q1⟩:=(zU H0).c;go_wp2_with fail;refine (zU CG _ (zU H0)).mono ?_;rintro e w1 ⟨rfl,hb1⟩;have H1:=zH ((zU H0).below hb1);clear hb1 q0 q1;go_wp2_with fail;refine (zU W1 _).mono ?_;rintro e wx ⟨rfl,hwx⟩;rw[hwx];clear hwx;go_wp2_with fail;go_ret2;exact⟨rfl,(zU H1).bel⟩
def qdD(l:List Fil):Nat:=(l.map fun f=>f.block.length).sum
theorem qmx{l:List Fil}{k:Nat}{f:Fil}(h:l[k]?=some f):qdD (l.take (k+1))=qdD (l.take k)+f.block.length:=by
 unfold qdD;rw[List.take_add_one,h,List.map_append,List.sum_append];simp
def qdC(l:List qa):Nat:=(l.map List.length).sum
theorem qsv{l:List qa}{k:Nat}{t:qa}(h:l[k]?=some t):qdC (l.take (k+1))=qdC (l.take k)+t.length:=by
 unfold qdC;rw[List.take_add_one,h,List.map_append,List.sum_append];simp
theorem qmu{l:List Nat}{M:Nat}(h:∀x∈l,x<=M):l.sum<=l.length*M:=by
 induction l with
 | nil=>simp
 | cons x l ih =>
  have h1:=h x (by simp);have h2:=ih fun y hy=>h y (by simp[hy]);rw[List.sum_cons,List.length_cons,Nat.add_mul];omega
theorem qql{l:List Fil}{M k:Nat}(h:∀f∈l,f.block.length<=M):qdD (l.take k)<=l.length*M:=by
 have:=qmu (l:=(l.take k).map fun f=>f.block.length) (M:=M) (by
  intro x hx;obtain⟨f,hf,rfl⟩:=List.mem_map.1 hx;exact h f (List.mem_of_mem_take hf))
 rw[List.length_map]at this;refine Nat.le_trans this (Nat.mul_le_mul_right _ ?_);rw[List.length_take];omega
theorem qqk{l:List qa}{M k:Nat}(h:∀f∈l,f.length<=M):qdC (l.take k)<=l.length*M:=by
 have:=qmu (l:=(l.take k).map List.length) (M:=M) (by
  intro x hx;obtain⟨f,hf,rfl⟩:=List.mem_map.1 hx;exact h f (List.mem_of_mem_take hf))
 rw[List.length_map]at this;refine Nat.le_trans this (Nat.mul_le_mul_right _ ?_);rw[List.length_take];omega
theorem qol(a:Arc):qdZ a=qdC a.ds+qdD a.fs:=rfl
theorem qqX(A:Option Addr)(n cap:Nat)(A2:Option Addr)(n2 cap2:Nat)(a:Arc)(w:World)(h:ArcIn w A n A2 n2 a)(hz:ArcSz a)(hra:RightA a) :
  Calls Tryz.prog 41 #[qv A n cap A2 n2 cap2] w fun e w'=>e=.returned (I (qdZ a))/\Below w.heap.size w w':=by
 obtain⟨B,hB⟩:∃B,B=w.heap.size:=⟨_,rfl⟩
 obtain⟨w0,hw0⟩:∃w0,w0=w.alloc (.cells #[.slice A n cap,.slice A2 n2 cap2] 33):=⟨_,rfl⟩
 have H0:=zH (show ABox A n cap A2 n2 cap2 a w w0 B by rw[hw0,hB];exact ABox.new h cap cap2);have hl1:=h.s.1;have hl2:=h.f.1;have hn4:=hra.nd;have hn12:=hra.nf
 have hD:∀k,qdC (a.ds.take k)<=1024:=fun k=>by
  have:=qqk (k:=k) hra.sd;omega
 have hF:∀k,qdD (a.fs.take k)<=12*140737488355328:=fun k=>by
  have:=qql (k:=k) (fun f hf=>(hz.fs f hf).bl);exact Nat.le_trans this (Nat.mul_le_mul_right _ hn12)
 have hD0:qdC (a.ds.take 0)=0:=rfl;have hF0:qdD (a.fs.take 0)=0:=rfl;obtain⟨z,hz9⟩:∃z,z=qdZ a:=⟨_,rfl⟩
 rw[<-hB,<-hz9];have HZ9:=zH hz9;have HB:=zH hB;have HW0:=zH hw0;have HD:=zH hD;have HF:=zH hF;have HSF:=zH (fun f hf=>(hz.fs f hf).bl);have HSD:=zH hra.sd;clear hB hw0 h hra hD hF hz hz9;go_enter Tryz.func41,Tryz.ntmps41;go_upto_region 1 with fail
 rw[<-zU HW0,<-zU HB];obtain⟨q0,q1⟩:=(zU H0).c;go_wp2_with fail;go_loop [3,4] (fun sv iv=>∃k:Nat,k<=n/\iv=.int .i64 k/\sv=.int .i64 (qdC (a.ds.take k):Nat)) (fun _ iv=>n-(intOf iv).toNat)
 case atStart=>exact⟨0,Nat.zero_le _,rfl,rfl⟩
 case round =>
  obtain⟨k,hk,rfl,rfl⟩:=hrel
  by_cases hkn:k<n
  ·obtain⟨b,off,t,rfl,hb,ht,hc⟩:=(zU H0).i.s.at_ (k:=k) hkn;have hs:=qsv ht;have hle:=zU HSD t (List.mem_of_getElem? ht);have hb1:=zU HD k;obtain⟨s,hs0⟩:∃s,s=qdC (a.ds.take k):=⟨_,rfl⟩
   rw[<-hs0]at hs hb1 ⊢;have HS:=zH hs;have e1:IntKind.i64.wrap ((s:Int)+(t.length:Int))=((s+t.length:Nat):Int):=by rw[show (s:Int)+(t.length:Int)=((s+t.length:Nat):Int)from by omega];exact IntWalk.i64_in _ ⟨by omega,by omega⟩
   have e2:wrap64 ((s:Int)+(t.length:Int))=((s+t.length:Nat):Int):=by rw[show (s:Int)+(t.length:Int)=((s+t.length:Nat):Int)from by omega];exact IntWalk.wrap64_in _ ⟨by omega,by omega⟩
   have z1:(k:Int)<(n:Int):=by omega
   clear hs ht hs0;go_wp2_with fail;go_round
   case rel=>exact⟨k+1,by omega,by go_num,by rw[zU HS];first|rfl|(simp;done)|go_num⟩
   case measure=>simp[intOf];omega
  ·have hall:a.ds.take k=a.ds:=List.take_of_length_le (by omega);rw[hall];have hb1:=zU HD k;rw[hall]at hb1;obtain⟨s,hs0⟩:∃s,s=qdC a.ds:=⟨_,rfl⟩
   rw[<-hs0]at hb1 ⊢;have HS0:=zH hs0;have z1:¬(k:Int)<(n:Int):=by omega
   clear hall hs0;go_wp2_with fail;go_loop [3,5] (fun sv iv=>∃j:Nat,j<=n2/\iv=.int .i64 j/\sv=.int .i64 (s+qdD (a.fs.take j):Nat)) (fun _ iv=>n2-(intOf iv).toNat)
   case atStart=>exact⟨0,Nat.zero_le _,rfl,by simp[qdD]⟩
   case round =>
    obtain⟨j,hj,rfl,rfl⟩:=hrel
    by_cases hjn:j<n2
    ·obtain⟨b,off,f,rfl,hb,hf,x0,x1,x2,x3,x4⟩:=(zU H0).i.f.at_ (k:=j) hjn;have hs:=qmx hf;have hle:=zU HSF f (List.mem_of_getElem? hf);have hb2:=zU HF j;obtain⟨u,hu⟩:∃u,u=qdD (a.fs.take j):=⟨_,rfl⟩
     rw[<-hu]at hs hb2 ⊢;have HS:=zH hs;have e1:IntKind.i64.wrap (((s+u:Nat):Int)+(f.block.length:Int))=((s+(u+f.block.length):Nat):Int):=by rw[show ((s+u:Nat):Int)+(f.block.length:Int)=((s+(u+f.block.length):Nat):Int)from by omega];exact IntWalk.i64_in _ ⟨by omega,by omega⟩
     have e2:wrap64 (((s+u:Nat):Int)+(f.block.length:Int))=((s+(u+f.block.length):Nat):Int):=by rw[show ((s+u:Nat):Int)+(f.block.length:Int)=((s+(u+f.block.length):Nat):Int)from by omega];exact IntWalk.wrap64_in _ ⟨by omega,by omega⟩
     have z2:(j:Int)<(n2:Int):=by omega
     clear hs hf hu;obtain⟨q,hq⟩:∃q,q=s+u:=⟨_,rfl⟩
     rw[<-hq]at e1 e2 ⊢;clear hq;go_wp2_with fail;go_round
     case rel=>exact⟨j+1,by omega,by go_num,by rw[zU HS];first|rfl|(simp;done)|go_num⟩
     case measure=>simp[intOf];omega
    ·have hall:a.fs.take j=a.fs:=List.take_of_length_le (by omega);rw[hall];have z2:¬(j:Int)<(n2:Int):=by omega
     clear hall;obtain⟨q,hq⟩:∃q,q=s+qdD a.fs:=⟨_,rfl⟩
     have hqz:z=q:=by rw[hq,zU HZ9,qol,zU HS0]
     rw[<-hq];subst hqz;clear hq;go_wp2_with fail;go_ret;exact⟨rfl,(zU H0).bel⟩
theorem qoN(l:List qa):(Lib.join l []).length=qdC l:=by
 cases l with
 | nil=>rfl
 | cons x r=>rw[Lib.join_length];simp[Lib.lens,qdC]
theorem quL(A:Option Addr)(n cap:Nat)(l:List qa)(w:World)(hl:StrsAt w w.heap.size A n l)(hc:n<=cap)(hn:n<=1000000)(hs:qdC l<=140737488355328) :
  Calls Tryz.prog 80 #[.slice A n cap,S []] w fun e w'=>(∃t:qa,e=.returned (S t)/\t.length=qdC l)/\Below w.heap.size w w':=by
 have hl1:=hl.1
 by_cases h0:n=0
 ·subst h0;obtain rfl:l=[]:=List.eq_nil_of_length_eq_zero hl1;exact (Tryz.strings_Join_none A cap ⟨#[]⟩ w).mono fun e w' ⟨h1,h2⟩=>⟨⟨[],h1,rfl⟩,by rw[h2];exact Below.refl _ _⟩
 ·obtain⟨b,off,e,hb,hcell⟩:=hl.2 (by omega);subst e
  have hx:(l.map fun t:qa=>(⟨t.toArray⟩:ByteArray)).map (·.data.toList)=l:=by
   rw[List.map_map];exact (List.map_congr_left fun t _=>by simp).trans (List.map_id _)
  have hlen:(l.map fun t:qa=>(⟨t.toArray⟩:ByteArray)).length=n:=by rw[List.length_map];exact hl1
  have:=Tryz.strings_Join b off cap (l.map fun t:qa=>(⟨t.toArray⟩:ByteArray)) ⟨#[]⟩ w (fun j x hj=>by
   rw[List.getElem?_map]at hj;cases hlj:l[j]? with
   | none=>rw[hlj]at hj;cases hj
   | some t =>
    rw[hlj]at hj;simp only[Option.map_some,Option.some.injEq]at hj;subst hj;exact hcell j t hlj) hb (by rw[hlen];omega) (by rw[hlen];exact hc) (by rw[hx];show (Lib.join l []).length<=_;rw[qoN];exact hs)
  rw[hx,hlen]at this;exact this.mono fun e w' ⟨h1,h2⟩=>⟨⟨_,h1,qoN l⟩,h2⟩
theorem qqd(A:Option Addr)(n cap:Nat)(A2:Option Addr)(n2 cap2:Nat)(a:Arc)(w:World)(h:ArcIn w A n A2 n2 a)(hz:ArcSz a)(hcap:n<=cap) :
  Calls Tryz.prog 52 #[qv A n cap A2 n2 cap2] w fun e w'=>e=.returned (.tuple #[I (if qh a=0 then (qdZ a:Nat)else 0),I (qh a)])/\Below w.heap.size w w':=by
 obtain⟨B,hB⟩:∃B,B=w.heap.size:=⟨_,rfl⟩
 obtain⟨w0,hw0⟩:∃w0,w0=w.alloc (.cells #[.slice A n cap,.slice A2 n2 cap2] 33):=⟨_,rfl⟩
 have H0:=zH (show ABox A n cap A2 n2 cap2 a w w0 B by rw[hw0,hB];exact ABox.new h cap cap2);have hl1:=h.s.1;have hl2:=h.f.1;have CK:∀W,ABox A n cap A2 n2 cap2 a w W B->Calls Tryz.prog 56 #[qv A n cap A2 n2 cap2] W fun e w'=>e=.returned (I (qh a))/\Below W.heap.size W w':=fun W hW=>qcB A n cap A2 n2 cap2 a W hW.i hz;rw[<-hB];have HB:=zH hB;have HW0:=zH hw0;clear hB hw0 h
 by_cases hck:qh a≠0
 ·rw[if_neg hck];obtain⟨c,hc⟩:∃c,c=qh a:=⟨_,rfl⟩
  rw[<-hc]at CK hck ⊢;have CK:=zH CK;have d1:((c:Int) != 0)=true:=by rw[bne_iff_ne];omega
  have d2:((c:Int) == 0)=false:=by rw[zB];omega
  have d3:¬(c:Int)=0:=by omega
  clear hck hc hz;go_enter Tryz.func52,Tryz.ntmps52;go_upto_region 1 with fail
  rw[<-zU HW0,<-zU HB];obtain⟨q0,q1⟩:=(zU H0).c;go_wp2_with fail;refine (zU CK _ (zU H0)).mono ?_;rintro e w1 ⟨rfl,hb1⟩;have H1:=zH ((zU H0).below hb1);clear hb1 q0 q1;go_wp2_with fail;go_ret2;exact⟨rfl,(zU H1).bel⟩
 have hck0:qh a=0:=Decidable.not_not.1 hck;have hra:=(qak a).1 hck0;rw[if_pos hck0];rw[hck0]at CK ⊢;have CK:=zH CK;have hn4:=hra.nd;have hn12:=hra.nf
 have hD:qdC a.ds<=1024:=by
  have:=qqk (k:=a.ds.length) hra.sd;rw[List.take_length]at this;omega
 have hF:∀k,qdD (a.fs.take k)<=12*140737488355328:=fun k=>by
  have:=qql (k:=k) (fun f hf=>(hz.fs f hf).bl);exact Nat.le_trans this (Nat.mul_le_mul_right _ hn12)
 have CJ:∀W,ABox A n cap A2 n2 cap2 a w W B->Calls Tryz.prog 80 #[.slice A n cap,S []] W fun e w'=>(∃t:qa,e=.returned (S t)/\t.length=qdC a.ds)/\Below W.heap.size W w':=fun W hW=>quL A n cap a.ds W hW.i.s hcap (by omega) (by omega);have CJ:=zH CJ;have HSF:=zH (fun f hf=>(hz.fs f hf).bl);rw[qol];obtain⟨s,hs0⟩:∃s,s=qdC a.ds:=⟨_,rfl⟩
 rw[<-hs0]at CJ hD ⊢;obtain⟨z,hz9⟩:∃z,z=s+qdD a.fs:=⟨_,rfl⟩
 rw[<-hz9];have HZ9:=zH hz9;have HF:=zH hF;clear hra hF hz hs0 hck hck0 hz9;go_enter Tryz.func52,Tryz.ntmps52;go_upto_region 1 with fail
 rw[<-zU HW0,<-zU HB];obtain⟨q0,q1⟩:=(zU H0).c;go_wp2_with fail;refine (zU CK _ (zU H0)).mono ?_;rintro e w1 ⟨rfl,hb1⟩;have H1:=zH ((zU H0).below hb1);clear hb1 q0 q1;obtain⟨q0,q1⟩:=(zU H1).c;go_wp2_with fail;refine (zU CJ _ (zU H1)).mono ?_;rintro e w2 ⟨⟨t,rfl,ht⟩,hb2⟩;have H2:=zH ((zU H1).below hb2);clear hb2 q0 q1;obtain⟨q0,q1⟩:=(zU H2).c;have HT:=zH ht;clear ht;go_wp2_with fail;go_loopw [5,20,7] (fun sv iv _ wr=>∃j:Nat,j<=n2/\iv=.int .i64 j/\sv=.int .i64 (s+qdD (a.fs.take j):Nat)/\ABox A n cap A2 n2 cap2 a w wr B) (fun _ iv _ _=>n2-(intOf iv).toNat)
 case atStart=>exact⟨0,Nat.zero_le _,rfl,by rw[zU HT];simp[qdD],zU H2⟩
 case round =>
  clear q0 q1;obtain⟨j,hj,rfl,rfl,hAB⟩:=hrel;have HAB:=zH hAB
  by_cases hjn:j<n2
  ·obtain⟨b,off,f,rfl,hb,hf,x0,x1,x2,x3,x4⟩:=hAB.i.f.at_ (k:=j) hjn;have hs:=qmx hf;have hle:=zU HSF f (List.mem_of_getElem? hf);have hb2:=zU HF j;obtain⟨u,hu⟩:∃u,u=qdD (a.fs.take j):=⟨_,rfl⟩
   rw[<-hu]at hs hb2 ⊢;have HS:=zH hs;obtain⟨q,hq⟩:∃q,q=s+u:=⟨_,rfl⟩
   have e1:IntKind.i64.wrap ((q:Int)+(f.block.length:Int))=((s+(u+f.block.length):Nat):Int):=by rw[show (q:Int)+(f.block.length:Int)=((s+(u+f.block.length):Nat):Int)from by omega];exact IntWalk.i64_in _ ⟨by omega,by omega⟩
   have e2:wrap64 ((q:Int)+(f.block.length:Int))=((s+(u+f.block.length):Nat):Int):=by rw[show (q:Int)+(f.block.length:Int)=((s+(u+f.block.length):Nat):Int)from by omega];exact IntWalk.wrap64_in _ ⟨by omega,by omega⟩
   have z2:(j:Int)<(n2:Int):=by omega
   rw[<-hq];clear hs hf hu hq hAB;go_wp2_with fail;go_roundw
   case rel=>exact⟨j+1,by omega,by go_num,by rw[zU HS];first|rfl|(simp;done)|go_num,(zU HAB).below ((Below.refl _ _).alloc (Nat.le_refl _) _)⟩
   case measure=>simp[intOf];omega
  ·have hall:a.fs.take j=a.fs:=List.take_of_length_le (by omega);rw[hall];have z2:¬(j:Int)<(n2:Int):=by omega
   have z3:decide ((j:Int)<(n2:Int))=false:=by simp;omega
   clear hall hAB;obtain⟨q,hq⟩:∃q,q=s+qdD a.fs:=⟨_,rfl⟩
   have hqz:z=q:=by rw[hq];exact zU HZ9
   rw[<-hq];subst hqz;clear hq;go_wp2_with fail;go_ret2;exact⟨rfl,(zU HAB).bel⟩
def qdt(a:Arc)(k:Nat):qa:=pressB++(nb a.ds.length++(a.ds.take k).flatMap qQ)
def qed(a:Arc)(j:Nat):qa:=pressB++(nb a.ds.length++(a.ds.flatMap qQ++(nb a.fs.length++(a.fs.take j).flatMap qe7)))
theorem qmW(a:Arc):qdt a 0=pressB++nb a.ds.length:=by simp[qdt]
theorem qmX{a:Arc}{k:Nat}{d:qa}(h:a.ds[k]?=some d):qdt a (k+1)=qdt a k++qQ d:=by
 unfold qdt;rw[List.take_add_one,h];simp
theorem qmU(a:Arc):qed a 0=qdt a a.ds.length++nb a.fs.length:=by simp[qed,qdt]
theorem qmV{a:Arc}{j:Nat}{f:Fil}(h:a.fs[j]?=some f):qed a (j+1)=((((qed a j++qQ f.name)++nb f.dict.toNat)++nb f.size.toNat)++nb f.sum.toNat)++qQ f.block:=by
 unfold qed;rw[List.take_add_one,h];simp[qe7]
theorem qku(a:Arc):qed a a.fs.length=qbm a:=by simp[qed,qbm]
theorem qgW{α:Type}{g:α->qa}{M:Nat} : ∀{l:List α},(∀x∈l,(g x).length<=M)->(l.flatMap g).length<=l.length*M
 | [],_=>by simp
 | x::l,h=>by
  have h1:=h x (by simp);have h2:=qgW (l:=l) fun y hy=>h y (by simp[hy]);rw[List.flatMap_cons,zL,List.length_cons,Nat.add_mul];omega
theorem qcV(t:qa)(h:t.length<=5000):(qQ t).length<=t.length+5:=by
 unfold qQ;have:=qb1 4 t.length (by omega);rw[zL];omega
theorem qbL{n:Nat}(h:n<=70000):(nb n).length<=5:=by
 have:=qb1 4 n (by omega);omega
theorem qkv{a:Arc}(h:RightA a)(k:Nat):(qdt a k).length<=5000:=by
 have h1:=qgW (l:=a.ds.take k) (g:=qQ) (M:=261) (fun d hd=>by
  have h2:=h.sd d (List.mem_of_mem_take hd);have:=qcV d (by omega);omega)
 have h3:(a.ds.take k).length<=4:=by have:=h.nd;rw[List.length_take];omega
 have h4:=qbL (n:=a.ds.length) (by have:=h.nd;omega);have h5:pressB.length=5:=rfl;unfold qdt;simp only[zL];have:(a.ds.take k).length*261<=4*261:=Nat.mul_le_mul_right _ h3;omega
theorem qkt{a:Arc}(h:RightA a)(j:Nat):(qed a j).length<=100000:=by
 have h1:=qkv h a.ds.length
 have h2:=qgW (l:=a.fs.take j) (g:=qe7) (M:=5000) (fun f hf=>by
  obtain⟨g1,g2,g3,g4,g5,g6,g7,g8⟩:=qce h.nd h.sd (h.fr.each f (List.mem_of_mem_take hf));have t1:=qcV f.name (by omega);have t2:=qcV f.block (by omega);have t3:=qbL (n:=f.dict.toNat) (by omega);have t4:=qbL (n:=f.size.toNat) (by omega);have t5:=qbL (n:=f.sum.toNat) (by omega);unfold qe7;simp only[zL];omega)
 have h3:(a.fs.take j).length<=12:=by have:=h.nf;rw[List.length_take];omega
 have h4:=qbL (n:=a.fs.length) (by have:=h.nf;omega);have h6:(a.fs.take j).length*5000<=12*5000:=Nat.mul_le_mul_right _ h3;have h7:qdt a a.ds.length=pressB++(nb a.ds.length++a.ds.flatMap qQ):=by unfold qdt;rw[List.take_length]
 rw[h7]at h1;simp only[zL]at h1;unfold qed;simp only[zL];omega
structure FI(A:Option Addr)(n cap:Nat)(A2:Option Addr)(n2 cap2:Nat)(a:Arc)(f:Fil)(w W:World)(B D:Nat):Prop where
 ab:ABox A n cap A2 n2 cap2 a w W B
 d:W.heap[D]?=some (.cells (qdu f) 89 (0,0))
section
variable {A : Option Addr} {n cap : Nat} {A2 : Option Addr} {n2 cap2 : Nat} {a : Arc} {f : Fil} {w W W1 : World} {B D : Nat}
theorem FI.below(h:FI A n cap A2 n2 cap2 a f w W B D)(hb:Below W.heap.size W W1):FI A n cap A2 n2 cap2 a f w W1 B D:=⟨h.ab.below hb,(hb.block _ (zE h.d).1).trans h.d⟩
theorem FI.drew(h:FI A n cap A2 n2 cap2 a f w W B D):FI A n cap A2 n2 cap2 a f w W.drew B D:=h.below (Below.refl _ _).drew
theorem FI.x(h:FI A n cap A2 n2 cap2 a f w W B D):W.cell? ⟨D,0,none⟩=some (S f.name)/\W.cell? ⟨D,1,none⟩=some (I f.dict)/\W.cell? ⟨D,2,none⟩=some (I f.size)/\W.cell? ⟨D,3,none⟩=some (I f.sum)/\W.cell? ⟨D,4,none⟩=some (S f.block):=by
 refine⟨?_,?_,?_,?_,?_⟩ <;> (rw[cell_of_row _ _ _ _ _ _ h.d];rfl)
end
attribute [local go_sem ↓] qba in
theorem qpV(A:Option Addr)(n cap:Nat)(A2:Option Addr)(n2 cap2:Nat)(a:Arc)(w:World)(h:ArcIn w A n A2 n2 a)(hra:RightA a) :
  Calls Tryz.prog 68 #[qv A n cap A2 n2 cap2] w fun e w'=>e=.returned (S (qbm a))/\Below w.heap.size w w':=by
 obtain⟨B,hB⟩:∃B,B=w.heap.size:=⟨_,rfl⟩
 obtain⟨w0,hw0⟩:∃w0,w0=w.alloc (.cells #[.slice A n cap,.slice A2 n2 cap2] 33):=⟨_,rfl⟩
 have H0:=zH (show ABox A n cap A2 n2 cap2 a w w0 B by rw[hw0,hB];exact ABox.new h cap cap2);have hl1:=h.s.1;have hl2:=h.f.1;have hn4:=hra.nd;have hn12:=hra.nf;have HLD:=zH (qkv hra);have HLF:=zH (qkt hra);have HSD:=zH hra.sd;have HNUM:=zH (fun f (hf:f∈a.fs)=>qce hra.nd hra.sd (hra.fr.each f hf));have hz:=qmW a;rw[hl1]at hz;have HZ:=zH hz;obtain⟨im,him⟩:∃im,im=qbm a:=⟨_,rfl⟩
 rw[<-hB,<-him];have HIM:=zH him;have HB:=zH hB;have HW0:=zH hw0;clear hB hw0 h hra him hz;go_enter Tryz.func68,Tryz.ntmps68;go_upto_region 1 with fail
 rw[<-zU HW0,<-zU HB];obtain⟨q0,q1⟩:=(zU H0).c;go_wp2_with fail;refine (qe3 n w0 (by omega)).mono ?_;rintro e w1 ⟨rfl,hb1⟩;have H1:=zH ((zU H0).below hb1);have hnl:=qbL (n:=n) (by omega);clear hb1 q0 q1;go_wp2_with fail;go_loopw [3,4] (fun sv iv wr=>∃k:Nat,k<=n/\iv=.int .i64 k/\sv=S (qdt a k)/\ABox A n cap A2 n2 cap2 a w wr B) (fun _ iv _=>n-(intOf iv).toNat)
 case atStart=>exact⟨0,Nat.zero_le _,rfl,by rw[zU HZ];rfl,zU H1⟩
 case round =>
  obtain⟨k,hk,rfl,rfl,hAB⟩:=hrel;have HAB:=zH hAB;obtain⟨q0,q1⟩:=hAB.c;have hls:=zU HLD k
  by_cases hkn:k<n
  ·obtain⟨b,off,t,rfl,hb,ht,hc⟩:=hAB.i.s.at_ (k:=k) hkn;have hs:=qmX ht;have htl:=zU HSD t (List.mem_of_getElem? ht);have htb:=qcV t (by omega);obtain⟨s,hs0⟩:∃s,s=qdt a k:=⟨_,rfl⟩
   rw[<-hs0]at hs hls ⊢;have HS:=zH hs;have z1:(k:Int)<(n:Int):=by omega
   have b1:s.length+(qQ t).length<=9223372036854775807:=by omega
   clear hs ht hs0 hAB hnl;go_wp2_with fail;refine (qh4 t wr (by omega)).mono ?_;rintro e w2 ⟨rfl,hb2⟩;have H2:=zH ((zU HAB).below hb2);clear hb2;go_wp2_with fail;go_roundw
   case rel=>exact⟨k+1,by omega,by go_num,by rw[zU HS],zU H2⟩
   case measure=>simp[intOf];omega
  ·have hkk:k=a.ds.length:=by omega
   have hzf:=qmU a;rw[<-hkk,hl2]at hzf;have HZF:=zH hzf;obtain⟨s,hs0⟩:∃s,s=qdt a k:=⟨_,rfl⟩
   rw[<-hs0]at hls ⊢;have HS0:=zH hs0;have z1:¬(k:Int)<(n:Int):=by omega
   have z2:decide ((k:Int)<(n:Int))=false:=by simp;omega
   have hnl2:=qbL (n:=n2) (by omega);have b1:s.length+(nb n2).length<=9223372036854775807:=by omega
   clear hkk hzf hs0 hAB hnl;go_wp2_with fail;refine (qe3 n2 wr (by omega)).mono ?_;rintro e w2 ⟨rfl,hb2⟩;have H2:=zH ((zU HAB).below hb2);clear hb2 q0 q1;go_wp2_with fail;clear b1 hnl2;go_loopw [3,5,6] (fun sv iv _ wr=>∃j:Nat,j<=n2/\iv=.int .i64 j/\sv=S (qed a j)/\ABox A n cap A2 n2 cap2 a w wr B) (fun _ iv _ _=>n2-(intOf iv).toNat)
   case atStart=>exact⟨0,Nat.zero_le _,rfl,by rw[zU HZF,<-zU HS0],zU H2⟩
   case round =>
    clear HAB z1 z2;obtain⟨j,hj,rfl,rfl,hAB⟩:=hrel;have HAB:=zH hAB;obtain⟨q0,q1⟩:=hAB.c;have hlf:=zU HLF j
    by_cases hjn:j<n2
    ·obtain⟨b,off,f,rfl,hb,hf,x0,x1,x2,x3,x4⟩:=hAB.i.f.at_ (k:=j) hjn;have hs:=qmV hf;obtain⟨g1,g2,g3,g4,g5,g6,g7,g8⟩:=zU HNUM f (List.mem_of_getElem? hf);have t1:=qcV f.name (by omega);have t2:=qcV f.block (by omega);have t3:=qbL (n:=f.dict.toNat) (by omega);have t4:=qbL (n:=f.size.toNat) (by omega);have t5:=qbL (n:=f.sum.toNat) (by omega);have hnm:f.name.length<=4611686018427387904:=by omega
     have hbk:f.block.length<=4611686018427387904:=by omega
     have i2:f.dict<=9223372036854775807:=by omega
     have i4:f.size<=9223372036854775807:=by omega
     have i6:f.sum<=9223372036854775807:=by omega
     obtain⟨s,hs0⟩:∃s,s=qed a j:=⟨_,rfl⟩
     rw[<-hs0]at hs hlf ⊢;have HS:=zH hs;have z1:(j:Int)<(n2:Int):=by omega
     have b1:s.length+(qQ f.name).length<=9223372036854775807:=by omega
     have b2:s.length+((qQ f.name).length+(nb f.dict.toNat).length)<=9223372036854775807:=by omega
     have b3:s.length+((qQ f.name).length+((nb f.dict.toNat).length+(nb f.size.toNat).length))<=9223372036854775807:=by omega
     have b4:s.length+((qQ f.name).length+((nb f.dict.toNat).length+((nb f.size.toNat).length+(nb f.sum.toNat).length)))<=9223372036854775807:=by omega
     have b5:s.length+((qQ f.name).length+((nb f.dict.toNat).length+((nb f.size.toNat).length+((nb f.sum.toNat).length+(qQ f.block).length))))<=9223372036854775807:=by omega
     have c2:s.length+(qQ f.name).length+(nb f.dict.toNat).length<=9223372036854775807:=by omega
     have c3:s.length+(qQ f.name).length+(nb f.dict.toNat).length+(nb f.size.toNat).length<=9223372036854775807:=by omega
     have c4:s.length+(qQ f.name).length+(nb f.dict.toNat).length+(nb f.size.toNat).length+(nb f.sum.toNat).length<=9223372036854775807:=by omega
     have c5:s.length+(qQ f.name).length+(nb f.dict.toNat).length+(nb f.size.toNat).length+(nb f.sum.toNat).length+(qQ f.block).length<=9223372036854775807:=by omega
     have d3:s.length+((qQ f.name).length+(nb f.dict.toNat).length)+(nb f.size.toNat).length<=9223372036854775807:=by omega
     have d4:s.length+((qQ f.name).length+((nb f.dict.toNat).length+(nb f.size.toNat).length))+(nb f.sum.toNat).length<=9223372036854775807:=by omega
     have d5:s.length+((qQ f.name).length+((nb f.dict.toNat).length+((nb f.size.toNat).length+(nb f.sum.toNat).length)))+(qQ f.block).length<=9223372036854775807:=by omega
     clear hs hf hs0 hAB t1 t2 t3 t4 t5;go_upto_region 11 with fail
     obtain⟨w2,hw2⟩:∃w2,w2=wr.alloc (.cells #[S f.name,I f.dict,I f.size,I f.sum,S f.block] 89):=⟨_,rfl⟩
     obtain⟨D,hD⟩:∃D,D=wr.heap.size:=⟨_,rfl⟩
     have HFI:=zH (show FI A n cap (some ⟨b,off,none⟩) n2 cap2 a f w w2 B D by rw[hw2,hD];exact⟨(zU HAB).below ((Below.refl _ _).alloc (Nat.le_refl _) _),heap_alloc_new _ _⟩);rw[<-hw2,<-hD];have R:=zH (show (∀W:World,FI A n cap (some ⟨b,off,none⟩) n2 cap2 a f w W B D->W.cell? ⟨D,0,none⟩=some (S f.name))/\(∀W:World,FI A n cap (some ⟨b,off,none⟩) n2 cap2 a f w W B D->W.cell? ⟨D,1,none⟩=some (I f.dict))/\(∀W:World,FI A n cap (some ⟨b,off,none⟩) n2 cap2 a f w W B D->W.cell? ⟨D,2,none⟩=some (I f.size))/\(∀W:World,FI A n cap (some ⟨b,off,none⟩) n2 cap2 a f w W B D->W.cell? ⟨D,3,none⟩=some (I f.sum))/\(∀W:World,FI A n cap (some ⟨b,off,none⟩) n2 cap2 a f w W B D->W.cell? ⟨D,4,none⟩=some (S f.block))from ⟨fun W h=>h.x.1,fun W h=>h.x.2.1,fun W h=>h.x.2.2.1,fun W h=>h.x.2.2.2.1,fun W h=>h.x.2.2.2.2⟩);clear hw2 hD q0 q1 x0 x1 x2 x3 x4;obtain⟨r0,r1,r2,r3,r4⟩:=zU R
     go_region_held3 (fun W=>FI A n cap (some ⟨b,off,none⟩) n2 cap2 a f w W B D) (first|exact (zU HFI).drew|assumption|exact FI.drew (by assumption)|exact FI.below (by assumption) (by assumption))
      ((first
       | (go_at_call 115;refine (qh4 _ _ (by first | exact hnm | exact hbk)).mono ?_;rintro e wz ⟨rfl,hbz⟩)
       | (go_at_call 114;refine (qht _ _ (by first | exact g2 | exact g4 | exact g6) (by first | exact i2 | exact i4 | exact i6)).mono ?_;rintro e wz ⟨rfl,hbz⟩)))
     all_goals
      have hfin:FI A n cap (some ⟨b,off,none⟩) n2 cap2 a f w _ B D:=(by assumption)
      have HFIN:=zH hfin.ab;go_wp2_with fail;go_roundw
      case rel=>exact⟨j+1,by omega,by go_num,by rw[zU HS];first|rfl|simp,zU HFIN⟩
      case measure=>simp[intOf];omega
    ·have hjj:j=a.fs.length:=by omega
     have hfin:qed a j=im:=by rw[hjj,qku];exact (zU HIM).symm
     rw[hfin];have z1:¬(j:Int)<(n2:Int):=by omega
     have z2:decide ((j:Int)<(n2:Int))=false:=by simp;omega
     clear hfin hjj hAB hlf;go_wp2_with fail;go_ret;exact⟨rfl,(zU HAB).bel⟩
theorem qmY{a:Arc}(h:RightA a):(qbm a).length<=100000:=by
 have:=qkt h a.fs.length
 rwa [qku]at this
theorem qqZ(A:Option Addr)(n cap:Nat)(A2:Option Addr)(n2 cap2:Nat)(a:Arc)(w:World)(h:ArcIn w A n A2 n2 a)(hz:ArcSz a) :
  Calls Tryz.prog 42 #[qv A n cap A2 n2 cap2] w fun e w'=>e=.returned (.tuple #[S (qbu a).1,I (qbu a).2])/\Below w.heap.size w w':=by
 obtain⟨B,hB⟩:∃B,B=w.heap.size:=⟨_,rfl⟩
 obtain⟨w0,hw0⟩:∃w0,w0=w.alloc (.cells #[.slice A n cap,.slice A2 n2 cap2] 33):=⟨_,rfl⟩
 have H0:=zH (show ABox A n cap A2 n2 cap2 a w w0 B by rw[hw0,hB];exact ABox.new h cap cap2);have CK:∀W,ABox A n cap A2 n2 cap2 a w W B->Calls Tryz.prog 67 #[qv A n cap A2 n2 cap2] W fun e w'=>e=.returned (I (qh a))/\Below W.heap.size W w':=fun W hW=>qbN A n cap A2 n2 cap2 a W hW.i hz;obtain⟨r,hr⟩:∃r,r=qbu a:=⟨_,rfl⟩
 rw[<-hr,<-hB];unfold qbu at hr;have HB:=zH hB;have HW0:=zH hw0;clear hB hw0 h hz
 by_cases hck:qh a≠0
 ·rw[if_pos hck]at hr;obtain⟨c,hc⟩:∃c,c=qh a:=⟨_,rfl⟩
  rw[<-hc]at CK hr hck;have CK:=zH CK;have d1:((c:Int) != 0)=true:=by rw[bne_iff_ne];omega
  have d2:((c:Int) == 0)=false:=by rw[zB];omega
  have d3:¬(c:Int)=0:=by omega
  subst hr;clear hck hc;go_enter Tryz.func42,Tryz.ntmps42;go_upto_region 1 with fail
  rw[<-zU HW0,<-zU HB];obtain⟨q0,q1⟩:=(zU H0).c;go_wp2_with fail;refine (zU CK _ (zU H0)).mono ?_;rintro e w1 ⟨rfl,hb1⟩;have H1:=zH ((zU H0).below hb1);clear hb1 q0 q1;go_wp2_with fail;go_ret2;exact⟨rfl,(zU H1).bel⟩
 have hck0:qh a=0:=Decidable.not_not.1 hck;have hra:=(qak a).1 hck0;rw[if_neg hck]at hr;rw[hck0]at CK;have CK:=zH CK;have CI:=zH (fun (W:World) (hW:ABox A n cap A2 n2 cap2 a w W B)=>qpV A n cap A2 n2 cap2 a W hW.i hra);have hil:=qmY hra;obtain⟨im,him⟩:∃im,im=qbm a:=⟨_,rfl⟩
 have CI:Hid (∀W,ABox A n cap A2 n2 cap2 a w W B->Calls Tryz.prog 68 #[qv A n cap A2 n2 cap2] W fun e w'=>e=.returned (S im)/\Below W.heap.size W w'):=by rw[him];exact CI
 rw[<-him]at hr hil;clear hck hck0 hra him
 by_cases hb:16384<im.length
 ·rw[if_pos hb]at hr;have d1:(16384:Int)<(im.length:Int):=by omega
  subst hr;clear hb;go_enter Tryz.func42,Tryz.ntmps42;go_upto_region 1 with fail
  rw[<-zU HW0,<-zU HB];obtain⟨q0,q1⟩:=(zU H0).c;go_wp2_with fail;refine (zU CK _ (zU H0)).mono ?_;rintro e w1 ⟨rfl,hb1⟩;have H1:=zH ((zU H0).below hb1);clear hb1 q0 q1;obtain⟨q0,q1⟩:=(zU H1).c;go_wp2_with fail;refine (zU CI _ (zU H1)).mono ?_;rintro e w2 ⟨rfl,hb2⟩;have H2:=zH ((zU H1).below hb2);clear hb2 q0 q1;go_wp2_with fail;go_ret2;exact⟨rfl,(zU H2).bel⟩
 ·rw[if_neg hb]at hr;have d1:¬(16384:Int)<(im.length:Int):=by omega
  subst hr;clear hb;go_enter Tryz.func42,Tryz.ntmps42;go_upto_region 1 with fail
  rw[<-zU HW0,<-zU HB];obtain⟨q0,q1⟩:=(zU H0).c;go_wp2_with fail;refine (zU CK _ (zU H0)).mono ?_;rintro e w1 ⟨rfl,hb1⟩;have H1:=zH ((zU H0).below hb1);clear hb1 q0 q1;obtain⟨q0,q1⟩:=(zU H1).c;go_wp2_with fail;refine (zU CI _ (zU H1)).mono ?_;rintro e w2 ⟨rfl,hb2⟩;have H2:=zH ((zU H1).below hb2);clear hb2 q0 q1;go_wp2_with fail;go_ret2;exact⟨rfl,(zU H2).bel⟩
end
section
open Go.RowKit Go.Lib Pl Go.ChangeMaps Go.MapKept Go.ChangeShapes
open Go.WideElems (Fit)
open Go.Maps (Keyed int_keyed keyOf_int_mk IsMap atKey_put_same atKey_put_other)
theorem keyedN:Keyed Tryz.prog 3:=int_keyed Tryz.underlying3
theorem qrw{k:Int}(h0 : -9223372036854775808<=k)(h1:k<=9223372036854775807):keyOf Tryz.prog 3 (I k)=some (.int .i64 k) :=
 keyOf_int_mk Tryz.underlying3 (WalkArith.wf_i64 ⟨by omega,by omega⟩)
def IntMap(w:World)(b n:Nat)(f:Int->Nat):Prop :=
 ∃D:DataW Unit,w.ownsMap Tryz.prog 3 (plainElem Tryz.prog 3) b n D/\IsMap D/\∀k:Int,D.atKey (.int .i64 k) (.lit (.int .i64 0))=.lit (.int .i64 (f k))
theorem IntMap.made(w:World):IntMap (w.alloc (.map #[] 0)) w.heap.size 0 fun _=>0 :=
 ⟨.map [],World.ownsMap_made _ _ _ _,Go.Maps.isMap_empty,fun _=>rfl⟩
theorem IntMap.kept{w w':World}{b n:Nat}{f:Int->Nat}{row:Option Nat}(h:IntMap w b n f)(hg:w.grownBy w' row)(hne:some b≠row):IntMap w' b n f:=by
 obtain⟨D,ho,r⟩:=h;exact⟨D,ho.kept hg hne,r⟩
theorem IntMap.alloc{w:World}{b n:Nat}{f:Int->Nat}(h:IntMap w b n f)(o:Obj):IntMap (w.alloc o) b n f:=h.kept (World.grownBy_alloc w o none) (by simp)
theorem IntMap.lt{w:World}{b n:Nat}{f:Int->Nat}(h:IntMap w b n f):b<w.heap.size:=by
 obtain⟨D,ho,r⟩:=h;exact ho.lt
theorem IntMap.keep{w w':World}{b n:Nat}{f:Int->Nat}(h:IntMap w b n f)(hb:w'.heap[b]?=w.heap[b]?):IntMap w' b n f:=by
 obtain⟨D,⟨es,clock,h1,r⟩,r2⟩:=h;exact⟨D,⟨es,clock,hb.trans h1,r⟩,r2⟩
theorem IntMap.below{w w':World}{b n:Nat}{f:Int->Nat}(h:IntMap w b n f)(hb:Below w.heap.size w w'):IntMap w' b n f:=h.keep (hb.block b h.lt)
theorem qgb{w:World}{ops:Array Oper}{rest:List Oper}{o:Oper}{a:Act}{Q:Exit->Act->World->Prop}
  (hg:o.guard=none) (m x:Operand) (hop:o.op=Op.lookup 114 m x false) (b n:Nat) (f:Int->Nat)
  (hm:a.eval m=.map (some b)) (h:IntMap w b n f) (k:Int) (hx:a.eval x=I k) (h0 : -9223372036854775808<=k) (h1:k<=9223372036854775807)
  (hK:wpList Tryz.prog ops Q rest (a.put o.dst (I (f k))) w):wpList Tryz.prog ops Q (o::rest) a w:=by
 obtain⟨D,ho,_,hr⟩:=h;refine wpList_lookup_own_int w hg m x _ hop 3 3 .i64 keyedN Tryz.underlying114 Tryz.underlying3 (qj0 w) b n D hm ho _ _ hx (qrw h0 h1) ?_;intro c hat _;rw[hr k]at hat;injection hat with hat;injection hat with _ hat
 subst hat;exact hK
theorem qjv{w:World}{ops:Array Oper}{rest:List Oper}{o:Oper}{a:Act}{Q:Exit->Act->World->Prop}
  (hg:o.guard=none) (m x v:Operand) (hop:o.op=Op.mapUpdate 114 m x v) (b n:Nat) (f:Int->Nat)
  (hm:a.eval m=.map (some b)) (h:IntMap w b n f) (k:Int) (hx:a.eval x=I k) (h0 : -9223372036854775808<=k) (h1:k<=9223372036854775807) (c:Nat) (x':Int) (hv:a.eval v=.int .i64 x') (hxc:x'=c) (hc:c<=1000000000) (hn:n<=1000000000)
  (hK:∀w',IntMap w' b (n+1) (fun q=>if q=k then c else f q)->w.grownBy w' (some b)->wpList Tryz.prog ops Q rest (a.put o.dst undef) w'):wpList Tryz.prog ops Q (o::rest) a w:=by
 subst hxc;obtain⟨D,ho,hD,hr⟩:=h;have hwf:(Lit.int .i64 (c:Int)).wf=true:=WalkArith.wf_i64 ⟨by omega,by omega⟩;refine wpList_mapUpdate_own w hg m x v _ hop 3 3 keyedN Tryz.underlying114 (plainElem Tryz.prog 3) b n D hm ho (by unfold maxLen;omega) _ _ _ hx hv (qrw h0 h1) _ [] (plainElem_int Tryz.underlying3 hwf) ?_;intro w' h1' h2;refine hK w' ⟨_,h1',hD.put _ _,fun q=>?_⟩ h2;show (D.put (.int .i64 k) (.lit (.int .i64 c))).atKey (.int .i64 q) (.lit (.int .i64 0))=.lit (.int .i64 ((if q=k then c else f q:Nat):Int))
 by_cases hq:q=k
 ·rw[if_pos hq,hq,atKey_put_same hD (keyedN.key (qrw h0 h1))]
 ·rw[if_neg hq,atKey_put_other (by intro e;injection e with _ e;exact hq e)];exact hr q
theorem IntMap.run{w:World}{b n:Nat}{f:Int->Nat}(h:IntMap w b n f){k:Int}(h0 : -9223372036854775808<=k)(h1:k<=9223372036854775807) :
  (Instr.lookup 114 (.map (some b)) (I k) false).run Tryz.prog w=.ok (I (f k)) w:=by
 obtain⟨D,ho,_,hr⟩:=h;obtain⟨c,hrun,hat,_⟩:=ho.lookup_int keyedN Tryz.underlying114 Tryz.underlying3 (qj0 w) (qrw h0 h1);rw[hr k]at hat;injection hat with hat;injection hat with _ hat
 subst hat;exact hrun
end
end Go.Proofs.YtbnmfdlaabdlhaaGreatDoor
