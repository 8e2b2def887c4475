/- Parts of the proofs. -/
import Derived.Test.YtjpgoeimclipjaaGreatImImageSaves1
import Derived.Deep.DeepCutAuto
import Derived.Deep.WholeRow
namespace Go.Proofs.YtjpgoeimclipjaaGreat
open Go.RowKit Go.Lib Pl
attribute [local go_sem] ext_list app_list
set_option maxHeartbeats 1000000 in
set_option maxRecDepth 100000 in
theorem played_any (dict:Bytes) (A:Option Addr) (n cap:Nat) (l:List Tok) (w:World) (hl:ToksAt w w.heap.size A n l) (hd:dict.length≤9223372036854775807) (hn:n≤4611686018427387904) :
  Calls Tryz.prog 118 #[S dict,.slice A n cap] w fun e w'=>e = .returned (S (play dict l).1)∧Below w.heap.size w w':=by
 have c1:=zH (checkToks_any dict A n cap l w hl hd hn);go_enter Tryz.func118,Tryz.ntmps118;go_wp2_with fail;refine (zU c1).mono ?_;rintro e w1 ⟨rfl,hb⟩;go_wp2_with fail;go_ret;exact ⟨rfl,hb⟩
theorem two_put {L:List Int} {w W:World} {B D j:Nat} {x y:Int} (h:BoxL (firstL L (2*j)) w W B D) (hx:L[2*j]? = some x) (hy:L[2*j+1]? = some y) {i:Nat} (hi:i=2*j) :
  BoxL (firstL L (2*(j+1))) w ((W.setCell ⟨D,i,none⟩ (.int .i64 x)).setCell ⟨D,i+1,none⟩ (.int .i64 y)) B D:=by
 subst hi;have h1:=h.put (2*j) x;rw [firstL_next hx] at h1;have h2:=h1.put (2*j+1) y;rw [firstL_next hy] at h2;exact h2
def UpRes (b:Bytes) (o:Option Bytes) (e:Ending):Prop:=(∃ t,o=some t∧e = .returned (.tuple #[S t,.bool true]))∨(∃ t:Bytes,o=none∧t.length≤b.length∧e = .returned (.tuple #[S t,.bool false]))
set_option maxHeartbeats 4000000 in
set_option maxRecDepth 100000 in
theorem unpackOf_any (dict b:Bytes) (w:World) (hd:dict.length≤256) (hb:b.length≤140737488355328) :
  Calls Tryz.prog 84 #[S dict,S b] w fun e w'=>UpRes b (unpackO dict b) e∧Below w.heap.size w w':=by
 cases b with
 | nil =>
  go_enter Tryz.func84,Tryz.ntmps84;go_wp2_with fail;go_ret2;exact ⟨.inr ⟨[],rfl,Nat.le_refl _,rfl⟩,Below.refl _ _⟩
 | cons k s =>
  have hsl:s.length≤4611686018427387904:=by rw [List.length_cons] at hb;omega
  have hsl2:s.length≤140737488355328:=by rw [List.length_cons] at hb;omega
  have hcons:(k::s).length=s.length+1:=rfl;have n1:((k::s) == [])=false:=rfl;have n2:slice (k::s) 1 (k::s).length=s:=by rw [slice_end];rfl
  have n2b:slice (k::s) 1 (s.length+1)=s:=n2;have n3:(0:Nat)<(k::s).length:=by simp
  have n4:(⟨(k::s).toArray⟩:ByteArray)[0]'n3=k:=rfl;have n5:(1:Nat)≤(k::s).length:=by simp
  have hk256:=k.toNat_lt;have e0:k=0↔k.toNat=0:=⟨fun e=>by rw [e];rfl,fun e=>UInt8.toNat_inj.1 e⟩
  have e1:k=1↔k.toNat=1:=⟨fun e=>by rw [e];rfl,fun e=>UInt8.toNat_inj.1 e⟩
  have e2:k=2↔k.toNat=2:=⟨fun e=>by rw [e];rfl,fun e=>UInt8.toNat_inj.1 e⟩
  have HB0:=zH (Below.refl w.heap.size w)
  by_cases h0:k=0
  ·subst h0
   by_cases h512:s.length≤512
   ·have HO:=zH (show unpackO dict (0::s)=some s by rw [unpackO,if_pos rfl,if_pos h512]);have h512i:(s.length:Int)≤512:=by omega
    have h512d:decide ((s.length:Int)≤512)=true:=decide_eq_true h512i;clear e0 e1 e2;go_enter Tryz.func84,Tryz.ntmps84;go_wp2_with fail;go_quiet (fail);go_wp2_with fail;go_ret2;rw [zU HO];exact ⟨.inl ⟨s,rfl,rfl⟩,_root_.Go.below_drewN (Below.refl _ _) _⟩
   ·have HO:=zH (show unpackO dict (0::s)=none by rw [unpackO,if_pos rfl,if_neg h512]);have h512i:¬ (s.length:Int)≤512:=by omega
    have h512d:decide ((s.length:Int)≤512)=false:=decide_eq_false h512i;clear e0 e1 e2;go_enter Tryz.func84,Tryz.ntmps84;go_wp2_with fail;go_quiet (fail);go_wp2_with fail;go_ret2;rw [zU HO];exact ⟨.inr ⟨s,rfl,by simp,rfl⟩,_root_.Go.below_drewN (Below.refl _ _) _⟩
  ·have f0:((k.toNat:Int) == 0)=false:=by rw [beq_eq_false_iff_ne];intro e;exact h0 (e0.2 (by omega))
   by_cases h1:k=1
   ·have z1:k.toNat=1:=e1.1 h1;have f2:((k.toNat:Int) == 2)=false:=by rw [beq_eq_false_iff_ne];omega
    have f3:¬ (2:Int)<(k.toNat:Int):=by omega
    have hun:unpackO dict (k::s)=playO dict s:=by rw [unpackO,if_neg h0,if_pos h1]
    clear e0 e1 e2 h0 h1;go_enter Tryz.func84,Tryz.ntmps84;go_wp2_with fail;go_quiet (fail);have H1:=zH (_root_.Go.below_drewN (Below.refl w.heap.size w) nq);cases hrd:read dict s with
    | none =>
     have c2:=fun (W:World)=>toksFrom_any dict s W hd hsl;rw [hrd] at c2;have c2:=zH c2;have HO:=zH (show unpackO dict (k::s)=none by rw [hun];unfold playO;rw [hrd];rfl);clear hrd hun;go_wp2_with fail;refine (zU c2 _).mono ?_;rintro e w2 ⟨hv,hb2⟩;have H2:=zH ((zU H1).trans (hb2.mono (zU H1).size));clear hb2;obtain ⟨v,is,rfl,hv⟩:=hv
     rcases hv with ⟨rfl,rfl,_⟩ | ⟨_,l,hl,_⟩
     ·go_wp2_with fail;go_ret2;rw [zU HO];exact ⟨.inr ⟨[],rfl,by simp,rfl⟩,zU H2⟩
     ·cases hl
    | some l =>
     have c2:=fun (W:World)=>toksFrom_any dict s W hd hsl;rw [hrd] at c2;have c2:=zH c2
     have hpl:(play dict l).2=0:=by
      have hw:=write_read hd hrd
      by_cases e:(play dict l).2=0
      ·exact e
      ·unfold write at hw;rw [if_pos e] at hw;exact absurd (Prod.ext_iff.1 hw).2 e
     have hln:=play_room hpl;have c3:=fun (W:World) (A:Option Addr) (n cap:Nat) (h:ToksAt W W.heap.size A n l)=>played_any dict A n cap l W h (by omega) (by have:=h.1;omega);obtain ⟨t,ht⟩:∃ t,t=(play dict l).1:=⟨_,rfl⟩
     rw [←ht] at c3;have c3:=zH c3;have HO:=zH (show unpackO dict (k::s)=some t by rw [hun];unfold playO;rw [hrd,ht];rfl);clear hrd hpl hln ht hun;go_wp2_with fail;refine (zU c2 _).mono ?_;rintro e w2 ⟨hv,hb2⟩;have H2:=zH ((zU H1).trans (hb2.mono (zU H1).size));clear hb2;obtain ⟨v,is,rfl,hv⟩:=hv
     rcases hv with ⟨_,_,hl⟩ | ⟨rfl,l',hl,A,n,cap,rfl,hat⟩
     ·cases hl
     ·cases hl;have HAT:=zH hat;clear hat;go_wp2_with fail;refine (zU c3 _ _ _ _ (zU HAT)).mono ?_;rintro e w3 ⟨rfl,hb3⟩;have H3:=zH ((zU H2).trans (hb3.mono (zU H2).size));clear hb3;go_wp2_with fail;go_ret2;rw [zU HO];exact ⟨.inl ⟨t,rfl,rfl⟩,zU H3⟩
   ·have f1:((k.toNat:Int) == 1)=false:=by rw [beq_eq_false_iff_ne];intro e;exact h1 (e1.2 (by omega))
    by_cases h2:k=2
    ·subst h2
     by_cases h8:s.length<8
     ·have HO:=zH (show unpackO dict (2::s)=none by rw [unpackO,if_neg h0,if_neg h1,if_pos rfl];unfold decoded;rw [if_pos h8];rfl);have h8i:(s.length:Int)<8:=by omega
      clear e0 e1 e2 h0 h1 f0 f1;go_enter Tryz.func84,Tryz.ntmps84;go_wp2_with fail;go_quiet (fail);go_wp2_with fail;go_ret2;rw [zU HO];exact ⟨.inr ⟨[],rfl,by simp,rfl⟩,_root_.Go.below_drewN (Below.refl _ _) _⟩
     ·have hz:=zero16v;have hun:unpackO dict (2::s)=(decoded s).bind (playO dict):=by rw [unpackO,if_neg h0,if_neg h1,if_pos rfl]
      have h8n:8≤s.length:=by omega
      have h8i:¬ (s.length:Int)<8:=by omega
      obtain ⟨L,hL⟩:∃ L,L=unHd s:=⟨_,rfl⟩
      have hl16:L.length=16:=by rw [hL];exact unHd_len (by omega)
      obtain ⟨X,hX⟩:∃ X,X=slice s 8 s.length:=⟨_,rfl⟩
      have hX2:X=s.drop 8:=by rw [hX,slice_end]
      have hXl:X.length≤s.length:=by rw [hX2,List.length_drop];omega
      have hdec:decoded s=decodeO L X:=by unfold decoded;rw [if_neg h8,hX2,hL]
      have HL:=zH hL;have HL16:=zH hl16;have HX:=zH hX;have HDEC:=zH hdec;have HUN:=zH hun;clear e0 e1 e2 h0 h1 f0 f1 hX2 hL hl16 hdec h8 hun n3 n4 n5 hX;go_enter Tryz.func84,Tryz.ntmps84;go_wp2_with fail;go_quiet (fail);obtain ⟨w1,hw1⟩:∃ w1,w1=w.drewN nq:=⟨_,rfl⟩
      have H1:=zH (show Below w.heap.size w w1 by rw [hw1];exact _root_.Go.below_drewN (Below.refl w.heap.size w) nq);rw [←hw1];clear hw1;go_wp2_with fail;obtain ⟨D,hD⟩:∃ D,D=w1.heap.size:=⟨_,rfl⟩
      obtain ⟨w2,hw2⟩:∃ w2,w2=w1.alloc (.cells (cells16 (Lf fun _=>0)) 145):=⟨_,rfl⟩
      have H2:=zH (show BoxL (Lf fun _=>0) w w2 w.heap.size D from ⟨by rw [hw2,hD];exact heap_alloc_new _ _,by rw [hD];exact (zU H1).size,by rw [hw2];exact (zU H1).alloc (zU H1).size _⟩);rw [←hw2,←hD];clear hw2 hD;go_loopw [9] (fun iv wr=>∃ j:Nat,j≤8∧iv = .int .i64 j∧BoxL (firstL L (2*j)) w wr w.heap.size D) (fun iv _=>8-(intOf iv).toNat)
      case atStart=>exact ⟨0,by omega,rfl,by rw [Nat.mul_zero,firstL_zero];exact zU H2⟩
      case round =>
       obtain ⟨j,hj,rfl,hat⟩:=hrel;have HAT:=zH hat;clear hat
       by_cases hj8:j<8
       ·have hq:j<s.length:=by omega
        obtain ⟨c,hcc⟩:∃ c,(⟨s.toArray⟩:ByteArray)[j]'hq=c:=⟨_,rfl⟩
        have hsc:s[j]? = some c:=by rw [List.getElem?_eq_getElem hq];exact congrArg some hcc
        obtain ⟨m1,m2⟩:=unHd_get (b:=s) (q:=j) hj8 hsc;rw [←zU HL] at m1 m2;obtain ⟨h,hh⟩:∃ h,h=c.toNat / 16:=⟨_,rfl⟩
        obtain ⟨m,hm⟩:∃ m,m=c.toNat % 16:=⟨_,rfl⟩
        rw [←hh] at m1;rw [←hm] at m2;have hc256:=c.toNat_lt;have a1:(c.toNat:Int).tdiv 16=(h:Int):=by rw [Int.tdiv_eq_ediv_of_nonneg (by omega)];omega
        have a2:(c.toNat:Int).tmod 16=(m:Int):=by rw [Int.tmod_eq_emod_of_nonneg (by omega)];omega
        have a3:IntKind.u8.wrap ((c.toNat:Int) / 16)=(h:Int):=by
         have e:(c.toNat:Int) / 16=(h:Int):=by omega
         rw [e,IntKind.wrap_u8];omega
        have hh16:h<16:=by omega
        have hm16:m<16:=by omega
        obtain ⟨i,hi⟩:∃ i,i=2*j:=⟨_,rfl⟩
        have hst1:=(zU HAT).put (2*j) (h:Int);rw [firstL_next m1] at hst1;have hst2:=hst1.put (2*j+1) (m:Int);rw [firstL_next m2] at hst2;rw [←hi] at hst1 hst2;have g1:=(zU HAT).free i;have g2:=(zU HAT).free (i+1);obtain ⟨y1,hy1⟩:∃ y,(firstL L (2*j))[i]? = some y:=⟨_,List.getElem?_eq_getElem (by rw [firstL_len];omega)⟩
        obtain ⟨y2,hy2⟩:∃ y,(firstL L (2*j))[i+1]? = some y:=⟨_,List.getElem?_eq_getElem (by rw [firstL_len];omega)⟩
        have c1:=(zU HAT).get hy1;have c2:=(zU HAT).get hy2;obtain ⟨y3,hy3⟩:∃ y,(firstL L (i+1))[i+1]? = some y:=⟨_,List.getElem?_eq_getElem (by rw [firstL_len];omega)⟩
        have c3:=hst1.get hy3;have v1:wrap64 (2*(j:Int))=(i:Int):=by rw [hi];exact (IntWalk.wrap64_in _ ⟨by omega,by omega⟩).trans (by omega)
        have v1b:IntKind.i64.wrap (2*(j:Int))=(i:Int):=by rw [hi];exact (IntWalk.i64_in _ ⟨by omega,by omega⟩).trans (by omega)
        have v2:IntKind.i64.wrap ((i:Int)+1)=(i:Int)+1:=IntWalk.i64_in _ ⟨by omega,by omega⟩;have v3:(0:Int)≤(i:Int)+1:=by omega
        have v4:(i:Int)+1<16:=by omega
        have v5:((i:Int)+1).toNat=i+1:=by omega
        have v6:(i:Int)<16:=by omega
        have M1:=zH m1;have M2:=zH m2;have HI:=zH hi;clear hsc m1 m2 hh hm hi hst1 hst2 hy1 hy2 hy3;go_wp2_with fail;go_region_law (fail)
        all_goals
         go_wp2_with fail;go_roundw
         case rel =>
          first
           | exact ⟨j+1,by omega,by go_num,two_put (zU HAT) (zU M1) (zU M2) (zU HI)⟩
           | exact ⟨j+1,by omega,by go_num,two_put (zU HAT).drew (zU M1) (zU M2) (zU HI)⟩
           | ((repeat apply Exists.intro);exact ⟨⟨j+1,by omega,by go_num,two_put (zU HAT).drew (zU M1) (zU M2) (zU HI)⟩,rfl⟩)
           | ((repeat apply Exists.intro);exact ⟨⟨j+1,by omega,by go_num,two_put (zU HAT) (zU M1) (zU M2) (zU HI)⟩,rfl⟩)
         case measure=>simp [intOf];omega
       ·have hj':j=8:=by omega
        subst hj';rw [show 2*8=16 from rfl,firstL_all (zU HL16)] at HAT;cases ht:take X with
        | none =>
         have HO:=zH (show unpackO dict (2::s)=none by rw [zU HUN,zU HDEC,decodeO_none ht];rfl);have c1:=zH (fun W=>numFrom_no ht W (by omega));have c2:=fun (W:World)=>readCode_any L [] 0 W (zU HL16) (by simp) (by omega) (by omega);obtain ⟨T,hT⟩:∃ T,T=readS L [] 0:=⟨_,rfl⟩
         obtain ⟨te,hte⟩:∃ te,te=readE L [] 0:=⟨_,rfl⟩
         rw [←hT,←hte] at c2;have c2:=zH c2;have HXX:=zU HX;clear ht hT hte;go_wp2_with fail;rw [←HXX];refine (zU c1 _).mono ?_;rintro e w3 ⟨rfl,hb3⟩;have H3:=zH ((zU HAT).below hb3);clear hb3
         go_wp2_with (first
          | (refine wpList_load16 rfl (.tmp 8) rfl D rfl L (zU HL16) (zU H3).o ?_))
         refine (zU c2 _).mono ?_;rintro e w4 ⟨rfl,hb4⟩;have H4:=zH ((zU H3).below hb4);clear hb4;go_wp2_with fail;go_ret2;rw [zU HO];exact ⟨.inr ⟨[],rfl,by simp,rfl⟩,(zU H4).bel⟩
        | some p =>
         obtain ⟨n,r⟩:=p;obtain ⟨e1,e2⟩:=take_some ht;have hrl:r.length≤X.length:=by rw [e1,List.length_append];omega
         have hn:n≤2147483647:=e2;have hd1:=decodeO_some (L:=L) ht;have c1:=zH (fun W=>numFrom_ok ht W (by omega));have c2:=fun (W:World)=>readCode_any L r (n:Int) W (zU HL16) (by omega) (by omega) (by omega);obtain ⟨x,hT⟩:∃ T,T=readS L r (n:Int):=⟨_,rfl⟩
         obtain ⟨te,hte⟩:∃ te,te=readE L r (n:Int):=⟨_,rfl⟩
         rw [←hT,←hte] at c2 hd1;have HTE:=zH hte;have HT:=zH hT;have c2:=zH c2;have HXX:=zU HX
         by_cases h0:te=0
         ·have hxl:x.length≤4611686018427387904:=by
           rw [hT];rw [hte] at h0;have:=(writeE_parts (code_write_read h0).1).2.1;omega
          rw [if_pos h0] at hd1;have hdx:decoded s=some x:=(zU HDEC).trans hd1;have HDX:=zH hdx;subst h0;clear ht hT hte e1 e2 hd1 hdx;go_wp2_with fail;rw [←HXX];refine (zU c1 _).mono ?_;rintro e w3 ⟨rfl,hb3⟩;have H3:=zH ((zU HAT).below hb3);clear hb3
          go_wp2_with (first
           | (refine wpList_load16 rfl (.tmp 8) rfl D rfl L (zU HL16) (zU H3).o ?_))
          refine (zU c2 _).mono ?_;rintro e w4 ⟨rfl,hb4⟩;have H4:=zH ((zU H3).below hb4).bel;clear hb4;cases hrd:read dict x with
          | none =>
           have c2:=fun (W:World)=>toksFrom_any dict x W hd hxl;rw [hrd] at c2;have c2:=zH c2;have HO:=zH (show unpackO dict (2::s)=none by rw [zU HUN,zU HDX];simp only [Option.bind_some];unfold playO;rw [hrd];rfl);clear hrd;go_wp2_with fail;refine (zU c2 _).mono ?_;rintro e w2 ⟨hv,hb2⟩;have H2:=zH ((zU H4).trans (hb2.mono (zU H4).size));clear hb2;obtain ⟨v,is,rfl,hv⟩:=hv
           rcases hv with ⟨rfl,rfl,_⟩ | ⟨_,l,hl,_⟩
           ·go_wp2_with fail;go_ret2;rw [zU HO];exact ⟨.inr ⟨[],rfl,by simp,rfl⟩,zU H2⟩
           ·cases hl
          | some l =>
           have c2:=fun (W:World)=>toksFrom_any dict x W hd hxl;rw [hrd] at c2;have c2:=zH c2
           have hpl:(play dict l).2=0:=by
            have hw:=write_read hd hrd
            by_cases e:(play dict l).2=0
            ·exact e
            ·unfold write at hw;rw [if_pos e] at hw;exact absurd (Prod.ext_iff.1 hw).2 e
           have hln:=play_room hpl;have c3:=fun (W:World) (A:Option Addr) (n cap:Nat) (h:ToksAt W W.heap.size A n l)=>played_any dict A n cap l W h (by omega) (by have:=h.1;omega);obtain ⟨t,ht⟩:∃ t,t=(play dict l).1:=⟨_,rfl⟩
           rw [←ht] at c3;have c3:=zH c3;have HO:=zH (show unpackO dict (2::s)=some t by rw [zU HUN,zU HDX];simp only [Option.bind_some];unfold playO;rw [hrd,ht];rfl);clear hrd hpl hln ht;go_wp2_with fail;refine (zU c2 _).mono ?_;rintro e w2 ⟨hv,hb2⟩;have H2:=zH ((zU H4).trans (hb2.mono (zU H4).size));clear hb2;obtain ⟨v,is,rfl,hv⟩:=hv
           rcases hv with ⟨_,_,hl⟩ | ⟨rfl,l',hl,A,n,cap,rfl,hat⟩
           ·cases hl
           ·cases hl;have HAT:=zH hat;clear hat;go_wp2_with fail;refine (zU c3 _ _ _ _ (zU HAT)).mono ?_;rintro e w3 ⟨rfl,hb3⟩;have H3:=zH ((zU H2).trans (hb3.mono (zU H2).size));clear hb3;go_wp2_with fail;go_ret2;rw [zU HO];exact ⟨.inl ⟨t,rfl,rfl⟩,zU H3⟩
         ·have HO:=zH (show unpackO dict (2::s)=none by rw [zU HUN,zU HDEC,hd1,if_neg h0];rfl);have d1:((te:Int) != 0)=true:=by rw [bne_iff_ne];omega
          have d2:((te:Int) == 0)=false:=by rw [beq_eq_false_iff_ne];omega
          clear ht hT hte e1 e2 hd1 h0;go_wp2_with fail;rw [←HXX];refine (zU c1 _).mono ?_;rintro e w3 ⟨rfl,hb3⟩;have H3:=zH ((zU HAT).below hb3);clear hb3
          go_wp2_with (first
           | (refine wpList_load16 rfl (.tmp 8) rfl D rfl L (zU HL16) (zU H3).o ?_))
          refine (zU c2 _).mono ?_;rintro e w4 ⟨rfl,hb4⟩;have H4:=zH ((zU H3).below hb4);clear hb4;go_wp2_with fail;go_ret2;rw [zU HO];exact ⟨.inr ⟨[],rfl,by simp,rfl⟩,(zU H4).bel⟩
    ·have f2:((k.toNat:Int) == 2)=false:=by rw [beq_eq_false_iff_ne];intro e;exact h2 (e2.2 (by omega))
     have f3:(2:Int)<(k.toNat:Int):=by
      have a0:k.toNat≠0:=fun e=>h0 (e0.2 e);have a1:k.toNat≠1:=fun e=>h1 (e1.2 e);have a2:k.toNat≠2:=fun e=>h2 (e2.2 e);omega
     have HO:=zH (show unpackO dict (k::s)=none by rw [unpackO,if_neg h0,if_neg h1,if_neg h2]);clear e0 e1 e2 h0 h1 h2;go_enter Tryz.func84,Tryz.ntmps84;go_wp2_with fail;go_quiet (fail);go_wp2_with fail;go_ret2;rw [zU HO];exact ⟨.inr ⟨[],rfl,by simp,rfl⟩,_root_.Go.below_drewN (Below.refl _ _) _⟩
end Go.Proofs.YtjpgoeimclipjaaGreat
namespace Go.Proofs.YtjpgoeimclipjaaGreat
open Go.RowKit Go.Lib Pl
attribute [local go_sem] ext_list app_list
theorem unpackOf_some {dict b t:Bytes} (w:World) (hd:dict.length≤256) (hb:b.length≤140737488355328) (h:unpackO dict b=some t) :
  Calls Tryz.prog 84 #[S dict,S b] w fun e w'=>e = .returned (.tuple #[S t,.bool true])∧Below w.heap.size w w' :=
 (unpackOf_any dict b w hd hb).mono fun e w' ⟨hr,hb⟩=>by
  rcases hr with ⟨t2,h1,h2⟩ | ⟨t2,h1,_,_⟩
  ·rw [h] at h1;cases h1;exact ⟨h2,hb⟩
  ·rw [h] at h1;cases h1
theorem unpackOf_none {dict b:Bytes} (w:World) (hd:dict.length≤256) (hb:b.length≤140737488355328) (h:unpackO dict b=none) :
  Calls Tryz.prog 84 #[S dict,S b] w fun e w'=>(∃ t:Bytes,e = .returned (.tuple #[S t,.bool false]))∧Below w.heap.size w w' :=
 (unpackOf_any dict b w hd hb).mono fun e w' ⟨hr,hb⟩=>by
  rcases hr with ⟨t2,h1,h2⟩ | ⟨t2,h1,_,h2⟩
  ·rw [h] at h1;cases h1
  ·exact ⟨⟨t2,h2⟩,hb⟩
structure AF (A:Option Addr) (n cap:Nat) (A2:Option Addr) (n2 cap2:Nat) (a:Arc) (f:Fil) (w W:World) (B D:Nat):Prop where
 ab:ABox A n cap A2 n2 cap2 a w W B
 fb:FBox f w W B D
theorem AF.below {A A2:Option Addr} {n cap n2 cap2:Nat} {a:Arc} {f:Fil} {w W W1:World} {B D:Nat} (h:AF A n cap A2 n2 cap2 a f w W B D) (hb:Below W.heap.size W W1):AF A n cap A2 n2 cap2 a f w W1 B D:=⟨h.ab.below hb,h.fb.below hb⟩
theorem AF.drew {A A2:Option Addr} {n cap n2 cap2:Nat} {a:Arc} {f:Fil} {w W:World} {B D:Nat} (h:AF A n cap A2 n2 cap2 a f w W B D):AF A n cap A2 n2 cap2 a f w W.drew B D:=h.below (Below.refl _ _).drew
theorem AF.drewN {A A2:Option Addr} {n cap n2 cap2:Nat} {a:Arc} {f:Fil} {w W:World} {B D:Nat} (h:AF A n cap A2 n2 cap2 a f w W B D) (k:Nat):AF A n cap A2 n2 cap2 a f w (W.drewN k) B D:=h.below (_root_.Go.below_drewN (Below.refl _ _) k)
theorem dictO_iff {ds:List Bytes} {k:Int} : (dictO ds k).isSome=decide (0≤k∧k≤(ds.length:Int)):=by
 by_cases h0:k=0
 ·subst h0;rw [dictO_zero,decide_eq_true (by omega)];rfl
 ·by_cases h1:k<0∨(ds.length:Int)<k
  ·rw [dictO_bad h1,decide_eq_false (by omega)];rfl
  ·unfold dictO;rw [if_neg h0,if_neg (by omega),decide_eq_true (by omega)];rfl
theorem big_take {ds:List Bytes} {k:Nat} {d:Bytes} (h:ds[k]? = some d):(ds.take (k+1)).any bigD=((ds.take k).any bigD || bigD d):=by
 rw [List.take_add_one,h,List.any_append];simp
set_option maxHeartbeats 8000000 in
set_option maxRecDepth 100000 in
theorem checkArchive_any (A:Option Addr) (n cap:Nat) (A2:Option Addr) (n2 cap2:Nat) (a:Arc) (w:World) (h:ArcIn w A n A2 n2 a) (hz:ArcSz a) :
  Calls Tryz.prog 32 #[arcV A n cap A2 n2 cap2] w fun e w'=>e = .returned (I (checkA a))∧Below w.heap.size w w':=by
 obtain ⟨B,hB⟩:∃ B,B=w.heap.size:=⟨_,rfl⟩
 obtain ⟨w0,hw0⟩:∃ w0,w0=w.alloc (.cells #[.slice A n cap,.slice A2 n2 cap2] 33):=⟨_,rfl⟩
 have H0:=zH (show ABox A n cap A2 n2 cap2 a w w0 B by rw [hw0,hB];exact ABox.new h cap cap2);have hn1:n≤4611686018427387904:=by have:=hz.nd;have:=h.s.1;omega
 have hn2:n2≤4611686018427387904:=by have:=hz.nf;have:=h.f.1;omega
 have hl1:=h.s.1;have hl2:=h.f.1;have HB:=zH hB;have HW0:=zH hw0;have HZ:=zH hz;have hck:checkA a=if 4<n∨12<n2∨a.ds.any bigD=true then 2 else if filesB a.ds [] a.fs=true then 0 else 1:=by unfold checkA;rw [hl1,hl2]
 have HCK:=zH hck;clear hB hw0 h hz hck
 by_cases h4:4<n
 ·have e1:checkA a=2:=by rw [zU HCK,if_pos (Or.inl h4)]
  rw [e1];have d1:(4:Int)<(n:Int):=by omega
  clear e1;go_enter Tryz.func32,Tryz.ntmps32;go_upto_region 1 with fail
  rw [←zU HW0,←zU HB];obtain ⟨q0,q1⟩:=(zU H0).c;go_wp2_with fail;go_ret;rw [←zU HB];exact ⟨rfl,(zU H0).bel⟩
 by_cases h12:12<n2
 ·have e1:checkA a=2:=by rw [zU HCK,if_pos (Or.inr (Or.inl h12))]
  rw [e1];have d1:¬ (4:Int)<(n:Int):=by omega
  have d2:(12:Int)<(n2:Int):=by omega
  clear e1;go_enter Tryz.func32,Tryz.ntmps32;go_upto_region 1 with fail
  rw [←zU HW0,←zU HB];obtain ⟨q0,q1⟩:=(zU H0).c;go_wp2_with fail;go_ret;rw [←zU HB];exact ⟨rfl,(zU H0).bel⟩
 have d1:¬ (4:Int)<(n:Int):=by omega
 have d2:¬ (12:Int)<(n2:Int):=by omega
 have hck2:checkA a=if a.ds.any bigD=true then 2 else if filesB a.ds [] a.fs=true then 0 else 1:=by
  rw [zU HCK]
  by_cases hb:a.ds.any bigD=true
  ·rw [if_pos (Or.inr (Or.inr hb)),if_pos hb]
  ·rw [if_neg (fun x=>x.elim h4 fun x=>x.elim h12 hb),if_neg hb]
 obtain ⟨rs,hrs⟩:∃ rs,rs=checkA a:=⟨_,rfl⟩
 rw [←hrs] at hck2 ⊢;have HCK2:=zH hck2;clear hck2 hrs HCK;go_enter Tryz.func32,Tryz.ntmps32;go_upto_region 1 with fail
 rw [←zU HW0,←zU HB];obtain ⟨q0,q1⟩:=(zU H0).c;go_wp2_with fail;go_loop [3] (fun iv=>∃ k:Nat,k≤n∧iv = .int .i64 k∧(a.ds.take k).any bigD=false) (fun iv=>n-(intOf iv).toNat)
 case atStart=>exact ⟨0,by omega,rfl,by simp⟩
 case round =>
  obtain ⟨k,hk,rfl,hnb⟩:=hrel;have HNB:=zH hnb;clear hnb
  by_cases hkn:k<n
  ·obtain ⟨b,off,d,rfl,hb,hd,x0⟩:=(zU H0).i.s.at_ hkn;have hdz:=(zU HZ).ds d (List.mem_of_getElem? hd);have hnx:=big_take hd
   by_cases hbig:256<d.length
   ·have hbd:bigD d=true:=decide_eq_true hbig;have hall:a.ds.any bigD=true:=List.any_eq_true.2 ⟨d,List.mem_of_getElem? hd,hbd⟩;have HR:=zH (show rs=2 by rw [zU HCK2,if_pos hall]);have e1:(256:Int)<(d.length:Int):=by omega
    clear hnx hd hbd hall;go_wp2_with fail;go_ret;rw [zU HR,←zU HB];exact ⟨rfl,(zU H0).bel⟩
   ·have hbd:bigD d=false:=decide_eq_false hbig;have HNX:=zH (show (a.ds.take (k+1)).any bigD=false by rw [hnx,zU HNB,hbd];rfl);have e1:¬ (256:Int)<(d.length:Int):=by omega
    clear hnx hd hbd hbig;go_wp2_with fail;go_round
    case rel=>exact ⟨k+1,by omega,by go_num,zU HNX⟩
    case measure=>simp [intOf];omega
  ·have hk':n=k:=by omega
   subst hk';have hnb2:=zU HNB;rw [List.take_of_length_le (by omega)] at hnb2
   have hds:∀ d∈a.ds,d.length≤256:=fun d hd=>by
    have:=List.any_eq_false.1 hnb2 d hd;simp only [bigD,decide_eq_true_eq] at this;omega
   have HDS:=zH hds;have HR:=zH (show rs=if filesB a.ds [] a.fs=true then 0 else 1 by rw [zU HCK2,if_neg (by rw [hnb2];simp)]);clear hnb2 hds HNB HCK2;go_wp2_with fail;go_loopw [4] (fun iv wr=>∃ k:Nat,k≤n2∧iv = .int .i64 k∧ABox A n cap A2 n2 cap2 a w wr B∧filesB a.ds [] a.fs=filesB a.ds (lastN a.fs k) (a.fs.drop k)) (fun iv _=>n2-(intOf iv).toNat)
   case atStart=>exact ⟨0,by omega,rfl,zU H0,rfl⟩
   case round =>
    clear q0 q1 hk hkn;obtain ⟨j,hj,rfl,hbx,hrj⟩:=hrel;have HBX:=zH hbx;obtain ⟨p0,p1⟩:=hbx.c
    by_cases hjn:j<n2
    ·obtain ⟨b,off,f,rfl,hb,hf,x0,x1,x2,x3,x4⟩:=hbx.i.f.at_ hjn;have hfz:=(zU HZ).fs f (List.mem_of_getElem? hf);have hnx:=lastN_next hf;rw [drop_at hf,filesB] at hrj;have HRJ:=zH hrj;have HNX:=zH hnx;obtain ⟨w2,hw2⟩:∃ w2,w2=wr.alloc (.cells #[S f.name,I f.dict,I f.size,I f.sum,S f.block] 61):=⟨_,rfl⟩
     obtain ⟨D,hD⟩:∃ D,D=wr.heap.size:=⟨_,rfl⟩
     have AF2:=zH (show AF A n cap (some ⟨b,off,none⟩) n2 cap2 a f w w2 B D from ⟨by rw [hw2];exact hbx.below ((Below.refl _ _).alloc (Nat.le_refl _) _),by rw [hw2,hD];exact FBox.new f hbx.bel (Nat.le_of_lt hbx.lt)⟩)
     have hprev:j=0∨∃ i g,j=i+1∧a.fs[i]? = some g∧wr.cell? ⟨b,off+i*5,none⟩=some (S g.name)∧w2.cell? ⟨b,off+i*5,none⟩=some (S g.name)∧lastN a.fs j=g.name:=by
      rcases Nat.eq_zero_or_pos j with h0 | h0
      ·exact .inl h0
      ·obtain ⟨i,rfl⟩:∃ i,j=i+1:=⟨j-1,by omega⟩
       obtain ⟨b2,off2,g,hA,hb2,hg,y0,_⟩:=hbx.i.f.at_ (k:=i) (by omega);cases hA;exact .inr ⟨i,g,rfl,hg,y0,by rw [hw2];exact (World.cell?_alloc_lt wr _ ⟨b,off+i*5,none⟩ hb).trans y0,lastN_next hg⟩
     have c3:=fun (W:World)=>isName_any f.name W hfz.nm;obtain ⟨m,hm⟩:∃ m,m=nameB f.name:=⟨_,rfl⟩
     rw [←hm] at c3;have c3:=zH c3;have c4:=fun (W:World)=>(within_any f.dict 0 (n:Int) W).mono fun e w' ⟨h1,h2⟩=>(⟨h1,h2.symm⟩:e=Ending.returned (.bool (decide (0≤f.dict∧f.dict≤(n:Int))))∧w'=W)
     have hdi:=@dictO_iff a.ds f.dict;rw [hl1] at hdi;rw [←hdi] at c4;have KD:=fun (hs:(dictO a.ds f.dict).isSome=true) (W:World) (hW:ArcIn W A n (some ⟨b,off,none⟩) n2 a)=>dictOf_any A n cap (some ⟨b,off,none⟩) n2 cap2 a f.dict W hW hn1 hs;obtain ⟨o,ho⟩:∃ o,o=dictO a.ds f.dict:=⟨_,rfl⟩
     rw [←ho] at c4 KD;have c4:=zH c4;have hdl:∀ d,o=some d→d.length≤256:=fun d hd2=>dictO_len (zU HDS) (ho.symm.trans hd2);have htx:textO a.ds f=o.bind fun d=>sizedO d f.block f.size f.sum:=by unfold textO;rw [ho]
     have hw2':=hw2.symm;have hD':=hD.symm;have R:=zH (show (∀ W:World,AF A n cap (some ⟨b,off,none⟩) n2 cap2 a f w W B D→W.cell? ⟨B,0,none⟩=some (.slice A n cap))∧(∀ W:World,AF A n cap (some ⟨b,off,none⟩) n2 cap2 a f w W B D→W.cell? ⟨B,1,none⟩=some (.slice (some ⟨b,off,none⟩) n2 cap2))∧(∀ W:World,AF A n cap (some ⟨b,off,none⟩) n2 cap2 a f w W B D→W.cell? ⟨D,1,none⟩=some (I f.dict))∧(∀ W:World,AF A n cap (some ⟨b,off,none⟩) n2 cap2 a f w W B D→W.cell? ⟨D,4,none⟩=some (S f.block)) from ⟨fun W h=>h.ab.c.1,fun W h=>h.ab.c.2,fun W h=>h.fb.c.2.1,fun W h=>h.fb.c.2.2.2.2⟩);have hfb:fileB a.ds f=((textO a.ds f).isSome && m):=by rw [hm];rfl
     have hne:m=true→f.name≠[]:=fun h=>nameB_ne (by rw [←hm];exact h);clear hrj hnx hbx hf hb ho hdi hm hw2 hD;cases m with
     | false =>
      have HRR:=zH (show rs=1 by rw [zU HR,zU HRJ,hfb];cases (textO a.ds f).isSome <;> rfl);clear hfb htx KD hdl hne hprev;go_upto_region 12 with fail
      try rw [hw2']
      try rw [hD']
      obtain ⟨g0,g1⟩:=(zU AF2).ab.c;obtain ⟨y0,y1,y2,y3,y4⟩:=(zU AF2).fb.c;clear x0 x1 x2 x3 x4 p0 p1;go_wp2_with fail;go_quiet (first | (go_at_call 77;refine Calls.quiet_of_same (zU c3 _)) | (go_at_call 78;refine Calls.quiet_of_same (zU c4 _)));obtain ⟨w3,hw3⟩:∃ w3,w3=w2.drewN nq:=⟨_,rfl⟩
      have AF3:=zH (show AF A n cap (some ⟨b,off,none⟩) n2 cap2 a f w w3 B D by rw [hw3];exact (zU AF2).drewN _);rw [←hw3];clear hw3 g0 g1 y0 y1 y2 y3 y4;go_wp2_with fail;go_ret;rw [zU HRR,←zU HB];exact ⟨rfl,(zU AF3).fb.bel⟩
     | true =>
      rcases hprev with rfl | ⟨i,g,rfl,hg,yw,ye,hlast⟩
      ·have hlt:lessB (lastN a.fs 0) f.name=true:=lessB_nil (hne rfl);simp only [Nat.zero_mul,Nat.add_zero] at x0 x1 x2 x3 x4;cases o with
       | none =>
        have HRR:=zH (show rs=1 by rw [zU HR,zU HRJ,hfb,htx];rfl);clear hfb htx KD hdl hne;have c4:=c4;go_upto_region 12 with fail
        try rw [hw2']
        try rw [hD']
        obtain ⟨g0,g1⟩:=(zU AF2).ab.c;obtain ⟨y0,y1,y2,y3,y4⟩:=(zU AF2).fb.c;clear x0 x1 x2 x3 x4 p0 p1;go_wp2_with fail;go_quiet (first | (go_at_call 77;refine Calls.quiet_of_same (zU c3 _)) | (go_at_call 78;refine Calls.quiet_of_same (zU c4 _)));obtain ⟨w3,hw3⟩:∃ w3,w3=w2.drewN nq:=⟨_,rfl⟩
        have AF3:=zH (show AF A n cap (some ⟨b,off,none⟩) n2 cap2 a f w w3 B D by rw [hw3];exact (zU AF2).drewN _);rw [←hw3];clear hw3 g0 g1 y0 y1 y2 y3 y4;go_wp2_with fail;go_ret;rw [zU HRR,←zU HB];exact ⟨rfl,(zU AF3).fb.bel⟩
       | some d =>
        have KD2:=zH (KD rfl);have hdd:=hdl d rfl;have htx2:textO a.ds f=sizedO d f.block f.size f.sum:=htx;cases hu:unpackO d f.block with
        | none =>
         have KU:=zH (fun (W:World)=>unpackOf_none W hdd hfz.bl hu);have HRR:=zH (show rs=1 by rw [zU HR,zU HRJ,hfb,htx2];unfold sizedO;rw [hu];rfl);clear hfb htx htx2 KD hdl hne hu;go_upto_region 12 with fail
         try rw [hw2']
         try rw [hD']
         obtain ⟨g0,g1⟩:=(zU AF2).ab.c;obtain ⟨y0,y1,y2,y3,y4⟩:=(zU AF2).fb.c;clear x0 x1 x2 x3 x4 p0 p1;go_wp2_with fail;go_quiet (first | (go_at_call 77;refine Calls.quiet_of_same (zU c3 _)) | (go_at_call 78;refine Calls.quiet_of_same (zU c4 _)));obtain ⟨w3,hw3⟩:∃ w3,w3=w2.drewN nq:=⟨_,rfl⟩
         have AF3:=zH (show AF A n cap (some ⟨b,off,none⟩) n2 cap2 a f w w3 B D by rw [hw3];exact (zU AF2).drewN _);rw [←hw3];clear hw3 g0 g1 y0 y1 y2 y3 y4;obtain ⟨r1,r2,r3,r4⟩:=zU R;go_wp2_with fail
         go_region_held3 (fun w'=>AF A n cap (some ⟨b,off,none⟩) n2 cap2 a f w w' B D) (first | exact (zU AF3).drew | assumption | exact AF.drew (by assumption) | exact AF.below (by assumption) (by assumption))
          ((first
           | (go_at_call 85;have hAF:=‹AF A n cap (some ⟨b,off,none⟩) n2 cap2 a f w _ B D›;refine (zU KD2 _ (by exact hAF.ab.i)).mono ?_;clear hAF;rintro e w4 ⟨rfl,hb4⟩)
           | (go_at_call 84;refine (zU KU _).mono ?_;rintro e w5 ⟨⟨t,rfl⟩,hb5⟩)))
         have AF5:=zH ‹AF A n cap (some ⟨b,off,none⟩) n2 cap2 a f w w5 B D›;clear r1 r2 r3 r4;obtain ⟨g0,g1⟩:=(zU AF5).ab.c;obtain ⟨y0,y1,y2,y3,y4⟩:=(zU AF5).fb.c;go_wp2_with fail;go_quiet (fail);go_wp2_with fail;go_ret;rw [zU HRR,←zU HB];exact ⟨rfl,_root_.Go.below_drewN (zU AF5).fb.bel _⟩
        | some t =>
         have htl:=unpack_len hu;have KU:=zH (fun (W:World)=>unpackOf_some W hdd hfz.bl hu);have c6:=fun (W:World)=>(sumOf_any t W (by omega)).mono fun e w' ⟨h1,h2⟩=>(⟨h1,h2.symm⟩:e=Ending.returned (I (sumOf t))∧w'=W)
         obtain ⟨sm,hsm⟩:∃ sm,sm=sumOf t:=⟨_,rfl⟩
         rw [←hsm] at c6;have c6:=zH c6
         have hcase:((t.length:Int) == f.size)=false∧((t.length:Int) != f.size)=true∧textO a.ds f=none∨((t.length:Int) == f.size)=true∧((t.length:Int) != f.size)=false∧((sm:Int) == f.sum)=false∧((sm:Int) != f.sum)=true∧textO a.ds f=none∨((t.length:Int) == f.size)=true∧((t.length:Int) != f.size)=false∧((sm:Int) == f.sum)=true∧((sm:Int) != f.sum)=false∧textO a.ds f=some t:=by
          rw [htx2];unfold sizedO;rw [hu];simp only [Option.bind_some];rw [hsm]
          by_cases k1:(t.length:Int)=f.size
          ·by_cases k2:((sumOf t:Nat):Int)=f.sum
           ·exact .inr (.inr ⟨by rw [beq_iff_eq];exact k1,by rw [bne_eq_false_iff_eq];exact k1,by rw [beq_iff_eq];exact k2,by rw [bne_eq_false_iff_eq];exact k2,if_pos ⟨k1,k2⟩⟩)
           ·exact .inr (.inl ⟨by rw [beq_iff_eq];exact k1,by rw [bne_eq_false_iff_eq];exact k1,by rw [beq_eq_false_iff_ne];exact k2,by rw [bne_iff_ne];exact k2,if_neg (fun e=>k2 e.2)⟩)
          ·exact .inl ⟨by rw [beq_eq_false_iff_ne];exact k1,by rw [bne_iff_ne];exact k1,if_neg (fun e=>k1 e.1)⟩
         clear htx htx2 KD hdl hu hsm
         rcases hcase with ⟨e1,e2,e5⟩ | ⟨e1,e2,e3,e4,e5⟩ | ⟨e1,e2,e3,e4,e5⟩
         ·have HRR:=zH (show rs=1 by rw [zU HR,zU HRJ,hfb,e5];rfl);clear hfb e5 hne;go_upto_region 12 with fail
          try rw [hw2']
          try rw [hD']
          obtain ⟨g0,g1⟩:=(zU AF2).ab.c;obtain ⟨y0,y1,y2,y3,y4⟩:=(zU AF2).fb.c;clear x0 x1 x2 x3 x4 p0 p1;go_wp2_with fail;go_quiet (first | (go_at_call 77;refine Calls.quiet_of_same (zU c3 _)) | (go_at_call 78;refine Calls.quiet_of_same (zU c4 _)));obtain ⟨w3,hw3⟩:∃ w3,w3=w2.drewN nq:=⟨_,rfl⟩
          have AF3:=zH (show AF A n cap (some ⟨b,off,none⟩) n2 cap2 a f w w3 B D by rw [hw3];exact (zU AF2).drewN _);rw [←hw3];clear hw3 g0 g1 y0 y1 y2 y3 y4;obtain ⟨r1,r2,r3,r4⟩:=zU R;go_wp2_with fail
          go_region_held3 (fun w'=>AF A n cap (some ⟨b,off,none⟩) n2 cap2 a f w w' B D) (first | exact (zU AF3).drew | assumption | exact AF.drew (by assumption) | exact AF.below (by assumption) (by assumption))
           ((first
            | (go_at_call 85;have hAF:=‹AF A n cap (some ⟨b,off,none⟩) n2 cap2 a f w _ B D›;refine (zU KD2 _ (by exact hAF.ab.i)).mono ?_;clear hAF;rintro e w4 ⟨rfl,hb4⟩)
            | (go_at_call 84;refine (zU KU _).mono ?_;rintro e w5 ⟨rfl,hb5⟩)))
          have AF5:=zH ‹AF A n cap (some ⟨b,off,none⟩) n2 cap2 a f w w5 B D›;clear r1 r2 r3 r4;obtain ⟨g0,g1⟩:=(zU AF5).ab.c;obtain ⟨y0,y1,y2,y3,y4⟩:=(zU AF5).fb.c;go_wp2_with fail;go_quiet (first | (go_at_call 86;refine Calls.quiet_of_same (zU c6 _)));go_wp2_with fail;go_ret;rw [zU HRR,←zU HB];exact ⟨rfl,_root_.Go.below_drewN (zU AF5).fb.bel _⟩
         ·have HRR:=zH (show rs=1 by rw [zU HR,zU HRJ,hfb,e5];rfl);clear hfb e5 hne;go_upto_region 12 with fail
          try rw [hw2']
          try rw [hD']
          obtain ⟨g0,g1⟩:=(zU AF2).ab.c;obtain ⟨y0,y1,y2,y3,y4⟩:=(zU AF2).fb.c;clear x0 x1 x2 x3 x4 p0 p1;go_wp2_with fail;go_quiet (first | (go_at_call 77;refine Calls.quiet_of_same (zU c3 _)) | (go_at_call 78;refine Calls.quiet_of_same (zU c4 _)));obtain ⟨w3,hw3⟩:∃ w3,w3=w2.drewN nq:=⟨_,rfl⟩
          have AF3:=zH (show AF A n cap (some ⟨b,off,none⟩) n2 cap2 a f w w3 B D by rw [hw3];exact (zU AF2).drewN _);rw [←hw3];clear hw3 g0 g1 y0 y1 y2 y3 y4;obtain ⟨r1,r2,r3,r4⟩:=zU R;go_wp2_with fail
          go_region_held3 (fun w'=>AF A n cap (some ⟨b,off,none⟩) n2 cap2 a f w w' B D) (first | exact (zU AF3).drew | assumption | exact AF.drew (by assumption) | exact AF.below (by assumption) (by assumption))
           ((first
            | (go_at_call 85;have hAF:=‹AF A n cap (some ⟨b,off,none⟩) n2 cap2 a f w _ B D›;refine (zU KD2 _ (by exact hAF.ab.i)).mono ?_;clear hAF;rintro e w4 ⟨rfl,hb4⟩)
            | (go_at_call 84;refine (zU KU _).mono ?_;rintro e w5 ⟨rfl,hb5⟩)))
          have AF5:=zH ‹AF A n cap (some ⟨b,off,none⟩) n2 cap2 a f w w5 B D›;clear r1 r2 r3 r4;obtain ⟨g0,g1⟩:=(zU AF5).ab.c;obtain ⟨y0,y1,y2,y3,y4⟩:=(zU AF5).fb.c;go_wp2_with fail;go_quiet (first | (go_at_call 86;refine Calls.quiet_of_same (zU c6 _)));go_wp2_with fail;go_ret;rw [zU HRR,←zU HB];exact ⟨rfl,_root_.Go.below_drewN (zU AF5).fb.bel _⟩
         ·have HST:=zH (show filesB a.ds [] a.fs=filesB a.ds (lastN a.fs (0+1)) (a.fs.drop (0+1)) by rw [zU HRJ,hfb,e5,hlt,zU HNX];rfl);clear hfb e5 hne;go_upto_region 12 with fail
          try rw [hw2']
          try rw [hD']
          obtain ⟨g0,g1⟩:=(zU AF2).ab.c;obtain ⟨y0,y1,y2,y3,y4⟩:=(zU AF2).fb.c;clear x0 x1 x2 x3 x4 p0 p1;go_wp2_with fail;go_quiet (first | (go_at_call 77;refine Calls.quiet_of_same (zU c3 _)) | (go_at_call 78;refine Calls.quiet_of_same (zU c4 _)));obtain ⟨w3,hw3⟩:∃ w3,w3=w2.drewN nq:=⟨_,rfl⟩
          have AF3:=zH (show AF A n cap (some ⟨b,off,none⟩) n2 cap2 a f w w3 B D by rw [hw3];exact (zU AF2).drewN _);rw [←hw3];clear hw3 g0 g1 y0 y1 y2 y3 y4;obtain ⟨r1,r2,r3,r4⟩:=zU R;go_wp2_with fail
          go_region_held3 (fun w'=>AF A n cap (some ⟨b,off,none⟩) n2 cap2 a f w w' B D) (first | exact (zU AF3).drew | assumption | exact AF.drew (by assumption) | exact AF.below (by assumption) (by assumption))
           ((first
            | (go_at_call 85;have hAF:=‹AF A n cap (some ⟨b,off,none⟩) n2 cap2 a f w _ B D›;refine (zU KD2 _ (by exact hAF.ab.i)).mono ?_;clear hAF;rintro e w4 ⟨rfl,hb4⟩)
            | (go_at_call 84;refine (zU KU _).mono ?_;rintro e w5 ⟨rfl,hb5⟩)))
          have AF5:=zH ‹AF A n cap (some ⟨b,off,none⟩) n2 cap2 a f w w5 B D›;clear r1 r2 r3 r4;obtain ⟨g0,g1⟩:=(zU AF5).ab.c;obtain ⟨y0,y1,y2,y3,y4⟩:=(zU AF5).fb.c;go_wp2_with fail;go_quiet (first | (go_at_call 86;refine Calls.quiet_of_same (zU c6 _)));go_wp2_with fail;go_roundw
          case rel =>
           first
            | exact ⟨0+1,by omega,by go_num,((zU AF5).drewN _).ab,zU HST⟩
            | ((repeat apply Exists.intro);exact ⟨⟨0+1,by omega,by go_num,((zU AF5).drewN _).ab,zU HST⟩,rfl⟩)
          case measure=>simp [intOf];omega
      ·have v1:IntKind.i64.wrap (((i+1:Nat):Int)-1)=(i:Int):=by rw [show ((i+1:Nat):Int)-1=(i:Int) from by omega];exact IntWalk.i64_in _ ⟨by omega,by omega⟩
       have v1b:IntKind.i64.wrap ((i:Int)+1-1)=(i:Int):=by rw [show (i:Int)+1-1=(i:Int) from by omega];exact IntWalk.i64_in _ ⟨by omega,by omega⟩
       have v2:IntKind.i64.wrap (i:Int)=(i:Int):=IntWalk.i64_in _ ⟨by omega,by omega⟩;have v3:(0:Int)<(i:Int)+1:=by omega
       have v4:(i:Int)<(n2:Int):=by omega
       have v5:(i:Int)+1<(n2:Int):=by omega
       by_cases hlt:lessB g.name f.name=true
       ·have s1:Op.bytesLess g.name f.name=true:=by rw [less_model];exact hlt
        rw [←hlast] at hlt;cases o with
        | none =>
         have HRR:=zH (show rs=1 by rw [zU HR,zU HRJ,hfb,htx];rfl);clear hfb htx KD hdl hne;have c4:=c4;go_upto_region 12 with fail
         try rw [hw2']
         try rw [hD']
         obtain ⟨g0,g1⟩:=(zU AF2).ab.c;obtain ⟨y0,y1,y2,y3,y4⟩:=(zU AF2).fb.c;clear x0 x1 x2 x3 x4 p0 p1;go_wp2_with fail;go_quiet (first | (go_at_call 77;refine Calls.quiet_of_same (zU c3 _)) | (go_at_call 78;refine Calls.quiet_of_same (zU c4 _)));obtain ⟨w3,hw3⟩:∃ w3,w3=w2.drewN nq:=⟨_,rfl⟩
         have AF3:=zH (show AF A n cap (some ⟨b,off,none⟩) n2 cap2 a f w w3 B D by rw [hw3];exact (zU AF2).drewN _);rw [←hw3];clear hw3 g0 g1 y0 y1 y2 y3 y4 ye;go_wp2_with fail;go_ret;rw [zU HRR,←zU HB];exact ⟨rfl,(zU AF3).fb.bel⟩
        | some d =>
         have KD2:=zH (KD rfl);have hdd:=hdl d rfl;have htx2:textO a.ds f=sizedO d f.block f.size f.sum:=htx;cases hu:unpackO d f.block with
         | none =>
          have KU:=zH (fun (W:World)=>unpackOf_none W hdd hfz.bl hu);have HRR:=zH (show rs=1 by rw [zU HR,zU HRJ,hfb,htx2];unfold sizedO;rw [hu];rfl);clear hfb htx htx2 KD hdl hne hu;go_upto_region 12 with fail
          try rw [hw2']
          try rw [hD']
          obtain ⟨g0,g1⟩:=(zU AF2).ab.c;obtain ⟨y0,y1,y2,y3,y4⟩:=(zU AF2).fb.c;clear x0 x1 x2 x3 x4 p0 p1;go_wp2_with fail;go_quiet (first | (go_at_call 77;refine Calls.quiet_of_same (zU c3 _)) | (go_at_call 78;refine Calls.quiet_of_same (zU c4 _)));obtain ⟨w3,hw3⟩:∃ w3,w3=w2.drewN nq:=⟨_,rfl⟩
          have AF3:=zH (show AF A n cap (some ⟨b,off,none⟩) n2 cap2 a f w w3 B D by rw [hw3];exact (zU AF2).drewN _);rw [←hw3];clear hw3 g0 g1 y0 y1 y2 y3 y4 ye;obtain ⟨r1,r2,r3,r4⟩:=zU R;go_wp2_with fail
          go_region_held3 (fun w'=>AF A n cap (some ⟨b,off,none⟩) n2 cap2 a f w w' B D) (first | exact (zU AF3).drew | assumption | exact AF.drew (by assumption) | exact AF.below (by assumption) (by assumption))
           ((first
            | (go_at_call 85;have hAF:=‹AF A n cap (some ⟨b,off,none⟩) n2 cap2 a f w _ B D›;refine (zU KD2 _ (by exact hAF.ab.i)).mono ?_;clear hAF;rintro e w4 ⟨rfl,hb4⟩)
            | (go_at_call 84;refine (zU KU _).mono ?_;rintro e w5 ⟨⟨t,rfl⟩,hb5⟩)))
          have AF5:=zH ‹AF A n cap (some ⟨b,off,none⟩) n2 cap2 a f w w5 B D›;clear r1 r2 r3 r4;obtain ⟨g0,g1⟩:=(zU AF5).ab.c;obtain ⟨y0,y1,y2,y3,y4⟩:=(zU AF5).fb.c;go_wp2_with fail;go_quiet (fail);go_wp2_with fail;go_ret;rw [zU HRR,←zU HB];exact ⟨rfl,_root_.Go.below_drewN (zU AF5).fb.bel _⟩
         | some t =>
          have htl:=unpack_len hu;have KU:=zH (fun (W:World)=>unpackOf_some W hdd hfz.bl hu);have c6:=fun (W:World)=>(sumOf_any t W (by omega)).mono fun e w' ⟨h1,h2⟩=>(⟨h1,h2.symm⟩:e=Ending.returned (I (sumOf t))∧w'=W)
          obtain ⟨sm,hsm⟩:∃ sm,sm=sumOf t:=⟨_,rfl⟩
          rw [←hsm] at c6;have c6:=zH c6
          have hcase:((t.length:Int) == f.size)=false∧((t.length:Int) != f.size)=true∧textO a.ds f=none∨((t.length:Int) == f.size)=true∧((t.length:Int) != f.size)=false∧((sm:Int) == f.sum)=false∧((sm:Int) != f.sum)=true∧textO a.ds f=none∨((t.length:Int) == f.size)=true∧((t.length:Int) != f.size)=false∧((sm:Int) == f.sum)=true∧((sm:Int) != f.sum)=false∧textO a.ds f=some t:=by
           rw [htx2];unfold sizedO;rw [hu];simp only [Option.bind_some];rw [hsm]
           by_cases k1:(t.length:Int)=f.size
           ·by_cases k2:((sumOf t:Nat):Int)=f.sum
            ·exact .inr (.inr ⟨by rw [beq_iff_eq];exact k1,by rw [bne_eq_false_iff_eq];exact k1,by rw [beq_iff_eq];exact k2,by rw [bne_eq_false_iff_eq];exact k2,if_pos ⟨k1,k2⟩⟩)
            ·exact .inr (.inl ⟨by rw [beq_iff_eq];exact k1,by rw [bne_eq_false_iff_eq];exact k1,by rw [beq_eq_false_iff_ne];exact k2,by rw [bne_iff_ne];exact k2,if_neg (fun e=>k2 e.2)⟩)
           ·exact .inl ⟨by rw [beq_eq_false_iff_ne];exact k1,by rw [bne_iff_ne];exact k1,if_neg (fun e=>k1 e.1)⟩
          clear htx htx2 KD hdl hu hsm
          rcases hcase with ⟨e1,e2,e5⟩ | ⟨e1,e2,e3,e4,e5⟩ | ⟨e1,e2,e3,e4,e5⟩
          ·have HRR:=zH (show rs=1 by rw [zU HR,zU HRJ,hfb,e5];rfl);clear hfb e5 hne;go_upto_region 12 with fail
           try rw [hw2']
           try rw [hD']
           obtain ⟨g0,g1⟩:=(zU AF2).ab.c;obtain ⟨y0,y1,y2,y3,y4⟩:=(zU AF2).fb.c;clear x0 x1 x2 x3 x4 p0 p1;go_wp2_with fail;go_quiet (first | (go_at_call 77;refine Calls.quiet_of_same (zU c3 _)) | (go_at_call 78;refine Calls.quiet_of_same (zU c4 _)));obtain ⟨w3,hw3⟩:∃ w3,w3=w2.drewN nq:=⟨_,rfl⟩
           have AF3:=zH (show AF A n cap (some ⟨b,off,none⟩) n2 cap2 a f w w3 B D by rw [hw3];exact (zU AF2).drewN _);rw [←hw3];clear hw3 g0 g1 y0 y1 y2 y3 y4 ye;obtain ⟨r1,r2,r3,r4⟩:=zU R;go_wp2_with fail
           go_region_held3 (fun w'=>AF A n cap (some ⟨b,off,none⟩) n2 cap2 a f w w' B D) (first | exact (zU AF3).drew | assumption | exact AF.drew (by assumption) | exact AF.below (by assumption) (by assumption))
            ((first
             | (go_at_call 85;have hAF:=‹AF A n cap (some ⟨b,off,none⟩) n2 cap2 a f w _ B D›;refine (zU KD2 _ (by exact hAF.ab.i)).mono ?_;clear hAF;rintro e w4 ⟨rfl,hb4⟩)
             | (go_at_call 84;refine (zU KU _).mono ?_;rintro e w5 ⟨rfl,hb5⟩)))
           have AF5:=zH ‹AF A n cap (some ⟨b,off,none⟩) n2 cap2 a f w w5 B D›;clear r1 r2 r3 r4;obtain ⟨g0,g1⟩:=(zU AF5).ab.c;obtain ⟨y0,y1,y2,y3,y4⟩:=(zU AF5).fb.c;go_wp2_with fail;go_quiet (first | (go_at_call 86;refine Calls.quiet_of_same (zU c6 _)));go_wp2_with fail;go_ret;rw [zU HRR,←zU HB];exact ⟨rfl,_root_.Go.below_drewN (zU AF5).fb.bel _⟩
          ·have HRR:=zH (show rs=1 by rw [zU HR,zU HRJ,hfb,e5];rfl);clear hfb e5 hne;go_upto_region 12 with fail
           try rw [hw2']
           try rw [hD']
           obtain ⟨g0,g1⟩:=(zU AF2).ab.c;obtain ⟨y0,y1,y2,y3,y4⟩:=(zU AF2).fb.c;clear x0 x1 x2 x3 x4 p0 p1;go_wp2_with fail;go_quiet (first | (go_at_call 77;refine Calls.quiet_of_same (zU c3 _)) | (go_at_call 78;refine Calls.quiet_of_same (zU c4 _)));obtain ⟨w3,hw3⟩:∃ w3,w3=w2.drewN nq:=⟨_,rfl⟩
           have AF3:=zH (show AF A n cap (some ⟨b,off,none⟩) n2 cap2 a f w w3 B D by rw [hw3];exact (zU AF2).drewN _);rw [←hw3];clear hw3 g0 g1 y0 y1 y2 y3 y4 ye;obtain ⟨r1,r2,r3,r4⟩:=zU R;go_wp2_with fail
           go_region_held3 (fun w'=>AF A n cap (some ⟨b,off,none⟩) n2 cap2 a f w w' B D) (first | exact (zU AF3).drew | assumption | exact AF.drew (by assumption) | exact AF.below (by assumption) (by assumption))
            ((first
             | (go_at_call 85;have hAF:=‹AF A n cap (some ⟨b,off,none⟩) n2 cap2 a f w _ B D›;refine (zU KD2 _ (by exact hAF.ab.i)).mono ?_;clear hAF;rintro e w4 ⟨rfl,hb4⟩)
             | (go_at_call 84;refine (zU KU _).mono ?_;rintro e w5 ⟨rfl,hb5⟩)))
           have AF5:=zH ‹AF A n cap (some ⟨b,off,none⟩) n2 cap2 a f w w5 B D›;clear r1 r2 r3 r4;obtain ⟨g0,g1⟩:=(zU AF5).ab.c;obtain ⟨y0,y1,y2,y3,y4⟩:=(zU AF5).fb.c;go_wp2_with fail;go_quiet (first | (go_at_call 86;refine Calls.quiet_of_same (zU c6 _)));go_wp2_with fail;go_ret;rw [zU HRR,←zU HB];exact ⟨rfl,_root_.Go.below_drewN (zU AF5).fb.bel _⟩
          ·have HST:=zH (show filesB a.ds [] a.fs=filesB a.ds (lastN a.fs (i+1+1)) (a.fs.drop (i+1+1)) by rw [zU HRJ,hfb,e5,hlt,zU HNX];rfl);clear hfb e5 hne;go_upto_region 12 with fail
           try rw [hw2']
           try rw [hD']
           obtain ⟨g0,g1⟩:=(zU AF2).ab.c;obtain ⟨y0,y1,y2,y3,y4⟩:=(zU AF2).fb.c;clear x0 x1 x2 x3 x4 p0 p1;go_wp2_with fail;go_quiet (first | (go_at_call 77;refine Calls.quiet_of_same (zU c3 _)) | (go_at_call 78;refine Calls.quiet_of_same (zU c4 _)));obtain ⟨w3,hw3⟩:∃ w3,w3=w2.drewN nq:=⟨_,rfl⟩
           have AF3:=zH (show AF A n cap (some ⟨b,off,none⟩) n2 cap2 a f w w3 B D by rw [hw3];exact (zU AF2).drewN _);rw [←hw3];clear hw3 g0 g1 y0 y1 y2 y3 y4 ye;obtain ⟨r1,r2,r3,r4⟩:=zU R;go_wp2_with fail
           go_region_held3 (fun w'=>AF A n cap (some ⟨b,off,none⟩) n2 cap2 a f w w' B D) (first | exact (zU AF3).drew | assumption | exact AF.drew (by assumption) | exact AF.below (by assumption) (by assumption))
            ((first
             | (go_at_call 85;have hAF:=‹AF A n cap (some ⟨b,off,none⟩) n2 cap2 a f w _ B D›;refine (zU KD2 _ (by exact hAF.ab.i)).mono ?_;clear hAF;rintro e w4 ⟨rfl,hb4⟩)
             | (go_at_call 84;refine (zU KU _).mono ?_;rintro e w5 ⟨rfl,hb5⟩)))
           have AF5:=zH ‹AF A n cap (some ⟨b,off,none⟩) n2 cap2 a f w w5 B D›;clear r1 r2 r3 r4;obtain ⟨g0,g1⟩:=(zU AF5).ab.c;obtain ⟨y0,y1,y2,y3,y4⟩:=(zU AF5).fb.c;go_wp2_with fail;go_quiet (first | (go_at_call 86;refine Calls.quiet_of_same (zU c6 _)));go_wp2_with fail;go_roundw
           case rel =>
            first
             | exact ⟨i+1+1,by omega,by go_num,((zU AF5).drewN _).ab,zU HST⟩
             | ((repeat apply Exists.intro);exact ⟨⟨i+1+1,by omega,by go_num,((zU AF5).drewN _).ab,zU HST⟩,rfl⟩)
           case measure=>simp [intOf];omega
       ·have hlt:lessB g.name f.name=false:=by simpa using hlt
        have s1:Op.bytesLess g.name f.name=false:=by rw [less_model];exact hlt
        rw [←hlast] at hlt;have HRR:=zH (show rs=1 by rw [zU HR,zU HRJ,hfb,hlt];cases (textO a.ds f).isSome <;> rfl);clear hfb htx KD hdl hne;go_upto_region 12 with fail
        try rw [hw2']
        try rw [hD']
        obtain ⟨g0,g1⟩:=(zU AF2).ab.c;obtain ⟨y0,y1,y2,y3,y4⟩:=(zU AF2).fb.c;clear x0 x1 x2 x3 x4 p0 p1;go_wp2_with fail;go_quiet (first | (go_at_call 77;refine Calls.quiet_of_same (zU c3 _)) | (go_at_call 78;refine Calls.quiet_of_same (zU c4 _)));obtain ⟨w3,hw3⟩:∃ w3,w3=w2.drewN nq:=⟨_,rfl⟩
        have AF3:=zH (show AF A n cap (some ⟨b,off,none⟩) n2 cap2 a f w w3 B D by rw [hw3];exact (zU AF2).drewN _);rw [←hw3];clear hw3 g0 g1 y0 y1 y2 y3 y4 ye;go_wp2_with fail;go_ret;rw [zU HRR,←zU HB];exact ⟨rfl,(zU AF3).fb.bel⟩
    ·have hj':j=n2:=by omega
     subst hj';rw [List.drop_of_length_le (by omega),filesB] at hrj;have HRR:=zH (show rs=0 by rw [zU HR,hrj];rfl);clear hrj;go_wp2_with fail;go_ret;rw [zU HRR,←zU HB];exact ⟨rfl,(zU HBX).bel⟩
end Go.Proofs.YtjpgoeimclipjaaGreat
namespace Go.Proofs.YtjpgoeimclipjaaGreat
open Go.RowKit Go.Lib Pl
attribute [local go_sem] ext_list app_list
structure FI (A:Option Addr) (n cap:Nat) (A2:Option Addr) (n2 cap2:Nat) (a:Arc) (f:Fil) (w W:World) (B D:Nat):Prop where
 ab:ABox A n cap A2 n2 cap2 a w W B
 d:W.heap[D]? = some (.cells (filA f) 61 (0,0))
section
variable {A : Option Addr} {n cap : Nat} {A2 : Option Addr} {n2 cap2 : Nat} {a : Arc} {f : Fil} {w W W1 : World} {B D : Nat}
theorem FI.below (h:FI A n cap A2 n2 cap2 a f w W B D) (hb:Below W.heap.size W W1):FI A n cap A2 n2 cap2 a f w W1 B D:=⟨h.ab.below hb,(hb.block _ (Array.getElem?_eq_some_iff.1 h.d).1).trans h.d⟩
theorem FI.drew (h:FI A n cap A2 n2 cap2 a f w W B D):FI A n cap A2 n2 cap2 a f w W.drew B D:=h.below (Below.refl _ _).drew
theorem FI.x (h:FI A n cap A2 n2 cap2 a f w W B D):W.cell? ⟨D,0,none⟩=some (S f.name)∧W.cell? ⟨D,1,none⟩=some (I f.dict)∧W.cell? ⟨D,2,none⟩=some (I f.size)∧W.cell? ⟨D,3,none⟩=some (I f.sum)∧W.cell? ⟨D,4,none⟩=some (S f.block):=by
 refine ⟨?_,?_,?_,?_,?_⟩ <;> (rw [cell_of_row _ _ _ _ _ _ h.d];rfl)
end
attribute [local go_sem ↓] concat_list in
set_option maxHeartbeats 4000000 in
set_option maxRecDepth 100000 in
theorem imageOf_any (A:Option Addr) (n cap:Nat) (A2:Option Addr) (n2 cap2:Nat) (a:Arc) (w:World) (h:ArcIn w A n A2 n2 a) (hra:RightA a) :
  Calls Tryz.prog 59 #[arcV A n cap A2 n2 cap2] w fun e w'=>e = .returned (S (imageOf a))∧Below w.heap.size w w':=by
 obtain ⟨B,hB⟩:∃ B,B=w.heap.size:=⟨_,rfl⟩
 obtain ⟨w0,hw0⟩:∃ w0,w0=w.alloc (.cells #[.slice A n cap,.slice A2 n2 cap2] 33):=⟨_,rfl⟩
 have H0:=zH (show ABox A n cap A2 n2 cap2 a w w0 B by rw [hw0,hB];exact ABox.new h cap cap2);have hl1:=h.s.1;have hl2:=h.f.1;have hn4:=hra.nd;have hn12:=hra.nf;have HLD:=zH (imgD_len hra);have HLF:=zH (imgF_len hra);have HSD:=zH hra.sd;have HNUM:=zH (fun f (hf:f∈a.fs)=>file_nums hra.nd hra.sd (hra.fr.each f hf));have hz:=imgD_zero a;rw [hl1] at hz;have HZ:=zH hz;obtain ⟨im,him⟩:∃ im,im=imageOf a:=⟨_,rfl⟩
 rw [←hB,←him];have HIM:=zH him;have HB:=zH hB;have HW0:=zH hw0;clear hB hw0 h hra him hz;go_enter Tryz.func59,Tryz.ntmps59;go_upto_region 1 with fail
 rw [←zU HW0,←zU HB];obtain ⟨q0,q1⟩:=(zU H0).c;go_wp2_with fail;refine (numBytes_any n w0 (by omega)).mono ?_;rintro e w1 ⟨rfl,hb1⟩;have H1:=zH ((zU H0).below hb1);have hnl:=nb_len5' (n:=n) (by omega);clear hb1 q0 q1;go_wp2_with fail;go_loopw [3,4] (fun sv iv wr=>∃ k:Nat,k≤n∧iv = .int .i64 k∧sv=S (imgD a k)∧ABox A n cap A2 n2 cap2 a w wr B) (fun _ iv _=>n-(intOf iv).toNat)
 case atStart=>exact ⟨0,Nat.zero_le _,rfl,by rw [zU HZ];rfl,zU H1⟩
 case round =>
  obtain ⟨k,hk,rfl,rfl,hAB⟩:=hrel;have HAB:=zH hAB;obtain ⟨q0,q1⟩:=hAB.c;have hls:=zU HLD k
  by_cases hkn:k<n
  ·obtain ⟨b,off,t,rfl,hb,ht,hc⟩:=hAB.i.s.at_ (k:=k) hkn;have hs:=imgD_step ht;have htl:=zU HSD t (List.mem_of_getElem? ht);have htb:=textB_len t (by omega);obtain ⟨s,hs0⟩:∃ s,s=imgD a k:=⟨_,rfl⟩
   rw [←hs0] at hs hls ⊢;have HS:=zH hs;have z1:(k:Int)<(n:Int):=by omega
   have b1:s.length+(textB t).length≤9223372036854775807:=by omega
   clear hs ht hs0 hAB hnl;go_wp2_with fail;refine (textBytes_any t wr (by omega)).mono ?_;rintro e w2 ⟨rfl,hb2⟩;have H2:=zH ((zU HAB).below hb2);clear hb2;go_wp2_with fail;go_roundw
   case rel=>exact ⟨k+1,by omega,by go_num,by rw [zU HS],zU H2⟩
   case measure=>simp [intOf];omega
  ·have hkk:k=a.ds.length:=by omega
   have hzf:=imgF_zero a;rw [←hkk,hl2] at hzf;have HZF:=zH hzf;obtain ⟨s,hs0⟩:∃ s,s=imgD a k:=⟨_,rfl⟩
   rw [←hs0] at hls ⊢;have HS0:=zH hs0;have z1:¬ (k:Int)<(n:Int):=by omega
   have z2:decide ((k:Int)<(n:Int))=false:=by simp;omega
   have hnl2:=nb_len5' (n:=n2) (by omega);have b1:s.length+(nb n2).length≤9223372036854775807:=by omega
   clear hkk hzf hs0 hAB hnl;go_wp2_with fail;refine (numBytes_any n2 wr (by omega)).mono ?_;rintro e w2 ⟨rfl,hb2⟩;have H2:=zH ((zU HAB).below hb2);clear hb2 q0 q1;go_wp2_with fail;clear b1 hnl2;go_loopw [3,5,6] (fun sv iv _ wr=>∃ j:Nat,j≤n2∧iv = .int .i64 j∧sv=S (imgF a j)∧ABox A n cap A2 n2 cap2 a w wr B) (fun _ iv _ _=>n2-(intOf iv).toNat)
   case atStart=>exact ⟨0,Nat.zero_le _,rfl,by rw [zU HZF,←zU HS0],zU H2⟩
   case round =>
    clear HAB z1 z2;obtain ⟨j,hj,rfl,rfl,hAB⟩:=hrel;have HAB:=zH hAB;obtain ⟨q0,q1⟩:=hAB.c;have hlf:=zU HLF j
    by_cases hjn:j<n2
    ·obtain ⟨b,off,f,rfl,hb,hf,x0,x1,x2,x3,x4⟩:=hAB.i.f.at_ (k:=j) hjn;have hs:=imgF_step hf;obtain ⟨g1,g2,g3,g4,g5,g6,g7,g8⟩:=zU HNUM f (List.mem_of_getElem? hf);have t1:=textB_len f.name (by omega);have t2:=textB_len f.block (by omega);have t3:=nb_len5' (n:=f.dict.toNat) (by omega);have t4:=nb_len5' (n:=f.size.toNat) (by omega);have t5:=nb_len5' (n:=f.sum.toNat) (by omega);have hnm:f.name.length≤4611686018427387904:=by omega
     have hbk:f.block.length≤4611686018427387904:=by omega
     have i2:f.dict≤9223372036854775807:=by omega
     have i4:f.size≤9223372036854775807:=by omega
     have i6:f.sum≤9223372036854775807:=by omega
     obtain ⟨s,hs0⟩:∃ s,s=imgF a j:=⟨_,rfl⟩
     rw [←hs0] at hs hlf ⊢;have HS:=zH hs;have z1:(j:Int)<(n2:Int):=by omega
     have b1:s.length+(textB f.name).length≤9223372036854775807:=by omega
     have b2:s.length+((textB f.name).length+(nb f.dict.toNat).length)≤9223372036854775807:=by omega
     have b3:s.length+((textB f.name).length+((nb f.dict.toNat).length+(nb f.size.toNat).length))≤9223372036854775807:=by omega
     have b4:s.length+((textB f.name).length+((nb f.dict.toNat).length+((nb f.size.toNat).length+(nb f.sum.toNat).length)))≤9223372036854775807:=by omega
     have b5:s.length+((textB f.name).length+((nb f.dict.toNat).length+((nb f.size.toNat).length+((nb f.sum.toNat).length+(textB f.block).length))))≤9223372036854775807:=by omega
     have c2:s.length+(textB f.name).length+(nb f.dict.toNat).length≤9223372036854775807:=by omega
     have c3:s.length+(textB f.name).length+(nb f.dict.toNat).length+(nb f.size.toNat).length≤9223372036854775807:=by omega
     have c4:s.length+(textB f.name).length+(nb f.dict.toNat).length+(nb f.size.toNat).length+(nb f.sum.toNat).length≤9223372036854775807:=by omega
     have c5:s.length+(textB f.name).length+(nb f.dict.toNat).length+(nb f.size.toNat).length+(nb f.sum.toNat).length+(textB f.block).length≤9223372036854775807:=by omega
     have d3:s.length+((textB f.name).length+(nb f.dict.toNat).length)+(nb f.size.toNat).length≤9223372036854775807:=by omega
     have d4:s.length+((textB f.name).length+((nb f.dict.toNat).length+(nb f.size.toNat).length))+(nb f.sum.toNat).length≤9223372036854775807:=by omega
     have d5:s.length+((textB f.name).length+((nb f.dict.toNat).length+((nb f.size.toNat).length+(nb f.sum.toNat).length)))+(textB f.block).length≤9223372036854775807:=by omega
     clear hs hf hs0 hAB t1 t2 t3 t4 t5;go_upto_region 11 with fail
     obtain ⟨w2,hw2⟩:∃ w2,w2=wr.alloc (.cells #[S f.name,I f.dict,I f.size,I f.sum,S f.block] 61):=⟨_,rfl⟩
     obtain ⟨D,hD⟩:∃ D,D=wr.heap.size:=⟨_,rfl⟩
     have HFI:=zH (show FI A n cap (some ⟨b,off,none⟩) n2 cap2 a f w w2 B D by rw [hw2,hD];exact ⟨(zU HAB).below ((Below.refl _ _).alloc (Nat.le_refl _) _),heap_alloc_new _ _⟩);rw [←hw2,←hD];have R:=zH (show (∀ W:World,FI A n cap (some ⟨b,off,none⟩) n2 cap2 a f w W B D→W.cell? ⟨D,0,none⟩=some (S f.name))∧(∀ W:World,FI A n cap (some ⟨b,off,none⟩) n2 cap2 a f w W B D→W.cell? ⟨D,1,none⟩=some (I f.dict))∧(∀ W:World,FI A n cap (some ⟨b,off,none⟩) n2 cap2 a f w W B D→W.cell? ⟨D,2,none⟩=some (I f.size))∧(∀ W:World,FI A n cap (some ⟨b,off,none⟩) n2 cap2 a f w W B D→W.cell? ⟨D,3,none⟩=some (I f.sum))∧(∀ W:World,FI A n cap (some ⟨b,off,none⟩) n2 cap2 a f w W B D→W.cell? ⟨D,4,none⟩=some (S f.block)) from ⟨fun W h=>h.x.1,fun W h=>h.x.2.1,fun W h=>h.x.2.2.1,fun W h=>h.x.2.2.2.1,fun W h=>h.x.2.2.2.2⟩);clear hw2 hD q0 q1 x0 x1 x2 x3 x4;obtain ⟨r0,r1,r2,r3,r4⟩:=zU R
     go_region_held3 (fun W=>FI A n cap (some ⟨b,off,none⟩) n2 cap2 a f w W B D) (first | exact (zU HFI).drew | assumption | exact FI.drew (by assumption) | exact FI.below (by assumption) (by assumption))
      ((first
       | (go_at_call 96;refine (textBytes_any _ _ (by first | exact hnm | exact hbk)).mono ?_;rintro e wz ⟨rfl,hbz⟩)
       | (go_at_call 95;refine (numBytes_i _ _ (by first | exact g2 | exact g4 | exact g6) (by first | exact i2 | exact i4 | exact i6)).mono ?_;rintro e wz ⟨rfl,hbz⟩)))
     all_goals
      have hfin:FI A n cap (some ⟨b,off,none⟩) n2 cap2 a f w _ B D:=(by assumption)
      have HFIN:=zH hfin.ab;go_wp2_with fail;go_roundw
      case rel=>exact ⟨j+1,by omega,by go_num,by rw [zU HS];first | rfl | simp,zU HFIN⟩
      case measure=>simp [intOf];omega
    ·have hjj:j=a.fs.length:=by omega
     have hfin:imgF a j=im:=by rw [hjj,imgF_all];exact (zU HIM).symm
     rw [hfin];have z1:¬ (j:Int)<(n2:Int):=by omega
     have z2:decide ((j:Int)<(n2:Int))=false:=by simp;omega
     clear hfin hjj hAB hlf;go_wp2_with fail;go_ret;exact ⟨rfl,(zU HAB).bel⟩
set_option maxHeartbeats 4000000 in
set_option maxRecDepth 100000 in
theorem saveOf_any (A:Option Addr) (n cap:Nat) (A2:Option Addr) (n2 cap2:Nat) (a:Arc) (w:World) (h:ArcIn w A n A2 n2 a) (hz:ArcSz a) :
  Calls Tryz.prog 22 #[arcV A n cap A2 n2 cap2] w fun e w'=>e = .returned (.tuple #[S (save a).1,I (save a).2])∧Below w.heap.size w w':=by
 obtain ⟨B,hB⟩:∃ B,B=w.heap.size:=⟨_,rfl⟩
 obtain ⟨w0,hw0⟩:∃ w0,w0=w.alloc (.cells #[.slice A n cap,.slice A2 n2 cap2] 33):=⟨_,rfl⟩
 have H0:=zH (show ABox A n cap A2 n2 cap2 a w w0 B by rw [hw0,hB];exact ABox.new h cap cap2);have CK:∀ W,ABox A n cap A2 n2 cap2 a w W B→Calls Tryz.prog 32 #[arcV A n cap A2 n2 cap2] W fun e w'=>e = .returned (I (checkA a))∧Below W.heap.size W w':=fun W hW=>checkArchive_any A n cap A2 n2 cap2 a W hW.i hz;obtain ⟨r,hr⟩:∃ r,r=save a:=⟨_,rfl⟩
 rw [←hr,←hB];unfold save at hr;have HB:=zH hB;have HW0:=zH hw0;clear hB hw0 h hz
 by_cases hck:checkA a≠0
 ·rw [if_pos hck] at hr;obtain ⟨c,hc⟩:∃ c,c=checkA a:=⟨_,rfl⟩
  rw [←hc] at CK hr hck;have CK:=zH CK;have d1:((c:Int) != 0)=true:=by rw [bne_iff_ne];omega
  have d2:((c:Int) == 0)=false:=by rw [beq_eq_false_iff_ne];omega
  have d3:¬ (c:Int)=0:=by omega
  subst hr;clear hck hc;go_enter Tryz.func22,Tryz.ntmps22;go_upto_region 1 with fail
  rw [←zU HW0,←zU HB];obtain ⟨q0,q1⟩:=(zU H0).c;go_wp2_with fail;refine (zU CK _ (zU H0)).mono ?_;rintro e w1 ⟨rfl,hb1⟩;have H1:=zH ((zU H0).below hb1);clear hb1 q0 q1;go_wp2_with fail;go_ret2;exact ⟨rfl,(zU H1).bel⟩
 have hck0:checkA a=0:=Decidable.not_not.1 hck;have hra:=(check_iff a).1 hck0;rw [if_neg hck] at hr;rw [hck0] at CK;have CK:=zH CK;have CI:=zH (fun (W:World) (hW:ABox A n cap A2 n2 cap2 a w W B)=>imageOf_any A n cap A2 n2 cap2 a W hW.i hra);have hil:=image_len hra;obtain ⟨im,him⟩:∃ im,im=imageOf a:=⟨_,rfl⟩
 have CI:Hid (∀ W,ABox A n cap A2 n2 cap2 a w W B→Calls Tryz.prog 59 #[arcV A n cap A2 n2 cap2] W fun e w'=>e = .returned (S im)∧Below W.heap.size W w'):=by rw [him];exact CI
 rw [←him] at hr hil;clear hck hck0 hra him
 by_cases hb:16384<im.length
 ·rw [if_pos hb] at hr;have d1:(16384:Int)<(im.length:Int):=by omega
  subst hr;clear hb;go_enter Tryz.func22,Tryz.ntmps22;go_upto_region 1 with fail
  rw [←zU HW0,←zU HB];obtain ⟨q0,q1⟩:=(zU H0).c;go_wp2_with fail;refine (zU CK _ (zU H0)).mono ?_;rintro e w1 ⟨rfl,hb1⟩;have H1:=zH ((zU H0).below hb1);clear hb1 q0 q1;obtain ⟨q0,q1⟩:=(zU H1).c;go_wp2_with fail;refine (zU CI _ (zU H1)).mono ?_;rintro e w2 ⟨rfl,hb2⟩;have H2:=zH ((zU H1).below hb2);clear hb2 q0 q1;go_wp2_with fail;go_ret2;exact ⟨rfl,(zU H2).bel⟩
 ·rw [if_neg hb] at hr;have d1:¬ (16384:Int)<(im.length:Int):=by omega
  subst hr;clear hb;go_enter Tryz.func22,Tryz.ntmps22;go_upto_region 1 with fail
  rw [←zU HW0,←zU HB];obtain ⟨q0,q1⟩:=(zU H0).c;go_wp2_with fail;refine (zU CK _ (zU H0)).mono ?_;rintro e w1 ⟨rfl,hb1⟩;have H1:=zH ((zU H0).below hb1);clear hb1 q0 q1;obtain ⟨q0,q1⟩:=(zU H1).c;go_wp2_with fail;refine (zU CI _ (zU H1)).mono ?_;rintro e w2 ⟨rfl,hb2⟩;have H2:=zH ((zU H1).below hb2);clear hb2 q0 q1;go_wp2_with fail;go_ret2;exact ⟨rfl,(zU H2).bel⟩
end Go.Proofs.YtjpgoeimclipjaaGreat
namespace Go.Proofs.YtjpgoeimclipjaaGreat
open Go.RowKit Go.Lib Pl
attribute [local go_sem] ext_list app_list
def EyeAt (W:World) (p:Nat) (e:Eye):Prop:=W.heap[p]? = some (.cells #[S e.1,.bool e.2] 102 (0,0))
section
variable {W W' : World} {p : Nat} {e : Eye}
theorem EyeAt.lt (h:EyeAt W p e):p<W.heap.size:=(Array.getElem?_eq_some_iff.1 h).1
theorem EyeAt.c (h:EyeAt W p e):W.cell? ⟨p,0,none⟩=some (S e.1)∧W.cell? ⟨p,1,none⟩=some (.bool e.2)∧W.frozen? ⟨p,0,none⟩=false∧W.frozen? ⟨p,1,none⟩=false:=by
 refine ⟨?_,?_,by simp [World.frozen?,show W.heap[p]? = _ from h],by simp [World.frozen?,show W.heap[p]? = _ from h]⟩ <;> (rw [cell_of_row _ _ _ _ _ _ h];rfl)
theorem EyeAt.below (h:EyeAt W p e) (hb:Below W.heap.size W W'):EyeAt W' p e:=(hb.block _ h.lt).trans h
theorem EyeAt.set0 (h:EyeAt W p e) (s:Bytes):EyeAt (W.setCell ⟨p,0,none⟩ (S s)) p (s,e.2)∧W.grownBy (W.setCell ⟨p,0,none⟩ (S s)) (some p):=by
 have hr:W.setCell ⟨p,0,none⟩ (S s)=W.setRow p #[S s,.bool e.2]:=by rw [setCell_eq_setRow W p 0 _ _ _ _ h];rfl
 rw [hr];exact ⟨setRow_heap _ _ _ _ _ _ h,rfl,rfl,rfl,by simp [World.setRow],fun k hk hne=>setRow_other W p k _ (fun e=>hne (by rw [e]))⟩
theorem EyeAt.set1 (h:EyeAt W p e) (b:Bool):EyeAt (W.setCell ⟨p,1,none⟩ (.bool b)) p (e.1,b)∧W.grownBy (W.setCell ⟨p,1,none⟩ (.bool b)) (some p):=by
 have hr:W.setCell ⟨p,1,none⟩ (.bool b)=W.setRow p #[S e.1,.bool b]:=by rw [setCell_eq_setRow W p 1 _ _ _ _ h];rfl
 rw [hr];exact ⟨setRow_heap _ _ _ _ _ _ h,rfl,rfl,rfl,by simp [World.setRow],fun k hk hne=>setRow_other W p k _ (fun e=>hne (by rw [e]))⟩
theorem EyeAt.set10 (h:EyeAt W p e) (s:Bytes) (b:Bool):EyeAt ((W.setCell ⟨p,1,none⟩ (.bool b)).setCell ⟨p,0,none⟩ (S s)) p (s,b)∧W.grownBy ((W.setCell ⟨p,1,none⟩ (.bool b)).setCell ⟨p,0,none⟩ (S s)) (some p):=by
 obtain ⟨h1,g1⟩:=h.set1 b;obtain ⟨h2,g2⟩:=h1.set0 s;exact ⟨h2,grown_trans g1 g2⟩
end
set_option maxHeartbeats 2000000 in
set_option maxRecDepth 100000 in
theorem eyeNum_any (p:Nat) (e:Eye) (w:World) (h:EyeAt w p e) (hs:e.1.length≤9223372036854775807) :
  Calls Tryz.prog 68 #[.pointer (some ⟨p,0,none⟩)] w fun r w'=>r = .returned (I (eyeN e).1)∧EyeAt w' p (eyeN e).2∧w.grownBy w' (some p):=by
 obtain ⟨s,b⟩:=e;have c1:=numFrom_any s w hs;have H:=zH h;obtain ⟨q0,q1,_,_⟩:=h.c;simp only at q0 q1
 have HS:=zH (fun (W:World) (hb:Below w.heap.size w W) (t:Bytes) (c:Bool)=>show EyeAt ((W.setCell ⟨p,1,none⟩ (.bool c)).setCell ⟨p,0,none⟩ (S t)) p (t,c)∧w.grownBy ((W.setCell ⟨p,1,none⟩ (.bool c)).setCell ⟨p,0,none⟩ (S t)) (some p) from by
  obtain ⟨h1,h2⟩:=(h.below hb).set10 t c;exact ⟨h1,grown_trans (grown_of_below hb _) h2⟩)
 clear h;cases ht:take s with
 | none =>
  have e1:eyeN (s,b)=(0,([],true)):=by unfold eyeN;simp only;rw [ht]
  rw [e1];rw [show FromV s = .tuple #[I 0,S [],.bool false] by unfold FromV;rw [ht]] at c1;have C1:=zH c1;clear c1 ht e1 hs;cases b
  all_goals
   go_enter Tryz.func68,Tryz.ntmps68;go_wp2_with fail;refine (zU C1).mono ?_;rintro r w1 ⟨rfl,hb1⟩;obtain ⟨y0,y1,y2,y3⟩:=((zU H).below hb1).c;simp only at y0 y1;have HF:=zH (zU HS w1 hb1 [] true);clear hb1 q0 q1;go_wp2_with fail;go_ret;exact ⟨rfl,zU HF⟩
 | some x =>
  obtain ⟨k,t⟩:=x;have e1:eyeN (s,b)=(k,(t,b)):=by unfold eyeN;simp only;rw [ht]
  rw [e1];rw [show FromV s = .tuple #[I k,S t,.bool true] by unfold FromV;rw [ht]] at c1;have C1:=zH c1;clear c1 ht e1 hs;cases b
  all_goals
   go_enter Tryz.func68,Tryz.ntmps68;go_wp2_with fail;refine (zU C1).mono ?_;rintro r w1 ⟨rfl,hb1⟩;obtain ⟨y0,y1,y2,y3⟩:=((zU H).below hb1).c;simp only at y0 y1;have HF0:=zH (zU HS w1 hb1 t false);have HF1:=zH (zU HS w1 hb1 t true);clear hb1 q0 q1;go_wp2_with fail;go_ret
   first
    | exact ⟨rfl,zU HF0⟩
    | exact ⟨rfl,zU HF1⟩
set_option maxHeartbeats 2000000 in
set_option maxRecDepth 100000 in
theorem eyeText_any (p:Nat) (e:Eye) (w:World) (h:EyeAt w p e) (hs:e.1.length≤4611686018427387904) :
  Calls Tryz.prog 69 #[.pointer (some ⟨p,0,none⟩)] w fun r w'=>r = .returned (S (eyeT e).1)∧EyeAt w' p (eyeT e).2∧w.grownBy w' (some p):=by
 have c1:=eyeNum_any p e w h (by omega)
 have hl:(eyeN e).2.1.length≤4611686018427387904:=by
  unfold eyeN;cases ht:take e.1 with
  | none=>simp
  | some x =>
   obtain ⟨k,t⟩:=x;have:=take_len ht;simp only;omega
 have he:eyeT e=if (eyeN e).2.1.length<(eyeN e).1 then ([],((eyeN e).2.1,true)) else ((eyeN e).2.1.take (eyeN e).1,((eyeN e).2.1.drop (eyeN e).1,(eyeN e).2.2)):=rfl
 rw [he];obtain ⟨k,hk⟩:∃ k,k=(eyeN e).1:=⟨_,rfl⟩
 obtain ⟨t,ht⟩:∃ t,t=(eyeN e).2.1:=⟨_,rfl⟩
 obtain ⟨b,hb⟩:∃ b,b=(eyeN e).2.2:=⟨_,rfl⟩
 have hee:(eyeN e).2=(t,b):=by rw [ht,hb]
 rw [hee] at c1;rw [←hk] at c1;rw [←hk,←ht,←hb];rw [←ht] at hl;have C1:=zH c1;clear he hk ht hb hee c1 h hs
 by_cases hn:t.length<k
 ·rw [if_pos hn];have z1:(t.length:Int)<(k:Int):=by omega
  clear hn;go_enter Tryz.func69,Tryz.ntmps69;go_wp2_with fail;refine (zU C1).mono ?_;rintro r w1 ⟨rfl,h1,g1⟩;obtain ⟨y0,y1,y2,y3⟩:=h1.c;simp only at y0 y1;have HF:=zH (show EyeAt (w1.setCell ⟨p,1,none⟩ (.bool true)) p (t,true)∧w.grownBy (w1.setCell ⟨p,1,none⟩ (.bool true)) (some p) from ⟨(h1.set1 true).1,grown_trans g1 (h1.set1 true).2⟩);clear h1 g1;go_wp2_with fail;go_ret;exact ⟨rfl,zU HF⟩
 ·rw [if_neg hn];have z1:¬ (t.length:Int)<(k:Int):=by omega
  have z2:k≤t.length:=by omega
  have z3:(k:Int)≤(t.length:Int):=by omega
  have hd:t.drop k=Pl.slice t k t.length:=by unfold Pl.slice;rw [List.take_of_length_le (Nat.le_refl _)]
  have htk:t.take k=Pl.slice t 0 k:=by unfold Pl.slice;simp
  rw [hd,htk];clear hn hd htk;go_enter Tryz.func69,Tryz.ntmps69;go_wp2_with fail;refine (zU C1).mono ?_;rintro r w1 ⟨rfl,h1,g1⟩;obtain ⟨y0,y1,y2,y3⟩:=h1.c;simp only at y0 y1;have HF:=zH (show EyeAt (w1.setCell ⟨p,0,none⟩ (S (Pl.slice t k t.length))) p (Pl.slice t k t.length,b)∧w.grownBy (w1.setCell ⟨p,0,none⟩ (S (Pl.slice t k t.length))) (some p) from ⟨(h1.set0 _).1,grown_trans g1 (h1.set0 _).2⟩);clear h1 g1;go_wp2_with fail;go_ret;exact ⟨rfl,zU HF⟩
end Go.Proofs.YtjpgoeimclipjaaGreat
namespace Go.Proofs.YtjpgoeimclipjaaGreat
open Go.RowKit Go.Lib Pl
attribute [local go_sem] ext_list app_list
theorem eyeN_len (e:Eye):(eyeN e).2.1.length≤e.1.length:=by
 unfold eyeN;cases h:take e.1 with
 | none=>simp
 | some x =>
  obtain ⟨k,t⟩:=x;have:=take_len h;simp only;omega
theorem eyeN_max (e:Eye):(eyeN e).1≤2147483647:=by
 unfold eyeN;cases h:take e.1 with
 | none=>simp
 | some x=>obtain ⟨k,t⟩:=x;exact (take_some h).2
theorem eyeT_len (e:Eye):(eyeT e).1.length≤e.1.length∧(eyeT e).2.1.length≤e.1.length:=by
 have:=eyeN_len e;unfold eyeT
 split
 ·exact ⟨by simp,this⟩
 ·refine ⟨?_,?_⟩
  ·simp only [List.length_take];omega
  ·simp only [List.length_drop];omega
theorem eyeL_stop {α:Type} (one:Eye→α×Eye) (m n:Nat) (l:List α) (e:Eye) (h:e.2=true∨m<l.length):eyeL one m n l e=(l,e):=by
 cases n with
 | zero=>rfl
 | succ n=>rw [eyeL,if_pos h]
theorem eyeL_go {α:Type} (one:Eye→α×Eye) (m n:Nat) (l:List α) (e:Eye) (h:¬ (e.2=true∨m<l.length)):eyeL one m (n+1) l e=eyeL one m n (l++[(one e).1]) (one e).2:=by rw [eyeL,if_neg h]
structure AFr (w W:World) (B:Nat) (v1 v2:Value) (x:Arc) (e:Eye):Prop where
 z:W.heap[B]? = some (.cells #[.slice none 0 0,.slice none 0 0] 33 (0,0))
 p:W.heap[B+1]? = some (.cells #[v1,v2] 33 (0,0))
 q:EyeAt W (B+2) e
 o:OwnA W (B+3) v1 v2 x
 bel:Below B w W
section
variable {w W W' : World} {B : Nat} {v1 v2 : Value} {x : Arc} {e : Eye}
theorem AFr.lt (h:AFr w W B v1 v2 x e):B+2<W.heap.size:=h.q.lt
theorem AFr.below (h:AFr w W B v1 v2 x e) (hb:Below W.heap.size W W'):AFr w W' B v1 v2 x e:=by
 have:=h.lt;exact ⟨(hb.block _ (by omega)).trans h.z,(hb.block _ (by omega)).trans h.p,h.q.below hb,h.o.below hb,h.bel.trans (hb.mono (by omega))⟩
theorem AFr.drew (h:AFr w W B v1 v2 x e):AFr w W.drew B v1 v2 x e:=h.below (Below.refl _ _).drew
theorem AFr.alloc (h:AFr w W B v1 v2 x e) (ob:Obj):AFr w (W.alloc ob) B v1 v2 x e:=h.below ((Below.refl _ _).alloc (Nat.le_refl _) _)
theorem AFr.own1 (h:AFr w W B v1 v2 x e) {j:Nat} (hj:j<B+3):some j≠v1.ownBlock:=fun e2=>by have:=(h.o.s.lt j e2.symm).1;omega
theorem AFr.own2 (h:AFr w W B v1 v2 x e) {j:Nat} (hj:j<B+3):some j≠v2.ownBlock:=fun e2=>by have:=(h.o.f.lt j e2.symm).1;omega
theorem AFr.eye (h:AFr w W B v1 v2 x e) {e':Eye} (hq:EyeAt W' (B+2) e') (hg:W.grownBy W' (some (B+2))):AFr w W' B v1 v2 x e':=by
 have:=h.lt
 exact ⟨(hg.block B (by omega) (by simp)).trans h.z,(hg.block (B+1) (by omega) (by simp)).trans h.p,hq,
  ⟨h.o.s.kept hg (.inr (fun e2=>h.own1 (j:=B+2) (by omega) e2.symm)),h.o.f.kept hg (.inr (fun e2=>h.own2 (j:=B+2) (by omega) e2.symm))⟩,h.bel.grown hg (by omega) (fun k hk=>by injection hk with hk;omega)⟩
theorem AFr.c (h:AFr w W B v1 v2 x e):W.cell? ⟨B+1,0,none⟩=some v1∧W.cell? ⟨B+1,1,none⟩=some v2∧W.frozen? ⟨B+1,0,none⟩=false∧W.frozen? ⟨B+1,1,none⟩=false:=two_cells h.p
theorem AFr.pushS (h:AFr w W B v1 v2 x e) {v1':Value} {d:Bytes} (hg:W.grownBy W' v1.ownBlock) (hs:W'.ownsRow (B+3) 9 1 v1' (x.ds.length+1) ((x.ds++[d]).map strS)) :
  AFr w (W'.setCell ⟨B+1,0,none⟩ v1') B v1' v2 ⟨x.ds++[d],x.fs⟩ e∧W'.heap[B+1]? = some (.cells #[v1,v2] 33 (0,0)):=by
 have hl:=h.lt;have hP':W'.heap[B+1]? = some (.cells #[v1,v2] 33 (0,0)):=(hg.block _ (by omega) (h.own1 (by omega))).trans h.p;have hrow:W'.setCell ⟨B+1,0,none⟩ v1'=W'.setRow (B+1) #[v1',v2]:=by rw [setCell_eq_setRow W' (B+1) 0 _ _ _ _ hP'];rfl
 rw [hrow]
 have hoth:∀ j,j<B+3→j≠B+1→(W'.setRow (B+1) #[v1',v2]).heap[j]? = W.heap[j]?:=fun j hj hne=>by
  rw [setRow_other W' (B+1) j _ hne];exact hg.block j (by omega) (h.own1 hj)
 have hf':W'.ownsRow (B+3) 61 5 v2 x.fs.length (filsCells x.fs):=h.o.f.kept hg (own_apart h.o.f h.o.s (by decide));refine ⟨⟨(hoth B (by omega) (by omega)).trans h.z,setRow_heap _ _ _ _ _ _ hP',(hoth (B+2) (by omega) (by omega)).trans h.q,⟨?_,own_setRow hf' (fun k hk=>by have:=(hf'.lt k hk).1;omega) _⟩,?_⟩,hP'⟩
 ·have:(x.ds++[d]).length=x.ds.length+1:=by simp
  show (W'.setRow (B+1) _).ownsRow (B+3) 9 1 v1' (x.ds++[d]).length _;rw [this];exact own_setRow hs (fun k hk=>by have:=(hs.lt k hk).1;omega) _
 ·exact below_setRow (h.bel.grown hg (by omega) (fun k hk=>by have:=(h.o.s.lt k hk).1;omega)) (by omega) _
theorem AFr.pushF (h:AFr w W B v1 v2 x e) {v2':Value} {f:Fil} (hg:W.grownBy W' v2.ownBlock) (hs:W'.ownsRow (B+3) 61 5 v2' (x.fs.length+1) (filsCells (x.fs++[f]))) :
  AFr w (W'.setCell ⟨B+1,1,none⟩ v2') B v1 v2' ⟨x.ds,x.fs++[f]⟩ e∧W'.heap[B+1]? = some (.cells #[v1,v2] 33 (0,0)):=by
 have hl:=h.lt;have hP':W'.heap[B+1]? = some (.cells #[v1,v2] 33 (0,0)):=(hg.block _ (by omega) (h.own2 (by omega))).trans h.p;have hrow:W'.setCell ⟨B+1,1,none⟩ v2'=W'.setRow (B+1) #[v1,v2']:=by rw [setCell_eq_setRow W' (B+1) 1 _ _ _ _ hP'];rfl
 rw [hrow]
 have hoth:∀ j,j<B+3→j≠B+1→(W'.setRow (B+1) #[v1,v2']).heap[j]? = W.heap[j]?:=fun j hj hne=>by
  rw [setRow_other W' (B+1) j _ hne];exact hg.block j (by omega) (h.own2 hj)
 have hd':W'.ownsRow (B+3) 9 1 v1 x.ds.length (x.ds.map strS):=h.o.s.kept hg (own_apart h.o.s h.o.f (by decide));refine ⟨⟨(hoth B (by omega) (by omega)).trans h.z,setRow_heap _ _ _ _ _ _ hP',(hoth (B+2) (by omega) (by omega)).trans h.q,⟨own_setRow hd' (fun k hk=>by have:=(hd'.lt k hk).1;omega) _,?_⟩,?_⟩,hP'⟩
 ·have:(x.fs++[f]).length=x.fs.length+1:=by simp
  show (W'.setRow (B+1) _).ownsRow (B+3) 61 5 v2' (x.fs++[f]).length _;rw [this];exact own_setRow hs (fun k hk=>by have:=(hs.lt k hk).1;omega) _
 ·exact below_setRow (h.bel.grown hg (by omega) (fun k hk=>by have:=(h.o.f.lt k hk).1;omega)) (by omega) _
end
theorem eyeText_enters (args:Array Value) (w:World):(callFunc 69 args).run Tryz.prog w = .ok (.enter 69 args) w :=
 enters Tryz.func69 (by kernel_rfl) (by kernel_rfl) args w
set_option maxRecDepth 100000 in
theorem step_call1 {w:World} {ops:Array Oper} {o:Oper} {a:Act} {K:Act→World→Prop} {Q:Exit→Act→World→Prop} {E:Prop} (hgd:o.guard=none) (f:Nat) (x1:Nat) (ts:Array TypeId)
  (ho:o.op = .call { callee:=.value (.func f),args:=#[.tmp x1],argTypes:=ts }) (v1:Value) (h1:a.tmps[x1]?.getD undef=v1)
  (hcall:∀ vals w,(callFunc f vals).run Tryz.prog w = .ok (.enter f vals) w) (h:Calls Tryz.prog f #[v1] w fun e w'=>∃ v,e = .returned v∧K (a.put o.dst v) w') :
  if Region.wanted o (yielded ops a.tmps)=true then Oper.wp Tryz.prog o a w K Q else E:=by
 have hw:Region.wanted o (yielded ops a.tmps)=true:=by simp [Region.wanted,hgd]
 rw [if_pos hw]
 have hm:=h.mono (R':=fun e w'=>match e,w' with
  | .returned v,w''=>K (a.put o.dst v) w''
  | .panicked chain,w''=>Q (.panic chain) a w''
  | .outgrown,_=>LetsOut Q) (fun e w' ⟨v,he,hk⟩=>by subst he;exact hk)
 unfold Oper.wp execOp;simp [ho,resolve,invoke,go_sem,h1];rw [hcall];exact hm
theorem AFr.new (w:World) (s:Bytes):AFr w (((w.alloc (.cells #[.slice none 0 0,.slice none 0 0] 33)).alloc (.cells #[.slice none 0 0,.slice none 0 0] 33)).alloc (.cells #[S s,.bool false] 102)) w.heap.size (.slice none 0 0) (.slice none 0 0) arc0 (s,false):=by
 have e1:(w.alloc (.cells #[.slice none 0 0,.slice none 0 0] 33)).heap.size=w.heap.size+1:=by simp
 have h1:=heap_alloc_new w (.cells #[.slice none 0 0,.slice none 0 0] 33);have h2:=heap_alloc_new (w.alloc (.cells #[.slice none 0 0,.slice none 0 0] 33)) (.cells #[.slice none 0 0,.slice none 0 0] 33);rw [e1] at h2;have e2:((w.alloc (.cells #[.slice none 0 0,.slice none 0 0] 33)).alloc (.cells #[.slice none 0 0,.slice none 0 0] 33)).heap.size=w.heap.size+2:=by simp
 have h3:=heap_alloc_new ((w.alloc (.cells #[.slice none 0 0,.slice none 0 0] 33)).alloc (.cells #[.slice none 0 0,.slice none 0 0] 33)) (.cells #[S s,.bool false] 102);rw [e2] at h3;refine ⟨?_,?_,h3,⟨World.ownsRow_nil _ _ _ _,World.ownsRow_nil _ _ _ _⟩,(((Below.refl _ _).alloc (Nat.le_refl _) _).alloc (by simp) _).alloc (by simp;omega) _⟩
 ·rw [Below.heap_alloc _ _ _ (by rw [e2];omega),Below.heap_alloc _ _ _ (by rw [e1];omega)];exact h1
 ·rw [Below.heap_alloc _ _ _ (by rw [e2];omega)];exact h2
theorem AFr.fin {w W:World} {B:Nat} {v1 v2:Value} {x:Arc} {e:Eye} (h:AFr w W B v1 v2 x e) (hw:B=w.heap.size):(W.setRow B #[v1,v2]).heap[B]? = some (.cells #[v1,v2] 33 (0,0))∧OwnA (W.setRow B #[v1,v2]) B v1 v2 x∧Below B w (W.setRow B #[v1,v2]) :=
 ⟨setRow_heap _ _ _ _ _ _ h.z,⟨own_mono (own_setRow h.o.s (fun k hk=>by have:=(h.o.s.lt k hk).1;omega) _) (by omega),own_mono (own_setRow h.o.f (fun k hk=>by have:=(h.o.f.lt k hk).1;omega) _) (by omega)⟩,below_setRow h.bel (Nat.le_refl _) _⟩
theorem AFr.fin0 {w W:World} {B:Nat} {v1 v2:Value} {x:Arc} {e:Eye} (h:AFr w W B v1 v2 x e):(W.setRow B #[.slice none 0 0,.slice none 0 0]).heap[B]? = some (.cells #[.slice none 0 0,.slice none 0 0] 33 (0,0))∧Below B w (W.setRow B #[.slice none 0 0,.slice none 0 0]) :=
 ⟨setRow_heap _ _ _ _ _ _ h.z,below_setRow h.bel (Nat.le_refl _) _⟩
def FromRes (base:Nat) (r:Option Arc) (e:Ending) (w':World):Prop:=∃ v1 v2,e = .returned (.tuple #[.agg #[v1,v2],.bool r.isSome])∧OwnA w' base v1 v2 (r.getD arc0)
theorem from_two (w:World):(((w.alloc (.cells #[.slice none 0 0,.slice none 0 0] 33)).alloc (.cells #[.slice none 0 0,.slice none 0 0] 33)).setRow w.heap.size #[.slice none 0 0,.slice none 0 0]).heap[w.heap.size]? = some (.cells #[.slice none 0 0,.slice none 0 0] 33 (0,0))∧Below w.heap.size w (((w.alloc (.cells #[.slice none 0 0,.slice none 0 0] 33)).alloc (.cells #[.slice none 0 0,.slice none 0 0] 33)).setRow w.heap.size #[.slice none 0 0,.slice none 0 0]):=by
 have e1:(w.alloc (.cells #[.slice none 0 0,.slice none 0 0] 33)).heap.size=w.heap.size+1:=by simp
 have h0:((w.alloc (.cells #[.slice none 0 0,.slice none 0 0] 33)).alloc (.cells #[.slice none 0 0,.slice none 0 0] 33)).heap[w.heap.size]? = some (.cells #[.slice none 0 0,.slice none 0 0] 33 (0,0)):=by
  rw [Below.heap_alloc _ _ _ (by rw [e1];omega)];exact heap_alloc_new w _
 exact ⟨setRow_heap _ _ _ _ _ _ h0,below_setRow (((Below.refl _ _).alloc (Nat.le_refl _) _).alloc (by simp) _) (Nat.le_refl _) _⟩
structure AFd (w W:World) (B D:Nat) (v1 v2:Value) (x:Arc) (e:Eye) (cs:Array Value):Prop where
 a:AFr w W B v1 v2 x e
 d:W.heap[D]? = some (.cells cs 61 (0,0))
 bd:B+2<D
 n1:∀ k,v1.ownBlock=some k→k<D
 n2:∀ k,v2.ownBlock=some k→k<D
section
variable {w W W' : World} {B D : Nat} {v1 v2 : Value} {x : Arc} {e : Eye} {cs : Array Value}
theorem AFd.lt (h:AFd w W B D v1 v2 x e cs):D<W.heap.size:=(Array.getElem?_eq_some_iff.1 h.d).1
theorem AFd.new (h:AFr w W B v1 v2 x e) (cs:Array Value):AFd w ((W.alloc (.cells zeroF 61)).setRow W.heap.size cs) B W.heap.size v1 v2 x e cs:=by
 have hb:Below W.heap.size W ((W.alloc (.cells zeroF 61)).setRow W.heap.size cs):=below_setRow ((Below.refl _ _).alloc (Nat.le_refl _) _) (Nat.le_refl _) _;exact ⟨h.below hb,setRow_heap _ _ _ _ _ _ (heap_alloc_new _ _),h.lt,fun k hk=>(h.o.s.lt k hk).2,fun k hk=>(h.o.f.lt k hk).2⟩
theorem AFd.eye (h:AFd w W B D v1 v2 x e cs) {e':Eye} (hq:EyeAt W' (B+2) e') (hg:W.grownBy W' (some (B+2))):AFd w W' B D v1 v2 x e' cs:=by
 have:=h.bd;exact ⟨h.a.eye hq hg,(hg.block D h.lt (fun e=>by injection e with e;omega)).trans h.d,h.bd,h.n1,h.n2⟩
theorem AFd.set (h:AFd w W B D v1 v2 x e cs) (k:Nat) (v:Value):AFd w (W.setCell ⟨D,k,none⟩ v) B D v1 v2 x e (cs.setIfInBounds k v):=by
 have hbd:=h.bd;have hr:W.setCell ⟨D,k,none⟩ v=W.setRow D (cs.setIfInBounds k v):=setCell_eq_setRow W D k _ _ _ _ h.d;rw [hr];have ho:∀ j,j≠D→(W.setRow D (cs.setIfInBounds k v)).heap[j]? = W.heap[j]?:=fun j hj=>setRow_other W D j _ hj;refine ⟨⟨(ho _ (by omega)).trans h.a.z,(ho _ (by omega)).trans h.a.p,(ho _ (by omega)).trans h.a.q,⟨own_setRow h.a.o.s (fun k hk=>by have:=h.n1 k hk;omega) _,own_setRow h.a.o.f (fun k hk=>by have:=h.n2 k hk;omega) _⟩,below_setRow h.a.bel (by omega) _⟩,setRow_heap _ _ _ _ _ _ h.d,hbd,h.n1,h.n2⟩
end
def frW (w:World):World:=(w.alloc (.cells #[.slice none 0 0,.slice none 0 0] 33)).alloc (.cells #[.slice none 0 0,.slice none 0 0] 33)
theorem frW_z (w:World):(frW w).heap[w.heap.size]? = some (.cells #[.slice none 0 0,.slice none 0 0] 33 (0,0)):=by
 have e1:(w.alloc (.cells #[.slice none 0 0,.slice none 0 0] 33)).heap.size=w.heap.size+1:=by simp
 unfold frW;rw [Below.heap_alloc _ _ _ (by rw [e1];omega)];exact heap_alloc_new w _
set_option maxHeartbeats 8000000 in
set_option maxRecDepth 100000 in
theorem archiveFrom_any (s:Bytes) (w:World) (hs:s.length≤140737488355328) :
  Calls Tryz.prog 25 #[S s] w fun e w'=>FromRes w.heap.size (refArc s) e w'∧Below w.heap.size w w':=by
 obtain ⟨r,hr⟩:∃ r,r=refArc s:=⟨_,rfl⟩
 rw [←hr];unfold refArc at hr;have h2:=from_two w;have H2:=zH h2;have HZ:=zH (frW_z w);clear h2
 by_cases h5:s.take 5≠pressB
 ·rw [if_pos h5] at hr;subst hr
  by_cases hl:s.length<5
  ·have z1:(s.length:Int)<5:=by omega
   have z2:decide ((s.length:Int)<5)=true:=by simp;omega
   clear h5 hl hs;go_enter Tryz.func25,Tryz.ntmps25;go_wp2_with (refine wpList_store_row rfl 33 (.tmp 2) (.tmp 17) rfl w.heap.size #[.slice none 0 0,.slice none 0 0] rfl rfl 33 _ (zU HZ) sizeArc rfl all_nil2 ?_);refine bodyPost_ret (results_row_tmp rfl _ _ w.heap.size 33 #[.slice none 0 0,.slice none 0 0] (0,0) _ rfl (zU H2).1 Tryz.underlying33 rfl sizeArc) rfl ⟨⟨_,_,rfl,?_⟩,(zU H2).2⟩;exact OwnA.nil _ _
  ·have z1:¬ (s.length:Int)<5:=by omega
   have z2:decide ((s.length:Int)<5)=false:=by simp;omega
   have z3:5≤s.length:=by omega
   have e5:Pl.slice s 0 5=s.take 5:=by unfold Pl.slice;simp
   have n1:(s.take 5 == [112,114,101,115,115])=false:=by rw [beq_eq_false_iff_ne];exact h5
   have n2:(s.take 5 != [112,114,101,115,115])=true:=by rw [bne_iff_ne];exact h5
   have n3:¬ s.take 5=[112,114,101,115,115]:=h5;rw [←e5] at n1 n2 n3;clear h5 hl hs e5;go_enter Tryz.func25,Tryz.ntmps25;go_wp2_with (refine wpList_store_row rfl 33 (.tmp 2) (.tmp 17) rfl w.heap.size #[.slice none 0 0,.slice none 0 0] rfl rfl 33 _ (zU HZ) sizeArc rfl all_nil2 ?_);refine bodyPost_ret (results_row_tmp rfl _ _ w.heap.size 33 #[.slice none 0 0,.slice none 0 0] (0,0) _ rfl (zU H2).1 Tryz.underlying33 rfl sizeArc) rfl ⟨⟨_,_,rfl,?_⟩,(zU H2).2⟩;exact OwnA.nil _ _
 ·rw [if_neg h5] at hr;have h50:s.take 5=pressB:=Decidable.not_not.1 h5
  have z3:5≤s.length:=by
   have h6:=congrArg List.length h50;rw [List.length_take] at h6;have:pressB.length=5:=rfl;omega
  have z1:¬ (s.length:Int)<5:=by omega
  have z2:decide ((s.length:Int)<5)=false:=by simp;omega
  have e5:Pl.slice s 0 5=s.take 5:=by unfold Pl.slice;simp
  have ed:Pl.slice s 5 s.length=s.drop 5:=by unfold Pl.slice;rw [List.take_of_length_le (Nat.le_refl _)]
  have n1:(Pl.slice s 0 5 == [112,114,101,115,115])=true:=by rw [e5,beq_iff_eq];exact h50
  have n2:(Pl.slice s 0 5 != [112,114,101,115,115])=false:=by rw [e5,h50];rfl
  have n3:Pl.slice s 0 5=[112,114,101,115,115]:=by rw [e5];exact h50
  obtain ⟨B,hB⟩:∃ B,B=w.heap.size:=⟨_,rfl⟩
  obtain ⟨w0,hw0⟩:∃ w0,w0=(((w.alloc (.cells #[.slice none 0 0,.slice none 0 0] 33)).alloc (.cells #[.slice none 0 0,.slice none 0 0] 33)).alloc (.cells #[S (Pl.slice s 5 s.length),.bool false] 102)):=⟨_,rfl⟩
  have A0:=zH (show AFr w w0 B (.slice none 0 0) (.slice none 0 0) arc0 (Pl.slice s 5 s.length,false) by rw [hw0,hB];exact AFr.new w _);have HB:=zH hB;have HW0:=zH hw0;obtain ⟨E1,hE1⟩:∃ E,E=eyeDs s:=⟨_,rfl⟩
  obtain ⟨E2,hE2⟩:∃ E,E=eyeFs s:=⟨_,rfl⟩
  have hr:r=if E2.2.2=true∨checkA ⟨E1.1,E2.1⟩≠0∨imageOf ⟨E1.1,E2.1⟩≠s then none else some ⟨E1.1,E2.1⟩:=by rw [hr,hE1,hE2];rfl
  have hE2:E2=eyeL eyeF 12 (eyeN E1.2).1 [] (eyeN E1.2).2:=by rw [hE2,hE1];rfl
  have hE1:E1=eyeL eyeT 4 (eyeN (Pl.slice s 5 s.length,false)).1 [] (eyeN (Pl.slice s 5 s.length,false)).2:=by rw [hE1,ed];rfl
  have hl0:(Pl.slice s 5 s.length).length≤140737488355328:=by rw [ed,List.length_drop];omega
  have HR:=zH hr;rw [←hB];obtain ⟨t0,ht0⟩:∃ t,t=Pl.slice s 5 s.length:=⟨_,rfl⟩
  have HT0:=zH ht0;rw [←ht0] at A0 hE1 hl0;have C0:=zH (fun W (h:EyeAt W (B+2) (t0,false))=>eyeNum_any (B+2) (t0,false) W h (by show t0.length≤_;omega));have hm0:=eyeN_max (t0,false);have hk0:=eyeN_len (t0,false);simp only at hk0;obtain ⟨n0,hn0⟩:∃ n,n=(eyeN (t0,false)).1:=⟨_,rfl⟩
  obtain ⟨e0,he0⟩:∃ e,e=(eyeN (t0,false)).2:=⟨_,rfl⟩
  rw [←hn0,←he0] at hE1;rw [←hn0] at hm0;rw [←he0] at hk0;have C0:Hid (∀ W,EyeAt W (B+2) (t0,false)→Calls Tryz.prog 68 #[.pointer (some ⟨B+2,0,none⟩)] W fun r w'=>r = .returned (I n0)∧EyeAt w' (B+2) e0∧W.grownBy w' (some (B+2))):=by rw [hn0,he0];exact C0
  have HE1:=zH hE1;have HE2:=zH hE2;clear h5 hr h50 e5 ed hB hw0 hE1 hE2 ht0 hn0 he0;go_enter Tryz.func25,Tryz.ntmps25;go_upto_region 5 with fail
  rw [←zU HW0,←zU HB];go_wp2_with fail;refine (zU C0 _ (zU A0).q).mono ?_;rintro rr w1 ⟨rfl,hq1,hg1⟩;have A1:=zH ((zU A0).eye hq1 hg1);clear hq1 hg1;go_wp2_with fail;go_loopw [6] (fun iv wr=>∃ (n:Nat) (A:Option Addr) (c:Nat) (l:List Bytes) (u:Bytes) (b:Bool),n≤2147483647∧iv = .int .i64 n∧AFr w wr B (.slice A l.length c) (.slice none 0 0) ⟨l,[]⟩ (u,b)∧l.length≤5∧(∀ d∈l,d.length≤140737488355328)∧u.length≤140737488355328∧eyeL eyeT 4 n l (u,b)=E1) (fun iv _=>(intOf iv).toNat)
  case atStart=>exact ⟨n0,none,0,[],e0.1,e0.2,hm0,rfl,zU A1,by simp,by simp,by omega,(zU HE1).symm⟩
  case round =>
   obtain ⟨n,A,c,l,u,b,hn,rfl,hA,hl5,hdl,hul,hE⟩:=hrel;have HA:=zH hA;have HE:=zH hE;have HDL:=zH hdl;obtain ⟨y0,y1,y2,y3⟩:=hA.q.c;simp only at y0 y1;obtain ⟨p0,p1,p2,p3⟩:=hA.c;clear hA hE hdl;go_upto_region 6 with fail
   go_cut [38] (fun s9 wx=>s9 = .bool (decide (0<n∧b=false∧l.length≤4))∧wx=wr)
   case first =>
    by_cases h0:0<n
    ·have z1:(0:Int)<(n:Int):=by omega
     have z2:decide ((0:Int)<(n:Int))=true:=by simp;omega
     cases b with
     | true =>
      go_wp2_with fail;go_meet;exact ⟨by simp,rfl⟩
     | false =>
      by_cases h4:l.length≤4
      ·have z3:(l.length:Int)≤4:=by omega
       go_wp2_with fail;go_meet;exact ⟨by simp [h0,h4],rfl⟩
      ·have z3:¬ (l.length:Int)≤4:=by omega
       go_wp2_with fail;go_meet;exact ⟨by simp [h4],rfl⟩
    ·have z1:¬ (0:Int)<(n:Int):=by omega
     have z2:decide ((0:Int)<(n:Int))=false:=by simp;omega
     go_wp2_with fail;go_meet;exact ⟨by simp [h0],rfl⟩
   case rest =>
    obtain ⟨rfl,rfl⟩:=hcut
    by_cases hgo:0<n∧b=false∧l.length≤4
    ·rw [decide_eq_true hgo];obtain ⟨h0,rfl,h4⟩:=hgo;obtain ⟨k,rfl⟩:∃ k,n=k+1:=⟨n-1,by omega⟩
     have hE:=zU HE;rw [eyeL_go _ _ _ _ _ (by simp;omega)] at hE;have HE:=zH hE;clear hE;have w3:IntKind.i64.wrap ((k:Int)+1-1)=(k:Int):=by rw [show (k:Int)+1-1=(k:Int) from by omega];exact IntWalk.i64_in _ ⟨by omega,by omega⟩
     have w4:wrap64 ((k:Int)+1-1)=(k:Int):=by rw [show (k:Int)+1-1=(k:Int) from by omega];exact IntWalk.wrap64_in _ ⟨by omega,by omega⟩
     have hlen:=eyeT_len (u,false);simp only at hlen;obtain ⟨x1,hx1⟩:∃ x,x=(eyeT (u,false)).1:=⟨_,rfl⟩
     obtain ⟨e1,he1⟩:∃ x,x=(eyeT (u,false)).2:=⟨_,rfl⟩
     have CT:=zH (show ∀ W,EyeAt W (B+2) (u,false)→Calls Tryz.prog 69 #[.pointer (some ⟨B+2,0,none⟩)] W fun r w'=>r = .returned (S x1)∧EyeAt w' (B+2) e1∧W.grownBy w' (some (B+2)) from by rw [hx1,he1];exact fun W hW=>eyeText_any (B+2) (u,false) W hW (by show u.length≤_;omega));rw [←hx1,←he1] at HE hlen;have HLEN:=zH hlen;clear hx1 he1 hlen y0 y1 y2 y3 p1 p2 p3;go_wp2_with fail;refine AnyK.begin (fun W=>W.cell? ⟨B+1,0,none⟩=some (.slice A l.length c)) 7 8 (by kernel_rfl) rfl ?_;have hsd:=(zU HA).drew.c.1;refine AnyK.take 0 8 (v:=?vv0) rfl (by kernel_rfl) (by kernel_rfl) (by kernel_rfl) (by kernel_rfl) (by kernel_rfl) (fun _ _ _ h=>h) (Or.inl ⟨by rfl,?hy0⟩) hsd ?rest0
     case hy0 =>
      intro W hSw
      try dsimp only at hSw
      go_simp
      try with_reducible rfl
     try simp only [Act.put,List.setIfInBounds_toArray]
     refine AnyK.take 1 8 (v:=?vv1) rfl (by kernel_rfl) (by kernel_rfl) (by kernel_rfl) (by kernel_rfl) (by kernel_rfl) (fun _ _ _ h=>h) (Or.inl ⟨by rfl,?hy1⟩) hsd ?rest1
     case hy1 =>
      intro W hSw
      try dsimp only at hSw
      go_simp
      try with_reducible rfl
     try simp only [Act.put]
     refine AnyK.take 2 8 (v:=?vv2) rfl (by kernel_rfl) (by kernel_rfl) (by kernel_rfl) (by kernel_rfl) (by kernel_rfl) (fun _ _ _ h=>h) (Or.inl ⟨by rfl,?hy2⟩) hsd ?rest2
     case hy2 =>
      intro W hSw
      try dsimp only at hSw
      go_simp
      try with_reducible rfl
     try simp only [Act.put]
     refine AnyK.one 3 rfl (by kernel_rfl) (fun K hK=>?_);refine step_call1 rfl 69 43 _ rfl (.pointer (some ⟨B+2,0,none⟩)) (by simp) eyeText_enters ((zU CT _ (zU HA).drew.q).mono ?_);rintro rr w4 ⟨rfl,hq4,hg4⟩;refine ⟨_,rfl,?_⟩;have A4:=zH ((zU HA).drew.eye hq4 hg4);have p4:=(zU A4).c.1;clear hq4 hg4 hsd;refine hK.out _ _ (fun _=>p4) ?_;clear hK K
     try simp only [Act.put]
     refine AnyK.one 4 rfl (by kernel_rfl) (fun K hK=>?_);go_simp;refine hK.out _ _ (fun _=>((zU A4).alloc _).c.1) ?_;clear hK K
     try simp only [Act.put,List.setIfInBounds_toArray,List.set_cons_zero,List.set_cons_succ]
     refine AnyK.one 5 rfl (by kernel_rfl) (fun K hK=>?_);have hlt4:=(zU A4).lt;refine step_push_str rfl (.tmp 42) (.tmp 45) rfl (B+3) _ l.length l rfl ((zU A4).alloc _).o.s x1 w4.heap.size rfl (heap_alloc_new _ _) (by omega) (by simp;omega) ?_;intro A7 c7 w7 hown7 hg7;have hpush:=AFr.pushS ((zU A4).alloc _) hg7 hown7;have HPUSH:=zH hpush;obtain ⟨u0,u1,u2,u3⟩:=two_cells hpush.2;clear hown7 hg7 hpush p4;refine hK.out _ _ (fun _=>u0) ?_;clear hK K
     try simp only [Act.put,List.setIfInBounds_toArray]
     refine AnyK.take 6 8 (v:=?vv6) rfl (by kernel_rfl) (by kernel_rfl) (by kernel_rfl) (by kernel_rfl) (by kernel_rfl) (fun _ _ _ h=>h) (Or.inl ⟨by rfl,?hy6⟩) u0 ?rest6
     case hy6 =>
      intro W hSw
      try dsimp only at hSw
      go_simp
      try with_reducible rfl
     try simp only [Act.put]
     refine AnyK.one 7 rfl (by kernel_rfl) (fun K hK=>?_);go_simp;refine hK.out _ _ (fun h=>absurd rfl h) ?_;clear hK K
     try simp only [Act.put,List.setIfInBounds_toArray,List.set_cons_zero,List.set_cons_succ]
     refine AnyK.done (by kernel_rfl) ?_;clear u0 u1 u2 u3;go_wp2_with fail;go_roundw
     case rel =>
      have hlen:=zU HLEN
      exact ⟨k,A7,c7,l++[x1],e1.1,e1.2,by omega,by go_num,by rw [List.length_append];exact (zU HPUSH).1,by rw [List.length_append];simp;omega,fun d hd=>by
       rcases List.mem_append.1 hd with hd | hd
       ·exact zU HDL d hd
       ·obtain rfl:=List.mem_singleton.1 hd;omega,by omega,zU HE⟩
     case measure=>simp [intOf]
    ·rw [decide_eq_false hgo]
     have hfin:E1=(l,(u,b)):=by
      rw [←zU HE]
      rcases Nat.eq_zero_or_pos n with h0 | h0
      ·rw [h0];rfl
      ·refine eyeL_stop _ _ _ _ _ ?_;cases b with
       | true=>exact .inl rfl
       | false=>exact .inr (by show 4<l.length;have:¬ l.length≤4:=fun h4=>hgo ⟨h0,rfl,h4⟩;omega)
     have hE2:=zU HE2;have hR:=zU HR;rw [hfin] at hE2 hR;simp only at hE2 hR;have hm2:=eyeN_max (u,b);have hk2:=eyeN_len (u,b);simp only at hk2;have c0:=fun W (h:EyeAt W (B+2) (u,b))=>eyeNum_any (B+2) (u,b) W h (by show u.length≤_;omega);obtain ⟨m0,hm0'⟩:∃ n,n=(eyeN (u,b)).1:=⟨_,rfl⟩
     obtain ⟨f0,hf0⟩:∃ e,e=(eyeN (u,b)).2:=⟨_,rfl⟩
     rw [←hm0',←hf0] at hE2;have C2:Hid (∀ W,EyeAt W (B+2) (u,b)→Calls Tryz.prog 68 #[.pointer (some ⟨B+2,0,none⟩)] W fun r w'=>r = .returned (I m0)∧EyeAt w' (B+2) f0∧W.grownBy w' (some (B+2))):=by rw [hm0',hf0];exact zH c0
     rw [←hm0'] at hm2;rw [←hf0] at hk2;have HE2:=zH hE2;have HR:=zH hR;clear hE2 hR c0 hm0' hf0 hfin hgo HE y0 y1 y2 y3 p0 p1 p2 p3;go_wp2_with fail;refine (zU C2 _ (zU HA).q).mono ?_;rintro rr w2 ⟨rfl,hq2,hg2⟩;have A2:=zH ((zU HA).eye hq2 hg2);clear hq2 hg2;go_wp2_with fail;go_loopw [7] (fun iv wr=>∃ (n:Nat) (A2:Option Addr) (c2:Nat) (fs:List Fil) (u:Bytes) (b:Bool),n≤2147483647∧iv = .int .i64 n∧AFr w wr B (.slice A l.length c) (.slice A2 fs.length c2) ⟨l,fs⟩ (u,b)∧fs.length≤13∧(∀ f∈fs,FilSz f)∧u.length≤140737488355328∧eyeL eyeF 12 n fs (u,b)=E2) (fun iv _=>(intOf iv).toNat)
     case atStart=>exact ⟨m0,none,0,[],f0.1,f0.2,hm2,rfl,zU A2,by simp,by simp,by omega,(zU HE2).symm⟩
     case round =>
      obtain ⟨n,A2,c2,fs,u,b,hn,rfl,hA,hl13,hfl,hul,hE⟩:=hrel;have HA:=zH hA;have HE:=zH hE;have HFL:=zH hfl;obtain ⟨y0,y1,y2,y3⟩:=hA.q.c;simp only at y0 y1;obtain ⟨p0,p1,p2,p3⟩:=hA.c;clear hA hE hfl;go_upto_region 10 with fail
      go_cut [64] (fun s9 wx=>s9 = .bool (decide (0<n∧b=false∧fs.length≤12))∧wx=wr)
      case first =>
       by_cases h0:0<n
       ·have z1:(0:Int)<(n:Int):=by omega
        have z2:decide ((0:Int)<(n:Int))=true:=by simp;omega
        cases b with
        | true =>
         go_wp2_with fail;go_meet;exact ⟨by simp,rfl⟩
        | false =>
         by_cases h4:fs.length≤12
         ·have z3:(fs.length:Int)≤12:=by omega
          go_wp2_with fail;go_meet;exact ⟨by simp [h0,h4],rfl⟩
         ·have z3:¬ (fs.length:Int)≤12:=by omega
          go_wp2_with fail;go_meet;exact ⟨by simp [h4],rfl⟩
       ·have z1:¬ (0:Int)<(n:Int):=by omega
        have z2:decide ((0:Int)<(n:Int))=false:=by simp;omega
        go_wp2_with fail;go_meet;exact ⟨by simp [h0],rfl⟩
      case rest =>
       obtain ⟨rfl,rfl⟩:=hcut
       by_cases hgo:0<n∧b=false∧fs.length≤12
       ·rw [decide_eq_true hgo];obtain ⟨h0,rfl,h4⟩:=hgo;obtain ⟨k,rfl⟩:∃ k,n=k+1:=⟨n-1,by omega⟩
        have hE:=zU HE;rw [eyeL_go _ _ _ _ _ (by simp;omega)] at hE;have w3:IntKind.i64.wrap ((k:Int)+1-1)=(k:Int):=by rw [show (k:Int)+1-1=(k:Int) from by omega];exact IntWalk.i64_in _ ⟨by omega,by omega⟩
        have w4:wrap64 ((k:Int)+1-1)=(k:Int):=by rw [show (k:Int)+1-1=(k:Int) from by omega];exact IntWalk.wrap64_in _ ⟨by omega,by omega⟩
        have heF:eyeF (u,false)=(⟨(eyeT (u,false)).1,((eyeN (eyeT (u,false)).2).1:Nat),((eyeN (eyeN (eyeT (u,false)).2).2).1:Nat),((eyeN (eyeN (eyeN (eyeT (u,false)).2).2).2).1:Nat),(eyeT (eyeN (eyeN (eyeN (eyeT (u,false)).2).2).2).2).1⟩,(eyeT (eyeN (eyeN (eyeN (eyeT (u,false)).2).2).2).2).2):=rfl;rw [heF] at hE;have g1:=eyeT_len (u,false);simp only at g1;have CT:=zH (show ∀ W,EyeAt W (B+2) (u,false)→Calls Tryz.prog 69 #[.pointer (some ⟨B+2,0,none⟩)] W fun r w'=>r = .returned (S (eyeT (u,false)).1)∧EyeAt w' (B+2) (eyeT (u,false)).2∧W.grownBy w' (some (B+2)) from fun W hW=>eyeText_any (B+2) (u,false) W hW (by show u.length≤_;omega));obtain ⟨x1,hx1⟩:∃ x,x=(eyeT (u,false)).1:=⟨_,rfl⟩
        obtain ⟨e1,he1⟩:∃ x,x=(eyeT (u,false)).2:=⟨_,rfl⟩
        rw [←hx1,←he1] at CT;rw [←hx1,←he1] at hE g1;clear hx1 he1 heF;have g2:=eyeN_len e1;have i2:=eyeN_max e1;have CD:=zH (show ∀ W,EyeAt W (B+2) e1→Calls Tryz.prog 68 #[.pointer (some ⟨B+2,0,none⟩)] W fun r w'=>r = .returned (I (eyeN e1).1)∧EyeAt w' (B+2) (eyeN e1).2∧W.grownBy w' (some (B+2)) from fun W hW=>eyeNum_any (B+2) e1 W hW (by omega));obtain ⟨x2,hx2⟩:∃ x,x=(eyeN e1).1:=⟨_,rfl⟩
        obtain ⟨e2,he2⟩:∃ x,x=(eyeN e1).2:=⟨_,rfl⟩
        rw [←hx2,←he2] at CD;rw [←hx2,←he2] at hE;rw [←he2] at g2;rw [←hx2] at i2;clear hx2 he2;have g3:=eyeN_len e2;have i3:=eyeN_max e2;have CZ:=zH (show ∀ W,EyeAt W (B+2) e2→Calls Tryz.prog 68 #[.pointer (some ⟨B+2,0,none⟩)] W fun r w'=>r = .returned (I (eyeN e2).1)∧EyeAt w' (B+2) (eyeN e2).2∧W.grownBy w' (some (B+2)) from fun W hW=>eyeNum_any (B+2) e2 W hW (by omega));obtain ⟨x3,hx3⟩:∃ x,x=(eyeN e2).1:=⟨_,rfl⟩
        obtain ⟨e3,he3⟩:∃ x,x=(eyeN e2).2:=⟨_,rfl⟩
        rw [←hx3,←he3] at CZ;rw [←hx3,←he3] at hE;rw [←he3] at g3;rw [←hx3] at i3;clear hx3 he3;have g4:=eyeN_len e3;have i4:=eyeN_max e3;have CU:=zH (show ∀ W,EyeAt W (B+2) e3→Calls Tryz.prog 68 #[.pointer (some ⟨B+2,0,none⟩)] W fun r w'=>r = .returned (I (eyeN e3).1)∧EyeAt w' (B+2) (eyeN e3).2∧W.grownBy w' (some (B+2)) from fun W hW=>eyeNum_any (B+2) e3 W hW (by omega));obtain ⟨x4,hx4⟩:∃ x,x=(eyeN e3).1:=⟨_,rfl⟩
        obtain ⟨e4,he4⟩:∃ x,x=(eyeN e3).2:=⟨_,rfl⟩
        rw [←hx4,←he4] at CU;rw [←hx4,←he4] at hE;rw [←he4] at g4;rw [←hx4] at i4;clear hx4 he4;have g5:=eyeT_len e4;have CB:=zH (show ∀ W,EyeAt W (B+2) e4→Calls Tryz.prog 69 #[.pointer (some ⟨B+2,0,none⟩)] W fun r w'=>r = .returned (S (eyeT e4).1)∧EyeAt w' (B+2) (eyeT e4).2∧W.grownBy w' (some (B+2)) from fun W hW=>eyeText_any (B+2) e4 W hW (by omega));obtain ⟨x5,hx5⟩:∃ x,x=(eyeT e4).1:=⟨_,rfl⟩
        obtain ⟨e5,he5⟩:∃ x,x=(eyeT e4).2:=⟨_,rfl⟩
        rw [←hx5,←he5] at CB;rw [←hx5,←he5] at hE g5;clear hx5 he5;have hfz:FilSz ⟨x1,(x2:Nat),(x3:Nat),(x4:Nat),x5⟩:=⟨by show x1.length≤_;omega,by show x5.length≤_;omega,by show _≤((x2:Nat):Int);omega,by show ((x2:Nat):Int)≤_;omega,by show _≤((x3:Nat):Int);omega,by show ((x3:Nat):Int)≤_;omega,by show _≤((x4:Nat):Int);omega,by show ((x4:Nat):Int)≤_;omega⟩
        have HFZ:=zH hfz;have HE:=zH hE;have hul5:e5.1.length≤140737488355328:=by omega
        clear hE hfz g1 g2 g3 g4 g5 i2 i3 i4 y0 y1 y2 y3 p0 p1 p2 p3;go_wp2_with fail;refine (zU CT _ (zU HA).q).mono ?_;rintro rr w1 ⟨rfl,hq1,hg1⟩;have A1:=zH ((zU HA).eye hq1 hg1);clear hq1 hg1;go_upto_region 13 with (refine wpList_store_row rfl 61 (.tmp 8) (.tmp 69) rfl w1.heap.size #[S x1,I 0,I 0,I 0,S []] rfl rfl 61 _ (heap_alloc_new _ _) sizeFil rfl (filA_one ⟨x1,0,0,0,[]⟩) ?_)
        obtain ⟨w2,hw2⟩:∃ w2,w2=(w1.alloc (.cells zeroF 61)).setRow w1.heap.size #[S x1,I 0,I 0,I 0,S []]:=⟨_,rfl⟩
        obtain ⟨D,hD⟩:∃ D,D=w1.heap.size:=⟨_,rfl⟩
        have D1:=zH (show AFd w w2 B D (.slice A l.length c) (.slice A2 fs.length c2) ⟨l,fs⟩ e1 #[S x1,I 0,I 0,I 0,S []] by rw [hw2,hD];exact AFd.new (zU A1) _);rw [←hw2,←hD];clear hw2 hD;go_wp2_with fail;refine (zU CD _ (zU D1).a.q).mono ?_;rintro rr v1 ⟨rfl,hq,hg⟩;have E1:=zH ((zU D1).eye hq hg);clear hq hg;obtain ⟨⟨d0,d1,d2,d3,d4⟩,k0,k1,k2,k3,k4⟩:=file_cells (zU E1).d;go_upto_region 14 with fail
        obtain ⟨w3,hw3⟩:∃ wx,wx=v1.setCell ⟨D,1,none⟩ (I x2):=⟨_,rfl⟩
        have D2:=zH (show AFd w w3 B D (.slice A l.length c) (.slice A2 fs.length c2) ⟨l,fs⟩ e2 #[S x1,I x2,I 0,I 0,S []] by rw [hw3];exact (zU E1).set 1 _);rw [←hw3];clear hw3 d0 d1 d2 d3 d4 k0 k1 k2 k3 k4;go_wp2_with fail;refine (zU CZ _ (zU D2).a.q).mono ?_;rintro rr v2 ⟨rfl,hq,hg⟩;have E2:=zH ((zU D2).eye hq hg);clear hq hg;obtain ⟨⟨d0,d1,d2,d3,d4⟩,k0,k1,k2,k3,k4⟩:=file_cells (zU E2).d;go_upto_region 15 with fail
        obtain ⟨w4,hw4⟩:∃ wx,wx=v2.setCell ⟨D,2,none⟩ (I x3):=⟨_,rfl⟩
        have D3:=zH (show AFd w w4 B D (.slice A l.length c) (.slice A2 fs.length c2) ⟨l,fs⟩ e3 #[S x1,I x2,I x3,I 0,S []] by rw [hw4];exact (zU E2).set 2 _);rw [←hw4];clear hw4 d0 d1 d2 d3 d4 k0 k1 k2 k3 k4;go_wp2_with fail;refine (zU CU _ (zU D3).a.q).mono ?_;rintro rr v3 ⟨rfl,hq,hg⟩;have E3:=zH ((zU D3).eye hq hg);clear hq hg;obtain ⟨⟨d0,d1,d2,d3,d4⟩,k0,k1,k2,k3,k4⟩:=file_cells (zU E3).d;go_upto_region 16 with fail
        obtain ⟨w5,hw5⟩:∃ wx,wx=v3.setCell ⟨D,3,none⟩ (I x4):=⟨_,rfl⟩
        have D4:=zH (show AFd w w5 B D (.slice A l.length c) (.slice A2 fs.length c2) ⟨l,fs⟩ e4 #[S x1,I x2,I x3,I x4,S []] by rw [hw5];exact (zU E3).set 3 _);rw [←hw5];clear hw5 d0 d1 d2 d3 d4 k0 k1 k2 k3 k4;go_wp2_with fail;refine (zU CB _ (zU D4).a.q).mono ?_;rintro rr v4 ⟨rfl,hq,hg⟩;have E4:=zH ((zU D4).eye hq hg);clear hq hg;obtain ⟨⟨d0,d1,d2,d3,d4⟩,k0,k1,k2,k3,k4⟩:=file_cells (zU E4).d;go_upto_region 17 with fail
        obtain ⟨w6,hw6⟩:∃ wx,wx=v4.setCell ⟨D,4,none⟩ (S x5):=⟨_,rfl⟩
        have D5:=zH (show AFd w w6 B D (.slice A l.length c) (.slice A2 fs.length c2) ⟨l,fs⟩ e5 #[S x1,I x2,I x3,I x4,S x5] by rw [hw6];exact (zU E4).set 4 _);rw [←hw6];clear hw6 d0 d1 d2 d3 d4 k0 k1 k2 k3 k4;obtain ⟨⟨d0,d1,d2,d3,d4⟩,_,_,_,_,_⟩:=file_cells (zU D5).d;obtain ⟨p0,p1,p2,p3⟩:=(zU D5).a.c;have hlt6:=(zU D5).a.lt;go_wp2_with (at_builtin;refine wpList_push_fil rfl (.tmp 83) (.tmp 85) rfl (B+3) _ fs.length fs rfl (zU D5).a.o.f ⟨x1,(x2:Nat),(x3:Nat),(x4:Nat),x5⟩ w6.heap.size rfl rfl (by omega) (by omega) ?_;intro A7 c7 w7 hown7 _ hg7;have hpush:=AFr.pushF ((zU D5).a.alloc _) hg7 hown7;have HPUSH:=zH hpush;obtain ⟨u0,u1,u2,u3⟩:=two_cells hpush.2;clear hown7 hg7 hpush p0 p1 p2 p3);go_roundw
        case rel =>
         exact ⟨k,A7,c7,fs++[⟨x1,(x2:Nat),(x3:Nat),(x4:Nat),x5⟩],e5.1,e5.2,by omega,by go_num,by rw [List.length_append];exact (zU HPUSH).1,by rw [List.length_append];simp;omega,fun d hd=>by
          rcases List.mem_append.1 hd with hd | hd
          ·exact zU HFL d hd
          ·obtain rfl:=List.mem_singleton.1 hd;exact zU HFZ,hul5,zU HE⟩
        case measure=>simp [intOf]
       ·rw [decide_eq_false hgo]
        have hfin:E2=(fs,(u,b)):=by
         rw [←zU HE]
         rcases Nat.eq_zero_or_pos n with h0 | h0
         ·rw [h0];rfl
         ·refine eyeL_stop _ _ _ _ _ ?_;cases b with
          | true=>exact .inl rfl
          | false=>exact .inr (by show 12<fs.length;have:¬ fs.length≤12:=fun h4=>hgo ⟨h0,rfl,h4⟩;omega)
        have hR:=zU HR;rw [hfin] at hR;simp only at hR;have hsz:ArcSz ⟨l,fs⟩:=⟨by show l.length≤_;omega,by show fs.length≤_;omega,zU HDL,zU HFL⟩
        have CK:∀ W e,AFr w W B (.slice A l.length c) (.slice A2 fs.length c2) ⟨l,fs⟩ e→Calls Tryz.prog 32 #[arcV A l.length c A2 fs.length c2] W fun e w'=>e = .returned (I (checkA ⟨l,fs⟩))∧Below W.heap.size W w':=fun W e hW=>checkArchive_any A _ c A2 _ c2 _ W (OwnA.inn hW.o) hsz;clear hfin hgo HE hsz n1 n2 n3 z1 z2 z3;cases b with
        | true =>
         rw [if_pos (.inl rfl)] at hR;subst hR;clear CK p0 p1 p2 p3;go_wp2_with (refine wpList_store_row rfl 33 (.tmp 2) (.tmp 103) rfl B #[.slice none 0 0,.slice none 0 0] rfl rfl 33 _ (zU HA).z sizeArc rfl all_nil2 ?_);refine bodyPost_ret (results_row_tmp rfl _ _ B 33 #[.slice none 0 0,.slice none 0 0] (0,0) _ rfl (zU HA).fin0.1 Tryz.underlying33 rfl sizeArc) rfl ?_;exact ⟨⟨_,_,rfl,OwnA.nil _ _⟩,(zU HA).fin0.2⟩
        | false =>
         by_cases hck:checkA ⟨l,fs⟩≠0
         ·rw [if_pos (.inr (.inl hck))] at hR;subst hR;obtain ⟨cc,hc⟩:∃ cc,cc=checkA ⟨l,fs⟩:=⟨_,rfl⟩
          rw [←hc] at CK hck;have CK:=zH CK;have d1:((cc:Int) != 0)=true:=by rw [bne_iff_ne];omega
          have d2:((cc:Int) == 0)=false:=by rw [beq_eq_false_iff_ne];omega
          have d3:¬ (cc:Int)=0:=by omega
          clear hck hc;go_wp2_with fail;refine (zU CK _ _ (zU HA)).mono ?_;rintro rr w1 ⟨rfl,hb1⟩;have H1:=zH ((zU HA).below hb1);clear hb1 p0 p1 p2 p3 y0 y1 y2 y3;go_wp2_with (refine wpList_store_row rfl 33 (.tmp 2) (.tmp 103) rfl B #[.slice none 0 0,.slice none 0 0] rfl rfl 33 _ (zU H1).z sizeArc rfl all_nil2 ?_);refine bodyPost_ret (results_row_tmp rfl _ _ B 33 #[.slice none 0 0,.slice none 0 0] (0,0) _ rfl (zU H1).fin0.1 Tryz.underlying33 rfl sizeArc) rfl ?_;exact ⟨⟨_,_,rfl,OwnA.nil _ _⟩,(zU H1).fin0.2⟩
         ·have hck0:checkA ⟨l,fs⟩=0:=Decidable.not_not.1 hck;have hra:=(check_iff _).1 hck0;rw [hck0] at CK;have CK:=zH CK;have ci:∀ W e,AFr w W B (.slice A l.length c) (.slice A2 fs.length c2) ⟨l,fs⟩ e→Calls Tryz.prog 59 #[arcV A l.length c A2 fs.length c2] W fun e w'=>e = .returned (S (imageOf ⟨l,fs⟩))∧Below W.heap.size W w':=fun W e hW=>imageOf_any A _ c A2 _ c2 _ W (OwnA.inn hW.o) hra;obtain ⟨im,him⟩:∃ im,im=imageOf ⟨l,fs⟩:=⟨_,rfl⟩
          rw [←him] at ci hR;have CI:=zH ci;clear him hra ci
          by_cases heq:im=s
          ·rw [if_neg (by simp [hck0,heq])] at hR;subst hR;subst heq;have d1:(im == im)=true:=by simp
           have d2:(im != im)=false:=by simp
           clear hck hck0;go_wp2_with fail;refine (zU CK _ _ (zU HA)).mono ?_;rintro rr w1 ⟨rfl,hb1⟩;have H1:=zH ((zU HA).below hb1);clear hb1 p0 p1 p2 p3 y0 y1 y2 y3;obtain ⟨p0,p1,p2,p3⟩:=(zU H1).c;go_wp2_with fail;refine (zU CI _ _ (zU H1)).mono ?_;rintro rr w2 ⟨rfl,hb2⟩;have H2:=zH ((zU H1).below hb2);clear hb2 p0 p1 p2 p3;obtain ⟨p0,p1,p2,p3⟩:=(zU H2).c;go_wp2_with (refine wpList_store_row rfl 33 (.tmp 2) (.tmp 104) rfl B #[.slice A l.length c,.slice A2 fs.length c2] rfl rfl 33 _ (zU H2).z sizeArc rfl (one_two _ _ _ _ _ _) ?_);refine bodyPost_ret (results_row_tmp rfl _ _ B 33 #[.slice A l.length c,.slice A2 fs.length c2] (0,0) _ rfl ((zU H2).fin (zU HB)).1 Tryz.underlying33 rfl sizeArc) rfl ?_;exact ⟨⟨_,_,rfl,((zU H2).fin (zU HB)).2.1⟩,((zU H2).fin (zU HB)).2.2⟩
          ·rw [if_pos (.inr (.inr heq))] at hR;subst hR;have d1:(im == s)=false:=by rw [beq_eq_false_iff_ne];exact heq
           have d2:(im != s)=true:=by rw [bne_iff_ne];exact heq
           clear hck hck0;go_wp2_with fail;refine (zU CK _ _ (zU HA)).mono ?_;rintro rr w1 ⟨rfl,hb1⟩;have H1:=zH ((zU HA).below hb1);clear hb1 p0 p1 p2 p3 y0 y1 y2 y3;obtain ⟨p0,p1,p2,p3⟩:=(zU H1).c;go_wp2_with fail;refine (zU CI _ _ (zU H1)).mono ?_;rintro rr w2 ⟨rfl,hb2⟩;have H2:=zH ((zU H1).below hb2);clear hb2 p0 p1 p2 p3;go_wp2_with (refine wpList_store_row rfl 33 (.tmp 2) (.tmp 103) rfl B #[.slice none 0 0,.slice none 0 0] rfl rfl 33 _ (zU H2).z sizeArc rfl all_nil2 ?_);refine bodyPost_ret (results_row_tmp rfl _ _ B 33 #[.slice none 0 0,.slice none 0 0] (0,0) _ rfl (zU H2).fin0.1 Tryz.underlying33 rfl sizeArc) rfl ?_;exact ⟨⟨_,_,rfl,OwnA.nil _ _⟩,(zU H2).fin0.2⟩
end Go.Proofs.YtjpgoeimclipjaaGreat
