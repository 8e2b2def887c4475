/- Parts of the proofs. -/
import Derived.Test.YtbnmfdlaabdlhaaGreatDoorDk8
import Derived.Shelf.GgClosure.StringsIndexFunc
import Derived.Shelf.GgClosure.StringsIndexFuncTop
import Derived.Shelf.GgClosure.StringsRunes
import Derived.Shelf.Strings.FuncGrows
import Derived.Laws.RangeAny
import Derived.Laws.RangeString
import Derived.Lib.TrimU
set_option maxHeartbeats 16000000
set_option maxRecDepth 100000
namespace Go.Proofs.YtbnmfdlaabdlhaaGreatDoor
section
open Go.RowKit Go.Lib Pl
attribute [local go_sem] qf qe
theorem Mk.kept{w w':World}{base M d:Nat}{lit:Bool}{s:qa}(h:Mk w base M d lit s)(hb:Below w.heap.size w w'):Mk w' base M d lit s:=by
 obtain⟨h0,A,cap,hblk,hown⟩:=h;exact⟨h0,A,cap,(hb.block M (zE hblk).1).trans hblk,hown.kept fun k hk=>hb.block k (hown.lt k hk).2⟩
theorem Mk.set_far{w:World}{base M d:Nat}{lit:Bool}{s:qa}(h:Mk w base M d lit s){p:Addr}(hM:M≠p.block)(u:Value){cs:Array Value}{t:TypeId}{fz:Nat×Nat}(hp:w.heap[p.block]?=some (.cells cs t fz))(ht:t≠5) :
  Mk (w.setCell p u) base M d lit s:=by
 obtain⟨h0,A,cap,hblk,hown⟩:=h;refine⟨h0,A,cap,(Below.heap_setCell w p u M hM).trans hblk,hown.setCell (fun e=>?_) u⟩
 rcases hown.2 with⟨hv,_⟩|⟨g,cap',cur,fz',hv,_,hgg,_⟩
 ·rw[hv]at e;simp[Value.ownBlock]at e
 ·rw[hv]at e;simp[Value.ownBlock]at e;rw[e,hp]at hgg;injection hgg with hgg;injection hgg with _ h2 _
  exact ht h2
def qwJ:Obj->Bool
 | .cells _ t _=>t == 186
 | _=>false
theorem Mk.keeps{w w':World}{base M d:Nat}{lit:Bool}{s:qa}(h:Mk w base M d lit s)(hk:Keeps qwJ w w'):Mk w' base M d lit s:=by
 obtain⟨h0,A,cap,hblk,hown⟩:=h;exact⟨h0,A,cap,hk.block M _ hblk rfl,hk.own hown (fun _ _=>rfl)⟩
theorem Mk.pushed{w w':World}{o:Obj}{base M d n:Nat}{lit:Bool}{s:qa}{v:Value}{xs:List Value}{b2:Nat}(h:Mk w base M d lit s)(hg:(w.alloc o).grownBy w' v.ownBlock)(hown:w.ownsRow b2 186 3 v n xs):Mk w' base M d lit s:=by
 refine h.keeps (((Keeps.refl _ _).alloc o).grown hg fun g hgv=>?_)
 rcases hown.2 with⟨rfl,_⟩|⟨g',cap',cur,rfl,_,hgg,_⟩
 ·simp[Value.ownBlock]at hgv
 ·simp[Value.ownBlock]at hgv;subst hgv;exact⟨_,(Below.heap_alloc w o g' (zE hgg).1).trans hgg,rfl⟩
def ReadRes(w':World)(e:Ending)(r:Option (List Tok)):Prop :=
 ∃v err,e=.returned (.tuple #[v,.int .i64 err])/\((err=1/\v=.slice none 0 0/\r=none)\/(err=0/\∃l,r=some l/\qnZ w' v l))
theorem ReadRes.no{w':World}{r:Option (List Tok)}(h:r=none):ReadRes w' (.returned (.tuple #[.slice none 0 0,.int .i64 1])) r:=⟨_,_,rfl,.inl ⟨rfl,rfl,h⟩⟩
def qvP(w wr:World)(dict s:qa)(v sv:Value):Prop :=
 ∃ (n:Nat) (o:List Tok) (lit:Bool) (mm rest:qa),sv=S rest/\rest.length<=s.length/\wr.ownsRow w.heap.size 186 3 v n (qD o)/\Mk wr w.heap.size (w.heap.size+1) dict.length lit mm /\
  dict.length+n<=mm.length/\mm.length<=dict.length+512/\read dict s=(qes dict.length mm lit rest).map (o++·)/\Below w.heap.size w wr/\w.heap.size+2<=wr.heap.size
theorem qmD{d:Nat}{m rest r:qa}{b:Bool}{o:List Tok}{t:Tok}{x:Option (List Tok)}(h:x=(qes d m b rest).map (o++·))(hs:rest≠[])(ht:qZ rest=some (t,r))(he:qw d m b t=0) :
  x=(qes d (qbj m t) (qcO t) r).map ((o++[t])++·):=by
 rw[h,qq8 hs ht he,Option.map_map]
 congr 1
 funext x;simp
theorem qeo{w:World}{g:Nat}{a b c:Value}{t:TypeId}(h:w.heap[g]?=some (.cells #[a,b,c] t (0,0))) :
  w.cell? ⟨g,0,none⟩=some a/\w.cell? ⟨g,1,none⟩=some b/\w.cell? ⟨g,2,none⟩=some c/\w.frozen? ⟨g,0,none⟩=false/\w.frozen? ⟨g,1,none⟩=false/\w.frozen? ⟨g,2,none⟩=false :=
 ⟨by rw[cell_of_row w _ 0 _ _ _ h];rfl,by rw[cell_of_row w _ 1 _ _ _ h];rfl,by rw[cell_of_row w _ 2 _ _ _ h];rfl,qa3 w _ 0 _ _ h,qa3 w _ 1 _ _ h,qa3 w _ 2 _ _ h⟩
theorem qgD(dict s:qa)(w:World)(hd:dict.length<=256)(hs:s.length<=4611686018427387904) :
  Calls Tryz.prog 172 #[S dict,S s] w fun e w'=>ReadRes w' e (read dict s)/\Below w.heap.size w w':=by
 have kb:=fun (W:World)=>run_bytes_of_string (P:=Tryz.prog) W 9 37 5 ⟨dict.toArray⟩ Tryz.underlying9 Tryz.underlying37 Tryz.underlying5;go_enter Tryz.func172,Tryz.ntmps172;go_wp2_with fail;go_step3;go_wp2_with fail;go_step3;go_wp2_with fail;go_loopw [7,1] (fun v sv wr=>qvP w wr dict s v sv) (fun _ sv _=>qg5 sv)
 case atStart =>
  refine⟨0,[],false,dict,s,rfl,Nat.le_refl _,World.ownsRow_nil _ _ _ _,Mk.made w _ dict (Nat.le_refl _) (by omega),by omega,by omega,by unfold Pl.read qes;simp,((Below.refl _ _).drew.alloc (Nat.le_refl _) _).alloc (by simp) _,by simp⟩
 case round =>
  obtain⟨n,o,lit,mm,rest,rfl,hrl,hown,hMk,hm1,hm2,hto,hbel,hz0⟩:=hrel;obtain⟨A,cap,rfl⟩:=qeG hown;have HTO:=zH hto;have HOWN:=zH hown;have HMK:=zH hMk;clear hto hown hMk
  by_cases hr:rest=[]
  ·subst hr;have hrd:read dict s=some o:=by rw[zU HTO,qsC];simp
   have HRD:=zH hrd;clear hrd;go_wp2_with fail
   try rw[Exit.noGoto_ret]
   go_ret2;obtain⟨A',cap',hAe,hat,hlen⟩:=qcr (zU HOWN);exact⟨⟨_,_,rfl,.inr ⟨rfl,o,zU HRD,A',n,cap',hAe,hat⟩⟩,hbel⟩
  ·have hr1:rest.isEmpty=false:=by simpa using hr
   have hr2:(rest == [])=false:=by simpa using hr
   have HR:=zH hr;have hsl:rest.length<=9223372036854775807:=by omega
   clear hr;cases hk:take rest with
   | none =>
    have C1:=zH (fun W=>qi9 hk W hsl);have hrd:read dict s=none:=by rw[zU HTO,qhi (zU HR) (qit hk)];rfl
    have HRD:=zH hrd;clear hrd hk;go_wp2_with fail;refine (zU C1 _).mono ?_;rintro e w1 ⟨rfl,hb1⟩;go_wp2_with fail
    try rw[Exit.noGoto_ret]
    go_ret2;exact⟨ReadRes.no (zU HRD),(hbel.trans (hb1.mono hbel.size)).alloc (Nat.le_trans hbel.size hb1.size) _⟩
   | some p =>
    obtain⟨q,r⟩:=p;have C1:=zH (fun W=>qi8 hk W hsl);have hq:q<=2147483647:=(qaI hk).2;have hrlen:=Pl.take_len hk;obtain⟨m,hm⟩:∃m,m=q / 2:=⟨_,rfl⟩
    have hm2':(q:Int) / 2=(m:Int):=by omega
    have hmb:m<=1073741824:=by omega
    by_cases he:q % 2=0
    ·have he2:(q:Int) % 2=0:=by omega
     by_cases hsh:r.length<m
     ·have hrd:read dict s=none:=by rw[zU HTO,qhi (zU HR) (qh2 hk he (by omega))];rfl
      have HRD:=zH hrd;have hsh2:decide (r.length<m)=true:=by simp;omega
      clear hrd hk hm he;go_wp2_with fail;refine (zU C1 _).mono ?_;rintro e w1 ⟨rfl,hb1⟩;go_wp2_with fail
      try rw[Exit.noGoto_ret]
      go_ret2;exact⟨ReadRes.no (zU HRD),(hbel.trans (hb1.mono hbel.size)).alloc (Nat.le_trans hbel.size hb1.size) _⟩
     ·have hsh2:decide (r.length<m)=false:=by simp;omega
      have htf:=qiu hk he (by omega);rw[<-hm]at htf;have HTF:=zH htf;have hsl2:=qbU r m r.length;obtain⟨c,hc⟩:∃c,c=qw dict.length mm lit ⟨slice r 0 m,0,0⟩:=⟨_,rfl⟩
      have c2:=fun (W:World) (h:Mk W w.heap.size (w.heap.size+1) dict.length lit mm)=>qlX w.heap.size (w.heap.size+1) dict.length lit mm ⟨slice r 0 m,0,0⟩ W h (by omega) hm2 hd;rw[<-hc]at c2;have C2:=zH c2;have HC:=zH hc;clear hk hm he htf c2 hc
      by_cases hc0:c=0
      ·subst hc0;go_wp2_with fail;refine (zU C1 _).mono ?_;rintro e w1 ⟨rfl,hb1⟩;have hbw:=Nat.le_trans hbel.size hb1.size;have HM1:=zH (((zU HMK).kept hb1).alloc (.cells #[S (slice r 0 m),I 0,I 0] 186));have HO1:=zH ((qo (zU HOWN) hb1).alloc (.cells #[S (slice r 0 m),I 0,I 0] 186));go_wp2_with fail;refine (zU C2 _ (zU HM1)).mono ?_;rintro e w2 ⟨rfl,hmk2,hb2,hk2⟩;have hmk2:=hmk2 (by first|trivial|exact (zU HC).symm);have HM2:=zH hmk2;obtain⟨K0,K1,K2,_,_,_⟩:=qeo (hk2.block w1.heap.size _ (heap_alloc_new w1 (.cells #[S (slice r 0 m),I 0,I 0] 186)) rfl);have HO2:=zH (hk2.ownsRow (zU HO1) (fun _ _=>rfl));have hz2:=hb2.size;have HG:=zH (qdB (zU HC).symm (show dict.length<=mm.length by omega));clear hmk2;go_wp2_with (at_builtin;refine qbl rfl (.tmp 73) (.tmp 75) rfl w.heap.size _ n o rfl (zU HO2) (slice r 0 m) 0 0 w2.heap.size rfl rfl (by omega) (by simp at hz2;omega) ?_;intro A4 cap4 w4 hown4 hb4 hg4);go_roundw
       case rel =>
        have hg:=zU HG;have hlb:=hb4.size;have hz1:=hb1.size;simp at hz2;exact⟨n+1,o++[⟨slice r 0 m,0,0⟩],_,qbj mm ⟨slice r 0 m,0,0⟩,slice r m r.length,rfl,by rw[hsl2];omega,hown4,(zU HM2).pushed hg4 (zU HO2),by omega,by omega,qmD (zU HTO) (zU HR) (zU HTF) (zU HC).symm,(((hbel.trans (hb1.mono hbel.size)).alloc hbw _).trans hb2).trans hb4,by omega⟩
       case measure=>simp[qg5];omega
      ·have hrd:read dict s=none:=by rw[zU HTO,qmE (zU HR) (zU HTF) (by rw[<-zU HC];exact hc0)];rfl
       have HRD:=zH hrd;have z1:((c:Int) == 0)=false:=by rw[zB];omega
       have z2:((c:Int) != 0)=true:=by rw[bne_iff_ne];omega
       clear hrd hc0;go_wp2_with fail;refine (zU C1 _).mono ?_;rintro e w1 ⟨rfl,hb1⟩;have hbw:=Nat.le_trans hbel.size hb1.size;have HM1:=zH (((zU HMK).kept hb1).alloc (.cells #[S (slice r 0 m),I 0,I 0] 186));go_wp2_with fail;refine (zU C2 _ (zU HM1)).mono ?_;rintro e w2 ⟨rfl,_,hb2,_⟩;go_wp2_with fail
       try rw[Exit.noGoto_ret]
       go_ret2;exact⟨ReadRes.no (zU HRD),((hbel.trans (hb1.mono hbel.size)).alloc hbw _).trans hb2⟩
    ·have he2:(q:Int) % 2=1:=by omega
     have he3:((1:Int) == 0)=false:=rfl;cases hk2:take r with
     | none =>
      have C2:=zH (fun W=>qi9 hk2 W (by omega));have hrd:read dict s=none:=by rw[zU HTO,qhi (zU HR) (qh3 hk he hk2)];rfl
      have HRD:=zH hrd;clear hrd hk hm he hk2;go_wp2_with fail;refine (zU C1 _).mono ?_;rintro e w1 ⟨rfl,hb1⟩;have hbw:=Nat.le_trans hbel.size hb1.size;go_wp2_with fail;refine (zU C2 _).mono ?_;rintro e w2 ⟨rfl,hb2⟩;obtain⟨K0,K1,K2,F0,F1,F2⟩:=qeo ((hb2.block w1.heap.size (by simp)).trans (heap_alloc_new w1 (.cells #[S [],I 0,I m] 186)));go_wp2_with fail
      try rw[Exit.noGoto_ret]
      go_ret2;exact⟨ReadRes.no (zU HRD),(((hbel.trans (hb1.mono hbel.size)).alloc hbw _).trans (hb2.mono (by simp;omega))).setCell (by simpa using hbw) _⟩
     | some p2 =>
      obtain⟨f,r2⟩:=p2;have C2:=zH (fun W=>qi8 hk2 W (by omega));have hr2len:=Pl.take_len hk2;have htf:=qjy hk he hk2;rw[<-hm]at htf;have HTF:=zH htf;obtain⟨c,hc⟩:∃c,c=qw dict.length mm lit ⟨[],(f:Nat),(m:Nat)⟩:=⟨_,rfl⟩
      have c2:=fun (W:World) (h:Mk W w.heap.size (w.heap.size+1) dict.length lit mm)=>qlX w.heap.size (w.heap.size+1) dict.length lit mm ⟨[],(f:Nat),(m:Nat)⟩ W h (by omega) hm2 hd;rw[<-hc]at c2;have C3:=zH c2;have HC:=zH hc;clear hk hm he hk2 htf c2 hc
      by_cases hc0:c=0
      ·subst hc0;go_wp2_with fail;refine (zU C1 _).mono ?_;rintro e w1 ⟨rfl,hb1⟩;have hbw:=Nat.le_trans hbel.size hb1.size;have hz1:=hb1.size;go_wp2_with fail;refine (zU C2 _).mono ?_;rintro e w2 ⟨rfl,hb2⟩;have B0:=(hb2.block w1.heap.size (by simp)).trans (heap_alloc_new w1 (.cells #[S [],I 0,I m] 186));obtain⟨K0,K1,K2,F0,F1,F2⟩:=qeo B0;have B1:=qd0 B0 1 (I f);have HM1:=zH (((((zU HMK).kept hb1).alloc _).kept hb2).set_far (p:=⟨w1.heap.size,1,none⟩) (by show w.heap.size+1≠w1.heap.size;omega) (I f) B0 (by decide))
       have HO1:=zH (show (w2.setCell ⟨w1.heap.size,1,none⟩ (I f)).ownsRow w.heap.size 186 3 (.slice A n cap) n (qD o)from by
        have h1:=qo (zU HOWN) hb1;have h2:=qo (h1.alloc _) hb2;exact qgi h2 fun g hg=>Below.heap_setCell _ _ _ _ (by have:=(h1.lt g hg).2;simp;omega))
       have HB1:=zH B1;clear B0 B1;go_wp2_with fail;refine (zU C3 _ (zU HM1)).mono ?_;rintro e w3 ⟨rfl,hmk3,hb3,hk3⟩;have hmk3:=hmk3 (by first|trivial|exact (zU HC).symm);have HM3:=zH hmk3;obtain⟨L0,L1,L2,_,_,_⟩:=qeo (hk3.block w1.heap.size _ (zU HB1) rfl);have HO3:=zH (hk3.ownsRow (zU HO1) (fun _ _=>rfl));have hz2:=hb2.size;have hz3:=hb3.size;have hz4:w2.heap.size<=w3.heap.size:=by simpa[qcj]using hz3
       have hz5:w1.heap.size+1<=w2.heap.size:=by simpa using hz2
       have HG:=zH (qdB (zU HC).symm (show dict.length<=mm.length by omega));clear hmk3 hz3 hz2;go_wp2_with (at_builtin;refine qbl rfl (.tmp 73) (.tmp 75) rfl w.heap.size _ n o rfl (zU HO3) [] f m w3.heap.size rfl rfl (by omega) (by omega) ?_;intro A4 cap4 w4 hown4 hb4 hg4);go_roundw
       case rel =>
        have hg:=zU HG;have hlb:=hb4.size;exact⟨n+1,o++[⟨[],f,m⟩],_,qbj mm ⟨[],(f:Nat),(m:Nat)⟩,r2,rfl,by omega,hown4,(zU HM3).pushed hg4 (zU HO3),by omega,by omega,qmD (zU HTO) (zU HR) (zU HTF) (zU HC).symm,(((((hbel.trans (hb1.mono hbel.size)).alloc hbw _).trans (hb2.mono (by simp;omega))).setCell (by simpa using hbw) _).trans hb3).trans hb4,by omega⟩
       case measure=>simp[qg5];omega
      ·have hrd:read dict s=none:=by rw[zU HTO,qmE (zU HR) (zU HTF) (by rw[<-zU HC];exact hc0)];rfl
       have HRD:=zH hrd;have z1:((c:Int) == 0)=false:=by rw[zB];omega
       have z2:((c:Int) != 0)=true:=by rw[bne_iff_ne];omega
       clear hrd hc0;go_wp2_with fail;refine (zU C1 _).mono ?_;rintro e w1 ⟨rfl,hb1⟩;have hbw:=Nat.le_trans hbel.size hb1.size;have hz1:=hb1.size;go_wp2_with fail;refine (zU C2 _).mono ?_;rintro e w2 ⟨rfl,hb2⟩;have B0:=(hb2.block w1.heap.size (by simp)).trans (heap_alloc_new w1 (.cells #[S [],I 0,I m] 186));obtain⟨K0,K1,K2,F0,F1,F2⟩:=qeo B0;have HM1:=zH (((((zU HMK).kept hb1).alloc _).kept hb2).set_far (p:=⟨w1.heap.size,1,none⟩) (by show w.heap.size+1≠w1.heap.size;omega) (I f) B0 (by decide));clear B0;go_wp2_with fail;refine (zU C3 _ (zU HM1)).mono ?_;rintro e w3 ⟨rfl,_,hb3,_⟩;go_wp2_with fail
       try rw[Exit.noGoto_ret]
       go_ret2;exact⟨ReadRes.no (zU HRD),((((hbel.trans (hb1.mono hbel.size)).alloc hbw _).trans (hb2.mono (by simp;omega))).setCell (by simpa using hbw) _).trans hb3⟩
theorem qp2{s x:qa}(h:qaG s=some x):x.length<=1024:=by
 unfold qaG at h
 split at h
 ·cases h
 ·unfold qeJ at h
  split at h
  ·cases h
  ·split at h
   ·rename_i he
    obtain⟨h1,_,_⟩:=qfd he;cases h;exact (qci h1).2.1
   ·cases h
theorem qqJ(dict b:qa)(w:World)(hd:dict.length<=256)(hb:b.length<=140737488355328) :
  Calls Tryz.prog 141 #[S dict,S b] w fun e w'=>qmn (ql dict b) e/\Below w.heap.size w w':=by
 cases b with
 | nil =>
  go_enter Tryz.func141,Tryz.ntmps141;go_wp2_with fail;go_ret2;exact⟨.inr ⟨1,rfl,by decide,rfl⟩,Below.refl _ _⟩
 | cons k s =>
  have hsl:s.length<=4611686018427387904:=by rw[List.length_cons]at hb;omega
  have hsl2:s.length<=140737488355328:=by rw[List.length_cons]at hb;omega
  have n1:((k::s) == [])=false:=rfl;have n2:slice (k::s) 1 (k::s).length=s:=by rw[qcc];rfl
  have n2b:slice (k::s) 1 (s.length+1)=s:=n2;have n3:(0:Nat)<(k::s).length:=by simp
  have n4:(⟨(k::s).toArray⟩:ByteArray)[0]'n3=k:=rfl;have n5:(1:Nat)<=(k::s).length:=by simp
  have hk256:=k.toNat_lt;have e0:k=0↔k.toNat=0:=⟨fun e=>by rw[e];rfl,fun e=>UInt8.toNat_inj.1 e⟩
  have e1:k=1↔k.toNat=1:=⟨fun e=>by rw[e];rfl,fun e=>UInt8.toNat_inj.1 e⟩
  have e2:k=2↔k.toNat=2:=⟨fun e=>by rw[e];rfl,fun e=>UInt8.toNat_inj.1 e⟩
  have hb0:=Below.refl w.heap.size w;have HB0:=zH hb0
  by_cases h0:k=0
  ·have z0:(k.toNat:Int)=0:=by have:=e0.1 h0;omega
   by_cases h512:s.length<=512
   ·have HO:=zH (show ql dict (k::s)=some s by rw[ql,if_pos h0,if_pos h512]);clear e0 e1 e2 h0 hb0;go_enter Tryz.func141,Tryz.ntmps141;go_wp2_with fail;go_ret2;rw[zU HO];exact⟨.inl ⟨s,rfl,rfl⟩,zU HB0⟩
   ·have HO:=zH (show ql dict (k::s)=none by rw[ql,if_pos h0,if_neg h512]);clear e0 e1 e2 h0 hb0;go_enter Tryz.func141,Tryz.ntmps141;go_wp2_with fail;go_ret2;rw[zU HO];exact⟨.inr ⟨1,rfl,by decide,rfl⟩,zU HB0⟩
  ·have f0:((k.toNat:Int) == 0)=false:=by rw[zB];intro e;exact h0 (e0.2 (by omega))
   by_cases h1:k=1
   ·have z1:((k.toNat:Int) == 1)=true:=by rw[beq_iff_eq];have:=e1.1 h1;omega
    have hun:ql dict (k::s)=qbQ dict s:=by rw[ql,if_neg h0,if_pos h1]
    clear e0 e1 e2 h0 h1 hb0;go_enter Tryz.func141,Tryz.ntmps141;cases hrd:read dict s with
    | none =>
     have c2:=fun (W:World)=>qgD dict s W hd hsl;rw[hrd]at c2;have c2:=zH c2;have HO:=zH (show ql dict (k::s)=none by rw[hun];unfold qbQ;rw[hrd];rfl);clear hrd;go_wp2_with fail;refine (zU c2 _).mono ?_;rintro e w2 ⟨⟨v,err,rfl,hv⟩,hb2⟩;have H2:=zH ((zU HB0).trans (hb2.mono (zU HB0).size));clear hb2
     rcases hv with⟨rfl,rfl,_⟩|⟨_,l,hl,_⟩
     ·go_wp2_with fail;go_ret2;rw[zU HO];exact⟨.inr ⟨1,rfl,by decide,rfl⟩,zU H2⟩
     ·cases hl
    | some l =>
     have c2:=fun (W:World)=>qgD dict s W hd hsl;rw[hrd]at c2;have c2:=zH c2
     have hpl:(qF dict l).2=0:=by
      have hw:=qeN hd hrd
      by_cases e:(qF dict l).2=0
      ·exact e
      ·unfold write at hw;rw[if_pos e]at hw;exact absurd (Prod.ext_iff.1 hw).2 e
     have hln:=qcW hpl;have c3:=fun (W:World) (A:Option Addr) (n cap:Nat) (h:ToksAt W W.heap.size A n l)=>qke dict A n cap l W h (by omega) (by have:=h.1;omega);rw[hpl]at c3;obtain⟨t,ht⟩:∃t,t=(qF dict l).1:=⟨_,rfl⟩
     rw[<-ht]at c3;have c3:=zH c3;have HO:=zH (show ql dict (k::s)=some t by rw[hun];unfold qbQ;rw[hrd,ht];rfl);clear hrd hpl hln ht;go_wp2_with fail;refine (zU c2 _).mono ?_;rintro e w2 ⟨⟨v,err,rfl,hv⟩,hb2⟩;have H2:=zH ((zU HB0).trans (hb2.mono (zU HB0).size));clear hb2
     rcases hv with⟨_,_,hl⟩|⟨rfl,l',hl,A,n,cap,rfl,hat⟩
     ·cases hl
     ·cases hl;have HAT:=zH hat;clear hat;go_wp2_with fail;refine (zU c3 _ _ _ _ (zU HAT)).mono ?_;rintro e w3 ⟨rfl,hb3⟩;have H3:=zH ((zU H2).trans (hb3.mono (zU H2).size));clear hb3;go_wp2_with fail;go_ret2;rw[zU HO];exact⟨.inl ⟨t,rfl,rfl⟩,zU H3⟩
   ·have f1:((k.toNat:Int) == 1)=false:=by rw[zB];intro e;exact h1 (e1.2 (by omega))
    by_cases h2:k=2
    ·have z2:((k.toNat:Int) == 2)=true:=by rw[beq_iff_eq];have:=e2.1 h2;omega
     have hun:ql dict (k::s)=(qaG s).bind (qbQ dict):=by rw[ql,if_neg h0,if_neg h1,if_pos h2]
     have c1:=fun (W:World)=>qp3 s W hsl2;clear e0 e1 e2 h0 h1 h2 hb0;go_enter Tryz.func141,Tryz.ntmps141;cases hdx:qaG s with
     | none =>
      rw[hdx]at c1;have c1:=zH c1;have HO:=zH (show ql dict (k::s)=none by rw[hun,hdx];rfl);clear hdx hun;go_wp2_with fail;refine (zU c1 _).mono ?_;rintro e w1 ⟨hr,hb1⟩;have H1:=zH hb1;clear hb1
      rcases hr with⟨t,ht,_⟩|⟨q,_,hq,rfl⟩
      ·cases ht
      ·have d1:((q:Int) != 0)=true:=by rw[bne_iff_ne];omega
       have d2:((q:Int) == 0)=false:=by rw[zB];omega
       have HQ:=zH hq;clear hq;go_wp2_with fail;go_ret2;rw[zU HO];exact⟨.inr ⟨q,rfl,zU HQ,rfl⟩,zU H1⟩
     | some x =>
      rw[hdx]at c1;have c1:=zH c1;have hxl:x.length<=4611686018427387904:=by have:=qp2 hdx;omega
      go_wp2_with fail;refine (zU c1 _).mono ?_;rintro e w1 ⟨hr,hb1⟩;have H1:=zH hb1;clear hb1
      rcases hr with⟨t,ht,rfl⟩|⟨q,hq,_,_⟩
      ·cases ht;cases hrd:read dict x with
       | none =>
        have c2:=fun (W:World)=>qgD dict x W hd hxl;rw[hrd]at c2;have c2:=zH c2;have HO:=zH (show ql dict (k::s)=none by rw[hun,hdx];simp only[Option.bind_some];unfold qbQ;rw[hrd];rfl);clear hrd;go_wp2_with fail;refine (zU c2 _).mono ?_;rintro e w2 ⟨⟨v,err,rfl,hv⟩,hb2⟩;have H2:=zH ((zU H1).trans (hb2.mono (zU H1).size));clear hb2
        rcases hv with⟨rfl,rfl,_⟩|⟨_,l,hl,_⟩
        ·go_wp2_with fail;go_ret2;rw[zU HO];exact⟨.inr ⟨1,rfl,by decide,rfl⟩,zU H2⟩
        ·cases hl
       | some l =>
        have c2:=fun (W:World)=>qgD dict x W hd hxl;rw[hrd]at c2;have c2:=zH c2
        have hpl:(qF dict l).2=0:=by
         have hw:=qeN hd hrd
         by_cases e:(qF dict l).2=0
         ·exact e
         ·unfold write at hw;rw[if_pos e]at hw;exact absurd (Prod.ext_iff.1 hw).2 e
        have hln:=qcW hpl;have c3:=fun (W:World) (A:Option Addr) (n cap:Nat) (h:ToksAt W W.heap.size A n l)=>qke dict A n cap l W h (by omega) (by have:=h.1;omega);rw[hpl]at c3;obtain⟨t,ht⟩:∃t,t=(qF dict l).1:=⟨_,rfl⟩
        rw[<-ht]at c3;have c3:=zH c3;have HO:=zH (show ql dict (k::s)=some t by rw[hun,hdx];simp only[Option.bind_some];unfold qbQ;rw[hrd,ht];rfl);clear hrd hpl hln ht;go_wp2_with fail;refine (zU c2 _).mono ?_;rintro e w2 ⟨⟨v,err,rfl,hv⟩,hb2⟩;have H2:=zH ((zU H1).trans (hb2.mono (zU H1).size));clear hb2
        rcases hv with⟨_,_,hl⟩|⟨rfl,l',hl,A,n,cap,rfl,hat⟩
        ·cases hl
        ·cases hl;have HAT:=zH hat;clear hat;go_wp2_with fail;refine (zU c3 _ _ _ _ (zU HAT)).mono ?_;rintro e w3 ⟨rfl,hb3⟩;have H3:=zH ((zU H2).trans (hb3.mono (zU H2).size));clear hb3;go_wp2_with fail;go_ret2;rw[zU HO];exact⟨.inl ⟨t,rfl,rfl⟩,zU H3⟩
      ·cases hq
    ·have f2:((k.toNat:Int) == 2)=false:=by rw[zB];intro e;exact h2 (e2.2 (by omega))
     have HO:=zH (show ql dict (k::s)=none by rw[ql,if_neg h0,if_neg h1,if_neg h2]);clear e0 e1 e2 h0 h1 h2 hb0;go_enter Tryz.func141,Tryz.ntmps141;go_wp2_with fail;go_ret2;rw[zU HO];exact⟨.inr ⟨1,rfl,by decide,rfl⟩,zU HB0⟩
def qf7(dict b:qa):Nat:=if 256<dict.length then 2 else if (ql dict b).isSome=true then 0 else 1
def qf6(dict b:qa):qa:=if 256<dict.length then []else (ql dict b).getD []
theorem qlO(dict b:qa)(w:World)(hd2:dict.length<=9223372036854775807)(hb:b.length<=140737488355328) :
  Calls Tryz.prog 106 #[S dict,S b] w fun e w'=>e=.returned (.tuple #[S (qf6 dict b),I (qf7 dict b)])/\Below w.heap.size w w':=by
 by_cases hd:dict.length<=256
 ·have e1:qf7 dict b=if (ql dict b).isSome=true then 0 else 1:=by unfold qf7;rw[if_neg (by omega)]
  have e2:qf6 dict b=(ql dict b).getD []:=by unfold qf6;rw[if_neg (by omega)]
  rw[e1,e2];have c1:=fun (W:World)=>qqJ dict b W hd hb;obtain⟨o,ho⟩:∃o,o=ql dict b:=⟨_,rfl⟩
  rw[<-ho]at c1 ⊢;have c1:=zH c1;clear ho e1 e2;go_enter Tryz.func106,Tryz.ntmps106;go_wp2_with fail;refine (zU c1 _).mono ?_;rintro e w1 ⟨hr,hb1⟩
  rcases hr with⟨t,rfl,rfl⟩|⟨q,rfl,hq,rfl⟩
  ·go_wp2_with fail;go_ret2;exact⟨rfl,hb1⟩
  ·have d1:((q:Int) != 0)=true:=by rw[bne_iff_ne];omega
   have d2:((q:Int) == 0)=false:=by rw[zB];omega
   clear hq;go_wp2_with fail;go_ret2;exact⟨rfl,hb1⟩
 ·have e1:qf7 dict b=2:=by unfold qf7;rw[if_pos (by omega)]
  have e2:qf6 dict b=[]:=by unfold qf6;rw[if_pos (by omega)]
  rw[e1,e2];have hd3:(256:Int)<(dict.length:Int):=by omega
  clear e1 e2;go_enter Tryz.func106,Tryz.ntmps106;go_wp2_with fail;go_ret2;exact⟨rfl,Below.refl _ _⟩
structure FBox(f:Fil)(w wr:World)(B D:Nat):Prop where
 o:wr.heap[D]?=some (.cells #[S f.name,I f.dict,I f.size,I f.sum,S f.block] 89 (0,0))
 le:B<=D
 bel:Below B w wr
theorem FBox.lt{f:Fil}{w wr:World}{B D:Nat}(h:FBox f w wr B D):D<wr.heap.size:=(zE h.o).1
theorem FBox.below{f:Fil}{w wr w1:World}{B D:Nat}(h:FBox f w wr B D)(hb:Below wr.heap.size wr w1):FBox f w w1 B D :=
 ⟨(hb.block _ h.lt).trans h.o,h.le,h.bel.trans (hb.mono (Nat.le_of_lt (Nat.lt_of_le_of_lt h.le h.lt)))⟩
theorem FBox.c{f:Fil}{w wr:World}{B D:Nat}(h:FBox f w wr B D):wr.cell? ⟨D,0,none⟩=some (S f.name)/\wr.cell? ⟨D,1,none⟩=some (I f.dict)/\wr.cell? ⟨D,2,none⟩=some (I f.size)/\wr.cell? ⟨D,3,none⟩=some (I f.sum)/\wr.cell? ⟨D,4,none⟩=some (S f.block):=by
 refine⟨?_,?_,?_,?_,?_⟩ <;> (rw[cell_of_row _ _ _ _ _ _ h.o];rfl)
theorem FBox.new(f:Fil){w w1:World}{B:Nat}(hb:Below B w w1)(hB:B<=w1.heap.size):FBox f w (w1.alloc (.cells #[S f.name,I f.dict,I f.size,I f.sum,S f.block] 89)) B w1.heap.size :=
 ⟨heap_alloc_new _ _,hB,hb.alloc hB _⟩
def qwF(o:Option qa)(e:Ending):Prop:=(∃t,o=some t/\e=.returned (.tuple #[S t,.bool true]))\/(∃t:qa,o=none/\e=.returned (.tuple #[S t,.bool false]))
theorem qj6(A:Option Addr)(n cap:Nat)(A2:Option Addr)(n2 cap2:Nat)(a:Arc)(f:Fil)(w:World)(h:ArcIn w A n A2 n2 a)(hz:FilSz f)(hn:n<=4611686018427387904)(hd:∀d∈a.ds,d.length<=256) :
  Calls Tryz.prog 65 #[qv A n cap A2 n2 cap2,qfn f] w fun e w'=>qwF (qao a.ds f) e/\Below w.heap.size w w':=by
 obtain⟨B,hB⟩:∃B,B=w.heap.size:=⟨_,rfl⟩
 obtain⟨w0,hw0⟩:∃w0,w0=(w.alloc (.cells #[.slice A n cap,.slice A2 n2 cap2] 33)).alloc (.cells #[S f.name,I f.dict,I f.size,I f.sum,S f.block] 89):=⟨_,rfl⟩
 have hb1:Below B w (w.alloc (.cells #[.slice A n cap,.slice A2 n2 cap2] 33)):=by rw[hB];exact (Below.refl _ _).alloc (Nat.le_refl _) _
 have F0:=zH (show FBox f w w0 B (B+1)by rw[hw0,hB];have:=FBox.new f hb1 (by rw[hB];simp);rw[hB]at this;simpa using this);have c1:=fun (k:Int) (hk0 : -9223372036854775808<=k) (hk1:k<=9223372036854775807)=>qkC A n cap A2 n2 cap2 a k w0 (by rw[hw0];exact (h.alloc _).alloc _) hn hk0 hk1;have c1:=zH (c1 f.dict hz.d0 hz.d1);have hs:(n:Int)=n:=rfl;have HB:=zH hB;have HW0:=zH hw0;obtain⟨o,ho⟩:∃o,o=qL a.ds f.dict:=⟨_,rfl⟩
 rw[<-ho]at c1;have htx:qao a.ds f=o.bind fun d=>qbH d f.block f.size f.sum:=by unfold qao;rw[ho]
 have hol:∀d,o=some d->d.length<=256:=fun d hd2=>qdM hd (ho.symm.trans hd2);have c2:=zH (fun (d:qa) (hd2:d.length<=9223372036854775807) (W:World)=>qlO d f.block W hd2 hz.bl);rw[htx];clear hB hw0 ho htx hb1 h;cases o with
 | none =>
  go_enter Tryz.func65,Tryz.ntmps65;go_upto_region 1 with fail
  rw[<-zU HW0,<-zU HB];obtain⟨q0,q1,q2,q3,q4⟩:=(zU F0).c;have g1:w0.cell? ⟨B,0,none⟩=some (.slice A n cap):=by rw[zU HW0,zU HB,cell_of_row _ _ _ _ _ _ (heap_alloc2_old _ _ _)];rfl
  have g2:w0.cell? ⟨B,1,none⟩=some (.slice A2 n2 cap2):=by rw[zU HW0,zU HB,cell_of_row _ _ _ _ _ _ (heap_alloc2_old _ _ _)];rfl
  go_wp2_with fail;refine (zU c1).mono ?_;rintro e w1 ⟨rfl,hb1⟩;have F1:=zH ((zU F0).below hb1);clear hb1;go_wp2_with fail;go_ret2;rw[<-zU HB];exact⟨.inr ⟨[],rfl,rfl⟩,(zU F1).bel⟩
 | some d =>
  have hdl:=hol d rfl;have c2:=zU c2 d (by omega);have hue:qf7 d f.block=if (ql d f.block).isSome=true then 0 else 1:=if_neg (by omega)
  have hut:qf6 d f.block=(ql d f.block).getD []:=if_neg (by omega);rw[hue,hut]at c2;have hsz:qbH d f.block f.size f.sum=(ql d f.block).bind fun t=>if (t.length:Int)=f.size/\((qaF t:Nat):Int)=f.sum then some t else none:=rfl
  have hul:∀t,ql d f.block=some t->t.length<=512:=fun t ht=>qeS ht;obtain⟨u,hu⟩:∃u,u=ql d f.block:=⟨_,rfl⟩
  rw[<-hu]at c2 hsz hul;have HSZ:=zH hsz;clear hue hut hu hsz hol hdl;cases u with
  | none =>
   have c2:=zH c2;go_enter Tryz.func65,Tryz.ntmps65;go_upto_region 1 with fail
   rw[<-zU HW0,<-zU HB];obtain⟨q0,q1,q2,q3,q4⟩:=(zU F0).c;have g1:w0.cell? ⟨B,0,none⟩=some (.slice A n cap):=by rw[zU HW0,zU HB,cell_of_row _ _ _ _ _ _ (heap_alloc2_old _ _ _)];rfl
   have g2:w0.cell? ⟨B,1,none⟩=some (.slice A2 n2 cap2):=by rw[zU HW0,zU HB,cell_of_row _ _ _ _ _ _ (heap_alloc2_old _ _ _)];rfl
   go_wp2_with fail;refine (zU c1).mono ?_;rintro e w1 ⟨rfl,hb1⟩;have F1:=zH ((zU F0).below hb1);clear hb1 q0 q1 q2 q3 q4 g1 g2;obtain⟨q0,q1,q2,q3,q4⟩:=(zU F1).c;go_wp2_with fail;refine (zU c2 _).mono ?_;rintro e w2 ⟨rfl,hb2⟩;have F2:=zH ((zU F1).below hb2);clear hb2 q0 q1 q2 q3 q4;obtain⟨q0,q1,q2,q3,q4⟩:=(zU F2).c;go_wp2_with fail;go_quiet (fail);go_wp2_with fail;go_ret2;simp only[Option.bind_some];rw[<-zU HB,zU HSZ];exact⟨.inr ⟨[],rfl,rfl⟩,zD (zU F2).bel _⟩
  | some t =>
   have htl:=hul t rfl;have c2:=zH c2;have c3:=zH (fun (W:World)=>(qqj t W (by omega)).mono fun e w' ⟨h1,h2⟩=>(⟨h1,h2.symm⟩:e=Ending.returned (I (qaF t))/\w'=W))
   have hcase:((t.length:Int) == f.size)=false/\qbH d f.block f.size f.sum=none\/((t.length:Int) == f.size)=true/\(((qaF t:Nat):Int) == f.sum)=false/\qbH d f.block f.size f.sum=none\/((t.length:Int) == f.size)=true/\(((qaF t:Nat):Int) == f.sum)=true/\qbH d f.block f.size f.sum=some t:=by
    rw[zU HSZ];simp only[Option.bind_some]
    by_cases k1:(t.length:Int)=f.size
    ·by_cases k2:((qaF t:Nat):Int)=f.sum
     ·exact .inr (.inr ⟨by rw[beq_iff_eq];exact k1,by rw[beq_iff_eq];exact k2,if_pos ⟨k1,k2⟩⟩)
     ·exact .inr (.inl ⟨by rw[beq_iff_eq];exact k1,by rw[zB];exact k2,if_neg (fun e=>k2 e.2)⟩)
    ·exact .inl ⟨by rw[zB];exact k1,if_neg (fun e=>k1 e.1)⟩
   clear hul HSZ;obtain⟨sm,hsm⟩:∃sm,sm=qaF t:=⟨_,rfl⟩
   have c3:=zU c3;rw[<-hsm]at c3 hcase;have c3:=zH c3;clear hsm
   rcases hcase with⟨e1,e2⟩|⟨e1,e3,e2⟩|⟨e1,e3,e2⟩
   all_goals
    have E2:=zH e2;clear e2;go_enter Tryz.func65,Tryz.ntmps65;go_upto_region 1 with fail
    rw[<-zU HW0,<-zU HB];obtain⟨q0,q1,q2,q3,q4⟩:=(zU F0).c;have g1:w0.cell? ⟨B,0,none⟩=some (.slice A n cap):=by rw[zU HW0,zU HB,cell_of_row _ _ _ _ _ _ (heap_alloc2_old _ _ _)];rfl
    have g2:w0.cell? ⟨B,1,none⟩=some (.slice A2 n2 cap2):=by rw[zU HW0,zU HB,cell_of_row _ _ _ _ _ _ (heap_alloc2_old _ _ _)];rfl
    go_wp2_with fail;refine (zU c1).mono ?_;rintro e w1 ⟨rfl,hb1⟩;have F1:=zH ((zU F0).below hb1);clear hb1 q0 q1 q2 q3 q4 g1 g2;obtain⟨q0,q1,q2,q3,q4⟩:=(zU F1).c;go_wp2_with fail;refine (zU c2 _).mono ?_;rintro e w2 ⟨rfl,hb2⟩;have F2:=zH ((zU F1).below hb2);clear hb2 q0 q1 q2 q3 q4;obtain⟨q0,q1,q2,q3,q4⟩:=(zU F2).c;go_wp2_with fail;go_quiet (first|(go_at_call 98;refine Calls.quiet_of_same (zU c3 _)));go_wp2_with fail;go_ret2;simp only[Option.bind_some];rw[<-zU HB,zU E2]
    first
     | exact⟨.inl ⟨t,rfl,rfl⟩,zD (zU F2).bel _⟩
     | exact⟨.inr ⟨t,rfl,rfl⟩,zD (zU F2).bel _⟩
end
end Go.Proofs.YtbnmfdlaabdlhaaGreatDoor
namespace Go.Proofs
open Go.Shelf
open Go.RowKit
def Tryz.laysGw17_ren:Go.Shelf.Ren:=⟨fun|17=>94|15=>130|20=>160|n=>n,fun|9=>9|23=>118|4=>4|3=>3|0=>0|21=>21|n=>n,fun|n=>n⟩
theorem Tryz.laysGw17:Go.Proofs.LaysGw.n17 Tryz.prog Tryz.laysGw17_ren:={
 mixed:=by kernel_rfl
 f15:=Tryz.func130.trans (congrArg some (by kernel_rfl))
 f17:=Tryz.func94.trans (congrArg some (by kernel_rfl))
 f20:=Tryz.func160.trans (congrArg some (by kernel_rfl))
 t0:=Tryz.underlying0
 a0:=Tryz.isAgg0
 z0:=Tryz.sizeOf0
 v0:=Tryz.zeroValue0
 i0:=by kernel_rfl
 t3:=Tryz.underlying3
 a3:=Tryz.isAgg3
 z3:=Tryz.sizeOf3
 v3:=Tryz.zeroValue3
 i3:=by kernel_rfl
 t4:=Tryz.underlying4
 a4:=Tryz.isAgg4
 z4:=Tryz.sizeOf4
 v4:=Tryz.zeroValue4
 i4:=by kernel_rfl
 t9:=Tryz.underlying9
 a9:=Tryz.isAgg9
 z9:=Tryz.sizeOf9
 v9:=Tryz.zeroValue9
 i9:=by kernel_rfl
 t21:=Tryz.underlying21
 a21:=Tryz.isAgg21
 z21:=Tryz.sizeOf21
 v21:=Tryz.zeroValue21
 i21:=by kernel_rfl
 t23:=Tryz.underlying118
 a23:=Tryz.isAgg118
 z23:=Tryz.sizeOf118
 v23:=Tryz.zeroValue118
 i23:=by kernel_rfl }
theorem Tryz.strings_ContainsFunc_runes(g:Nat)(lb:Array Value)(eg:∀args w,(callFunc g args).run Tryz.prog w=.ok (.enter g args) w)(p:Nat->Bool)(s:ByteArray)(w:World)(hp:PredAtRunes Tryz.prog g lb p w) :
  Calls Tryz.prog 94 #[.string s,.func (.func g) #[] lb] w fun e w'=>e=.returned (.bool (decide (0<=Lib.idxFunc p true s)))/\Below w.heap.size w w':=Any.strings_ContainsFunc_runes Tryz.laysGw17 g lb eg p s w hp
end Go.Proofs
namespace Go.Proofs.YtbnmfdlaabdlhaaGreatDoor
section
open Go.RowKit Go.Lib Pl
attribute [local go_sem] qf qe
def qc7(x:Nat):Bool:=decide (97<=x/\x<=122\/48<=x/\x<=57\/x=46)
theorem qqr(c:UInt8):qc7 c.toNat=qbE c:=rfl
theorem qlg{x:Nat}(h:128<=x):qc7 x=false:=by unfold qc7;rw[decide_eq_false];omega
theorem qs5(x:Nat)(w:World)(hx:x<=1114111) :
  Calls Tryz.prog 95 #[.int .i32 (x:Int)] w fun e w'=>e=.returned (.bool (!qc7 x))/\w'=w:=by
 have hcase:(x<46/\qc7 x=false)\/(x=46/\qc7 x=true)\/(x=47/\qc7 x=false)\/(48<=x/\x<=57/\qc7 x=true)\/(57<x/\x<97/\qc7 x=false)\/(97<=x/\x<=122/\qc7 x=true)\/(122<x/\qc7 x=false):=by
  have ht:∀(P:Prop) [Decidable P],P->decide P=true:=fun P _ h=>decide_eq_true h;have hf:∀(P:Prop) [Decidable P],¬P->decide P=false:=fun P _ h=>decide_eq_false h
  rcases (show x<46\/x=46\/x=47\/(48<=x/\x<=57)\/(57<x/\x<97)\/(97<=x/\x<=122)\/122<x by omega)with h|h|h|h|h|h|h
  ·exact .inl ⟨h,hf _ (by omega)⟩
  ·exact .inr (.inl ⟨h,ht _ (by omega)⟩)
  ·exact .inr (.inr (.inl ⟨h,hf _ (by omega)⟩))
  ·exact .inr (.inr (.inr (.inl ⟨h.1,h.2,ht _ (by omega)⟩)))
  ·exact .inr (.inr (.inr (.inr (.inl ⟨h.1,h.2,hf _ (by omega)⟩))))
  ·exact .inr (.inr (.inr (.inr (.inr (.inl ⟨h.1,h.2,ht _ (by omega)⟩)))))
  ·exact .inr (.inr (.inr (.inr (.inr (.inr ⟨h,hf _ (by omega)⟩)))))
 rcases hcase with⟨h1,e⟩|⟨h1,e⟩|⟨h1,e⟩|⟨h1,h2,e⟩|⟨h1,h2,e⟩|⟨h1,h2,e⟩|⟨h1,e⟩
 ·rw[e];have d1:(x:Int)<97:=by omega
  have d2:(x:Int)<48:=by omega
  have d3:((x:Int) != 46)=true:=by rw[bne_iff_ne];omega
  go_enter Tryz.func95,Tryz.ntmps95;go_wp2_with fail;go_ret;exact⟨rfl,rfl⟩
 ·subst h1;rw[e];go_enter Tryz.func95,Tryz.ntmps95;go_wp2_with fail;go_ret;exact⟨rfl,rfl⟩
 ·subst h1;rw[e];go_enter Tryz.func95,Tryz.ntmps95;go_wp2_with fail;go_ret;exact⟨rfl,rfl⟩
 ·rw[e];have d1:(x:Int)<97:=by omega
  have d2:¬(x:Int)<48:=by omega
  have d3:¬(57:Int)<(x:Int):=by omega
  go_enter Tryz.func95,Tryz.ntmps95;go_wp2_with fail;go_ret;exact⟨rfl,rfl⟩
 ·rw[e];have d1:(x:Int)<97:=by omega
  have d2:¬(x:Int)<48:=by omega
  have d3:(57:Int)<(x:Int):=by omega
  have d4:((x:Int) != 46)=true:=by rw[bne_iff_ne];omega
  go_enter Tryz.func95,Tryz.ntmps95;go_wp2_with fail;go_ret;exact⟨rfl,rfl⟩
 ·rw[e];have d1:¬(x:Int)<97:=by omega
  have d2:¬(122:Int)<(x:Int):=by omega
  go_enter Tryz.func95,Tryz.ntmps95;go_wp2_with fail;go_ret;exact⟨rfl,rfl⟩
 ·rw[e];have d1:¬(x:Int)<97:=by omega
  have d2:(122:Int)<(x:Int):=by omega
  have d3:¬(x:Int)<48:=by omega
  have d4:(57:Int)<(x:Int):=by omega
  have d5:((x:Int) != 46)=true:=by rw[bne_iff_ne];omega
  go_enter Tryz.func95,Tryz.ntmps95;go_wp2_with fail;go_ret;exact⟨rfl,rfl⟩
theorem qoU(l:qa):∀(f pos:Nat),l.length<=pos+f->(0<=Lib.idxFuncFrom (fun x=>!qc7 x) true ⟨l.toArray⟩ f pos↔(l.drop pos).all qbE=false)
 | 0,pos,h=>by
  rw[List.drop_of_length_le (by omega),Lib.idxFuncFrom];simp
 | f+1,pos,h=>by
  have hs:(⟨l.toArray⟩:ByteArray).size=l.length:=rfl
  by_cases hp:pos<l.length
  ·have hg:(⟨l.toArray⟩:ByteArray)[pos]'hp=l[pos]:=rfl;rw[List.drop_eq_getElem_cons hp,List.all_cons,Lib.idxFuncFrom,if_pos (by rw[hs];exact hp)]
   by_cases ha:(l[pos]).toNat<128
   ·have hd:=decode_ascii ⟨l.toArray⟩ pos hp (by rw[hg];exact ha);rw[hd,hg];simp only;rw[qqr]
    by_cases hc:qbE l[pos]=true
    ·rw[hc];have:=qoU l f (pos+1) (by omega);simpa using this
    ·have hc:qbE l[pos]=false:=by simpa using hc
     rw[hc];simp
   ·have hd:=(decode_high ⟨l.toArray⟩ pos hp (by rw[hg];omega)).1;rw[qlg hd];have hc:qbE l[pos]=false:=by rw[<-qqr];exact qlg (by omega)
    rw[hc];simp
  ·rw[Lib.idxFuncFrom_end _ _ _ _ _ (by rw[hs];exact hp),List.drop_of_length_le (by omega)];simp
theorem qoT(l:qa):decide (0<=Lib.idxFunc (fun x=>!qc7 x) true ⟨l.toArray⟩) = !l.all qbE:=by
 have:=qoU l l.length 0 (by omega);show decide (0<=Lib.idxFuncFrom (fun x=>!qc7 x) true ⟨l.toArray⟩ l.length 0) = !l.all qbE;rw[List.drop_zero]at this
 by_cases h:l.all qbE=true
 ·rw[h]at this ⊢;rw[decide_eq_false (fun e=>by have:=this.1 e;cases this)];rfl
 ·have h:l.all qbE=false:=by simpa using h
  rw[h]at this ⊢;rw[decide_eq_true (this.2 rfl)];rfl
theorem qoF(s:qa)(w:World)(hs:s.length<=140737488355328) :
  Calls Tryz.prog 58 #[S s] w fun e w'=>e=.returned (.bool (qbw s))/\Below w.heap.size w w':=by
 have c1:=fun (W:World)=>Tryz.strings_ContainsFunc_runes 95 #[] (by intro args w;rfl) (fun x=>!qc7 x) ⟨s.toArray⟩ W (fun W2 x hx _=>by
  show Calls Tryz.prog 95 (#[_]++#[]) W2 _;exact (qs5 x W2 hx).mono fun e w' ⟨h1,h2⟩=>⟨h1,0,h2⟩)
 have c1:∀W:World,Calls Tryz.prog 94 #[S s,.func (.func 95) #[] #[]] W fun e w'=>e=.returned (.bool (!s.all qbE))/\Below W.heap.size W w':=fun W=>by
  have:=c1 W;rw[qoT]at this;exact this
 have hnb:qbw s=(decide (1<=s.length/\s.length<=12) && s.all qbE):=rfl;obtain⟨q,hq⟩:∃q,q=s.all qbE:=⟨_,rfl⟩
 rw[<-hq]at c1 hnb;have c1:=zH c1;clear hq
 by_cases h0:s.length<1
 ·have h1:qbw s=false:=by rw[hnb,decide_eq_false (by omega)];rfl
  rw[h1];have d1:¬(0:Int)<(s.length:Int):=by omega
  clear hnb h1;go_enter Tryz.func58,Tryz.ntmps58;go_wp2_with fail;go_ret;exact⟨rfl,Below.refl _ _⟩
 ·have d1:(0:Int)<(s.length:Int):=by omega
  by_cases h2:12<s.length
  ·have h1:qbw s=false:=by rw[hnb,decide_eq_false (by omega)];rfl
   rw[h1];have d2:¬(s.length:Int)<=12:=by omega
   have d3:decide ((s.length:Int)<=12)=false:=decide_eq_false d2;clear hnb h1;go_enter Tryz.func58,Tryz.ntmps58;go_wp2_with fail;go_ret;exact⟨rfl,Below.refl _ _⟩
  ·have h1:qbw s=q:=by rw[hnb,decide_eq_true (by omega)];rfl
   rw[h1];have d2:(s.length:Int)<=12:=by omega
   have d3:decide ((s.length:Int)<=12)=true:=decide_eq_true d2;clear hnb h1;cases q
   all_goals
    go_enter Tryz.func58,Tryz.ntmps58;go_wp2_with fail;refine (zU c1 _).mono ?_;rintro e w1 ⟨rfl,hb1⟩;go_wp2_with fail;go_ret;exact⟨rfl,hb1⟩
theorem qlo(s:qa)(w:World)(hs:s.length<=140737488355328) :
  Calls Tryz.prog 109 #[S s] w fun e w'=>e=.returned (.bool (qbw s))/\w'=w:=by
 have c1:=fun (W:World)=>qb4 (s.length:Int) 1 12 W;have hnb:qbw s=(decide (1<=s.length/\s.length<=12) && s.all qbE):=rfl
 by_cases h0:1<=s.length/\s.length<=12
 ·rw[decide_eq_true h0,Bool.true_and]at hnb;rw[decide_eq_true (by omega)]at c1;have c1:=zH (fun (W:World)=>(c1 W).mono fun e w' ⟨h1,h2⟩=>(⟨h1,h2.symm⟩:e=Ending.returned (.bool true)/\w'=W));rw[hnb];clear hnb h0;go_enter Tryz.func109,Tryz.ntmps109;go_wp2_with fail;refine (zU c1 _).mono ?_;rintro e w1 ⟨rfl,rfl⟩;go_wp2_with fail;go_loop [3] (fun iv=>∃k:Nat,k<=s.length/\iv=.int .i64 k/\(s.take k).all qbE=true) (fun iv=>s.length-(intOf iv).toNat)
  case atStart=>exact⟨0,by omega,rfl,by simp⟩
  case round =>
   obtain⟨k,hk,rfl,hall⟩:=hrel;have HALL:=zH hall;clear hall
   by_cases hks:k<s.length
   ·obtain⟨c,hcc⟩:∃c,(⟨s.toArray⟩:ByteArray)[k]'hks=c:=⟨_,rfl⟩
    have hsc:s[k]?=some c:=by rw[zG hks];exact congrArg some hcc
    have hnx:(s.take (k+1)).all qbE=((s.take k).all qbE && qbE c):=by rw[List.take_add_one,hsc,List.all_append];simp
    have hc256:=c.toNat_lt
    have hst:qbE c=false->s.all qbE=false:=fun h=>by
     rw[<-List.take_append_drop (k+1) s,List.all_append,hnx,h];simp
    obtain⟨x,hx⟩:∃x,x=c.toNat:=⟨_,rfl⟩
    have hcase:(qbE c=false/\(x<46\/x=47\/57<x/\x<97\/122<x))\/(qbE c=true/\(x=46\/48<=x/\x<=57\/97<=x/\x<=122)):=by
     by_cases h:97<=x/\x<=122\/48<=x/\x<=57\/x=46
     ·exact .inr ⟨decide_eq_true (by rw[<-hx];exact h),by omega⟩
     ·exact .inl ⟨decide_eq_false (by rw[<-hx];exact h),by omega⟩
    have HNX:=zH hnx;have HST:=zH hst;rw[<-hx]at hc256;have hx':=hx.symm;clear hsc hnx hst hx
    rcases hcase with⟨hc,h1|h1|h1|h1⟩|⟨hc,h1|h1|h1⟩
    ·have HC:=zH hc;have d1:¬(97:Int)<=(x:Int):=by omega
     have d2:¬(48:Int)<=(x:Int):=by omega
     have d3:((x:Int) == 46)=false:=by rw[zB];omega
     have d1':decide ((97:Int)<=(x:Int))=false:=decide_eq_false d1;have d2':decide ((48:Int)<=(x:Int))=false:=decide_eq_false d2;clear hc;go_wp2_with fail;go_ret;exact⟨by rw[zU HST (zU HC)];rfl,rfl⟩
    ·have HC:=zH hc;subst h1;clear hc;go_wp2_with fail;go_ret;exact⟨by rw[zU HST (zU HC)];rfl,rfl⟩
    ·have HC:=zH hc;have d1:¬(97:Int)<=(x:Int):=by omega
     have d2:(48:Int)<=(x:Int):=by omega
     have d2b:¬(x:Int)<=57:=by omega
     have d3:((x:Int) == 46)=false:=by rw[zB];omega
     have d1':decide ((97:Int)<=(x:Int))=false:=decide_eq_false d1;have d2':decide ((48:Int)<=(x:Int))=true:=decide_eq_true d2;have d2b':decide ((x:Int)<=57)=false:=decide_eq_false d2b;clear hc;go_wp2_with fail;go_ret;exact⟨by rw[zU HST (zU HC)];rfl,rfl⟩
    ·have HC:=zH hc;have d1:(97:Int)<=(x:Int):=by omega
     have d1b:¬(x:Int)<=122:=by omega
     have d2:(48:Int)<=(x:Int):=by omega
     have d2b:¬(x:Int)<=57:=by omega
     have d3:((x:Int) == 46)=false:=by rw[zB];omega
     have d1':decide ((97:Int)<=(x:Int))=true:=decide_eq_true d1;have d1b':decide ((x:Int)<=122)=false:=decide_eq_false d1b;have d2':decide ((48:Int)<=(x:Int))=true:=decide_eq_true d2;have d2b':decide ((x:Int)<=57)=false:=decide_eq_false d2b;clear hc;go_wp2_with fail;go_ret;exact⟨by rw[zU HST (zU HC)];rfl,rfl⟩
    ·have HC:=zH hc;subst h1;clear hc;go_wp2_with fail;go_round
     case rel=>exact⟨k+1,by omega,by go_num,by rw[zU HNX,zU HALL,zU HC];rfl⟩
     case measure=>simp[intOf];omega
    ·have HC:=zH hc;have d1:¬(97:Int)<=(x:Int):=by omega
     have d2:(48:Int)<=(x:Int):=by omega
     have d2b:(x:Int)<=57:=by omega
     have d1':decide ((97:Int)<=(x:Int))=false:=decide_eq_false d1;have d2':decide ((48:Int)<=(x:Int))=true:=decide_eq_true d2;have d2b':decide ((x:Int)<=57)=true:=decide_eq_true d2b;clear hc;go_wp2_with fail;go_round
     case rel=>exact⟨k+1,by omega,by go_num,by rw[zU HNX,zU HALL,zU HC];rfl⟩
     case measure=>simp[intOf];omega
    ·have HC:=zH hc;have d1:(97:Int)<=(x:Int):=by omega
     have d1b:(x:Int)<=122:=by omega
     have d1':decide ((97:Int)<=(x:Int))=true:=decide_eq_true d1;have d1b':decide ((x:Int)<=122)=true:=decide_eq_true d1b;clear hc;go_wp2_with fail;go_round
     case rel=>exact⟨k+1,by omega,by go_num,by rw[zU HNX,zU HALL,zU HC];rfl⟩
     case measure=>simp[intOf];omega
   ·have hk':k=s.length:=by omega
    subst hk';rw[List.take_length]at HALL;go_wp2_with fail;go_ret;exact⟨by rw[zU HALL];rfl,rfl⟩
 ·rw[decide_eq_false h0,Bool.false_and]at hnb;rw[decide_eq_false (by omega)]at c1;have c1:=zH (fun (W:World)=>(c1 W).mono fun e w' ⟨h1,h2⟩=>(⟨h1,h2.symm⟩:e=Ending.returned (.bool false)/\w'=W));rw[hnb];clear hnb h0;go_enter Tryz.func109,Tryz.ntmps109;go_wp2_with fail;refine (zU c1 _).mono ?_;rintro e w1 ⟨rfl,rfl⟩;go_wp2_with fail;go_ret;exact⟨rfl,rfl⟩
def qfx(fs:List Fil)(k:Nat):qa:=((fs.take k).getLast?.map Fil.name).getD []
theorem qhx{fs:List Fil}{k:Nat}{f:Fil}(h:fs[k]?=some f):qfx fs (k+1)=f.name:=by
 unfold qfx;rw[List.take_add_one,h];simp
theorem qqC{fs:List Fil}{k:Nat}{f:Fil}(h:fs[k]?=some f):fs.drop k=f::fs.drop (k+1):=by
 have hk:=(List.getElem?_eq_some_iff.1 h).1;rw[List.drop_eq_getElem_cons hk]
 congr 1
 rw[zG hk]at h;exact Option.some.inj h
theorem qcB(A:Option Addr)(n cap:Nat)(A2:Option Addr)(n2 cap2:Nat)(a:Arc)(w:World)(h:ArcIn w A n A2 n2 a)(hz:ArcSz a) :
  Calls Tryz.prog 56 #[qv A n cap A2 n2 cap2] w fun e w'=>e=.returned (I (qh a))/\Below w.heap.size w w':=by
 obtain⟨B,hB⟩:∃B,B=w.heap.size:=⟨_,rfl⟩
 obtain⟨w0,hw0⟩:∃w0,w0=w.alloc (.cells #[.slice A n cap,.slice A2 n2 cap2] 33):=⟨_,rfl⟩
 have H0:=zH (show ABox A n cap A2 n2 cap2 a w w0 B by rw[hw0,hB];exact ABox.new h cap cap2);have hn1:n<=4611686018427387904:=by have:=hz.nd;have:=h.s.1;omega
 have hn2:n2<=4611686018427387904:=by have:=hz.nf;have:=h.f.1;omega
 have hl1:=h.s.1;have hl2:=h.f.1;have HB:=zH hB;have HW0:=zH hw0;have HZ:=zH hz;have hdz:∀t∈a.ds,t.length<=9223372036854775807:=fun t ht=>by have:=hz.ds t ht;omega
 have c1:=qjr A n cap a.ds w0 (zU H0).i.s hn1 hdz;have hck:qh a=if 4<n\/12<n2\/a.ds.any qaX=true then 2 else if qaL a.ds [] a.fs=true then 0 else 1:=by unfold qh;rw[hl1,hl2]
 obtain⟨q,hq⟩:∃q,q=a.ds.any qaX:=⟨_,rfl⟩
 rw[<-hq]at c1 hck;have c1:=zH c1;have HQ:=zH hq;have HCK:=zH hck;clear hB hw0 h hz hdz hck hq;have enter1:True:=trivial
 by_cases h4:4<n
 ·have e1:qh a=2:=by rw[zU HCK,if_pos (Or.inl h4)]
  rw[e1];have d1:(4:Int)<(n:Int):=by omega
  clear e1;go_enter Tryz.func56,Tryz.ntmps56;go_upto_region 1 with fail
  rw[<-zU HW0,<-zU HB];obtain⟨q0,q1⟩:=(zU H0).c;go_wp2_with fail;go_ret;rw[<-zU HB];exact⟨rfl,(zU H0).bel⟩
 by_cases h12:12<n2
 ·have e1:qh a=2:=by rw[zU HCK,if_pos (Or.inr (Or.inl h12))]
  rw[e1];have d1:¬(4:Int)<(n:Int):=by omega
  have d2:(12:Int)<(n2:Int):=by omega
  clear e1;go_enter Tryz.func56,Tryz.ntmps56;go_upto_region 1 with fail
  rw[<-zU HW0,<-zU HB];obtain⟨q0,q1⟩:=(zU H0).c;go_wp2_with fail;go_ret;rw[<-zU HB];exact⟨rfl,(zU H0).bel⟩
 have d1:¬(4:Int)<(n:Int):=by omega
 have d2:¬(12:Int)<(n2:Int):=by omega
 cases q with
 | true =>
  have e1:qh a=2:=by rw[zU HCK,if_pos (Or.inr (Or.inr rfl))]
  rw[e1];clear e1;go_enter Tryz.func56,Tryz.ntmps56;go_upto_region 1 with fail
  rw[<-zU HW0,<-zU HB];obtain⟨q0,q1⟩:=(zU H0).c;go_wp2_with fail;refine (zU c1).mono ?_;rintro e w1 ⟨rfl,rfl⟩;go_wp2_with fail;go_ret;rw[<-zU HB];exact⟨rfl,(zU H0).bel⟩
 | false =>
  have hck2:qh a=if qaL a.ds [] a.fs=true then 0 else 1:=by rw[zU HCK,if_neg (fun x=>x.elim h4 fun x=>x.elim h12 fun x=>by cases x)]
  rw[hck2]
  have hds:∀d∈a.ds,d.length<=256:=fun d hd=>by
   have:=List.any_eq_false.1 (zU HQ).symm d hd;simp only[qaX,decide_eq_true_eq]at this;omega
  have HDS:=zH hds;obtain⟨fs,hfs⟩:∃fs,fs=a.fs:=⟨_,rfl⟩
  have HFS:=zH hfs;obtain⟨r,hr⟩:∃r,r=qaL a.ds [] a.fs:=⟨_,rfl⟩
  rw[<-hr];have HR:=zH hr;clear hck2 hds HCK HQ hfs hr;go_enter Tryz.func56,Tryz.ntmps56;go_upto_region 1 with fail
  rw[<-zU HW0,<-zU HB];obtain⟨q0,q1⟩:=(zU H0).c;go_wp2_with fail;refine (zU c1).mono ?_;rintro e w1 ⟨rfl,rfl⟩;go_wp2_with fail;clear c1 HW0;go_loopw [3,26] (fun lv iv wr=>∃k:Nat,k<=n2/\iv=.int .i64 k/\lv=S (qfx a.fs k)/\ABox A n cap A2 n2 cap2 a w wr B/\r=qaL a.ds (qfx a.fs k) (a.fs.drop k)) (fun _ iv _=>n2-(intOf iv).toNat)
  case atStart=>exact⟨0,by omega,rfl,rfl,zU H0,by rw[zU HR];rfl⟩
  case round =>
   obtain⟨k,hk,rfl,rfl,hbx,hrk⟩:=hrel;have HBX:=zH hbx;obtain⟨p0,p1⟩:=hbx.c
   by_cases hkn:k<n2
   ·obtain⟨b,off,f,rfl,hb,hf,x0,x1,x2,x3,x4⟩:=hbx.i.f.at_ hkn;have hfz:=(zU HZ).fs f (List.mem_of_getElem? hf);have hnx:=qhx hf;rw[qqC hf,qaL]at hrk;have HRK:=zH hrk;have HNX:=zH hnx;obtain⟨w2,hw2⟩:∃w2,w2=wr.alloc (.cells #[S f.name,I f.dict,I f.size,I f.sum,S f.block] 89):=⟨_,rfl⟩
    obtain⟨D,hD⟩:∃D,D=wr.heap.size:=⟨_,rfl⟩
    have H2:=zH (show ABox A n cap (some ⟨b,off,none⟩) n2 cap2 a w w2 B by rw[hw2];exact hbx.below ((Below.refl _ _).alloc (Nat.le_refl _) _));have F2:=zH (show FBox f w w2 B D by rw[hw2,hD];exact FBox.new f hbx.bel (Nat.le_of_lt hbx.lt));have c2:=qj6 A n cap (some ⟨b,off,none⟩) n2 cap2 a f w2 (zU H2).i hfz hn1 (zU HDS);have c3:=zH (fun (W:World)=>qoF f.name W hfz.nm);have hfb:qea a.ds f=((qao a.ds f).isSome && qbw f.name):=rfl;obtain⟨o,ho⟩:∃o,o=qao a.ds f:=⟨_,rfl⟩
    rw[<-ho]at c2 hfb;obtain⟨m,hm⟩:∃m,m=qbw f.name:=⟨_,rfl⟩
    obtain⟨ln,hln⟩:∃ln,ln=qfx a.fs k:=⟨_,rfl⟩
    rw[<-hln]at hrk ⊢;rw[<-hm]at c3 hfb;rw[hfb]at hrk;have c2:=zH c2;obtain⟨g0,g1⟩:=(zU H2).c;obtain⟨y0,y1,y2,y3,y4⟩:=(zU F2).c;have hw2':=hw2.symm;have hD':=hD.symm;have hirr:=qaj ln
    have hcase:(o=none/\r=false)\/(∃t,o=some t/\m=false/\r=false)\/(∃t,o=some t/\m=true/\Op.bytesLess f.name ln=true/\r=false)\/(∃t,o=some t/\m=true/\Op.bytesLess f.name ln=false/\(f.name == ln)=true/\r=false) \/
      (∃t,o=some t/\m=true/\Op.bytesLess f.name ln=false/\(f.name == ln)=false/\r=qaL a.ds f.name (a.fs.drop (k+1))):=by
     rw[hrk];cases o with
     | none=>exact .inl ⟨rfl,rfl⟩
     | some t =>
      cases m with
      | false=>exact .inr (.inl ⟨t,rfl,rfl,rfl⟩)
      | true =>
       cases hlt:qs ln f.name with
       | false =>
        by_cases h1:qs f.name ln=true
        ·exact .inr (.inr (.inl ⟨t,rfl,rfl,by rw[qbf];exact h1,rfl⟩))
        ·have h1:qs f.name ln=false:=by simpa using h1
         have he:=qej h1 hlt;exact .inr (.inr (.inr (.inl ⟨t,rfl,rfl,by rw[qbf];exact h1,by rw[beq_iff_eq];exact he,rfl⟩)))
       | true =>
        have h1:qs f.name ln=false:=by
         cases h2:qs f.name ln with
         | false=>rfl
         | true=>have:=qcG h2 hlt;rw[qaj]at this;cases this
        have h3:(f.name == ln)=false:=by
         rw[zB];intro e;rw[e]at hlt;rw[qaj]at hlt;cases hlt
        exact .inr (.inr (.inr (.inr ⟨t,rfl,rfl,by rw[qbf];exact h1,h3,rfl⟩)))
    clear hrk hf hfz hnx hbx hw2 hD hirr HRK hfb hln ho hm
    rcases hcase with⟨rfl,hr⟩|⟨t,rfl,rfl,hr⟩|⟨t,rfl,rfl,s1,hr⟩|⟨t,rfl,rfl,s1,s2,hr⟩|⟨t,rfl,rfl,s1,s2,hr⟩
    ·subst hr;go_upto_region 7 with fail
     try rw[hw2']
     try rw[hD']
     go_wp2_with fail;refine (zU c2).mono ?_;rintro e w3 ⟨hres,hb3⟩;have F3:=zH ((zU F2).below hb3);clear hb3 y0 y1 y2 y3 y4 g0 g1 x0 x1 x2 x3 x4 p0 p1
     rcases hres with⟨t,ht,_⟩|⟨t,_,rfl⟩
     ·cases ht
     obtain⟨y0,y1,y2,y3,y4⟩:=(zU F3).c;go_wp2_with fail;go_ret;rw[<-zU HB];exact⟨rfl,(zU F3).bel⟩
    ·subst hr;go_upto_region 7 with fail
     try rw[hw2']
     try rw[hD']
     go_wp2_with fail;refine (zU c2).mono ?_;rintro e w3 ⟨hres,hb3⟩;have F3:=zH ((zU F2).below hb3);have H3:=zH ((zU H2).below hb3);clear hb3 y0 y1 y2 y3 y4 g0 g1 x0 x1 x2 x3 x4 p0 p1
     rcases hres with⟨t2,ht,rfl⟩|⟨t2,ht,_⟩
     rotate_left
     ·cases ht
     obtain⟨y0,y1,y2,y3,y4⟩:=(zU F3).c;go_wp2_with fail;refine (zU c3 _).mono ?_;rintro e w4 ⟨rfl,hb4⟩;have F4:=zH ((zU F3).below hb4);have H4:=zH ((zU H3).below hb4);clear hb4 y0 y1 y2 y3 y4;obtain⟨y0,y1,y2,y3,y4⟩:=(zU F4).c;go_wp2_with fail;go_ret;rw[<-zU HB];exact⟨rfl,(zU F4).bel⟩
    ·subst hr;go_upto_region 7 with fail
     try rw[hw2']
     try rw[hD']
     go_wp2_with fail;refine (zU c2).mono ?_;rintro e w3 ⟨hres,hb3⟩;have F3:=zH ((zU F2).below hb3);have H3:=zH ((zU H2).below hb3);clear hb3 y0 y1 y2 y3 y4 g0 g1 x0 x1 x2 x3 x4 p0 p1
     rcases hres with⟨t2,ht,rfl⟩|⟨t2,ht,_⟩
     rotate_left
     ·cases ht
     obtain⟨y0,y1,y2,y3,y4⟩:=(zU F3).c;go_wp2_with fail;refine (zU c3 _).mono ?_;rintro e w4 ⟨rfl,hb4⟩;have F4:=zH ((zU F3).below hb4);have H4:=zH ((zU H3).below hb4);clear hb4 y0 y1 y2 y3 y4;obtain⟨y0,y1,y2,y3,y4⟩:=(zU F4).c;go_wp2_with fail;go_ret;rw[<-zU HB];exact⟨rfl,(zU F4).bel⟩
    ·subst hr;go_upto_region 7 with fail
     try rw[hw2']
     try rw[hD']
     go_wp2_with fail;refine (zU c2).mono ?_;rintro e w3 ⟨hres,hb3⟩;have F3:=zH ((zU F2).below hb3);have H3:=zH ((zU H2).below hb3);clear hb3 y0 y1 y2 y3 y4 g0 g1 x0 x1 x2 x3 x4 p0 p1
     rcases hres with⟨t2,ht,rfl⟩|⟨t2,ht,_⟩
     rotate_left
     ·cases ht
     obtain⟨y0,y1,y2,y3,y4⟩:=(zU F3).c;go_wp2_with fail;refine (zU c3 _).mono ?_;rintro e w4 ⟨rfl,hb4⟩;have F4:=zH ((zU F3).below hb4);have H4:=zH ((zU H3).below hb4);clear hb4 y0 y1 y2 y3 y4;obtain⟨y0,y1,y2,y3,y4⟩:=(zU F4).c;go_wp2_with fail;go_ret;rw[<-zU HB];exact⟨rfl,(zU F4).bel⟩
    ·have HR2:=zH hr;clear hr;go_upto_region 7 with fail
     try rw[hw2']
     try rw[hD']
     go_wp2_with fail;refine (zU c2).mono ?_;rintro e w3 ⟨hres,hb3⟩;have F3:=zH ((zU F2).below hb3);have H3:=zH ((zU H2).below hb3);clear hb3 y0 y1 y2 y3 y4 g0 g1 x0 x1 x2 x3 x4 p0 p1
     rcases hres with⟨t2,ht,rfl⟩|⟨t2,ht,_⟩
     rotate_left
     ·cases ht
     obtain⟨y0,y1,y2,y3,y4⟩:=(zU F3).c;go_wp2_with fail;refine (zU c3 _).mono ?_;rintro e w4 ⟨rfl,hb4⟩;have F4:=zH ((zU F3).below hb4);have H4:=zH ((zU H3).below hb4);clear hb4 y0 y1 y2 y3 y4;obtain⟨y0,y1,y2,y3,y4⟩:=(zU F4).c;go_wp2_with fail;go_roundw
     case rel=>exact⟨k+1,by omega,by go_num,by rw[zU HNX],zU H4,by rw[zU HNX];exact zU HR2⟩
     case measure=>simp[intOf];omega
   ·have hk':k=n2:=by omega
    subst hk';rw[List.drop_of_length_le (by omega),qaL]at hrk;subst hrk;go_wp2_with fail;go_ret;rw[<-zU HB];exact⟨rfl,(zU HBX).bel⟩
theorem qlc{w:World}{base g cap n:Nat}{l:List Fil}(h:w.ownsRow base 89 5 (.slice (some ⟨g,0,none⟩) n cap) n (qb l)){i:Nat}(hi:i<n)(f:Fil) :
  w.there g (i*5) 5/\(w.setCells g (i*5) (qr f)).ownsRow base 89 5 (.slice (some ⟨g,0,none⟩) n cap) n (qb (l.set i f))/\w.grownBy (w.setCells g (i*5) (qr f)) (some g)/\base<=g:=by
 obtain⟨cur,hb,hg,hnc,hcm,hsz,ht⟩:=qbr h;have hl:=qcF h
 have hth:w.there g (i*5) 5:=fun j hj=>by
  refine⟨?_,by simp[World.frozen?,hg]⟩;rw[cell_of_row w g _ cur _ _ hg,Array.getElem?_eq_getElem (by omega)];rfl
 have hst:=run_storeCells_at Tryz.prog g (i*5) 89 (qr f) 0 cur w hg (by rw[qU];omega) (qch f);have hst2:=run_storeCells_cells (P:=Tryz.prog) g (i*5) (qr f) 0 w (fun j hj=>by simpa using (hth j (by simpa[qU]using hj)).1) (fun j hj=>by simpa using (hth j (by simpa[qU]using hj)).2) (qch f);rw[hst]at hst2;injection hst2 with _ hst2
 simp only[Nat.add_zero]at hst2;rw[<-hst2];refine⟨hth,qe0 hb (setRow_heap _ _ _ _ _ _ hg) hnc hcm (by simp[qr];omega) (by simpa using hl) ?_,⟨rfl,rfl,rfl,by simp[World.setRow],fun k hk hne=>setRow_other w g k _ (fun e=>hne (by rw[e]))⟩,hb⟩
 have e1:cur.toList.take (i*5)=qb (l.take i):=by
  rw[<-qd6 (by omega),<-ht,List.take_take,Nat.min_eq_left (by omega)]
 have e2:(cur.toList.drop (i*5+5)).take ((n-(i+1))*5)=qb (l.drop (i+1)):=by
  rw[<-qd8 (by omega),<-ht,List.drop_take,show (i+1)*5=i*5+5 from by omega]
  congr 1;omega
 have hlen:(qb (l.take i)++qr f).length=(i+1)*5:=by
  rw[zL,qx,qU,List.length_take];omega
 rw[List.toList_toArray,qnE (by omega),e1,qU,List.take_append,hlen,List.take_of_length_le (by rw[hlen];omega),show n*5-(i+1)*5=(n-(i+1))*5 from by omega,e2,List.append_assoc]
structure PutS(A:Option Addr)(n cap:Nat)(A2:Option Addr)(n2 cap2:Nat)(a:Arc)(w W:World)(B E P:Nat)(v1 v2:Value):Prop where
 r:AR A n cap A2 n2 cap2 a w W B
 p:W.heap[P]?=some (.cells #[v1,v2] 33 (0,0))
 o:OwnA W E v1 v2 a
 be:B+1<E
 ob:∀k,v1.ownBlock=some k\/v2.ownBlock=some k->k<P
 ep:E<=P
section
variable {A A2 : Option Addr} {n cap n2 cap2 : Nat} {a : Arc} {w W W1 : World} {B E P : Nat} {v1 v2 : Value}
theorem PutS.lt(h:PutS A n cap A2 n2 cap2 a w W B E P v1 v2):P<W.heap.size:=(zE h.p).1
theorem PutS.below(h:PutS A n cap A2 n2 cap2 a w W B E P v1 v2)(hb:Below W.heap.size W W1):PutS A n cap A2 n2 cap2 a w W1 B E P v1 v2 :=
 ⟨h.r.below hb,(hb.block _ h.lt).trans h.p,h.o.below hb,h.be,h.ob,h.ep⟩
theorem PutS.new(h:AR A n cap A2 n2 cap2 a w W B)(ho:OwnA W E v1 v2 a)(hE:B+1<E)(hEW:E<=W.heap.size) :
  PutS A n cap A2 n2 cap2 a w ((W.alloc (.cells #[.slice none 0 0,.slice none 0 0] 33)).setRow W.heap.size #[v1,v2]) B E W.heap.size v1 v2:=by
 have hb:Below W.heap.size W ((W.alloc (.cells #[.slice none 0 0,.slice none 0 0] 33)).setRow W.heap.size #[v1,v2]):=below_setRow ((Below.refl _ _).alloc (Nat.le_refl _) _) (Nat.le_refl _) _;refine⟨h.below hb,setRow_heap _ _ _ _ _ _ (heap_alloc_new _ _),ho.below hb,hE,fun k hk=>?_,hEW⟩
 rcases hk with hk|hk
 ·exact (ho.s.lt k hk).2
 ·exact (ho.f.lt k hk).2
theorem PutS.cells(h:PutS A n cap A2 n2 cap2 a w W B E P v1 v2):W.cell? ⟨P,0,none⟩=some v1/\W.cell? ⟨P,1,none⟩=some v2/\W.frozen? ⟨P,0,none⟩=false/\W.frozen? ⟨P,1,none⟩=false:=qk h.p
end
theorem qT{w:World}{base e size n g:Nat}{v:Value}{xs:List Value}(h:w.ownsRow base e size v n xs)(hg:∀k,v.ownBlock=some k->k≠g)(c:Array Value):(w.setRow g c).ownsRow base e size v n xs:=by
 refine⟨h.1,?_⟩
 rcases h.2 with hn|⟨b,cap,cur,rfl,hbb,hgg,rest⟩
 ·exact .inl hn
 ·exact .inr ⟨b,cap,cur,rfl,hbb,(setRow_other w g b c (hg b rfl)).trans hgg,rest⟩
theorem qdm{w W:World}{B E:Nat}{v1 v2:Value}{x:Arc}(hz:W.heap[B+1]?=some (.cells #[.slice none 0 0,.slice none 0 0] 33 (0,0)))(hE:B+1<E)(ho:OwnA W E v1 v2 x)(hb:Below B w W) :
  (W.setRow (B+1) #[v1,v2]).heap[B+1]?=some (.cells #[v1,v2] 33 (0,0))/\OwnA (W.setRow (B+1) #[v1,v2]) B v1 v2 x/\Below B w (W.setRow (B+1) #[v1,v2]) :=
 ⟨setRow_heap _ _ _ _ _ _ hz,⟨qdG (qT ho.s (fun k hk=>by have:=(ho.s.lt k hk).1;omega) _) (by omega),qdG (qT ho.f (fun k hk=>by have:=(ho.f.lt k hk).1;omega) _) (by omega)⟩,below_setRow hb (by omega) _⟩
theorem qN(A A2:Option Addr)(n cap n2 cap2:Nat):(#[Value.slice A n cap,Value.slice A2 n2 cap2]:Array Value).all (·.oneCell')=true :=
 all_oneCell_toArray (cs:=[Value.slice A n cap,Value.slice A2 n2 cap2]) (by intro v hv;simp at hv;rcases hv with rfl|rfl <;> rfl)
theorem qvu(A:Option Addr)(n cap:Nat)(A2:Option Addr)(n2 cap2:Nat)(a:Arc)(file text:qa)(k:Int)(w:World)(h:ArcIn w A n A2 n2 a)(hz:ArcSz a)(hfl:file.length<=140737488355328)(htl:text.length<=9223372036854775807)(hk0 : -9223372036854775808<=k)(hk1:k<=9223372036854775807) :
  Calls Tryz.prog 28 #[qv A n cap A2 n2 cap2,S file,S text,I k] w fun e w'=>ArcRes w.heap.size (put a file text k) e w'/\Below w.heap.size w w':=by
 obtain⟨B,hB⟩:∃B,B=w.heap.size:=⟨_,rfl⟩
 obtain⟨w0,hw0⟩:∃w0,w0=(w.alloc (.cells #[.slice A n cap,.slice A2 n2 cap2] 33)).alloc (.cells #[.slice none 0 0,.slice none 0 0] 33):=⟨_,rfl⟩
 have H0:=zH (show AR A n cap A2 n2 cap2 a w w0 B by rw[hw0,hB];exact AR.new h cap cap2);have hl1:=h.s.1;have hl2:=h.f.1;have CK:∀W,AR A n cap A2 n2 cap2 a w W B->Calls Tryz.prog 56 #[qv A n cap A2 n2 cap2] W fun e w'=>e=.returned (I (qh a))/\Below W.heap.size W w':=fun W hW=>qcB A n cap A2 n2 cap2 a W hW.ab.i hz;have CN:=zH (fun (W:World)=>qoF file W hfl);have CD:∀W,AR A n cap A2 n2 cap2 a w W B->Calls Tryz.prog 57 #[qv A n cap A2 n2 cap2,I k] W fun e w'=>e=.returned (.tuple #[S ((qL a.ds k).getD []),.bool (qL a.ds k).isSome])/\Below W.heap.size W w':=fun W hW=>qkC A n cap A2 n2 cap2 a k W hW.ab.i (by have:=hz.nd;omega) hk0 hk1;obtain⟨r,hr⟩:∃r,r=put a file text k:=⟨_,rfl⟩
 rw[<-hr,<-hB];have hput:r=if qh a≠0 then (qG,qh a)else if qbw file=false then (qG,4)else if qL a.ds k=none then (qG,3)else if 512<text.length then (qG,2)else if 12<(qb8 (qy a.ds file text k) a.fs).length then (qG,2)else (⟨a.ds,qb8 (qy a.ds file text k) a.fs⟩,0):=hr
 have HB:=zH hB;have HW0:=zH hw0;have CD:=zH CD;have HZ:=zH hz;clear hB hw0 h hr hz
 by_cases hck:qh a≠0
 ·rw[if_pos hck]at hput;obtain⟨c,hc⟩:∃c,c=qh a:=⟨_,rfl⟩
  rw[<-hc]at CK hput hck;have CK:=zH CK;have d1:((c:Int) != 0)=true:=by rw[bne_iff_ne];omega
  have d2:((c:Int) == 0)=false:=by rw[zB];omega
  have d3:¬(c:Int)=0:=by omega
  subst hput;clear hck hc;go_enter Tryz.func28,Tryz.ntmps28;go_upto_region 1 with fail
  rw[<-zU HW0,<-zU HB];obtain⟨q0,q1⟩:=(zU H0).ab.c;go_wp2_with fail;refine (zU CK _ (zU H0)).mono ?_;rintro e w1 ⟨rfl,hb1⟩;have H1:=zH ((zU H0).below hb1);clear hb1 q0 q1;obtain⟨q0,q1⟩:=(zU H1).ab.c;go_wp2_with (refine wpList_store_row rfl 33 (.tmp 8) (.tmp 21) rfl (B+1) #[.slice none 0 0,.slice none 0 0] rfl rfl 33 _ (zU H1).z qd rfl qae ?_);refine bodyPost_ret (qc rfl _ _ (B+1) 33 #[.slice none 0 0,.slice none 0 0] (0,0) _ rfl ((zU H1).end_ _).1 Tryz.underlying33 rfl qd) rfl ⟨⟨_,_,rfl,?_⟩,((zU H1).end_ _).2⟩;exact OwnA.nil _ _
 have hck0:qh a=0:=Decidable.not_not.1 hck;have hra:=(qak a).1 hck0;rw[if_neg hck]at hput;rw[hck0]at CK;have CK:=zH CK;clear hck hck0
 by_cases hnm:qbw file=false
 ·rw[if_pos hnm]at hput;rw[hnm]at CN;subst hput;clear hnm;go_enter Tryz.func28,Tryz.ntmps28;go_upto_region 1 with fail
  rw[<-zU HW0,<-zU HB];obtain⟨q0,q1⟩:=(zU H0).ab.c;go_wp2_with fail;refine (zU CK _ (zU H0)).mono ?_;rintro e w1 ⟨rfl,hb1⟩;have H1:=zH ((zU H0).below hb1);clear hb1 q0 q1;obtain⟨q0,q1⟩:=(zU H1).ab.c;go_wp2_with fail;refine (zU CD _ (zU H1)).mono ?_;rintro e w2 ⟨rfl,hb2⟩;have H2:=zH ((zU H1).below hb2);clear hb2 q0 q1;obtain⟨q0,q1⟩:=(zU H2).ab.c;go_wp2_with fail;refine (zU CN _).mono ?_;rintro e w3 ⟨rfl,hb3⟩;have H3:=zH ((zU H2).below hb3);clear hb3 q0 q1;obtain⟨q0,q1⟩:=(zU H3).ab.c;go_wp2_with (refine wpList_store_row rfl 33 (.tmp 8) (.tmp 33) rfl (B+1) #[.slice none 0 0,.slice none 0 0] rfl rfl 33 _ (zU H3).z qd rfl qae ?_);refine bodyPost_ret (qc rfl _ _ (B+1) 33 #[.slice none 0 0,.slice none 0 0] (0,0) _ rfl ((zU H3).end_ _).1 Tryz.underlying33 rfl qd) rfl ⟨⟨_,_,rfl,?_⟩,((zU H3).end_ _).2⟩;exact OwnA.nil _ _
 rw[if_neg hnm]at hput;have hnm:qbw file=true:=by simpa using hnm
 rw[hnm]at CN;cases hdo:qL a.ds k with
 | none =>
  rw[if_pos hdo]at hput;rw[hdo]at CD;subst hput;clear hnm hdo;go_enter Tryz.func28,Tryz.ntmps28;go_upto_region 1 with fail
  rw[<-zU HW0,<-zU HB];obtain⟨q0,q1⟩:=(zU H0).ab.c;go_wp2_with fail;refine (zU CK _ (zU H0)).mono ?_;rintro e w1 ⟨rfl,hb1⟩;have H1:=zH ((zU H0).below hb1);clear hb1 q0 q1;obtain⟨q0,q1⟩:=(zU H1).ab.c;go_wp2_with fail;refine (zU CD _ (zU H1)).mono ?_;rintro e w2 ⟨rfl,hb2⟩;have H2:=zH ((zU H1).below hb2);clear hb2 q0 q1;obtain⟨q0,q1⟩:=(zU H2).ab.c;go_wp2_with fail;refine (zU CN _).mono ?_;rintro e w3 ⟨rfl,hb3⟩;have H3:=zH ((zU H2).below hb3);clear hb3 q0 q1;obtain⟨q0,q1⟩:=(zU H3).ab.c;go_wp2_with (refine wpList_store_row rfl 33 (.tmp 8) (.tmp 37) rfl (B+1) #[.slice none 0 0,.slice none 0 0] rfl rfl 33 _ (zU H3).z qd rfl qae ?_);refine bodyPost_ret (qc rfl _ _ (B+1) 33 #[.slice none 0 0,.slice none 0 0] (0,0) _ rfl ((zU H3).end_ _).1 Tryz.underlying33 rfl qd) rfl ⟨⟨_,_,rfl,?_⟩,((zU H3).end_ _).2⟩;exact OwnA.nil _ _
 | some d =>
  rw[if_neg (by rw[hdo];simp)]at hput;have hdl:=qdM hra.sd hdo
  by_cases htx:512<text.length
  ·rw[if_pos htx]at hput;rw[hdo]at CD;have d1:(512:Int)<(text.length:Int):=by omega
   subst hput;clear hnm hdo htx;go_enter Tryz.func28,Tryz.ntmps28;go_upto_region 1 with fail
   rw[<-zU HW0,<-zU HB];obtain⟨q0,q1⟩:=(zU H0).ab.c;go_wp2_with fail;refine (zU CK _ (zU H0)).mono ?_;rintro e w1 ⟨rfl,hb1⟩;have H1:=zH ((zU H0).below hb1);clear hb1 q0 q1;obtain⟨q0,q1⟩:=(zU H1).ab.c;go_wp2_with fail;refine (zU CD _ (zU H1)).mono ?_;rintro e w2 ⟨rfl,hb2⟩;have H2:=zH ((zU H1).below hb2);clear hb2 q0 q1;obtain⟨q0,q1⟩:=(zU H2).ab.c;go_wp2_with fail;refine (zU CN _).mono ?_;rintro e w3 ⟨rfl,hb3⟩;have H3:=zH ((zU H2).below hb3);clear hb3 q0 q1;obtain⟨q0,q1⟩:=(zU H3).ab.c;go_wp2_with (refine wpList_store_row rfl 33 (.tmp 8) (.tmp 42) rfl (B+1) #[.slice none 0 0,.slice none 0 0] rfl rfl 33 _ (zU H3).z qd rfl qae ?_);refine bodyPost_ret (qc rfl _ _ (B+1) 33 #[.slice none 0 0,.slice none 0 0] (0,0) _ rfl ((zU H3).end_ _).1 Tryz.underlying33 rfl qd) rfl ⟨⟨_,_,rfl,?_⟩,((zU H3).end_ _).2⟩;exact OwnA.nil _ _
  rw[if_neg htx]at hput;have d1:¬(512:Int)<(text.length:Int):=by omega
  have CP:∀W,AR A n cap A2 n2 cap2 a w W B->Calls Tryz.prog 60 #[qv A n cap A2 n2 cap2,S file,S text,I k] W fun e w'=>e=.returned (qfn (qy a.ds file text k))/\Below W.heap.size W w':=fun W hW=>qla A n cap A2 n2 cap2 a file text k d W hW.ab.i (by have:=hra.nd;omega) hk0 hk1 hdo hdl (by omega);have CF:∀W,AR A n cap A2 n2 cap2 a w W B->Calls Tryz.prog 61 #[qv A n cap A2 n2 cap2,S file] W fun e w'=>e=.returned (.tuple #[I (qa1 file a.fs),.bool (qaU file a.fs)])/\Below W.heap.size W w':=fun W hW=>qkA A n cap A2 n2 cap2 a file W hW.ab.i (by have:=hra.nf;omega) hra.fr.asc
  have CC:∀W,AR A n cap A2 n2 cap2 a w W B->Calls Tryz.prog 59 #[qv A n cap A2 n2 cap2] W fun e w'=>∃A' cap' A2' cap2',e=.returned (.agg #[.slice A' n cap',.slice A2' n2 cap2'])/\OwnA w' W.heap.size (.slice A' n cap') (.slice A2' n2 cap2') a/\Below W.heap.size W w':=fun W hW=>by
   refine (qhQ A n cap A2 n2 cap2 a W hW.ab.i (by have:=hra.nd;omega) (by have:=hra.nf;omega)).mono ?_;rintro e w' ⟨v1,v2,he,ho,hb⟩;obtain⟨A',cap',A2',cap2',rfl,rfl,_⟩:=ho.form;rw[hl1]at he ho;rw[hl2]at he ho;exact⟨A',cap',A2',cap2',he,ho,hb⟩
  rw[hdo]at CD;obtain⟨f,hf⟩:∃f,f=qy a.ds file text k:=⟨_,rfl⟩
  have hfn:f.name=file:=by rw[hf];rfl
  rw[<-hf]at CP hput;have hil:=quN (f:=f) (fs:=a.fs);rw[hfn]at hil;have hpl:=ql3 file a.fs;have h12:=hra.nf;have CP:=zH CP;have CC:=zH CC;clear hnm hdo htx hdl hf hra;cases hth:qaU file a.fs with
  | true =>
   rw[if_neg (by rw[hil,if_pos hth];omega),qhz (by rw[hfn];exact hth),hfn]at hput;have hpt:=qj4 hth;rw[hth]at CF;obtain⟨i,hi⟩:∃i,i=qa1 file a.fs:=⟨_,rfl⟩
   rw[<-hi]at CF hput hpt;have CF:=zH CF;have z1:(i:Int)<(n2:Int):=by omega
   have z2:(0:Int)<=(i:Int):=by omega
   subst hput;clear hil hpl hi hth hfn;go_enter Tryz.func28,Tryz.ntmps28;go_upto_region 1 with fail
   rw[<-zU HW0,<-zU HB];obtain⟨q0,q1⟩:=(zU H0).ab.c;go_wp2_with fail;refine (zU CK _ (zU H0)).mono ?_;rintro e w1 ⟨rfl,hb1⟩;have H1:=zH ((zU H0).below hb1);clear hb1 q0 q1;obtain⟨q0,q1⟩:=(zU H1).ab.c;go_wp2_with fail;refine (zU CD _ (zU H1)).mono ?_;rintro e w2 ⟨rfl,hb2⟩;have H2:=zH ((zU H1).below hb2);clear hb2 q0 q1;obtain⟨q0,q1⟩:=(zU H2).ab.c;go_wp2_with fail;refine (zU CN _).mono ?_;rintro e w3 ⟨rfl,hb3⟩;have H3:=zH ((zU H2).below hb3);clear hb3 q0 q1;obtain⟨q0,q1⟩:=(zU H3).ab.c;go_wp2_with fail;refine (zU CC _ (zU H3)).mono ?_;rintro e w4 ⟨A',cap',A2',cap2',rfl,ho4,hb4⟩;have H4:=zH ((zU H3).below hb4);have HO4:=zH ho4;have HS4:=zH hb4.size;clear hb4 ho4 q0 q1;go_upto_region 12 with (refine wpList_store_row rfl 33 (.tmp 13) (.tmp 44) rfl w4.heap.size #[.slice A' n cap',.slice A2' n2 cap2'] rfl rfl 33 _ (heap_alloc_new _ _) qd rfl (qN _ _ _ _ _ _) ?_)
   obtain⟨w5,hw5⟩:∃w5,w5=(w4.alloc (.cells #[.slice none 0 0,.slice none 0 0] 33)).setRow w4.heap.size #[.slice A' n cap',.slice A2' n2 cap2']:=⟨_,rfl⟩
   obtain⟨P,hP⟩:∃P,P=w4.heap.size:=⟨_,rfl⟩
   have S5:=zH (show PutS A n cap A2 n2 cap2 a w w5 B w3.heap.size P (.slice A' n cap') (.slice A2' n2 cap2')by rw[hw5,hP];exact PutS.new (zU H4) (zU HO4) (zU H3).lt (zU HS4));rw[<-hw5,<-hP];obtain⟨E,hE⟩:∃E,E=w3.heap.size:=⟨_,rfl⟩
   rw[<-hE]at S5;clear hw5 hP hE;obtain⟨q0,q1⟩:=(zU S5).r.ab.c;go_wp2_with fail;refine (zU CP _ (zU S5).r).mono ?_;rintro e w6 ⟨rfl,hb6⟩;have S6:=zH ((zU S5).below hb6);clear hb6 q0 q1;go_upto_region 13 with (refine wpList_store_row rfl 89 (.tmp 14) (.tmp 49) rfl w6.heap.size (qdu f) rfl rfl 89 _ (heap_alloc_new _ _) qcs rfl (qcJ f) ?_)
   obtain⟨w7,hw7⟩:∃w7,w7=(w6.alloc (.cells qcY 89)).setRow w6.heap.size (qdu f):=⟨_,rfl⟩
   obtain⟨D,hD⟩:∃D,D=w6.heap.size:=⟨_,rfl⟩
   have S7:=zH (show PutS A n cap A2 n2 cap2 a w w7 B E P (.slice A' n cap') (.slice A2' n2 cap2')by rw[hw7];exact (zU S6).below (below_setRow ((Below.refl _ _).alloc (Nat.le_refl _) _) (Nat.le_refl _) _));have F7:=zH (show w7.heap[D]?=some (.cells (qdu f) 89 (0,0))by rw[hw7,hD];exact setRow_heap _ _ _ _ _ _ (heap_alloc_new _ _));rw[<-hw7,<-hD];have hPD:P<D:=by rw[hD];exact (zU S6).lt
   clear hw7 hD;obtain⟨q0,q1⟩:=(zU S7).r.ab.c;go_wp2_with fail;refine (zU CF _ (zU S7).r).mono ?_;rintro e w8 ⟨rfl,hb8⟩;have S8:=zH ((zU S7).below hb8);have F8:=zH ((hb8.block D (zE (zU F7)).1).trans (zU F7));clear hb8 q0 q1;obtain⟨q0,q1⟩:=(zU S8).r.ab.c;obtain⟨p0,p1,p2,p3⟩:=(zU S8).cells;have x0:w8.cell? ⟨D,0,none⟩=some (S f.name):=by rw[cell_of_row _ _ _ _ _ _ (zU F8)];rfl
   have x1:w8.cell? ⟨D,1,none⟩=some (I f.dict):=by rw[cell_of_row _ _ _ _ _ _ (zU F8)];rfl
   have x2:w8.cell? ⟨D,2,none⟩=some (I f.size):=by rw[cell_of_row _ _ _ _ _ _ (zU F8)];rfl
   have x3:w8.cell? ⟨D,3,none⟩=some (I f.sum):=by rw[cell_of_row _ _ _ _ _ _ (zU F8)];rfl
   have x4:w8.cell? ⟨D,4,none⟩=some (S f.block):=by rw[cell_of_row _ _ _ _ _ _ (zU F8)];rfl
   obtain⟨g,gc,hgv⟩:∃g gc,(Value.slice A2' n2 cap2')=.slice (some ⟨g,0,none⟩) n2 gc:=by
    have hof:=(zU S8).o.f;rw[hl2]at hof
    rcases qck hof with⟨_,h0,_⟩|h1
    ·omega
    ·exact h1
   injection hgv with hg1 _ hg2
   subst hg1;subst hg2;have hset:=qlc (by have:=(zU S8).o.f;rw[hl2]at this;exact this) (show i<n2 by omega) f;have hset1:=hset.1;have HSET:=zH hset.2;clear hset;go_upto_region 19 with (refine wpList_store_mid rfl 89 (.tmp 69) (.tmp 68) rfl g (i*5) (qdu f) rfl rfl hset1 qcs (qcJ f) ?_)
   obtain⟨w9,hw9⟩:∃w9,w9=w8.setCells g (i*5) (qdu f).toList:=⟨_,rfl⟩
   have HSET:Hid (w9.ownsRow E 89 5 (.slice (some ⟨g,0,none⟩) n2 cap2') n2 (qb (a.fs.set i f))/\w8.grownBy w9 (some g)/\E<=g):=by rw[hw9];exact zU HSET
   rw[<-hw9];clear hw9 hset1 p0 p1 p2 p3 q0 q1 x0 x1 x2 x3 x4;obtain⟨hs1,hs2,hs3⟩:=zU HSET;have hgP:=(zU S8).ob g (.inr rfl);have hP9:w9.heap[P]?=some (.cells #[.slice A' n cap',.slice (some ⟨g,0,none⟩) n2 cap2'] 33 (0,0)):=by rw[hs2.block P (zU S8).lt (by simp;omega)];exact (zU S8).p
   have hB9:w9.heap[B+1]?=some (.cells #[.slice none 0 0,.slice none 0 0] 33 (0,0)):=by rw[hs2.block (B+1) (zU S8).r.lt (by have:=(zU S8).be;simp;omega)];exact (zU S8).r.z
   have hO9:OwnA w9 E (.slice A' n cap') (.slice (some ⟨g,0,none⟩) n2 cap2') ⟨a.ds,a.fs.set i f⟩:=by
    refine⟨(zU S8).o.s.kept hs2 (.inr (fun e=>?_)),by simpa[hl2]using hs1⟩;have hds:=(zU S8).o.s
    rcases hds.2 with⟨hv,_⟩|⟨g2,c2,cu2,hv,_,hg2,_⟩
    ·rw[hv]at e;simp[Value.ownBlock]at e
    ·rw[hv]at e;simp only[Value.ownBlock,Option.some.injEq]at e;subst e;obtain⟨cu3,_,hg3,_⟩:=qbr (by have:=(zU S8).o.f;rw[hl2]at this;exact this);rw[hg2]at hg3;injection hg3 with hg3
     injection hg3 with _ hg3 _
     exact absurd hg3 (by decide)
   have hL9:Below B w w9:=(zU S8).r.ab.bel.grown hs2 (by have:=(zU S8).r.lt;omega) (fun j hj=>by have:=(zU S8).be;simp at hj;omega);obtain⟨e1,e2,e3⟩:=qdm hB9 (zU S8).be hO9 hL9;obtain⟨p0,p1,_,_⟩:=qk hP9;have E1:=zH e1;have E2:=zH e2;have E3:=zH e3;have HB9:=zH hB9;clear hs1 hs2 hs3 hgP hP9 hB9 hO9 hL9 e1 e2 e3;go_wp2_with (refine wpList_store_row rfl 33 (.tmp 8) (.tmp 76) rfl (B+1) #[.slice A' n cap',.slice (some ⟨g,0,none⟩) n2 cap2'] rfl rfl 33 _ (zU HB9) qd rfl (qN _ _ _ _ _ _) ?_);refine bodyPost_ret (qc rfl _ _ (B+1) 33 #[.slice A' n cap',.slice (some ⟨g,0,none⟩) n2 cap2'] (0,0) _ rfl (zU E1) Tryz.underlying33 rfl qd) rfl ⟨⟨_,_,rfl,zU E2⟩,zU E3⟩
  | false =>
   have hnt:qb8 f a.fs=a.fs.take (qa1 file a.fs)++f::a.fs.drop (qa1 file a.fs):=by have:=qkr (f:=f) (fs:=a.fs) (by rw[hfn];exact hth);rw[hfn]at this;exact this
   rw[show (qb8 f a.fs).length=n2+1 from by rw[hil,if_neg (by rw[hth];simp),hl2],hnt]at hput;rw[hth]at CF;obtain⟨i,hi⟩:∃i,i=qa1 file a.fs:=⟨_,rfl⟩
   rw[<-hi]at CF hput hpl;have CF:=zH CF;have hin:i<=n2:=by omega
   by_cases hfull:n2=12
   ·rw[if_pos (by omega)]at hput;have z1:((n2:Int) == 12)=true:=by rw[beq_iff_eq];omega
    subst hput;clear hil hpl hi hth hfn hnt hfull;go_enter Tryz.func28,Tryz.ntmps28;go_upto_region 1 with fail
    rw[<-zU HW0,<-zU HB];obtain⟨q0,q1⟩:=(zU H0).ab.c;go_wp2_with fail;refine (zU CK _ (zU H0)).mono ?_;rintro e w1 ⟨rfl,hb1⟩;have H1:=zH ((zU H0).below hb1);clear hb1 q0 q1;obtain⟨q0,q1⟩:=(zU H1).ab.c;go_wp2_with fail;refine (zU CD _ (zU H1)).mono ?_;rintro e w2 ⟨rfl,hb2⟩;have H2:=zH ((zU H1).below hb2);clear hb2 q0 q1;obtain⟨q0,q1⟩:=(zU H2).ab.c;go_wp2_with fail;refine (zU CN _).mono ?_;rintro e w3 ⟨rfl,hb3⟩;have H3:=zH ((zU H2).below hb3);clear hb3 q0 q1;obtain⟨q0,q1⟩:=(zU H3).ab.c;go_wp2_with fail;refine (zU CC _ (zU H3)).mono ?_;rintro e w4 ⟨A',cap',A2',cap2',rfl,ho4,hb4⟩;have H4:=zH ((zU H3).below hb4);have HO4:=zH ho4;have HS4:=zH hb4.size;clear hb4 ho4 q0 q1;go_upto_region 12 with (refine wpList_store_row rfl 33 (.tmp 13) (.tmp 44) rfl w4.heap.size #[.slice A' n cap',.slice A2' n2 cap2'] rfl rfl 33 _ (heap_alloc_new _ _) qd rfl (qN _ _ _ _ _ _) ?_)
    obtain⟨w5,hw5⟩:∃w5,w5=(w4.alloc (.cells #[.slice none 0 0,.slice none 0 0] 33)).setRow w4.heap.size #[.slice A' n cap',.slice A2' n2 cap2']:=⟨_,rfl⟩
    obtain⟨P,hP⟩:∃P,P=w4.heap.size:=⟨_,rfl⟩
    have S5:=zH (show PutS A n cap A2 n2 cap2 a w w5 B w3.heap.size P (.slice A' n cap') (.slice A2' n2 cap2')by rw[hw5,hP];exact PutS.new (zU H4) (zU HO4) (zU H3).lt (zU HS4));rw[<-hw5,<-hP];obtain⟨E,hE⟩:∃E,E=w3.heap.size:=⟨_,rfl⟩
    rw[<-hE]at S5;clear hw5 hP hE;obtain⟨q0,q1⟩:=(zU S5).r.ab.c;go_wp2_with fail;refine (zU CP _ (zU S5).r).mono ?_;rintro e w6 ⟨rfl,hb6⟩;have S6:=zH ((zU S5).below hb6);clear hb6 q0 q1;go_upto_region 13 with (refine wpList_store_row rfl 89 (.tmp 14) (.tmp 49) rfl w6.heap.size (qdu f) rfl rfl 89 _ (heap_alloc_new _ _) qcs rfl (qcJ f) ?_)
    obtain⟨w7,hw7⟩:∃w7,w7=(w6.alloc (.cells qcY 89)).setRow w6.heap.size (qdu f):=⟨_,rfl⟩
    obtain⟨D,hD⟩:∃D,D=w6.heap.size:=⟨_,rfl⟩
    have S7:=zH (show PutS A n cap A2 n2 cap2 a w w7 B E P (.slice A' n cap') (.slice A2' n2 cap2')by rw[hw7];exact (zU S6).below (below_setRow ((Below.refl _ _).alloc (Nat.le_refl _) _) (Nat.le_refl _) _));have F7:=zH (show w7.heap[D]?=some (.cells (qdu f) 89 (0,0))by rw[hw7,hD];exact setRow_heap _ _ _ _ _ _ (heap_alloc_new _ _));rw[<-hw7,<-hD];have hPD:P<D:=by rw[hD];exact (zU S6).lt
    clear hw7 hD;obtain⟨q0,q1⟩:=(zU S7).r.ab.c;go_wp2_with fail;refine (zU CF _ (zU S7).r).mono ?_;rintro e w8 ⟨rfl,hb8⟩;have S8:=zH ((zU S7).below hb8);have F8:=zH ((hb8.block D (zE (zU F7)).1).trans (zU F7));clear hb8 q0 q1;obtain⟨q0,q1⟩:=(zU S8).r.ab.c;obtain⟨p0,p1,p2,p3⟩:=(zU S8).cells;have x0:w8.cell? ⟨D,0,none⟩=some (S f.name):=by rw[cell_of_row _ _ _ _ _ _ (zU F8)];rfl
    have x1:w8.cell? ⟨D,1,none⟩=some (I f.dict):=by rw[cell_of_row _ _ _ _ _ _ (zU F8)];rfl
    have x2:w8.cell? ⟨D,2,none⟩=some (I f.size):=by rw[cell_of_row _ _ _ _ _ _ (zU F8)];rfl
    have x3:w8.cell? ⟨D,3,none⟩=some (I f.sum):=by rw[cell_of_row _ _ _ _ _ _ (zU F8)];rfl
    have x4:w8.cell? ⟨D,4,none⟩=some (S f.block):=by rw[cell_of_row _ _ _ _ _ _ (zU F8)];rfl
    have H8:=zH (zU S8).r;go_wp2_with (refine wpList_store_row rfl 33 (.tmp 8) (.tmp 75) rfl (B+1) #[.slice none 0 0,.slice none 0 0] rfl rfl 33 _ (zU H8).z qd rfl qae ?_);refine bodyPost_ret (qc rfl _ _ (B+1) 33 #[.slice none 0 0,.slice none 0 0] (0,0) _ rfl ((zU H8).end_ _).1 Tryz.underlying33 rfl qd) rfl ⟨⟨_,_,rfl,?_⟩,((zU H8).end_ _).2⟩;exact OwnA.nil _ _
   rw[if_neg (by omega)]at hput;have z1:((n2:Int) == 12)=false:=by rw[zB];omega
   subst hput;clear hil hpl hi hth hfn hnt;go_enter Tryz.func28,Tryz.ntmps28;go_upto_region 1 with fail
   rw[<-zU HW0,<-zU HB];obtain⟨q0,q1⟩:=(zU H0).ab.c;go_wp2_with fail;refine (zU CK _ (zU H0)).mono ?_;rintro e w1 ⟨rfl,hb1⟩;have H1:=zH ((zU H0).below hb1);clear hb1 q0 q1;obtain⟨q0,q1⟩:=(zU H1).ab.c;go_wp2_with fail;refine (zU CD _ (zU H1)).mono ?_;rintro e w2 ⟨rfl,hb2⟩;have H2:=zH ((zU H1).below hb2);clear hb2 q0 q1;obtain⟨q0,q1⟩:=(zU H2).ab.c;go_wp2_with fail;refine (zU CN _).mono ?_;rintro e w3 ⟨rfl,hb3⟩;have H3:=zH ((zU H2).below hb3);clear hb3 q0 q1;obtain⟨q0,q1⟩:=(zU H3).ab.c;go_wp2_with fail;refine (zU CC _ (zU H3)).mono ?_;rintro e w4 ⟨A',cap',A2',cap2',rfl,ho4,hb4⟩;have H4:=zH ((zU H3).below hb4);have HO4:=zH ho4;have HS4:=zH hb4.size;clear hb4 ho4 q0 q1;go_upto_region 12 with (refine wpList_store_row rfl 33 (.tmp 13) (.tmp 44) rfl w4.heap.size #[.slice A' n cap',.slice A2' n2 cap2'] rfl rfl 33 _ (heap_alloc_new _ _) qd rfl (qN _ _ _ _ _ _) ?_)
   obtain⟨w5,hw5⟩:∃w5,w5=(w4.alloc (.cells #[.slice none 0 0,.slice none 0 0] 33)).setRow w4.heap.size #[.slice A' n cap',.slice A2' n2 cap2']:=⟨_,rfl⟩
   obtain⟨P,hP⟩:∃P,P=w4.heap.size:=⟨_,rfl⟩
   have S5:=zH (show PutS A n cap A2 n2 cap2 a w w5 B w3.heap.size P (.slice A' n cap') (.slice A2' n2 cap2')by rw[hw5,hP];exact PutS.new (zU H4) (zU HO4) (zU H3).lt (zU HS4));rw[<-hw5,<-hP];obtain⟨E,hE⟩:∃E,E=w3.heap.size:=⟨_,rfl⟩
   rw[<-hE]at S5;clear hw5 hP hE;obtain⟨q0,q1⟩:=(zU S5).r.ab.c;go_wp2_with fail;refine (zU CP _ (zU S5).r).mono ?_;rintro e w6 ⟨rfl,hb6⟩;have S6:=zH ((zU S5).below hb6);clear hb6 q0 q1;go_upto_region 13 with (refine wpList_store_row rfl 89 (.tmp 14) (.tmp 49) rfl w6.heap.size (qdu f) rfl rfl 89 _ (heap_alloc_new _ _) qcs rfl (qcJ f) ?_)
   obtain⟨w7,hw7⟩:∃w7,w7=(w6.alloc (.cells qcY 89)).setRow w6.heap.size (qdu f):=⟨_,rfl⟩
   obtain⟨D,hD⟩:∃D,D=w6.heap.size:=⟨_,rfl⟩
   have S7:=zH (show PutS A n cap A2 n2 cap2 a w w7 B E P (.slice A' n cap') (.slice A2' n2 cap2')by rw[hw7];exact (zU S6).below (below_setRow ((Below.refl _ _).alloc (Nat.le_refl _) _) (Nat.le_refl _) _));have F7:=zH (show w7.heap[D]?=some (.cells (qdu f) 89 (0,0))by rw[hw7,hD];exact setRow_heap _ _ _ _ _ _ (heap_alloc_new _ _));rw[<-hw7,<-hD];have hPD:P<D:=by rw[hD];exact (zU S6).lt
   clear hw7 hD;obtain⟨q0,q1⟩:=(zU S7).r.ab.c;go_wp2_with fail;refine (zU CF _ (zU S7).r).mono ?_;rintro e w8 ⟨rfl,hb8⟩;have S8:=zH ((zU S7).below hb8);have F8:=zH ((hb8.block D (zE (zU F7)).1).trans (zU F7));clear hb8 q0 q1;obtain⟨q0,q1⟩:=(zU S8).r.ab.c;obtain⟨p0,p1,p2,p3⟩:=(zU S8).cells;have x0:w8.cell? ⟨D,0,none⟩=some (S f.name):=by rw[cell_of_row _ _ _ _ _ _ (zU F8)];rfl
   have x1:w8.cell? ⟨D,1,none⟩=some (I f.dict):=by rw[cell_of_row _ _ _ _ _ _ (zU F8)];rfl
   have x2:w8.cell? ⟨D,2,none⟩=some (I f.size):=by rw[cell_of_row _ _ _ _ _ _ (zU F8)];rfl
   have x3:w8.cell? ⟨D,3,none⟩=some (I f.sum):=by rw[cell_of_row _ _ _ _ _ _ (zU F8)];rfl
   have x4:w8.cell? ⟨D,4,none⟩=some (S f.block):=by rw[cell_of_row _ _ _ _ _ _ (zU F8)];rfl
   have CI:∀W,Below w8.heap.size w8 W->VarF W w8.heap.size f->Calls Tryz.prog 62 #[.slice A2' n2 cap2',I i,.slice (some ⟨w8.heap.size,0,none⟩) 1 1] W fun e w'=>∃A3 cap3,e=.returned (.slice A3 (n2+1) cap3)/\w'.ownsRow E 89 5 (.slice A3 (n2+1) cap3) (n2+1) (qb (a.fs.take i++f::a.fs.drop i))/\W.grownBy w' (Value.slice A2' n2 cap2').ownBlock:=fun W hW hv=>by
    have hof:=((zU S8).below hW).o.f;rw[hl2]at hof;refine (qnA (.slice A2' n2 cap2') n2 i a.fs E f w8.heap.size W hof (by omega) hv (fun e=>by have:=(zU S8).ob w8.heap.size (.inr e);have:=(zU S8).lt;omega) hin (by have:=hW.size;have:=(zU S8).ep;have:=(zU S8).lt;omega)).mono ?_;rintro e w' ⟨v',he,ho,hg⟩;obtain⟨A3,cap3,rfl,_,_⟩:=qbg ho;exact⟨A3,cap3,he,ho,hg⟩
   have CI:=zH CI;go_wp2_with fail;refine (zU CI _ (by exact (Below.refl _ _).alloc (Nat.le_refl _) _) ⟨by exact heap_alloc_new _ _⟩).mono ?_;rintro e w9 ⟨A3,cap3,rfl,ho9,hg9⟩;have hbe:=(zU S8).be;have hep:=(zU S8).ep;have hPl:=(zU S8).lt;have hgo:∀g,(Value.slice A2' n2 cap2').ownBlock=some g->E<=g/\g<P:=fun g hg=>⟨((zU S8).o.f.lt g hg).1,(zU S8).ob g (.inr hg)⟩
   have hsz8:(w8.alloc (.cells (qdu f) 89)).heap.size=w8.heap.size+1:=by simp
   have hkeep:∀k,k<w8.heap.size->k<E\/P<=k->w9.heap[k]?=w8.heap[k]?:=fun k hk1 hk2=>by
    rw[hg9.block k (by simp;omega) (fun e=>by have:=hgo k e.symm;omega)];exact Below.heap_alloc _ _ k hk1
   have hP9:w9.heap[P]?=some (.cells #[.slice A' n cap',.slice A2' n2 cap2'] 33 (0,0)):=by rw[hkeep P hPl (.inr (Nat.le_refl _))];exact (zU S8).p
   have hB9:w9.heap[B+1]?=some (.cells #[.slice none 0 0,.slice none 0 0] 33 (0,0)):=by rw[hkeep (B+1) (zU S8).r.lt (.inl hbe)];exact (zU S8).r.z
   have hds9:w9.ownsRow E 9 1 (.slice A' n cap') a.ds.length (a.ds.map qaE):=by
    refine ((zU S8).o.s.alloc _).kept hg9 ?_;cases hA':(Value.slice A' n cap').ownBlock with
    | none=>exact .inl rfl
    | some g2 =>
     refine .inr (fun e=>?_);have hds:=(zU S8).o.s;have hfs:=(zU S8).o.f
     rcases hds.2 with⟨hv,_⟩|⟨g3,c2,cu2,hv,_,hg3,_⟩
     ·rw[hv]at hA';simp[Value.ownBlock]at hA'
     ·rcases hfs.2 with⟨hv2,_⟩|⟨g4,c4,cu4,hv2,_,hg4,_⟩
      ·rw[hv2]at e;simp[Value.ownBlock]at e
      ·rw[hv2]at e;rw[hv]at hA';simp only[Value.ownBlock,Option.some.injEq]at e hA';subst hA';subst e;rw[hg3]at hg4;injection hg4 with hg4
       injection hg4 with _ hg4 _
       exact absurd hg4 (by decide)
   have hL9:Below B w w9:=((zU S8).r.ab.bel.alloc (by have h9:=(zU S8).r.lt;omega) _).grown hg9 (by have h9:=(zU S8).r.lt;simp;omega) (fun j hj=>by have h9:=hgo j hj;omega);have hgo3:=fun g (hg:(Value.slice A3 (n2+1) cap3).ownBlock=some g)=>ho9.lt g hg;obtain⟨p0',p1',p2',p3'⟩:=qk hP9
   have hne3:∀g,(Value.slice A3 (n2+1) cap3).ownBlock=some g->g≠P:=fun g hg e=>by
    subst e
    rcases ho9.2 with⟨hv,_⟩|⟨g4,c4,cu4,hv,_,hg4,_⟩
    ·rw[hv]at hg;simp[Value.ownBlock]at hg
    ·rw[hv]at hg;simp only[Value.ownBlock,Option.some.injEq]at hg;subst hg;rw[hP9]at hg4;injection hg4 with hg4
     injection hg4 with _ hg4 _
     exact absurd hg4 (by decide)
   obtain⟨w10,hw10⟩:∃w10,w10=w9.setCell ⟨P,1,none⟩ (.slice A3 (n2+1) cap3):=⟨_,rfl⟩
   have hrow10:w10=w9.setRow P #[.slice A' n cap',.slice A3 (n2+1) cap3]:=by rw[hw10,setCell_eq_setRow w9 P 1 _ _ _ _ hP9];rfl
   have hP10:w10.heap[P]?=some (.cells #[.slice A' n cap',.slice A3 (n2+1) cap3] 33 (0,0)):=by rw[hrow10];exact setRow_heap _ _ _ _ _ _ hP9
   have hB10:w10.heap[B+1]?=some (.cells #[.slice none 0 0,.slice none 0 0] 33 (0,0)):=by rw[hrow10,setRow_other _ P (B+1) _ (by omega)];exact hB9
   have hO10:OwnA w10 E (.slice A' n cap') (.slice A3 (n2+1) cap3) ⟨a.ds,a.fs.take i++f::a.fs.drop i⟩:=by
    rw[hrow10];refine⟨qT hds9 (fun g hg=>by have:=(zU S8).ob g (.inl hg);omega) _,?_⟩;have hlen:(a.fs.take i++f::a.fs.drop i).length=n2+1:=by simp;omega
    show (w9.setRow P _).ownsRow E 89 5 (.slice A3 (n2+1) cap3) (a.fs.take i++f::a.fs.drop i).length _;rw[hlen];exact qT ho9 hne3 _
   have hL10:Below B w w10:=by rw[hrow10];exact below_setRow hL9 (by omega) _
   obtain⟨e1,e2,e3⟩:=qdm hB10 hbe hO10 hL10;obtain⟨r0,r1,_,_⟩:=qk hP10;have E1:=zH e1;have E2:=zH e2;have E3:=zH e3;have HB10:=zH hB10;have HW10:=zH hw10;clear hgo hsz8 hkeep hP9 hB9 hds9 hL9 hgo3 hne3 hrow10 hP10 hB10 hO10 hL10 e1 e2 e3 hw10 ho9 hg9;go_upto_region 19 with fail
   rw[<-zU HW10];go_wp2_with (refine wpList_store_row rfl 33 (.tmp 8) (.tmp 76) rfl (B+1) #[.slice A' n cap',.slice A3 (n2+1) cap3] rfl rfl 33 _ (zU HB10) qd rfl (qN _ _ _ _ _ _) ?_);refine bodyPost_ret (qc rfl _ _ (B+1) 33 #[.slice A' n cap',.slice A3 (n2+1) cap3] (0,0) _ rfl (zU E1) Tryz.underlying33 rfl qd) rfl ⟨⟨_,_,rfl,zU E2⟩,zU E3⟩
structure AV(W:World)(p:Nat)(A:Option Addr)(n cap:Nat)(A2:Option Addr)(n2 cap2:Nat)(a:Arc):Prop where
 o:W.heap[p]?=some (.cells #[.slice A n cap,.slice A2 n2 cap2] 33 (0,0))
 i:ArcIn W A n A2 n2 a
section
variable {W W' : World} {p : Nat} {A : Option Addr} {n cap : Nat} {A2 : Option Addr} {n2 cap2 : Nat} {a : Arc}
theorem AV.c(h:AV W p A n cap A2 n2 cap2 a):W.cell? ⟨p,0,none⟩=some (.slice A n cap)/\W.cell? ⟨p,1,none⟩=some (.slice A2 n2 cap2):=⟨(qk h.o).1,(qk h.o).2.1⟩
theorem AV.new(h:ArcIn W A n A2 n2 a)(cap cap2:Nat):AV ((W.alloc (.cells #[.slice none 0 0,.slice none 0 0] 33)).setRow W.heap.size #[.slice A n cap,.slice A2 n2 cap2]) W.heap.size A n cap A2 n2 cap2 a/\Below W.heap.size W ((W.alloc (.cells #[.slice none 0 0,.slice none 0 0] 33)).setRow W.heap.size #[.slice A n cap,.slice A2 n2 cap2]):=by
 have hb:Below W.heap.size W ((W.alloc (.cells #[.slice none 0 0,.slice none 0 0] 33)).setRow W.heap.size #[.slice A n cap,.slice A2 n2 cap2]):=below_setRow ((Below.refl _ _).alloc (Nat.le_refl _) _) (Nat.le_refl _) _;exact⟨⟨setRow_heap _ _ _ _ _ _ (heap_alloc_new _ _),h.up hb⟩,hb⟩
end
theorem ql7{w:World}{base e size n cap:Nat}{A:Option Addr}{xs:List Value}(h:w.ownsRow base e size (.slice A n cap) n xs):n<=cap:=by
 rcases h.2 with⟨hv,h0⟩|⟨g,cap',cur,hv,_,_,hn,_⟩
 ·omega
 ·injection hv with _ _ hc
  omega
theorem ArcRes.open{base:Nat}{r:Arc×Nat}{e:Ending}{w:World}(h:ArcRes base r e w):∃A n cap A2 n2 cap2,e=.returned (.tuple #[qv A n cap A2 n2 cap2,I r.2])/\ArcIn w A n A2 n2 r.1/\n<=cap/\OwnA w base (.slice A n cap) (.slice A2 n2 cap2) r.1:=by
 obtain⟨v1,v2,he,ho⟩:=h;obtain⟨A,cap,A2,cap2,rfl,rfl,hi⟩:=ho.form;exact⟨A,_,cap,A2,_,cap2,he,hi,ql7 ho.s,ho⟩
theorem OwnA.inn{w:World}{base:Nat}{A A2:Option Addr}{n cap n2 cap2:Nat}{a:Arc}(h:OwnA w base (.slice A n cap) (.slice A2 n2 cap2) a):ArcIn w A n A2 n2 a:=by
 obtain⟨A',cap',A2',cap2',e1,e2,hi⟩:=h.form;injection e1 with a1 a2 _
 injection e2 with b1 b2 _
 rw[a1,a2,b1,b2];exact hi
theorem OwnA.setRow{w:World}{base p:Nat}{v1 v2:Value}{a:Arc}(h:OwnA w base v1 v2 a)(hp:p<base)(c:Array Value):OwnA (w.setRow p c) base v1 v2 a :=
 ⟨qT h.s (fun k hk=>by have:=(h.s.lt k hk).1;omega) c,qT h.f (fun k hk=>by have:=(h.f.lt k hk).1;omega) c⟩
theorem qgj{a:Arc}(h:RightA a):ArcSz a:=by
 refine⟨by have:=h.nd;omega,by have:=h.nf;omega,fun d hd=>by have:=h.sd d hd;omega,fun f hf=>?_⟩;obtain⟨h1,h2,h3,h4,h5,h6,h7,h8⟩:=qce h.nd h.sd (h.fr.each f hf);exact⟨by omega,by omega,by omega,by omega,by omega,by omega,by omega,by omega⟩
theorem qv4{a:Arc}{name text:qa}{n:Int}(h:(put a name text n).2≠0):(put a name text n).1=qG:=by
 unfold put at h ⊢
 split
 ·rfl
 ·split
  ·rfl
  ·split
   ·rfl
   ·split
    ·rfl
    ·split
     ·rfl
     ·simp_all
theorem qvI{a:Arc}{name:qa}(h:(drop a name).2≠0):(drop a name).1=qG:=by
 unfold drop at h ⊢
 split
 ·rfl
 ·split
  ·rfl
  ·simp_all
theorem qq4{a:Arc}{size:Int}(h:(qaO a size).2≠0):(qaO a size).1=qG:=by
 unfold qaO at h ⊢
 split
 ·rfl
 ·split
  ·rfl
  ·split
   ·rfl
   ·simp_all
theorem qrM{a:Arc}(h:(qaH a).2≠0):(qaH a).1=qG:=by
 unfold qaH at h ⊢
 split
 ·rfl
 ·simp_all
theorem qsH(a:Arc)(name text:qa)(n:Int):RightA (put a name text n).1:=by
 by_cases h:(put a name text n).2=0
 ·exact (qsG h).2.1
 ·rw[qv4 h];exact qeb
theorem qqB(a:Arc)(name:qa):RightA (drop a name).1:=by
 by_cases h:(drop a name).2=0
 ·exact (qrH h).2.1
 ·rw[qvI h];exact qeb
theorem qkZ(a:Arc)(size:Int):RightA (qaO a size).1:=by
 by_cases h:(qaO a size).2=0
 ·exact (qns h).2.1
 ·rw[qq4 h];exact qeb
theorem qlC(a:Arc):RightA (qaH a).1:=by
 by_cases h:(qaH a).2=0
 ·exact (qnM h).2.1
 ·rw[qrM h];exact qeb
section
variable {W W' : World} {p : Nat} {e : qa × Bool}
theorem qX(hb:Below W.heap.size W W')(row:Option Nat):W.grownBy W' row:=⟨hb.os,hb.tape,hb.output,hb.size,fun k hk _=>hb.block k hk⟩
theorem qcd{a b c:World}{row:Option Nat}(h:a.grownBy b row)(h2:b.grownBy c row):a.grownBy c row :=
 ⟨h2.os.trans h.os,h2.tape.trans h.tape,h2.output.trans h.output,Nat.le_trans h.size h2.size,fun k hk hne=>(h2.block k (Nat.lt_of_lt_of_le hk h.size) hne).trans (h.block k hk hne)⟩
end
structure TabV(W:World)(p:Nat)(A:Option Addr)(n cap:Nat)(A2:Option Addr)(n2 cap2:Nat)(a:Arc):Prop where
 o:W.heap[p]?=some (.cells #[.slice A n cap,.slice A2 n2 cap2] 35 (0,0))
 own:OwnA W (p+1) (.slice A n cap) (.slice A2 n2 cap2) a
 dw:DW W
 hp:6<=p
 ra:RightA a
section
variable {W W' : World} {p : Nat} {A A2 : Option Addr} {n cap n2 cap2 : Nat} {a : Arc}
theorem TabV.lt(h:TabV W p A n cap A2 n2 cap2 a):p<W.heap.size:=(zE h.o).1
theorem TabV.up(h:TabV W p A n cap A2 n2 cap2 a)(hb:Below W.heap.size W W'):TabV W' p A n cap A2 n2 cap2 a :=
 ⟨(hb.block _ h.lt).trans h.o,h.own.below hb,h.dw.up hb,h.hp,h.ra⟩
theorem TabV.inn(h:TabV W p A n cap A2 n2 cap2 a):ArcIn W A n A2 n2 a:=h.own.inn
theorem TabV.c(h:TabV W p A n cap A2 n2 cap2 a):W.cell? ⟨p,0,none⟩=some (.slice A n cap)/\W.cell? ⟨p,1,none⟩=some (.slice A2 n2 cap2):=⟨(qk h.o).1,(qk h.o).2.1⟩
theorem TabV.set(h:TabV W p A n cap A2 n2 cap2 a){C C2:Option Addr}{m k m2 k2:Nat}{b:Arc}(ho:OwnA W (p+1) (.slice C m k) (.slice C2 m2 k2) b)(hr:RightA b) :
  TabV (W.setRow p #[.slice C m k,.slice C2 m2 k2]) p C m k C2 m2 k2 b/\W.grownBy (W.setRow p #[.slice C m k,.slice C2 m2 k2]) (some p):=by
 have hne:∀k,k<6->(W.setRow p #[.slice C m k,.slice C2 m2 k2]).heap[k]?=W.heap[k]?:=fun j hj=>setRow_other _ _ _ _ (by have:=h.hp;omega);refine⟨⟨setRow_heap _ _ _ _ _ _ h.o,ho.setRow (by omega) _,h.dw.keep (fun j hj=>setRow_other _ _ _ _ (by have:=h.hp;omega)) (by simp[World.setRow]),h.hp,hr⟩,?_⟩;exact⟨rfl,rfl,rfl,by simp[World.setRow],fun q hq hne=>setRow_other W p q _ (fun e=>hne (by rw[e]))⟩
end
theorem qf4(p:Nat)(v1 v2:Value)(e:Nat)(w:World)(he:e≠0) :
  Calls Tryz.prog 27 #[.pointer (some ⟨p,0,none⟩),.agg #[v1,v2],I e] w fun x w'=>x=.panicked (qfk e)/\Below w.heap.size w w':=by
 have CM:=zH (fun (W:World)=>qfl e W he);go_enter Tryz.func27,Tryz.ntmps27;go_wp2_with fail;refine (zU CM _).mono ?_;rintro x w1 ⟨rfl,rfl⟩;go_wp2_with fail;exact⟨rfl,rfl,(Below.refl _ _).alloc (Nat.le_refl _) _⟩
theorem qfF(p:Nat){A:Option Addr}{n cap:Nat}{A2:Option Addr}{n2 cap2:Nat}{a:Arc}{C:Option Addr}{m k:Nat}{C2:Option Addr}{m2 k2:Nat}{b:Arc}(w:World)
  (h:TabV w p A n cap A2 n2 cap2 a) (ho:OwnA w (p+1) (.slice C m k) (.slice C2 m2 k2) b) (hr:RightA b) :
  Calls Tryz.prog 27 #[.pointer (some ⟨p,0,none⟩),qv C m k C2 m2 k2,I 0] w fun x w'=>x=.returned (S wOk)/\TabV w' p C m k C2 m2 k2 b/\w.grownBy w' (some p):=by
 obtain⟨w0,hw0⟩:∃w0,w0=w.alloc (.cells #[.slice C m k,.slice C2 m2 k2] 33):=⟨_,rfl⟩
 have hb:Below w.heap.size w w0:=by rw[hw0];exact (Below.refl _ _).alloc (Nat.le_refl _) _
 have H:=(h.up hb)
 have hz:w0.heap[w.heap.size]?=some (.cells #[.slice C m k,.slice C2 m2 k2] 33 (0,0)):=by rw[hw0];exact heap_alloc_new w _
 obtain⟨c0,c1,_⟩:=qk hz;have F:=H.set (ho.below hb) hr;have F:=zH (show TabV _ p C m k C2 m2 k2 b/\w.grownBy _ (some p)from ⟨F.1,qcd (qX hb _) F.2⟩);have G:=H.o;have HW0:=zH hw0;have CM:=zH (fun (W:World)=>qma W);clear hw0 hb hz H h ho hr;go_enter Tryz.func27,Tryz.ntmps27;go_wp2_with fail;rw[<-zU HW0];refine (zU CM _).mono ?_;rintro x w1 ⟨rfl,rfl⟩;go_wp2_with (refine wpList_store_row rfl 33 (.tmp 12) (.tmp 10) rfl p #[.slice C m k,.slice C2 m2 k2] rfl rfl 35 _ G qd rfl (qN _ _ _ _ _ _) ?_);go_ret;exact⟨rfl,zU F⟩
structure GF(A:Option Addr)(n cap b off n2 cap2:Nat)(a:Arc)(f:Fil)(i:Nat)(w W:World)(B:Nat):Prop where
 ab:ABox A n cap (some ⟨b,off,none⟩) n2 cap2 a w W B
 x0:W.cell? ⟨b,off+i*5,none⟩=some (S f.name)
 x1:W.cell? ⟨b,off+i*5+1,none⟩=some (I f.dict)
 x2:W.cell? ⟨b,off+i*5+2,none⟩=some (I f.size)
 x3:W.cell? ⟨b,off+i*5+3,none⟩=some (I f.sum)
 x4:W.cell? ⟨b,off+i*5+4,none⟩=some (S f.block)
theorem GF.below{A:Option Addr}{n cap b off n2 cap2 i B:Nat}{a:Arc}{f:Fil}{w W W1:World}(h:GF A n cap b off n2 cap2 a f i w W B)(hb:Below W.heap.size W W1):GF A n cap b off n2 cap2 a f i w W1 B :=
 ⟨h.ab.below hb,(hb.cell (block_lt_of_cell h.x0)).trans h.x0,(hb.cell (block_lt_of_cell h.x1)).trans h.x1,(hb.cell (block_lt_of_cell h.x2)).trans h.x2,(hb.cell (block_lt_of_cell h.x3)).trans h.x3,(hb.cell (block_lt_of_cell h.x4)).trans h.x4⟩
theorem GF.drew{A:Option Addr}{n cap b off n2 cap2 i B:Nat}{a:Arc}{f:Fil}{w W:World}(h:GF A n cap b off n2 cap2 a f i w W B):GF A n cap b off n2 cap2 a f i w W.drew B:=h.below (Below.refl _ _).drew
theorem qqz(A:Option Addr)(n cap:Nat)(A2:Option Addr)(n2 cap2:Nat)(a:Arc)(file:qa)(w:World)(h:ArcIn w A n A2 n2 a)(hz:ArcSz a) :
  Calls Tryz.prog 34 #[qv A n cap A2 n2 cap2,S file] w fun e w'=>e=.returned (.tuple #[S (get a file).1,I (get a file).2])/\Below w.heap.size w w':=by
 obtain⟨B,hB⟩:∃B,B=w.heap.size:=⟨_,rfl⟩
 obtain⟨w0,hw0⟩:∃w0,w0=w.alloc (.cells #[.slice A n cap,.slice A2 n2 cap2] 33):=⟨_,rfl⟩
 have H0:=zH (show ABox A n cap A2 n2 cap2 a w w0 B by rw[hw0,hB];exact ABox.new h cap cap2);have hl1:=h.s.1;have hl2:=h.f.1;have CK:∀W,ABox A n cap A2 n2 cap2 a w W B->Calls Tryz.prog 56 #[qv A n cap A2 n2 cap2] W fun e w'=>e=.returned (I (qh a))/\Below W.heap.size W w':=fun W hW=>qcB A n cap A2 n2 cap2 a W hW.i hz;obtain⟨r,hr⟩:∃r,r=get a file:=⟨_,rfl⟩
 rw[<-hr,<-hB];have hput:r=if qh a≠0 then ([],qh a)else match qbB file a.fs with|none=>([],5)|some f=>(qH a.ds f,0):=hr
 have HB:=zH hB;have HW0:=zH hw0;clear hB hw0 h hr
 by_cases hck:qh a≠0
 ·rw[if_pos hck]at hput;obtain⟨c,hc⟩:∃c,c=qh a:=⟨_,rfl⟩
  rw[<-hc]at CK hput hck;have CK:=zH CK;have d1:((c:Int) != 0)=true:=by rw[bne_iff_ne];omega
  have d2:((c:Int) == 0)=false:=by rw[zB];omega
  have d3:¬(c:Int)=0:=by omega
  subst hput;clear hck hc hz;go_enter Tryz.func34,Tryz.ntmps34;go_upto_region 1 with fail
  rw[<-zU HW0,<-zU HB];obtain⟨q0,q1⟩:=(zU H0).c;go_wp2_with fail;refine (zU CK _ (zU H0)).mono ?_;rintro e w1 ⟨rfl,hb1⟩;have H1:=zH ((zU H0).below hb1);clear hb1 q0 q1;go_wp2_with fail;go_ret2;exact⟨rfl,(zU H1).bel⟩
 have hck0:qh a=0:=Decidable.not_not.1 hck;have hra:=(qak a).1 hck0;rw[if_neg hck]at hput;rw[hck0]at CK;have CK:=zH CK;clear hck hck0;have CF:∀W,ABox A n cap A2 n2 cap2 a w W B->Calls Tryz.prog 61 #[qv A n cap A2 n2 cap2,S file] W fun e w'=>e=.returned (.tuple #[I (qa1 file a.fs),.bool (qaU file a.fs)])/\Below W.heap.size W w':=fun W hW=>qkA A n cap A2 n2 cap2 a file W hW.i (by have:=hra.nf;omega) hra.fr.asc;have hfp:=qkz (name:=file) hra.fr.asc;have h12:=hra.nf;cases hth:qaU file a.fs with
 | false =>
  rw[hth,if_neg (by simp)]at hfp;rw[hfp]at hput;simp only at hput;rw[hth]at CF;have CF:=zH CF;subst hput;clear hfp hra hth hz;go_enter Tryz.func34,Tryz.ntmps34;go_upto_region 1 with fail
  rw[<-zU HW0,<-zU HB];obtain⟨q0,q1⟩:=(zU H0).c;go_wp2_with fail;refine (zU CK _ (zU H0)).mono ?_;rintro e w1 ⟨rfl,hb1⟩;have H1:=zH ((zU H0).below hb1);clear hb1 q0 q1;obtain⟨q0,q1⟩:=(zU H1).c;go_wp2_with fail;refine (zU CF _ (zU H1)).mono ?_;rintro e w2 ⟨rfl,hb2⟩;have H2:=zH ((zU H1).below hb2);clear hb2 q0 q1;go_wp2_with fail;go_ret2;exact⟨rfl,(zU H2).bel⟩
 | true =>
  obtain⟨f0,hf0,hnm0⟩:=qj5 hth;clear hnm0;rw[hth,if_pos rfl,hf0]at hfp;rw[hfp]at hput;simp only at hput;have hpt:=qj4 hth;rw[hth]at CF;obtain⟨i,hi⟩:∃i,i=qa1 file a.fs:=⟨_,rfl⟩
  rw[<-hi]at CF hpt hf0;have CF:=zH CF;have hin:i<n2:=by omega
  have hmem:=List.mem_of_getElem? hf0
  have CT:∀W,ABox A n cap A2 n2 cap2 a w W B->Calls Tryz.prog 65 #[qv A n cap A2 n2 cap2,qfn f0] W fun e w'=>e=.returned (.tuple #[S (qH a.ds f0),.bool true])/\Below W.heap.size W w':=fun W hW=>by
   refine (qj6 A n cap A2 n2 cap2 a f0 W hW.i (hz.fs f0 hmem) (by have:=hz.nd;omega) hra.sd).mono ?_;rintro e w' ⟨hr,hb⟩;have ht:=qd9 (hra.fr.each f0 hmem)
   rcases hr with⟨t,h1,h2⟩|⟨t,h1,_⟩
   ·rw[ht]at h1;injection h1 with h1;rw[<-h1]at h2;exact⟨h2,hb⟩
   ·rw[ht]at h1;cases h1
  obtain⟨t,ht⟩:∃t,t=qH a.ds f0:=⟨_,rfl⟩
  rw[<-ht]at CT hput;have CT:=zH CT;have HF:=zH hf0;subst hput;clear hfp hra hi hth hf0 hz hmem ht;go_enter Tryz.func34,Tryz.ntmps34;go_upto_region 1 with fail
  rw[<-zU HW0,<-zU HB];obtain⟨q0,q1⟩:=(zU H0).c;go_wp2_with fail;refine (zU CK _ (zU H0)).mono ?_;rintro e w1 ⟨rfl,hb1⟩;have H1:=zH ((zU H0).below hb1);clear hb1 q0 q1;obtain⟨q0,q1⟩:=(zU H1).c;go_wp2_with fail;refine (zU CF _ (zU H1)).mono ?_;rintro e w2 ⟨rfl,hb2⟩;have H2:=zH ((zU H1).below hb2);clear hb2 q0 q1;obtain⟨q0,q1⟩:=(zU H2).c;obtain⟨b,off,f,rfl,hb,hf,x0,x1,x2,x3,x4⟩:=(zU H2).i.f.at_ (k:=i) hin;obtain rfl:f=f0:=by have:=zU HF;rw[hf]at this;injection this
  clear hf HF;have z1:(i:Int)<(n2:Int):=by omega
  have hgf:GF A n cap b off n2 cap2 a f i w w2 B:=⟨zU H2,x0,x1,x2,x3,x4⟩
  have HG:=zH hgf;have R:=zH (show (∀W:World,GF A n cap b off n2 cap2 a f i w W B->W.cell? ⟨B,0,none⟩=some (.slice A n cap))/\(∀W:World,GF A n cap b off n2 cap2 a f i w W B->W.cell? ⟨B,1,none⟩=some (.slice (some ⟨b,off,none⟩) n2 cap2))/\(∀W:World,GF A n cap b off n2 cap2 a f i w W B->W.cell? ⟨b,off+i*5,none⟩=some (S f.name))/\(∀W:World,GF A n cap b off n2 cap2 a f i w W B->W.cell? ⟨b,off+i*5+1,none⟩=some (I f.dict))/\(∀W:World,GF A n cap b off n2 cap2 a f i w W B->W.cell? ⟨b,off+i*5+2,none⟩=some (I f.size))/\(∀W:World,GF A n cap b off n2 cap2 a f i w W B->W.cell? ⟨b,off+i*5+3,none⟩=some (I f.sum))/\(∀W:World,GF A n cap b off n2 cap2 a f i w W B->W.cell? ⟨b,off+i*5+4,none⟩=some (S f.block))from ⟨fun W h=>h.ab.c.1,fun W h=>h.ab.c.2,fun W h=>h.x0,fun W h=>h.x1,fun W h=>h.x2,fun W h=>h.x3,fun W h=>h.x4⟩);have CT:=zH (fun (W:World) (hW:GF A n cap b off n2 cap2 a f i w W B)=>zU CT W hW.ab);clear q0 q1 x0 x1 x2 x3 x4 hgf;go_wp2_with fail;obtain⟨r0,r1,r2,r3,r4,r5,r6⟩:=zU R
  go_region_held3 (fun W=>GF A n cap b off n2 cap2 a f i w W B) (first|exact (zU HG).drew|assumption|exact GF.drew (by assumption)|exact GF.below (by assumption) (by assumption))
   ((first
    | (go_at_call 65;refine (zU CT _ (by first | exact (zU HG).drew | exact (zU HG) | assumption)).mono ?_;rintro e w3 ⟨rfl,hb3⟩;have H3:=zH (show ABox A n cap (some ⟨b,off,none⟩) n2 cap2 a w w3 B from (by first | exact ((zU HG).drew.below hb3).ab | exact ((zU HG).below hb3).ab | exact (GF.below (by assumption) hb3).ab)))
    | fail))
  all_goals
   go_wp2_with fail;go_ret2;exact⟨rfl,(zU H3).bel⟩
theorem qjh(a:Arc)(file:qa):(get a file).1.length<=512:=by
 unfold Pl.get
 split
 ·simp
 ·split
  ·simp
  ·exact qeC
theorem qsF(A:Option Addr)(n cap:Nat)(A2:Option Addr)(n2 cap2:Nat)(a:Arc)(file:qa)(m k:Int)(w:World)(h:ArcIn w A n A2 n2 a)(hz:ArcSz a)
  (hm0 : -9223372036854775808<=m) (hm1:m<=9223372036854775807) (hk0 : -9223372036854775808<=k) (hk1:k<=9223372036854775807) :
  Calls Tryz.prog 35 #[qv A n cap A2 n2 cap2,S file,I m,I k] w fun e w'=>e=.returned (.tuple #[S (range a file m k).1,I (range a file m k).2])/\Below w.heap.size w w':=by
 obtain⟨B,hB⟩:∃B,B=w.heap.size:=⟨_,rfl⟩
 obtain⟨w0,hw0⟩:∃w0,w0=w.alloc (.cells #[.slice A n cap,.slice A2 n2 cap2] 33):=⟨_,rfl⟩
 have H0:=zH (show ABox A n cap A2 n2 cap2 a w w0 B by rw[hw0,hB];exact ABox.new h cap cap2);have CG:∀W,ABox A n cap A2 n2 cap2 a w W B->Calls Tryz.prog 34 #[qv A n cap A2 n2 cap2,S file] W fun e w'=>e=.returned (.tuple #[S (get a file).1,I (get a file).2])/\Below W.heap.size W w':=fun W hW=>qqz A n cap A2 n2 cap2 a file W hW.i hz;have hlen:=qjh a file;obtain⟨r,hr⟩:∃r,r=range a file m k:=⟨_,rfl⟩
 rw[<-hr,<-hB];unfold range at hr;obtain⟨c,hc⟩:∃c,c=(get a file).2:=⟨_,rfl⟩
 obtain⟨t,ht⟩:∃t,t=(get a file).1:=⟨_,rfl⟩
 rw[<-hc,<-ht]at hr CG;rw[<-ht]at hlen;have HB:=zH hB;have HW0:=zH hw0;clear hB hw0 h hz hc ht
 by_cases hck:c≠0
 ·rw[if_pos hck]at hr;have CG:=zH CG;have d1:((c:Int) != 0)=true:=by rw[bne_iff_ne];omega
  have d2:((c:Int) == 0)=false:=by rw[zB];omega
  have d3:¬(c:Int)=0:=by omega
  subst hr;clear hck;go_enter Tryz.func35,Tryz.ntmps35;go_upto_region 1 with fail
  rw[<-zU HW0,<-zU HB];obtain⟨q0,q1⟩:=(zU H0).c;go_wp2_with fail;refine (zU CG _ (zU H0)).mono ?_;rintro e w1 ⟨rfl,hb1⟩;have H1:=zH ((zU H0).below hb1);clear hb1 q0 q1;go_wp2_with fail;go_ret2;exact⟨rfl,(zU H1).bel⟩
 rw[if_neg hck]at hr;obtain rfl:c=0:=Decidable.not_not.1 hck;have CG:=zH CG;clear hck;unfold qo5 at hr
 by_cases hbad:m<0\/k<0\/(t.length:Int)<m\/(t.length:Int)-m<k
 ·rw[if_pos hbad]at hr;subst hr
  have hc:(m<0)\/(¬m<0/\k<0)\/(¬m<0/\¬k<0/\(t.length:Int)<m)\/(¬m<0/\¬k<0/\¬(t.length:Int)<m/\(t.length:Int)-m<k):=by
   by_cases c1:m<0
   ·exact .inl c1
   ·by_cases c2:k<0
    ·exact .inr (.inl ⟨c1,c2⟩)
    ·by_cases c3:(t.length:Int)<m
     ·exact .inr (.inr (.inl ⟨c1,c2,c3⟩))
     ·exact .inr (.inr (.inr ⟨c1,c2,c3,by omega⟩))
  clear hbad
  rcases hc with c1|⟨c1,c2⟩|⟨c1,c2,c3⟩|⟨c1,c2,c3,c4⟩
  all_goals
   go_enter Tryz.func35,Tryz.ntmps35;go_upto_region 1 with fail
   rw[<-zU HW0,<-zU HB];obtain⟨q0,q1⟩:=(zU H0).c;go_wp2_with fail;refine (zU CG _ (zU H0)).mono ?_;rintro e w1 ⟨rfl,hb1⟩;have H1:=zH ((zU H0).below hb1);clear hb1 q0 q1;go_wp2_with fail;go_ret2;exact⟨rfl,(zU H1).bel⟩
 ·rw[if_neg hbad]at hr;obtain⟨i,rfl⟩:∃i:Nat,m=(i:Int):=⟨m.toNat,by omega⟩
  obtain⟨j,rfl⟩:∃j:Nat,k=(j:Int):=⟨k.toNat,by omega⟩
  rw[Int.toNat_natCast,Int.toNat_natCast]at hr;subst hr;have e1:IntKind.i64.wrap ((t.length:Int)-(i:Int))=(t.length:Int)-(i:Int):=IntWalk.i64_in _ ⟨by omega,by omega⟩;have e2:wrap64 ((t.length:Int)-(i:Int))=(t.length:Int)-(i:Int):=IntWalk.wrap64_in _ ⟨by omega,by omega⟩;have e3:IntKind.i64.wrap ((i:Int)+(j:Int))=((i+j:Nat):Int):=by rw[show (i:Int)+(j:Int)=((i+j:Nat):Int)from by omega];exact IntWalk.i64_in _ ⟨by omega,by omega⟩
  have e4:wrap64 ((i:Int)+(j:Int))=((i+j:Nat):Int):=by rw[show (i:Int)+(j:Int)=((i+j:Nat):Int)from by omega];exact IntWalk.wrap64_in _ ⟨by omega,by omega⟩
  have c1:¬(i:Int)<0:=by omega
  have c2:¬(j:Int)<0:=by omega
  have c3:¬(t.length:Int)<(i:Int):=by omega
  have c4:¬(t.length:Int)-(i:Int)<(j:Int):=by omega
  have c5:i<=i+j:=by omega
  have c6:i+j<=t.length:=by omega
  clear hbad;go_enter Tryz.func35,Tryz.ntmps35;go_upto_region 1 with fail
  rw[<-zU HW0,<-zU HB];obtain⟨q0,q1⟩:=(zU H0).c;go_wp2_with fail;refine (zU CG _ (zU H0)).mono ?_;rintro e w1 ⟨rfl,hb1⟩;have H1:=zH ((zU H0).below hb1);clear hb1 q0 q1;go_wp2_with fail;go_ret2;exact⟨rfl,(zU H1).bel⟩
end
end Go.Proofs.YtbnmfdlaabdlhaaGreatDoor
