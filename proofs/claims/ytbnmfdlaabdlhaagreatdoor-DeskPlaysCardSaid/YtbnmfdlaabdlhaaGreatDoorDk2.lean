/- Parts of the proofs. -/
import Derived.Test.YtbnmfdlaabdlhaaGreatDoorDk1
import Derived.Deep.RegionHeld3
set_option maxHeartbeats 16000000
set_option maxRecDepth 100000
namespace Go.Proofs.YtbnmfdlaabdlhaaGreatDoor
section
open Go.RowKit Pl
attribute [local go_sem] qf qe
def qhX(l:qa):Value:=match take l with
 | some (n,r)=>.tuple #[I n,S r,.bool true]
 | none=>.tuple #[I 0,S [],.bool false]
theorem qjL(l:qa)(w:World)(hs:l.length<=9223372036854775807) :
  Calls Tryz.prog 147 #[S l] w fun e w'=>e=.returned (qhX l)/\Below w.heap.size w w':=by
 go_enter Tryz.func147,Tryz.ntmps147;go_wp2_with fail
 go_loop [5,6,7] (fun n p i=>∃ (k acc:Nat),k<=l.length/\k<=5/\acc<128 ^ k/\take l=qb5 (5-k) k acc (l.drop k)/\qlU l k acc/\i=.int .i64 k/\n=.int .i64 acc/\p=.int .i64 (128 ^ k:Nat))
  (fun _ _ i=>5-(intOf i).toNat)
 case atStart=>exact⟨0,0,by omega,by omega,by omega,rfl,qrU l,rfl,rfl,rfl⟩
 case round =>
  obtain⟨k,acc,hk,hk5,hacc,hx,hcan,rfl,rfl,rfl⟩:=hrel;have HX:=zH hx;have HC:=zH hcan;clear hx hcan;obtain⟨p,hp⟩:∃p,p=128 ^ k:=⟨_,rfl⟩
  have hpb:p<=34359738368:=by rw[hp];exact Nat.pow_le_pow_right (by omega) (by omega:k<=5)
  rw[<-hp]
  by_cases hlt:k<l.length/\k<5
  ·obtain⟨hl,h5⟩:=hlt;obtain⟨c,hc⟩:∃c,(⟨l.toArray⟩:ByteArray)[k]'hl=c:=⟨_,rfl⟩
   have hcb:=c.toNat_lt;obtain⟨r,hr⟩:∃r,r=c.toNat % 128:=⟨_,rfl⟩
   obtain⟨acc2,hA⟩:∃acc2,acc2=acc+c.toNat % 128*128 ^ k:=⟨_,rfl⟩
   have hdrop:l.drop k=c::l.drop (k+1):=by rw[<-hc];exact List.drop_eq_getElem_cons hl
   have hbd:acc2<128 ^ (k+1):=by
    rw[hA,Nat.pow_succ];have:(c.toNat % 128)*128 ^ k<=127*128 ^ k:=Nat.mul_le_mul_right _ (by omega);omega
   have hbd2:acc2<34359738368:=Nat.lt_of_lt_of_le hbd (Nat.pow_le_pow_right (by omega) (by omega:k+1<=5));have h5k:5-k=(4-k)+1:=by omega
   have h6:=zU HX;rw[hdrop,h5k,qb5,<-hA]at h6;have hacp:acc<p:=by rw[hp];exact hacc
   obtain⟨t,htt⟩:∃t,t=p*r:=⟨_,rfl⟩
   have hmul:(p:Int)*(r:Int)=(t:Int):=by rw[htt,Int.natCast_mul]
   have hadd:(acc:Int)+(t:Int)=(acc2:Int):=by
    rw[hA,htt,<-hr,<-hp,Int.natCast_add,Nat.mul_comm]
   clear htt;have hp1:128 ^ (k+1)=p*128:=by rw[hp,Nat.pow_succ]
   have hce:=qtA (zU HC) hdrop;have hcs:=qrV (zU HC) hdrop;rw[<-hA]at hce hcs;have hrr:(c.toNat:Int) % 128=(r:Int):=by omega
   have hr1:r<128:=by omega
   have HA:=zH hA;have HD:=zH hdrop;have HK:=zH h5k;have HX6:=zH h6;have HP:=zH hp;have HP1:=zH hp1;have HR:=zH hr;have HCE:=zH hce;have HCS:=zH hcs;have hgt:acc<=acc2:=by omega
   clear hA hdrop h5k h6 HX hp hp1 hr hce hcs HC
   by_cases hge:128<=c.toNat
   ·go_wp2_with fail;go_round
    case rel =>
     have h6:=zU HX6;rw[if_pos hge]at h6;exact⟨k+1,acc2,by omega,by omega,hbd,by rw[h6,show 5-(k+1)=4-k from by omega],zU HCS hge,by go_num,by go_num,by rw[zU HP1];go_num⟩
    case measure=>simp[intOf];omega
   ·have hge2:c.toNat<128:=by omega
    have hce:=zU HCE hge2 hacc;have h6:=zU HX6;rw[if_neg hge]at h6;clear HX6 HCE HCS
    by_cases hm:2147483647<acc2
    ·rw[if_pos (.inr (by unfold qap;exact hm))]at h6;have H6:=zH h6;clear h6 hce;have hd:decide ((2147483647:Int)<(acc2:Int))=true:=by simp;omega
     go_wp2_with fail;go_quiet (fail);go_wp2_with fail;go_ret3;unfold qhX;rw[zU H6];exact⟨rfl,zD (Below.refl _ _) _⟩
    ·have hd:decide ((2147483647:Int)<(acc2:Int))=false:=by simp;omega
     have c1:=fun (W:World)=>qhs acc2 (acc2:Int) W (by omega) (by omega) (by omega);have C1:=zH c1;have hk1:IntKind.i64.wrap ((k:Int)+1)=(k:Int)+1:=IntWalk.i64_in _ ⟨by omega,by omega⟩;have hk2:(0:Int)<=(k:Int)+1:=by omega
     have hk3:((k:Int)+1).toNat=k+1:=by omega
     have hk4:(k:Int)+1<=(l.length:Int):=by omega
     by_cases hz:0<k/\c.toNat=0
     ·rw[if_pos (.inl hz)]at h6
      have hq:(nb acc2 == slice l 0 (k+1))=false:=by
       rw[qeU,zB];intro h;exact (hce.1 h) hz
      have H6:=zH h6;clear c1 h6 hce hz;go_wp2_with fail;go_region_held3 (fun _=>True) (first|exact trivial) ((first|(refine (zU C1 _).mono ?_;rintro e w1 ⟨rfl,hb⟩)));clear hk1 hk2 hk3 hk4;go_wp2_with fail;go_ret3;unfold qhX;rw[zU H6];exact⟨rfl,(Below.refl _ _).drew.trans hb⟩
     ·rw[if_neg (by unfold qap;omega)]at h6
      have hq:(nb acc2 == slice l 0 (k+1))=true:=by
       rw[qeU,beq_iff_eq];exact hce.2 hz
      have H6:=zH h6;clear c1 h6 hce hz;go_wp2_with fail;go_region_held3 (fun _=>True) (first|exact trivial) ((first|(refine (zU C1 _).mono ?_;rintro e w1 ⟨rfl,hb⟩)));clear hk1 hk2 hk3 hk4;go_wp2_with fail;go_quiet (fail);go_wp2_with fail;go_ret3;unfold qhX;rw[zU H6,<-qcc];exact⟨rfl,zD ((Below.refl _ _).drew.trans hb) _⟩
  ·have h9:¬(k<l.length/\k<5):=hlt;have h6:=zU HX
   have h7:take l=none:=by
    rw[h6]
    by_cases h8:k<l.length
    ·rw[show 5-k=0 from by omega];rfl
    ·rw[List.drop_of_length_le (by omega)];cases 5-k <;> rfl
   have H7:=zH h7;clear h6 h7 HX
   by_cases h8:k<l.length
   all_goals
    go_wp2_with fail;go_ret3;unfold qhX;rw[zU H7];exact⟨rfl,Below.refl _ _⟩
theorem qi8{l:qa}{n:Nat}{r:qa}(h:take l=some (n,r))(w:World)(hs:l.length<=9223372036854775807) :
  Calls Tryz.prog 128 #[S l] w fun e w'=>e=.returned (.tuple #[I n,S r,I 0])/\Below w.heap.size w w' :=
 (qn9 l w hs).mono fun e w' ⟨he,k,hk⟩=>⟨by rw[he];unfold qhW;rw[h],by rw[hk];exact zD (Below.refl _ _) _⟩
theorem qi9{l:qa}(h:take l=none)(w:World)(hs:l.length<=9223372036854775807) :
  Calls Tryz.prog 128 #[S l] w fun e w'=>e=.returned (.tuple #[I 0,S [],I 1])/\Below w.heap.size w w' :=
 (qn9 l w hs).mono fun e w' ⟨he,k,hk⟩=>⟨by rw[he];unfold qhW;rw[h],by rw[hk];exact zD (Below.refl _ _) _⟩
theorem qhq{l:qa}{n:Nat}{r:qa}(h:take l=some (n,r))(w:World)(hs:l.length<=9223372036854775807) :
  Calls Tryz.prog 147 #[S l] w fun e w'=>e=.returned (.tuple #[I n,S r,.bool true])/\Below w.heap.size w w' :=
 (qjL l w hs).mono fun e w' ⟨he,hk⟩=>⟨by rw[he];unfold qhX;rw[h],hk⟩
theorem qhr{l:qa}(h:take l=none)(w:World)(hs:l.length<=9223372036854775807) :
  Calls Tryz.prog 147 #[S l] w fun e w'=>e=.returned (.tuple #[I 0,S [],.bool false])/\Below w.heap.size w w' :=
 (qjL l w hs).mono fun e w' ⟨he,hk⟩=>⟨by rw[he];unfold qhX;rw[h],hk⟩
theorem qe3(n:Nat)(w:World)(h:n<=9223372036854775807) :
  Calls Tryz.prog 114 #[I n] w fun e w'=>e=.returned (S (nb n))/\Below w.heap.size w w' :=
 (qhs n (n:Int) w (by omega) (by omega) (by omega)).mono fun e w' ⟨he,hk⟩=>⟨by rw[he,Int.toNat_natCast],hk⟩
theorem qsI(n:Nat)(w:World)(h:n<=2147483647) :
  Calls Tryz.prog 126 #[I n] w fun e w'=>e=.returned (.tuple #[S (nb n),I 0])/\Below w.heap.size w w' :=
 (qow (n:Int) w (by omega) (by omega)).mono fun e w' ⟨he,hk⟩=>⟨by rw[he,Int.toNat_natCast],hk⟩
theorem take_len{l:qa}{n:Nat}{r:qa}(h:take l=some (n,r)):r.length<=l.length/\n<=2147483647:=by
 obtain⟨h1,h2⟩:=qaI h;rw[h1,zL];unfold qap at h2;omega
theorem qh4(t:qa)(w:World)(h:t.length<=4611686018427387904) :
  Calls Tryz.prog 115 #[S t] w fun e w'=>e=.returned (S (qQ t))/\Below w.heap.size w w':=by
 have hl:=qb1 9 t.length (by omega);go_enter Tryz.func115,Tryz.ntmps115;go_wp2_with fail;refine (qe3 t.length _ (by omega)).mono ?_;rintro e w1 ⟨rfl,hb⟩;go_wp2_with fail;go_ret;exact⟨rfl,hb⟩
end
section
namespace Pl
theorem qmt:∀(f i n:Nat) (s:qa) (k:Nat) (r:qa),qb5 f i n s=some (k,r)->r.length<s.length
 | 0,_,_,_,_,_,h=>by simp[qb5]at h
 | f+1,_,_,[],_,_,h=>by simp[qb5]at h
 | f+1,i,n,c::t,k,r,h=>by
  rw[qb5]at h
  split at h
  ·have:=qmt f _ _ t k r h;simp;omega
  ·split at h
   ·simp at h
   ·simp only[Option.some.injEq,Prod.mk.injEq]at h;obtain⟨_,rfl⟩:=h;simp
theorem take_len{s:qa}{k:Nat}{r:qa}(h:take s=some (k,r)):r.length<s.length:=qmt 5 0 0 s k r h
theorem qee{s r:qa}{t:Tok}(h:qZ s=some (t,r)):r.length<s.length:=by
 unfold qZ at h;cases hk:take s with
 | none=>rw[hk]at h;simp at h
 | some p =>
  obtain⟨n,q⟩:=p;have h1:=take_len hk;rw[hk]at h;simp only at h
  by_cases h2:n % 2=0
  ·rw[if_pos h2]at h
   by_cases h3:q.length<n / 2
   ·rw[if_pos h3]at h;simp at h
   ·rw[if_neg h3]at h;simp only[Option.some.injEq,Prod.mk.injEq]at h;obtain⟨_,rfl⟩:=h;simp;omega
  ·rw[if_neg h2]at h;cases hf:take q with
   | none=>rw[hf]at h;simp at h
   | some p2 =>
    obtain⟨f,q2⟩:=p2;have h3:=take_len hf;rw[hf]at h;simp only[Option.some.injEq,Prod.mk.injEq]at h;obtain⟨_,rfl⟩:=h;omega
def qdT:Nat->qa->Option (List Tok)
 | _,[]=>some []
 | 0,_::_=>none
 | f+1,c::s' =>
  match qZ (c::s')with
  | none=>none
  | some (t,rest)=>(qdT f rest).map (t::·)
def qaT(s:qa):Option (List Tok):=qdT s.length s
theorem qkS:∀(f g:Nat) (s:qa),s.length<=f->s.length<=g->qdT f s=qdT g s
 | f,g,[],_,_=>by cases f <;> cases g <;> rfl
 | 0,_,_::_,h,_=>by simp at h
 | _,0,_::_,_,h=>by simp at h
 | f+1,g+1,c::s',hf,hg=>by
  rw[qdT,qdT];cases h:qZ (c::s')with
  | none=>rfl
  | some p =>
   obtain⟨t,r⟩:=p;have:=qee h;simp at this hf hg;simp only;rw[qkS f g r (by omega) (by omega)]
theorem qk0(d:Nat):∀(f g:Nat) (m:qa) (b:Bool) (s:qa),s.length<=f->s.length<=g->qcq d f m b s=qcq d g m b s
 | f,g,_,_,[],_,_=>by cases f <;> cases g <;> rfl
 | 0,_,_,_,_::_,h,_=>by simp at h
 | _,0,_,_,_::_,_,h=>by simp at h
 | f+1,g+1,m,b,c::s',hf,hg=>by
  rw[qcq,qcq];cases h:qZ (c::s')with
  | none=>rfl
  | some p =>
   obtain⟨t,r⟩:=p;have:=qee h;simp at this hf hg;simp only;rw[qk0 d f g _ _ r (by omega) (by omega)]
theorem qqK:qaT []=some []:=rfl
theorem qgN{s:qa}(hs:s≠[])(h:qZ s=none):qaT s=none:=by
 cases s with
 | nil=>exact absurd rfl hs
 | cons c s=>unfold qaT;rw[List.length_cons,qdT,h]
theorem qjx{s r:qa}{t:Tok}(hs:s≠[])(h:qZ s=some (t,r)):qaT s=(qaT r).map (t::·):=by
 cases s with
 | nil=>exact absurd rfl hs
 | cons c s =>
  have:=qee h;simp at this;unfold qaT;rw[List.length_cons,qdT,h];simp only;rw[qkS s.length r.length r (by omega) (Nat.le_refl _)]
def qes(d:Nat)(m:qa)(b:Bool)(s:qa):Option (List Tok):=qcq d s.length m b s
theorem qsC(d:Nat)(m:qa)(b:Bool):qes d m b []=some []:=rfl
theorem qhi{d:Nat}{m:qa}{b:Bool}{s:qa}(hs:s≠[])(h:qZ s=none):qes d m b s=none:=by
 cases s with
 | nil=>exact absurd rfl hs
 | cons c s=>unfold qes;rw[List.length_cons,qcq,h]
theorem qmE{d:Nat}{m:qa}{b:Bool}{s r:qa}{t:Tok}(hs:s≠[])(h:qZ s=some (t,r))(he:qw d m b t≠0):qes d m b s=none:=by
 cases s with
 | nil=>exact absurd rfl hs
 | cons c s=>unfold qes;rw[List.length_cons,qcq,h];simp only;rw[if_pos he]
theorem qq8{d:Nat}{m:qa}{b:Bool}{s r:qa}{t:Tok}(hs:s≠[])(h:qZ s=some (t,r))(he:qw d m b t=0) :
  qes d m b s=(qes d (qbj m t) (qcO t) r).map (t::·):=by
 cases s with
 | nil=>exact absurd rfl hs
 | cons c s =>
  have:=qee h;simp at this;unfold qes;rw[List.length_cons,qcq,h];simp only;rw[if_neg (by omega)];rw[qk0 d s.length r.length _ _ r (by omega) (Nat.le_refl _)]
theorem qdB{d:Nat}{s:qa}{b:Bool}{t:Tok}(h:qw d s b t=0)(hd:d<=s.length):s.length<(qbj s t).length/\(qbj s t).length-d<=512:=by
 unfold qw at h;unfold qbj
 by_cases h1:t.lit≠[]
 ·rw[if_pos h1]at h ⊢;have hl:0<t.lit.length:=List.length_pos_iff.2 h1
  split at h
  ·omega
  ·split at h
   ·omega
   ·simp;omega
 ·rw[if_neg h1]at h ⊢;rw[qeK]
  split at h
  ·omega
  ·split at h
   ·omega
   ·omega
theorem qk5(d:Nat):∀(l:List Tok) (s:qa) (b:Bool),(qY d s b l).2=0->d<=s.length->s.length-d<=512->l.length+(s.length-d)<=512
 | [],_,_,_,_,h=>by simpa using h
 | t::l,s,b,h,hd,hr=>by
  rw[qY]at h
  by_cases he:qw d s b t≠0
  ·rw[if_pos he]at h;exact absurd h he
  ·rw[if_neg he]at h;obtain⟨h1,h2⟩:=qdB (Decidable.not_not.1 he) hd;have:=qk5 d l _ _ h (by omega) h2;simp;omega
theorem qcW{dict:qa}{l:List Tok}(h:(qF dict l).2=0):l.length<=512:=by
 unfold qF at h
 by_cases hd:qbY<dict.length
 ·rw[if_pos hd]at h;simp at h
 ·rw[if_neg hd]at h;have:=qk5 dict.length l dict false h (Nat.le_refl _) (by omega);omega
theorem qk6(d:Nat):∀(l:List Tok) (s:qa) (b:Bool),(qY d s b l).2=0->d<=s.length->s.length-d<=512->∀t∈l,t.lit.length<=512/\0<=t.len/\t.len<=64/\0<=t.far/\t.far<=(d+512:Nat)
 | [],_,_,_,_,_=>by simp
 | t::l,s,b,h,hd,hr=>by
  rw[qY]at h
  by_cases he:qw d s b t≠0
  ·rw[if_pos he]at h;exact absurd h he
  ·rw[if_neg he]at h;have he:qw d s b t=0:=Decidable.not_not.1 he;obtain⟨h1,h2⟩:=qdB he hd;intro u hu
   rcases List.mem_cons.1 hu with rfl|hu
   ·unfold qw at he
    by_cases h3:u.lit≠[]
    ·rw[if_pos h3]at he
     split at he
     ·omega
     ·split at he
      ·omega
      ·rename_i h4 h5
       simp only[not_or,Decidable.not_not]at h4;exact⟨by omega,by omega,by omega,by omega,by omega⟩
    ·rw[if_neg h3]at he;simp only[ne_eq,Decidable.not_not]at h3;rw[h3]
     split at he
     ·omega
     ·split at he
      ·omega
      ·exact⟨by simp,by omega,by omega,by omega,by omega⟩
   ·exact qk6 d l _ _ h (by omega) h2 u hu
theorem qmI{dict:qa}{l:List Tok}(h:(qF dict l).2=0):∀t∈l,t.lit.length<=512/\0<=t.len/\t.len<=64/\0<=t.far/\t.far<=1000:=by
 unfold qF at h
 by_cases hd:qbY<dict.length
 ·rw[if_pos hd]at h;simp at h
 ·rw[if_neg hd]at h;intro t ht;have:=qk6 dict.length l dict false h (Nat.le_refl _) (by omega) t ht;unfold qbY at hd;omega
theorem qot(d:Nat):∀(f:Nat) (m:qa) (b:Bool) (s:qa),s.length<=f ->
  qcq d f m b s=match qdT f s with|none=>none|some l=>if (qY d m b l).2=0 then some l else none
 | f,m,b,[],_=>by cases f <;> simp[qcq,qdT,qY]
 | 0,_,_,_::_,h=>by simp at h
 | f+1,m,b,c::s',hf=>by
  rw[qcq,qdT];cases h:qZ (c::s')with
  | none=>rfl
  | some p =>
   obtain⟨t,r⟩:=p;have:=qee h;simp at this hf;simp only;rw[qot d f _ _ r (by omega)];cases qdT f r with
   | none=>simp
   | some l =>
    simp only[Option.map_some];rw[qY]
    by_cases he:qw d m b t≠0
    ·rw[if_pos he,if_pos he,if_neg he]
    ·rw[if_neg he,if_neg he]
     by_cases h0:(qY d (qbj m t) (qcO t) l).2=0
     ·rw[if_pos h0,if_pos h0];rfl
     ·rw[if_neg h0,if_neg h0];rfl
theorem qjc{dict:qa}(hd:dict.length<=256)(s:qa):read dict s=match qaT s with|none=>none|some l=>if (qF dict l).2=0 then some l else none:=by
 unfold read qaT;rw[qot dict.length s.length dict false s (Nat.le_refl _)];cases qdT s.length s with
 | none=>rfl
 | some l =>
  have e:qF dict l=qY dict.length dict false l:=by unfold qF;exact if_neg (by unfold qbY;omega)
  simp only;rw[e]
theorem qgE{dict s:qa}(hd:dict.length<=256)(h:qaT s=none):read dict s=none:=by rw[qjc hd,h]
theorem qos{dict s:qa}{l:List Tok}(hd:dict.length<=256)(h:qaT s=some l)(hp:(qF dict l).2≠0):read dict s=none:=by rw[qjc hd,h];exact if_neg hp
theorem qmC{dict s:qa}{l:List Tok}(hd:dict.length<=256)(h:qaT s=some l)(hp:(qF dict l).2=0):read dict s=some l:=by rw[qjc hd,h];exact if_pos hp
theorem qmB{dict s r:qa}{l:List Tok}(hd:dict.length<=256)(h:qaT s=(qaT r).map (l++·))(hl:512<l.length):read dict s=none:=by
 cases hr:qaT r with
 | none=>rw[hr]at h;exact qgE hd h
 | some k =>
  rw[hr]at h;refine qos hd h fun hp=>?_;have:=qcW hp;simp at this;omega
theorem qn5{d:Nat}{s:qa}{b:Bool}{t:Tok}(h:qw d s b t=0)(hs:s.length<=1000)(rest:qa):qZ (qdq t++rest)=some (t,rest):=by
 unfold qw at h;unfold qdq qZ
 by_cases h1:t.lit≠[]
 ·rw[if_pos h1]at h ⊢
  split at h
  ·omega
  ·split at h
   ·omega
   ·rename_i h2 h3
    rw[List.append_assoc,qdj (by unfold qap;omega)];have e1:2*t.lit.length % 2=0:=by omega
    have e2:2*t.lit.length / 2=t.lit.length:=by omega
    simp only[e1,e2,if_true];rw[if_neg (by simp)];obtain⟨lit,far,len⟩:=t;simp at h2 ⊢;exact⟨h2.1.symm,h2.2.1.symm⟩
 ·rw[if_neg h1]at h ⊢
  split at h
  ·omega
  ·split at h
   ·omega
   ·rename_i h2 h3
    obtain⟨lit,far,len⟩:=t;simp only[ne_eq,Decidable.not_not]at h1;subst h1;simp only[not_or,Int.not_lt]at h2;rw[List.append_assoc,qdj (by unfold qap;omega)];have e1:(2*len.toNat+1) % 2=1:=by omega
    have e2:(2*len.toNat+1) / 2=len.toNat:=by omega
    simp only[e1,e2];rw[if_neg (by omega),qdj (by unfold qap;omega)];simp only[Option.some.injEq,Prod.mk.injEq,and_true]
    congr 1 <;> omega
theorem qvm(t:Tok)(h:qdq t=[]):False:=by
 unfold qdq at h
 split at h <;> (have:=congrArg List.length h;simp at this;have h2:=qoD (2*t.lit.length);have h3:=qoD (2*t.len.toNat+1);first|(simp at h2;simp_all;done)|simp_all)
theorem qis(d:Nat):∀(l:List Tok) (s:qa) (b:Bool),(qY d s b l).2=0->d<=s.length->s.length-d<=512->d<=256->qaT (qad l)=some l
 | [],_,_,_,_,_,_=>rfl
 | t::l,s,b,h,hd,hr,hd2=>by
  rw[qY]at h
  by_cases he:qw d s b t≠0
  ·rw[if_pos he]at h;exact absurd h he
  ·rw[if_neg he]at h;have he:qw d s b t=0:=by omega
   obtain⟨h1,h2⟩:=qdB he hd;rw[qad,qjx (fun e=>qvm t (List.append_eq_nil_iff.1 e).1) (qn5 he (by omega) (qad l)),qis d l _ _ h (by omega) h2 hd2];rfl
theorem qq5{dict:qa}{l:List Tok}(h:(write dict l).2=0):read dict (write dict l).1=some l:=by
 unfold write at h ⊢
 by_cases hp:(qF dict l).2≠0
 ·rw[if_pos hp]at h;exact absurd h hp
 ·rw[if_neg hp];have hp:(qF dict l).2=0:=by omega
  have hd:dict.length<=256:=by
   by_cases hd:dict.length<=256
   ·exact hd
   ·unfold qF at hp;rw[if_pos (by unfold qbY;omega)]at hp;simp at hp
  refine qmC hd (qis dict.length l dict false ?_ (Nat.le_refl _) (by omega) hd) hp;unfold qF at hp;rwa [if_neg (by unfold qbY;omega)]at hp
theorem qn7{d:Nat}{m:qa}{b:Bool}{s r:qa}{t:Tok}(h:qZ s=some (t,r))(he:qw d m b t=0):s=qdq t++r:=by
 unfold qZ at h;cases hk:take s with
 | none=>rw[hk]at h;simp at h
 | some p =>
  obtain⟨n,q⟩:=p;obtain⟨hs,_⟩:=qaI hk;rw[hk]at h;simp only at h
  by_cases h2:n % 2=0
  ·rw[if_pos h2]at h
   by_cases h3:q.length<n / 2
   ·rw[if_pos h3]at h;simp at h
   ·rw[if_neg h3]at h;simp only[Option.some.injEq,Prod.mk.injEq]at h;obtain⟨rfl,rfl⟩:=h
    have hne:q.take (n / 2)≠[]:=by
     intro e;unfold qw at he;simp only[e]at he;simp at he
    have hl:(q.take (n / 2)).length=n / 2:=by simp;omega
    unfold qdq;rw[if_pos hne];simp only[hl];rw[show 2*(n / 2)=n from by omega,List.append_assoc,List.take_append_drop];exact hs
  ·rw[if_neg h2]at h;cases hf:take q with
   | none=>rw[hf]at h;simp at h
   | some p2 =>
    obtain⟨f,q2⟩:=p2;obtain⟨hq,_⟩:=qaI hf;rw[hf]at h;simp only[Option.some.injEq,Prod.mk.injEq]at h;obtain⟨rfl,rfl⟩:=h;unfold qdq;rw[if_neg (by simp)];simp only[Int.toNat_natCast];rw[show 2*(n / 2)+1=n from by omega,List.append_assoc,<-hq];exact hs
theorem qk1(d:Nat):∀(f:Nat) (m:qa) (b:Bool) (s:qa) (l:List Tok),qcq d f m b s=some l->s=qad l
 | f,m,b,[],l,h=>by cases f <;> (simp[qcq]at h;subst h;rfl)
 | 0,_,_,_::_,_,h=>by simp[qcq]at h
 | f+1,m,b,c::s',l,h=>by
  rw[qcq]at h;cases hk:qZ (c::s')with
  | none=>rw[hk]at h;simp at h
  | some p =>
   obtain⟨t,r⟩:=p;rw[hk]at h;simp only at h
   by_cases he:qw d m b t≠0
   ·rw[if_pos he]at h;simp at h
   ·rw[if_neg he]at h;cases hr:qcq d f (qbj m t) (qcO t) r with
    | none=>rw[hr]at h;simp at h
    | some k =>
     rw[hr]at h;simp at h;subst h;rw[qn7 hk (Decidable.not_not.1 he),qad,qk1 d f _ _ _ _ hr]
theorem qeN{dict s:qa}{l:List Tok}(hd:dict.length<=256)(h:read dict s=some l):write dict l=(s,0):=by
 have hb:s=qad l:=by unfold read at h;exact qk1 _ _ _ _ _ _ h
 have hp:(qF dict l).2=0:=by
  rw[qjc hd]at h;cases hk:qaT s with
  | none=>rw[hk]at h;simp at h
  | some k =>
   rw[hk]at h;simp only at h
   by_cases h0:(qF dict k).2=0
   ·rw[if_pos h0]at h;simp at h;subst h;exact h0
   ·rw[if_neg h0]at h;simp at h
 unfold write;rw[if_neg (by omega),hb]
end Pl
namespace Pl
theorem qlD(w:qa)(p far:Nat):∀f n i,n<=i->i<qbF w p far f n->w.getD (p+i) 0=w.getD (p+i-far) 0
 | 0,n,i,h1,h2=>by rw[qbF]at h2;omega
 | f+1,n,i,h1,h2=>by
  rw[qbF]at h2
  by_cases h:p+n<w.length/\w.getD (p+n) 0=w.getD (p+n-far) 0
  ·rw[if_pos h]at h2
   by_cases e:i=n
   ·rw[e];exact h.2
   ·exact qlD w p far f (n+1) i (by omega) h2
  ·rw[if_neg h]at h2;omega
theorem qpl(w:qa)(p:Nat):∀f,(qbT w p f).2≠0->3<=(qbT w p f).2/\1<=(qbT w p f).1/\(qbT w p f).1<=f/\(qbT w p f).2=qa4 w p (qbT w p f).1
 | 0,h=>by simp[qbT]at h
 | f+1,h=>by
  rw[qbT]at h ⊢
  by_cases h1:3<=qa4 w p (f+1)/\(qbT w p f).2<qa4 w p (f+1)
  ·rw[if_pos h1];exact⟨h1.1,by simp,Nat.le_refl _,rfl⟩
  ·rw[if_neg h1]at h ⊢;obtain⟨a,b,c,d⟩:=qpl w p f h;exact⟨a,b,by omega,d⟩
theorem qss{w:qa}{k:Nat}(h:k<w.length):w.take (k+1)=w.take k++[w.getD k 0]:=by
 rw[List.take_succ_eq_append_getElem h,List.getD_eq_getElem?_getD,zG h];rfl
theorem qlA(w:qa)(p far:Nat)(h1:1<=far)(h2:far<=p)(hp:p<=w.length):∀n,n<=qa4 w p far->qcP n far (w.take p)=w.take (p+n)
 | 0,_=>rfl
 | n+1,h=>by
  have hl:=(qf8 w p far hp).2;have ih:=qlA w p far h1 h2 hp n (by omega);have hs:w.getD (p+n) 0=w.getD (p+n-far) 0:=qlD w p far 64 0 n (by omega) (by unfold qa4 at h;omega);rw[qf3,ih,<-Nat.add_assoc,qss (by omega),hs]
  congr 2
  rw[List.length_take,Nat.min_eq_left (by omega),List.getD_eq_getElem?_getD,List.getD_eq_getElem?_getD,List.getElem?_take,if_pos (by omega)]
theorem qqO{w:qa}{a b:Nat}(h:a<=b):w.take a++slice w a b=w.take b:=by
 unfold slice;have:w.take a=(w.take b).take a:=by rw[List.take_take,Nat.min_eq_left h]
 rw[this,List.take_append_drop]
theorem qlr{d:Nat}{w:qa}{a p:Nat}(ha:d<=a)(hap:a<=p)(hp:p<=w.length)(hw:w.length-d<=512)(l:List Tok) :
  ∃b,qY d (w.take a) false (qb9 w a p++l)=qY d (w.take p) b l:=by
 unfold qb9
 by_cases h:a<p
 ·rw[if_pos h];refine⟨true,?_⟩;have hl:(slice w a p).length=p-a:=by rw[qbU,Nat.min_eq_left hp]
  have hne:slice w a p≠[]:=by intro e;rw[e]at hl;simp at hl;omega
  have he:qw d (w.take a) false (qei (slice w a p))=0:=by
   unfold qw qei;simp only;rw[if_pos hne,if_neg (by simp),if_neg (by rw[hl,List.length_take];omega)]
  have hi:qcO (qei (slice w a p))=true:=by
   unfold qcO qei;simp[hne]
  have ht:qbj (w.take a) (qei (slice w a p))=w.take p:=by
   unfold qbj qei;simp only;rw[if_pos hne,qqO hap]
  rw[List.cons_append,List.nil_append,qY,if_neg (by omega),hi,ht]
 ·rw[if_neg h];obtain rfl:a=p:=by omega
  exact⟨false,rfl⟩
theorem qpI(d:Nat)(w:qa)(hw:w.length-d<=512):∀(f p a:Nat),d<=a->a<=p->p<=w.length->w.length<=p+f ->
  qY d (w.take a) false (qbv w f p a)=(w.drop d,0):=by
 have fin:∀p a:Nat,d<=a->a<=p->p=w.length->qY d (w.take a) false (qb9 w a p)=(w.drop d,0):=by
  intro p a ha hap hp;obtain⟨b,hb⟩:=qlr ha hap (by omega) hw [];rw[List.append_nil]at hb;rw[hb,qY,hp,List.take_length]
 intro f
 induction f with
 | zero=>intro p a ha hap hp hf;rw[qbv];exact fin p a ha hap (by omega)
 | succ f ih =>
  intro p a ha hap hp hf;rw[qbv]
  by_cases h:p<w.length
  ·rw[if_pos h]
   by_cases h2:(best w p).2=0
   ·rw[if_pos h2];exact ih (p+1) a ha (by omega) (by omega) (by omega)
   ·rw[if_neg h2];obtain⟨b3,b1,bp,bc⟩:=qpl w p p h2;have hc:=qf8 w p (best w p).1 hp;have bc:(best w p).2=qa4 w p (best w p).1:=bc;have b3:3<=(best w p).2:=b3;have b1:1<=(best w p).1:=b1;have bp:(best w p).1<=p:=bp;obtain⟨b,hb⟩:=qlr ha hap hp hw (qdo (best w p).1 (best w p).2::qbv w f (p+(best w p).2) (p+(best w p).2));rw[hb,qY];have hlen:(w.take p).length=p:=by rw[List.length_take];omega
    have he:qw d (w.take p) b (qdo (best w p).1 (best w p).2)=0:=by
     unfold qw qdo;simp only;rw[if_neg (by simp),if_neg (by rw[hlen];omega),if_neg (by rw[hlen];omega)]
    have ht:qbj (w.take p) (qdo (best w p).1 (best w p).2)=w.take (p+(best w p).2):=by
     unfold qbj qdo;simp only[Int.toNat_natCast];rw[if_neg (by simp)];exact qlA w p _ b1 bp hp _ (by omega)
    have hi:qcO (qdo (best w p).1 (best w p).2)=false:=rfl;rw[if_neg (by omega),ht,hi];exact ih _ _ (by omega) (Nat.le_refl _) (by omega) (by omega)
  ·rw[if_neg h];exact fin p a ha hap (by omega)
theorem qeY{dict text:qa}(hd:dict.length<=256)(ht:text.length<=512):qF dict (qbd dict text)=(text,0):=by
 unfold qF qbd;rw[if_neg (by unfold qbY;omega)];have h:=qpI dict.length (dict++text) (by simp;omega) text.length dict.length dict.length (Nat.le_refl _) (Nat.le_refl _) (by simp) (by simp);rw[List.take_left' rfl]at h;rw[h,List.drop_left' rfl]
end Pl
namespace Pl
def pw(m:Nat):Nat:=2 ^ (15-m)
theorem qef(m:Nat):0<pw m:=Nat.pow_pos (by omega)
theorem qjd(m:Nat):pw m<=32768:=by
 have:2 ^ (15-m)<=2 ^ 15:=Nat.pow_le_pow_right (by omega) (by omega);exact this
def qcL(x:Int):Bool:=decide (x<0\/15<x)
def kr1(x:Int):Nat:=if 0<x then pw x.toNat else 0
def kr:List Int->Nat
 | []=>0
 | x::l=>kr1 x+kr l
theorem qv9(x:Int):kr1 x<=32768:=by unfold kr1;split;exact qjd _;omega
theorem qvg:∀l:List Int,kr l<=32768*l.length
 | []=>by simp[kr]
 | x::l=>by
  have:=qv9 x;have:=qvg l;rw[kr,List.length_cons];omega
theorem qtg(a b:List Int):kr (a++b)=kr a+kr b:=by
 induction a with
 | nil=>simp[kr]
 | cons x a ih=>rw[List.cons_append,kr,kr,ih];omega
theorem qqt{l:List Int}{k:Nat}{x:Int}(h:l[k]?=some x):kr (l.take (k+1))=kr (l.take k)+kr1 x:=by
 rw[List.take_add_one,h,qtg];simp[kr]
theorem qhV{l:List Int}{k:Nat}{x:Int}(h:l[k]?=some x):(l.take (k+1)).any qcL=((l.take k).any qcL || qcL x):=by
 rw[List.take_add_one,h,List.any_append];simp
theorem qjZ{l:List Int}{k:Nat}(h:(l.take k).any qcL=true):l.any qcL=true:=by
 rw[List.any_eq_true]at h ⊢;obtain⟨x,hx,hb⟩:=h;exact⟨x,List.mem_of_mem_take hx,hb⟩
def qI(l:List Int):Nat:=if l.any qcL=true then 3 else if kr l=0\/32768<kr l then 1 else 0
theorem qlI{l:List Int}(h:l.any qcL=true):qI l=3:=by unfold qI;rw[if_pos h]
theorem qgX{l:List Int}(h:l.any qcL=false)(h2:kr l=0\/32768<kr l):qI l=1:=by unfold qI;rw[h,if_neg (by simp),if_pos h2]
theorem qi0{l:List Int}(h:l.any qcL=false)(h2:¬(kr l=0\/32768<kr l)):qI l=0:=by unfold qI;rw[h,if_neg (by simp),if_neg h2]
theorem qem{l:List Int}(h:qI l=0):(∀x∈l,0<=x/\x<=15)/\0<kr l/\kr l<=32768:=by
 unfold qI at h
 by_cases h1:l.any qcL=true
 ·rw[if_pos h1]at h;omega
 ·rw[if_neg h1]at h
  by_cases h2:kr l=0\/32768<kr l
  ·rw[if_pos h2]at h;omega
  ·refine⟨fun x hx=>?_,by omega,by omega⟩;have h1:l.any qcL=false:=by simpa using h1
   rw[List.any_eq_false]at h1;have:=h1 x hx;simp only[qcL,decide_eq_true_eq]at this;omega
def qfr(x:Int):Bool:=decide (x<0\/2048<x)
def qbq(c:List Int):Bool:=!c.any qfr
theorem qhF{c:List Int}(h:qbq c=true):∀x∈c,0<=x/\x<=2048:=by
 intro x hx;unfold qbq at h;have h:c.any qfr=false:=by simpa using h
 rw[List.any_eq_false]at h;have:=h x hx;simp only[qfr,decide_eq_true_eq]at this;omega
theorem qjU{c:List Int}(h:∀x∈c,0<=x/\x<=2048):qbq c=true:=by
 unfold qbq;rw[Bool.not_eq_true',List.any_eq_false];intro x hx;have:=h x hx;simp only[qfr,decide_eq_true_eq];omega
def qlj:List Int->List Int->Bool
 | x::l,c::cs=>decide (0<c/\x=0) || qlj l cs
 | _,_=>false
end Pl
namespace Pl
def bt:Nat->Nat->List Bool
 | _,0=>[]
 | n,s+1=>bt (n / 2) s++[decide (n % 2=1)]
theorem qcD:∀(s n:Nat),(bt n s).length=s
 | 0,_=>rfl
 | s+1,n=>by rw[bt,zL,qcD];rfl
def bvT(b:Bool):Nat:=if b then 1 else 0
def val(l:List Bool):Nat:=l.foldl (fun a b=>2*a+bvT b) 0
theorem qlW:val []=0:=rfl
theorem qdz(l:List Bool)(b:Bool):val (l++[b])=2*val l+bvT b:=by unfold val;rw[List.foldl_append];rfl
theorem qlM(b:Bool):bvT b<=1:=by cases b <;> decide
theorem qet{α:Type}{p:List α->Prop}(h0:p [])(h1:∀l a,p l->p (l++[a]))(l:List α):p l:=by
 have:∀n (l:List α),l.length=n->p l:=by
  intro n
  induction n with
  | zero=>intro l hl;rw[List.length_eq_zero_iff.1 hl];exact h0
  | succ n ih =>
   intro l hl;have hne:l≠[]:=by intro e;rw[e]at hl;simp at hl
   rw[<-List.dropLast_concat_getLast hne];exact h1 _ _ (ih _ (by simp;omega))
 exact this _ _ rfl
theorem qfB(l:List Bool):val l<2 ^ l.length:=by
 induction l using qet with
 | h0=>decide
 | h1 l b ih =>
  have:=qlM b;rw[qdz,zL,List.length_singleton,Nat.pow_succ];omega
theorem qg2(a b:List Bool):val (a++b)=val a*2 ^ b.length+val b:=by
 induction b using qet with
 | h0=>simp[qlW]
 | h1 l x ih =>
  rw[<-List.append_assoc,qdz,qdz,ih,zL,List.length_singleton,Nat.pow_succ,<-Nat.mul_assoc];omega
theorem qn0:∀(s n:Nat),val (bt n s)=n % 2 ^ s
 | 0,n=>by simp[bt,qlW,Nat.mod_one]
 | s+1,n=>by
  rw[bt,qdz,qn0,Nat.pow_succ,Nat.mul_comm (2 ^ s) 2,Nat.mod_mul]
  have:bvT (decide (n % 2=1))=n % 2:=by
   rcases Nat.mod_two_eq_zero_or_one n with h|h <;> rw[h] <;> rfl
  omega
theorem qtC(l:List Bool):bt (val l) l.length=l:=by
 induction l using qet with
 | h0=>rfl
 | h1 l b ih =>
  rw[qdz,zL,List.length_singleton,bt];have hb:=qlM b;rw[show (2*val l+bvT b) / 2=val l from by omega,ih]
  congr 2
  cases b
  ·simp[bvT]
  ·simp[bvT]
def qaB(f:Nat->Nat):Nat->Nat
 | 0=>0
 | n+1=>qaB f n+f n
theorem qja{f g:Nat->Nat} : ∀n,(∀j,j<n->f j<=g j)->qaB f n<=qaB g n
 | 0,_=>Nat.le_refl _
 | n+1,h=>Nat.add_le_add (qja n fun j hj=>h j (by omega)) (h n (by omega))
theorem qdV{f g:Nat->Nat} : ∀n,(∀j,j<n->f j=g j)->qaB f n=qaB g n
 | 0,_=>rfl
 | n+1,h=>by rw[qaB,qaB,qdV n fun j hj=>h j (by omega),h n (by omega)]
theorem qfC{f:Nat->Nat} : ∀n,(∀j,j<n->f j=0)->qaB f n=0
 | 0,_=>rfl
 | n+1,h=>by rw[qaB,qfC n fun j hj=>h j (by omega),h n (by omega)]
theorem qof(f g:Nat->Nat):∀n,qaB (fun j=>f j+g j) n=qaB f n+qaB g n
 | 0=>rfl
 | n+1=>by rw[qaB,qaB,qaB,qof f g n];omega
theorem qj7{f:Nat->Nat}{i:Nat} : ∀n,i<n->(∀j,j<n->j≠i->f j=0)->qaB f n=f i
 | 0,h,_=>absurd h (by omega)
 | n+1,h,hz=>by
  rw[qaB]
  by_cases e:i=n
  ·subst e;rw[qfC i fun j hj=>hz j (by omega) (by omega)];omega
  ·rw[qj7 n (by omega) (fun j hj hne=>hz j (by omega) hne),hz n (by omega) (by omega)];omega
theorem qoe{d:Nat}{f:Nat->Nat} : ∀n,(∀j,j<n->d ∣ f j)->d ∣ qaB f n
 | 0,_=>Nat.dvd_zero d
 | n+1,h=>Nat.dvd_add (qoe n fun j hj=>h j (by omega)) (h n (by omega))
def ln(l:List Int)(i:Nat):Nat:=(l.getD i 0).toNat
def early(l:List Int)(s i j:Nat):Bool:=decide (0<ln l j) && (decide (ln l j<s) || (decide (ln l j=s) && decide (j<i)))
theorem qaJ(l:List Int)(s i j:Nat):early l s i j=true↔0<ln l j/\(ln l j<s\/(ln l j=s/\j<i)):=by unfold early;simp
def qdr(l:List Int)(s i:Nat):Nat:=qaB (fun j=>if early l s i j=true then pw (ln l j)else 0) 16
theorem qfy{l:List Int}{s i s' i' j:Nat}(h:(0<ln l j/\(ln l j<s\/(ln l j=s/\j<i)))↔(0<ln l j/\(ln l j<s'\/(ln l j=s'/\j<i')))):early l s i j=early l s' i' j:=by
 rw[<-qaJ,<-qaJ]at h;cases h1:early l s i j <;> cases h2:early l s' i' j <;> simp_all
theorem qsL(l:List Int):qdr l 1 0=0:=by
 refine qfC _ fun j _=>?_;rw[if_neg];rw[qaJ];omega
theorem qlx{l:List Int}{s i:Nat}(h:ln l i≠s)(j:Nat):early l s (i+1) j=early l s i j :=
 qfy ⟨fun ⟨a,b⟩=>⟨a,by rcases b with b|⟨b,c⟩;exact .inl b;refine .inr ⟨b,?_⟩;by_cases e:j=i;subst e;exact absurd b h;omega⟩,fun ⟨a,b⟩=>⟨a,by omega⟩⟩
theorem qsM{l:List Int}{s i:Nat}(h:ln l i≠s):qdr l s (i+1)=qdr l s i:=by
 refine qdV _ fun j _=>?_;simp only[qlx h j]
theorem qm8{l:List Int}{s i:Nat}(h:ln l i=s)(hs:0<s)(j:Nat):early l s (i+1) j=(early l s i j || decide (j=i)):=by
 have h1:=qaJ l s (i+1) j;have h2:=qaJ l s i j
 by_cases e:j=i
 ·subst e;simp only[decide_true,Bool.or_true];rw[h1];omega
 ·simp only[e,decide_false,Bool.or_false];exact qfy ⟨fun ⟨a,b⟩=>⟨a,by omega⟩,fun ⟨a,b⟩=>⟨a,by omega⟩⟩
theorem qrF(l:List Int)(i:Nat):early l (ln l i) i i=false:=by
 have:=qaJ l (ln l i) i i;cases h:early l (ln l i) i i with
 | false=>rfl
 | true=>have:=this.1 h;omega
theorem qhl{l:List Int}{s i:Nat}(h:ln l i=s)(hs:0<s)(hi:i<16):qdr l s (i+1)=qdr l s i+pw s:=by
 have e:∀j,j<16->(if early l s (i+1) j=true then pw (ln l j)else 0)=(if early l s i j=true then pw (ln l j)else 0)+(if j=i then pw s else 0):=by
  intro j _;rw[qm8 h hs]
  by_cases e:j=i
  ·subst e;have:=qrF l j;rw[h]at this;simp[this,h]
  ·simp[e]
 unfold qdr;rw[qdV 16 e,qof]
 congr 1
 rw[qj7 (i:=i) 16 hi (fun j _ hne=>by simp[hne])];simp
theorem quc(l:List Int)(s:Nat):qdr l (s+1) 0=qdr l s 16:=by
 refine qdV _ fun j hj=>?_;rw[qfy (s':=s) (i':=16) ⟨fun ⟨a,b⟩=>⟨a,by omega⟩,fun ⟨a,b⟩=>⟨a,by omega⟩⟩]
theorem qtt{l:List Int}{s j:Nat}(hj:j<16):early l (s+1) 0 j=early l s 16 j :=
 qfy ⟨fun ⟨a,b⟩=>⟨a,by omega⟩,fun ⟨a,b⟩=>⟨a,by omega⟩⟩
def krS(l:List Int):Nat:=qaB (fun j=>if 0<ln l j then pw (ln l j)else 0) 16
theorem qv8:∀(l:List Int),(∀x∈l,0<=x)->kr l=qaB (fun j=>if 0<ln l j then pw (ln l j)else 0) l.length:=by
 intro l
 induction l using qet with
 | h0=>intro _;rfl
 | h1 l x ih =>
  intro h;have hx:=h x (by simp);rw[qtg,ih fun y hy=>h y (by simp[hy]),zL,List.length_singleton,qaB];have e1:ln (l++[x]) l.length=x.toNat:=by simp[ln]
  have e2:∀j,j<l.length->ln (l++[x]) j=ln l j:=fun j hj=>by unfold ln;rw[List.getD_eq_getElem?_getD,List.getD_eq_getElem?_getD,List.getElem?_append_left hj]
  have e3:qaB (fun j=>if 0<ln (l++[x]) j then pw (ln (l++[x]) j)else 0) l.length=qaB (fun j=>if 0<ln l j then pw (ln l j)else 0) l.length:=qdV _ fun j hj=>by simp only[e2 j hj]
  rw[e3,e1]
  congr 1
  simp only[kr,kr1,Nat.add_zero]
  by_cases hp:0<x
  ·rw[if_pos hp,if_pos (by omega)]
  ·rw[if_neg hp,if_neg (by omega)]
theorem qtf{l:List Int}(hl:l.length=16)(h:∀x∈l,0<=x):kr l=krS l:=by rw[qv8 l h,hl];rfl
theorem ql2(l:List Int)(s i:Nat):qdr l s i<=krS l :=
 qja _ fun j _=>by
  by_cases h:early l s i j=true
  ·rw[if_pos h,if_pos ((qaJ l s i j).1 h).1];exact Nat.le_refl _
  ·rw[if_neg h];omega
theorem qov{a b:Nat}(h:a<=b):pw b ∣ pw a:=Nat.pow_dvd_pow 2 (by omega)
theorem qud{l:List Int}{s i:Nat} : pw s ∣ qdr l s i :=
 qoe _ fun j _=>by
  by_cases h:early l s i j=true
  ·rw[if_pos h];have:=(qaJ l s i j).1 h;exact qov (by omega)
  ·rw[if_neg h];exact Nat.dvd_zero _
theorem qmH{l:List Int}{s i s' i':Nat}(h:s<s'\/(s=s'/\i<=i')):qdr l s i<=qdr l s' i' :=
 qja _ fun j _=>by
  by_cases h1:early l s i j=true
  ·have:=(qaJ l s i j).1 h1;rw[if_pos h1,if_pos ((qaJ l s' i' j).2 (by omega))];exact Nat.le_refl _
  ·rw[if_neg h1];omega
def wv(l:List Int)(i:Nat):Nat:=qdr l (ln l i) i / pw (ln l i)
def qS(l:List Int)(i:Nat):List Bool:=bt (wv l i) (ln l i)
structure Right(l:List Int):Prop where
 len:l.length=16
 one:∀i,ln l i<=15
 sum:krS l<=32768
 some:0<krS l
 nn:∀x∈l,0<=x
theorem qdF{l:List Int}(hl:l.length=16)(h:qI l=0):Right l:=by
 obtain⟨h1,h2,h3⟩:=qem h;rw[qtf hl fun x hx=>(h1 x hx).1]at h2 h3;refine⟨hl,fun i=>?_,h3,h2,fun x hx=>(h1 x hx).1⟩;unfold ln
 by_cases hi:i<l.length
 ·rw[List.getD_eq_getElem?_getD,zG hi];have:=h1 _ (List.getElem_mem hi);simp;omega
 ·rw[List.getD_eq_getElem?_getD,List.getElem?_eq_none (by omega)];decide
theorem qg1(l:List Int)(i:Nat):wv l i*pw (ln l i)=qdr l (ln l i) i:=Nat.div_mul_cancel qud
theorem qv2{m:Nat}(h:m<=15):2 ^ m*pw m=32768:=by
 unfold pw;rw[<-Nat.pow_add,show m+(15-m)=15 from by omega]
theorem qsN{l:List Int}(h:Right l){i:Nat}(hi:i<16)(hp:0<ln l i):qdr l (ln l i) i+pw (ln l i)<=32768:=by
 rw[<-qhl rfl hp hi];exact Nat.le_trans (ql2 _ _ _) h.sum
theorem qnT{l:List Int}(h:Right l){i:Nat}(hi:i<16)(hp:0<ln l i):wv l i<2 ^ ln l i:=by
 have h1:=qsN h hi hp;rw[<-qg1,<-qv2 (h.one i)]at h1;have h2:=qef (ln l i);have:(wv l i+1)*pw (ln l i)<=2 ^ ln l i*pw (ln l i):=by rw[Nat.add_mul];omega
 exact Nat.le_of_mul_le_mul_right this h2
theorem qac(l:List Int)(i:Nat):(qS l i).length=ln l i:=qcD _ _
theorem qgA{l:List Int}(h:Right l){i:Nat}(hi:i<16)(hp:0<ln l i):val (qS l i)=wv l i:=by
 unfold qS;rw[qn0,Nat.mod_eq_of_lt (qnT h hi hp)]
theorem qou{a b:Nat}(h:a<=b)(hb:b<=15):pw a=2 ^ (b-a)*pw b:=by
 unfold pw;rw[<-Nat.pow_add]
 congr 1;omega
theorem qmr{l:List Int}(h:Right l){i j:Nat}(hi:i<16)(hj:j<16)(pi:0<ln l i)(pj:0<ln l j)(hp:qS l i <+: qS l j):i=j:=by
 obtain⟨t,ht⟩:=hp
 have hl:ln l i+t.length=ln l j:=by
  have:=congrArg List.length ht;rw[zL,qac,qac]at this;exact this
 have hv:=congrArg val ht;rw[qg2,qgA h hi pi,qgA h hj pj]at hv;have htl:=qfB t;have hpj:=qef (ln l j);have hsp:=qou (show ln l i<=ln l j by omega) (h.one j);rw[show ln l j-ln l i=t.length from by omega]at hsp
 -- the numbers,in the same room
 have hJ:=qg1 l j;have hI:=qg1 l i;rw[<-hv,Nat.add_mul,Nat.mul_assoc,<-hsp,hI]at hJ;have hlt:val t*pw (ln l j)<pw (ln l i):=by rw[hsp];exact Nat.mul_lt_mul_of_pos_right htl hpj
 by_cases e:i=j
 ·exact e
 ·exfalso
  by_cases hlex:ln l i<ln l j\/(ln l i=ln l j/\i<j)
  ·have:=qmH (l:=l) (s:=ln l i) (i:=i+1) (s':=ln l j) (i':=j) (by omega);rw[qhl rfl pi hi]at this;omega
  ·have he:ln l j=ln l i:=by omega
   have hji:j<i:=by omega
   have:=qmH (l:=l) (s:=ln l j) (i:=j+1) (s':=ln l i) (i':=i) (by omega);rw[qhl rfl pj hj]at this;have hpp:=qef (ln l j);omega
end Pl
namespace Pl
abbrev Tr:=Nat×List Nat
def hd(t:Tr):Nat:=t.2.headD 16
def qcA(a b:Tr):Bool:=decide (a.1<b.1) || (decide (a.1=b.1) && decide (hd a<hd b))
theorem qaz(a b:Tr):qcA a b=true↔a.1<b.1\/(a.1=b.1/\hd a<hd b):=by unfold qcA;simp
def qkq(x:Tr):List Tr->List Tr
 | []=>[x]
 | y::l=>if qcA x y=true then x::y::l else y::qkq x l
def qcN:List Tr->List Tr
 | []=>[]
 | x::l=>qkq x (qcN l)
theorem qiR(x:Tr):∀l,(qkq x l).Perm (x::l)
 | []=>List.Perm.refl _
 | y::l=>by
  unfold qkq
  split
  ·exact List.Perm.refl _
  ·exact ((qiR x l).cons y).trans (List.Perm.swap x y l)
theorem qb6:∀l,(qcN l).Perm l
 | []=>List.Perm.refl _
 | x::l=>(qiR x _).trans ((qb6 l).cons x)
def Srt(l:List Tr):Prop:=l.Pairwise fun a b=>qcA a b=true
def KD(l:List Tr):Prop:=l.Pairwise fun a b=>hd a≠hd b
theorem KD.perm{l l':List Tr}(h:KD l)(hp:l.Perm l'):KD l':=(hp.pairwise_iff (fun h=>Ne.symm h)).1 h
theorem qoP(x:Tr):∀l,Srt l->(∀y∈l,hd x≠hd y)->Srt (qkq x l)
 | [],_,_=>by simp[qkq,Srt]
 | y::l,h,hx=>by
  have h:=List.pairwise_cons.1 h;unfold qkq
  by_cases e:qcA x y=true
  ·rw[if_pos e];refine List.pairwise_cons.2 ⟨fun z hz=>?_,List.pairwise_cons.2 h⟩
   rcases List.mem_cons.1 hz with rfl|hz
   ·exact e
   ·have h1:=h.1 z hz;rw[qaz]at h1 e ⊢;omega
  ·rw[if_neg e];refine List.pairwise_cons.2 ⟨fun z hz=>?_,qoP x l h.2 fun z hz=>hx z (by simp[hz])⟩
   rcases List.mem_cons.1 ((qiR x l).mem_iff.1 hz)with rfl|hz
   ·have h1:=hx y (by simp);rw[qaz]at e ⊢;omega
   ·exact h.1 z hz
theorem qeD:∀l,KD l->Srt (qcN l)
 | [],_=>List.Pairwise.nil
 | x::l,h=>by
  have h:=List.pairwise_cons.1 h;exact qoP x _ (qeD l h.2) fun y hy=>h.1 y ((qb6 l).mem_iff.1 hy)
theorem qhg:∀(c d:List Tr),Srt c->Srt d->c.Perm d->c=d
 | [],d,_,_,h=>(List.nil_perm.1 h).symm
 | x::c,[],_,_,h=>absurd (List.perm_nil.1 h) (by simp)
 | x::c,y::d,h1,h2,h=>by
  have a1:=List.pairwise_cons.1 h1;have a2:=List.pairwise_cons.1 h2
  have e:x=y:=by
   rcases List.mem_cons.1 (h.mem_iff.1 (by simp:x∈x::c))with e|hx
   ·exact e
   ·rcases List.mem_cons.1 (h.mem_iff.2 (by simp:y∈y::d))with e|hy
    ·exact e.symm
    ·have b1:=a1.1 y hy;have b2:=a2.1 x hx;rw[qaz]at b1 b2;omega
  subst e;rw[qhg c d a1.2 a2.2 (List.Perm.cons_inv h)]
theorem qtZ{l l':List Tr}(h:KD l)(hp:l.Perm l'):qcN l=qcN l' :=
 qhg _ _ (qeD l h) (qeD l' (h.perm hp)) ((qb6 l).trans (hp.trans (qb6 l').symm))
theorem qiz{l p:List Tr}(h:KD l)(hp:p.Perm l)(hs:Srt p):qcN l=p :=
 qhg _ _ (qeD l h) hs ((qb6 l).trans hp.symm)
def mg(a b:List Nat):List Nat:=(List.range 16).filter fun i=>decide (i∈a\/i∈b)
def mgT(a b:Tr):Tr:=(a.1+b.1,mg a.2 b.2)
theorem qdK{a b:List Nat}(ha:∀i∈a,i<16)(hb:∀i∈b,i<16)(i:Nat):i∈mg a b↔i∈a\/i∈b:=by
 unfold mg;rw[List.mem_filter,List.mem_range,decide_eq_true_eq];constructor
 ·exact fun h=>h.2
 ·intro h;refine⟨?_,h⟩
  rcases h with h|h
  ·exact ha i h
  ·exact hb i h
theorem qlQ:∀(c d:List Nat),c.Pairwise (· < ·)->d.Pairwise (· < ·)->(∀i,i∈c↔i∈d)->c=d
 | [],[],_,_,_=>rfl
 | [],y::d,_,_,h=>absurd ((h y).2 (by simp)) (by simp)
 | x::c,[],_,_,h=>absurd ((h x).1 (by simp)) (by simp)
 | x::c,y::d,h1,h2,h=>by
  have a1:=List.pairwise_cons.1 h1;have a2:=List.pairwise_cons.1 h2
  have e:x=y:=by
   rcases List.mem_cons.1 ((h x).1 (by simp))with e|hx
   ·exact e
   ·rcases List.mem_cons.1 ((h y).2 (by simp))with e|hy
    ·exact e.symm
    ·have b1:=a1.1 y hy;have b2:=a2.1 x hx;omega
  subst e
  congr 1
  refine qlQ c d a1.2 a2.2 fun i=>?_;have hi:=h i;simp only[List.mem_cons]at hi;constructor
  ·intro hc;have hne:i≠x:=fun e=>by have:=a1.1 i hc;omega
   exact (hi.1 (.inr hc)).resolve_left hne
  ·intro hc;have hne:i≠x:=fun e=>by have:=a2.1 i hc;omega
   exact (hi.2 (.inr hc)).resolve_left hne
theorem qiL(a b:List Nat):(mg a b).Pairwise (· < ·):=List.Pairwise.filter _ List.pairwise_lt_range
structure VT(t:Tr):Prop where
 ne:t.2≠[]
 asc:t.2.Pairwise (· < ·)
 lt:∀i∈t.2,i<16
def Dis(a b:Tr):Prop:=∀i∈a.2,i∉b.2
theorem Dis.symm{a b:Tr}(h:Dis a b):Dis b a:=fun i hi hj=>h i hj hi
structure Forest(l:List Tr):Prop where
 vt:∀t∈l,VT t
 dis:l.Pairwise Dis
theorem Forest.perm{l l':List Tr}(h:Forest l)(hp:l.Perm l'):Forest l' :=
 ⟨fun t ht=>h.vt t (hp.mem_iff.2 ht),(hp.pairwise_iff Dis.symm).1 h.dis⟩
theorem qgu{t:Tr}(h:VT t):hd t∈t.2:=by
 unfold hd;cases e:t.2 with
 | nil=>exact absurd e h.ne
 | cons x l=>simp
theorem Forest.kd{l:List Tr}(h:Forest l):KD l:=by
 refine List.Pairwise.imp_of_mem ?_ h.dis;intro a b ha hb hd1 e;exact hd1 (hd a) (qgu (h.vt a ha)) (e ▸ qgu (h.vt b hb))
theorem qws{a b:Tr}(ha:VT a)(hb:VT b):VT (mgT a b):=by
 refine⟨?_,qiL _ _,?_⟩
 ·intro e;have:=(qdK ha.lt hb.lt (hd a)).2 (.inl (qgu ha));rw[show mg a.2 b.2=[]from e]at this;simp at this
 ·intro i hi
  rcases (qdK ha.lt hb.lt i).1 hi with h|h
  ·exact ha.lt i h
  ·exact hb.lt i h
theorem Forest.step{a b:Tr}{r:List Tr}(h:Forest (a::b::r)):Forest (r++[mgT a b]):=by
 have va:=h.vt a (by simp);have vb:=h.vt b (by simp);have d1:=List.pairwise_cons.1 h.dis;have d2:=List.pairwise_cons.1 d1.2;refine⟨fun t ht=>?_,?_⟩
 ·rcases List.mem_append.1 ht with ht|ht
  ·exact h.vt t (by simp[ht])
  ·have:t=mgT a b:=by simpa using ht
   subst this;exact qws va vb
 ·refine List.pairwise_append.2 ⟨d2.2,by simp,fun x hx y hy=>?_⟩;have:y=mgT a b:=by simpa using hy
  subst this;intro i hi hm
  rcases (qdK va.lt vb.lt i).1 hm with e|e
  ·exact d1.1 x (by simp[hx]) i e hi
  ·exact d2.1 x hx i e hi
def qbG:Nat->List Tr->Nat->Nat
 | 0,_,_=>0
 | f+1,l,i=>match qcN l with
  | a::b::r=>(if i∈mg a.2 b.2 then 1 else 0)+qbG f (r++[mgT a b]) i
  | _=>0
def qhP:Nat->List Tr->Nat
 | 0,_=>0
 | f+1,l=>match qcN l with
  | a::b::r=>a.1+b.1+qhP f (r++[mgT a b])
  | _=>0
theorem qrX{f:Nat}{l l':List Tr}(h:Forest l)(hp:l.Perm l')(i:Nat):qbG f l i=qbG f l' i:=by
 cases f with
 | zero=>rfl
 | succ f=>unfold qbG;rw[qtZ h.kd hp]
theorem qhT{f:Nat}{l r:List Tr}{a b:Tr}(h:qcN l=a::b::r)(i:Nat):qbG (f+1) l i=(if i∈mg a.2 b.2 then 1 else 0)+qbG f (r++[mgT a b]) i:=by
 rw[qbG,h]
theorem qfA{l:List Tr}(h:l.length<=1)(f i:Nat):qbG f l i=0:=by
 cases f with
 | zero=>rfl
 | succ f =>
  rw[qbG]
  match l,h with
  | [],_=>rfl
  | [x],_=>rfl
theorem qjV{l:List Tr}(h:l.length<=1)(f:Nat):qhP f l=0:=by
 cases f with
 | zero=>rfl
 | succ f =>
  rw[qhP]
  match l,h with
  | [],_=>rfl
  | [x],_=>rfl
theorem qoj{l:List Tr}(h:2<=l.length):∃a b r,qcN l=a::b::r/\(a::b::r).Perm l/\r.length+2=l.length:=by
 have hp:=qb6 l
 match e:qcN l with
 | []=>rw[e]at hp;have:=hp.length_eq;simp at this;omega
 | [x]=>rw[e]at hp;have:=hp.length_eq;simp at this;omega
 | a::b::r=>rw[e]at hp;exact⟨a,b,r,rfl,hp,by have:=hp.length_eq;simpa using this⟩
theorem qqo{m:Nat}(h:m+1<=15):pw m=2*pw (m+1):=by
 unfold pw;rw[show 15-m=(15-(m+1))+1 from by omega,Nat.pow_succ];omega
def krD(d:List (Tr×Nat)):Nat:=(d.map fun x=>pw x.2).sum
def coD(d:List (Tr×Nat)):Nat:=(d.map fun x=>x.1.1*x.2).sum
theorem qvj:∀(f:Nat) (l:List Tr),Forest l->1<=l.length->l.length<=f+1->l.length<=16 ->
  ∃d:List (Tr×Nat),(d.map Prod.fst).Perm l/\(∀x∈d,∀i∈x.1.2,qbG f l i=x.2)/\(∀i,(∀t∈l,i∉t.2)->qbG f l i=0)/\krD d=32768/\(∀x∈d,x.2+1<=l.length)/\coD d=qhP f l
 | f,l,hF,h1,hf,h16=>by
  by_cases h2:l.length=1
  ·match l,h2 with
   | [t],_ =>
    refine⟨[(t,0)],List.Perm.refl _,fun x hx i _=>?_,fun i _=>qfA (by simp) _ _,by simp[krD];rfl,fun x hx=>?_,?_⟩
    ·have:x=(t,0):=by simpa using hx
     subst this;exact qfA (by simp) _ _
    ·have:x=(t,0):=by simpa using hx
     subst this;simp
    ·rw[qjV (by simp)];simp[coD]
  ·obtain⟨a,b,r,hs,hp,hl⟩:=qoj (show 2<=l.length by omega);obtain⟨g,rfl⟩:∃g,f=g+1:=⟨f-1,by omega⟩
   have hFp:=hF.perm hp.symm;have va:=hFp.vt a (by simp);have vb:=hFp.vt b (by simp);have d1:=List.pairwise_cons.1 hFp.dis;have d2:=List.pairwise_cons.1 d1.2;obtain⟨d,e1,e2,e3,e4,e5,e6⟩:=qvj g (r++[mgT a b]) hFp.step (by simp) (by simp;omega) (by simp;omega);have hm:mgT a b∈d.map Prod.fst:=e1.mem_iff.2 (by simp);obtain⟨x,hx,hxa⟩:=List.mem_map.1 hm;obtain⟨s,t,rfl⟩:=List.append_of_mem hx
   have e7:((s++t).map Prod.fst).Perm r:=by
    have h1:((s++x::t).map Prod.fst).Perm (mgT a b::(s++t).map Prod.fst):=by
     rw[<-hxa];exact (List.perm_middle (a:=x) (l₁:=s) (l₂:=t)).map _
    have h3:(r++[mgT a b]).Perm (mgT a b::r):=List.perm_append_comm;exact List.Perm.cons_inv (h1.symm.trans (e1.trans h3))
   have hlen:(r++[mgT a b]).length=r.length+1:=by simp
   have hx5:=e5 x hx;rw[hlen]at hx5;refine⟨(a,x.2+1)::(b,x.2+1)::(s++t),?_,?_,?_,?_,?_,?_⟩
   ·rw[List.map_cons,List.map_cons];exact ((e7.cons b).cons a).trans hp
   ·intro y hy i hi;rw[qhT hs]
    rcases List.mem_cons.1 hy with rfl|hy
    ·have hi2:=(qdK va.lt vb.lt i).2 (.inl hi);rw[if_pos hi2,e2 x hx i (by rw[hxa];exact hi2)];simp only;omega
    ·rcases List.mem_cons.1 hy with rfl|hy
     ·have hi2:=(qdK va.lt vb.lt i).2 (.inr hi);rw[if_pos hi2,e2 x hx i (by rw[hxa];exact hi2)];simp only;omega
     ·have hyr:y.1∈r:=e7.mem_iff.1 (List.mem_map.2 ⟨y,hy,rfl⟩)
      have hn:i∉mg a.2 b.2:=by
       intro h
       rcases (qdK va.lt vb.lt i).1 h with h|h
       ·exact d1.1 y.1 (by simp[hyr]) i h hi
       ·exact d2.1 y.1 hyr i h hi
      have hyd:y∈s++x::t:=by
       rcases List.mem_append.1 hy with h|h
       ·exact List.mem_append.2 (.inl h)
       ·exact List.mem_append.2 (.inr (by simp[h]))
      rw[if_neg hn,e2 y hyd i hi];omega
   ·intro i hi;have ha:=hi a (hp.mem_iff.1 (by simp));have hb:=hi b (hp.mem_iff.1 (by simp))
    have hn:i∉mg a.2 b.2:=by
     intro h
     rcases (qdK va.lt vb.lt i).1 h with h|h
     ·exact ha h
     ·exact hb h
    rw[qhT hs,if_neg hn,e3 i fun t ht=>?_]
    rcases List.mem_append.1 ht with ht|ht
    ·exact hi t (hp.mem_iff.1 (by simp[ht]))
    ·have:t=mgT a b:=by simpa using ht
     subst this;exact hn
   ·unfold krD at e4 ⊢;rw[List.map_append,List.map_cons,List.sum_append,List.sum_cons]at e4;rw[List.map_cons,List.map_cons,List.sum_cons,List.sum_cons,List.map_append,List.sum_append];have:=qqo (m:=x.2) (by omega);simp only at this ⊢;omega
   ·intro y hy
    rcases List.mem_cons.1 hy with rfl|hy
    ·simp only;omega
    ·rcases List.mem_cons.1 hy with rfl|hy
     ·simp only;omega
     ·have:=e5 y (by rcases List.mem_append.1 hy with h|h;exact List.mem_append.2 (.inl h);exact List.mem_append.2 (.inr (by simp[h])));rw[hlen]at this;omega
   ·unfold coD at e6 ⊢;rw[List.map_append,List.map_cons,List.sum_append,List.sum_cons]at e6;rw[List.map_cons,List.map_cons,List.sum_cons,List.sum_cons,List.map_append,List.sum_append,qhP,hs];have hxw:x.1.1=a.1+b.1:=by rw[hxa];rfl
    rw[hxw]at e6;simp only[Nat.mul_add,Nat.add_mul,Nat.mul_one]at e6 ⊢;omega
def qbz:Nat×Nat->List (Nat×Nat)->(Nat×Nat)×List (Nat×Nat)
 | p,[]=>(p,[])
 | p,q::r=>((qbz (min p.1 q.1,max p.2 q.2) r).1,(max p.1 q.1,min p.2 q.2)::(qbz (min p.1 q.1,max p.2 q.2) r).2)
def krP(d:List (Nat×Nat)):Nat:=(d.map fun x=>pw x.2).sum
def coP(d:List (Nat×Nat)):Nat:=(d.map fun x=>x.1*x.2).sum
theorem qcH(x:Nat×Nat)(d:List (Nat×Nat)):krP (x::d)=pw x.2+krP d:=by simp[krP]
theorem qeA(x:Nat×Nat)(d:List (Nat×Nat)):coP (x::d)=x.1*x.2+coP d:=by simp[coP]
theorem qst(a b x y:Nat):min a b*max x y+max a b*min x y<=a*x+b*y:=by
 rcases Nat.le_total a b with h|h <;> rcases Nat.le_total x y with k|k
 ·rw[Nat.min_eq_left h,Nat.max_eq_right h,Nat.max_eq_right k,Nat.min_eq_left k];obtain⟨u,rfl⟩:=Nat.exists_eq_add_of_le h;obtain⟨v,rfl⟩:=Nat.exists_eq_add_of_le k;simp only[Nat.mul_add,Nat.add_mul];omega
 ·rw[Nat.min_eq_left h,Nat.max_eq_right h,Nat.max_eq_left k,Nat.min_eq_right k];omega
 ·rw[Nat.min_eq_right h,Nat.max_eq_left h,Nat.max_eq_right k,Nat.min_eq_left k];omega
 ·rw[Nat.min_eq_right h,Nat.max_eq_left h,Nat.max_eq_left k,Nat.min_eq_right k];obtain⟨u,rfl⟩:=Nat.exists_eq_add_of_le h;obtain⟨v,rfl⟩:=Nat.exists_eq_add_of_le k;simp only[Nat.mul_add,Nat.add_mul];omega
theorem qpO(a b:Nat)(l:List Nat):(min a b::max a b::l).Perm (a::b::l):=by
 rcases Nat.le_total a b with h|h
 ·rw[Nat.min_eq_left h,Nat.max_eq_right h]
 ·rw[Nat.min_eq_right h,Nat.max_eq_left h];exact List.Perm.swap _ _ _
theorem qhE:∀(r:List (Nat×Nat)) (p:Nat×Nat),
  coP ((qbz p r).1::(qbz p r).2)<=coP (p::r)/\krP ((qbz p r).1::(qbz p r).2)=krP (p::r) /\
  (((qbz p r).1::(qbz p r).2).map Prod.fst).Perm ((p::r).map Prod.fst) /\
  ((qbz p r).1.1<=p.1/\∀q∈(qbz p r).2,(qbz p r).1.1<=q.1) /\
  (p.2<=(qbz p r).1.2/\∀q∈(qbz p r).2,q.2<=(qbz p r).1.2) /\
  (∀m,(∀q∈p::r,q.2<=m)->∀q∈(qbz p r).1::(qbz p r).2,q.2<=m)/\(qbz p r).2.length=r.length
 | [],p=>by
  refine⟨Nat.le_refl _,rfl,List.Perm.refl _,⟨Nat.le_refl _,by simp[qbz]⟩,⟨Nat.le_refl _,by simp[qbz]⟩,fun m h=>h,rfl⟩
 | q::r,p=>by
  obtain⟨h1,h2,h3,h4,h5,h6,h7⟩:=qhE r (min p.1 q.1,max p.2 q.2);obtain⟨t,ht⟩:∃t,t=qbz (min p.1 q.1,max p.2 q.2) r:=⟨_,rfl⟩
  rw[<-ht]at h1 h2 h3 h4 h5 h6 h7;rw[qbz,<-ht];simp only at h4 h5 ⊢;rw[qeA,qeA]at h1;rw[qcH,qcH]at h2;simp only at h1 h2;have sw:=qst p.1 q.1 p.2 q.2;refine⟨?_,?_,?_,⟨by omega,?_⟩,⟨by omega,?_⟩,?_,by simp[h7]⟩
  ·rw[qeA,qeA,qeA,qeA];simp only;omega
  ·rw[qcH,qcH,qcH,qcH];simp only
   rcases Nat.le_total p.2 q.2 with k|k
   ·rw[Nat.max_eq_right k]at h2;rw[Nat.min_eq_left k];omega
   ·rw[Nat.max_eq_left k]at h2;rw[Nat.min_eq_right k];omega
  ·simp only[List.map_cons]at h3 ⊢;have s1:(t.1.1::max p.1 q.1::t.2.map Prod.fst).Perm (max p.1 q.1::t.1.1::t.2.map Prod.fst):=List.Perm.swap _ _ _;have s2:=h3.cons (max p.1 q.1);have s3:(max p.1 q.1::min p.1 q.1::r.map Prod.fst).Perm (min p.1 q.1::max p.1 q.1::r.map Prod.fst):=List.Perm.swap _ _ _;exact s1.trans (s2.trans (s3.trans (qpO _ _ _)))
  ·intro z hz
   rcases List.mem_cons.1 hz with rfl|hz
   ·simp only;omega
   ·exact h4.2 z hz
  ·intro z hz
   rcases List.mem_cons.1 hz with rfl|hz
   ·simp only;omega
   ·exact h5.2 z hz
  ·intro m hm z hz;have hp:=hm p (by simp);have hq:=hm q (by simp)
   have h8:=h6 m (fun y hy=>by
    rcases List.mem_cons.1 hy with rfl|hy
    ·simp only;omega
    ·exact hm y (by simp[hy]))
   rcases List.mem_cons.1 hz with rfl|hz
   ·exact h8 _ (by simp)
   ·rcases List.mem_cons.1 hz with rfl|hz
    ·simp only;omega
    ·exact h8 z (by simp[hz])
theorem qqu{m:Nat} : ∀(d:List (Nat×Nat)),(∀x∈d,x.2<=m)->pw m ∣ krP d
 | [],_=>Nat.dvd_zero _
 | x::d,h=>by
  rw[qcH];exact Nat.dvd_add (qov (h x (by simp))) (qqu d fun y hy=>h y (by simp[hy]))
theorem qoK{a a':Nat}{r r':List Nat}(h:(a'::r').Perm (a::r))(h1:∀x∈r,a<=x)(h2:∀x∈r',a'<=x):a'=a/\r'.Perm r:=by
 have e:a'=a:=by
  rcases List.mem_cons.1 (h.mem_iff.1 (by simp:a'∈a'::r'))with e|h3
  ·exact e
  ·rcases List.mem_cons.1 (h.mem_iff.2 (by simp:a∈a::r))with e|h4
   ·exact e.symm
   ·have:=h1 _ h3;have:=h2 _ h4;omega
 subst e;exact⟨rfl,List.Perm.cons_inv h⟩
theorem qpm:∀(f:Nat) (l:List Tr),Forest l->l.length<=f+1->l.length<=16->∀d:List (Nat×Nat),(d.map Prod.fst).Perm (l.map Prod.fst)->krP d<=32768->(∀x∈d,x.2<=15)->qhP f l<=coP d
 | f,l,hF,hf,h16,d,hd,hk,h15=>by
  by_cases h2:l.length<=1
  ·rw[qjV h2];omega
  ·obtain⟨a,b,r,hs,hp,hl⟩:=qoj (show 2<=l.length by omega);obtain⟨g,rfl⟩:∃g,f=g+1:=⟨f-1,by omega⟩
   have hFp:=hF.perm hp.symm;have hsr:Srt (a::b::r):=hs ▸ qeD l hF.kd;have s1:=List.pairwise_cons.1 hsr;have s2:=List.pairwise_cons.1 s1.2
   have l1:∀x∈b.1::r.map Prod.fst,a.1<=x:=by
    intro x hx;rw[<-List.map_cons (f:=Prod.fst)]at hx;obtain⟨y,hy,rfl⟩:=List.mem_map.1 hx;have:=(qaz _ _).1 (s1.1 y hy);omega
   have l2:∀x∈r.map Prod.fst,b.1<=x:=by
    intro x hx;obtain⟨y,hy,rfl⟩:=List.mem_map.1 hx;have:=(qaz _ _).1 (s2.1 y hy);omega
   have hd2:(d.map Prod.fst).Perm (a.1::b.1::r.map Prod.fst):=hd.trans (hp.map Prod.fst).symm;have hdl:d.length=r.length+2:=by have:=hd2.length_eq;simpa using this
   match d,hdl,hd2,hk,h15 with
   | p::q::rest,hdl,hd2,hk,h15 =>
    obtain⟨c1,k1,p1,m1,x1,b1,n1⟩:=qhE (q::rest) p;obtain⟨u,hu⟩:∃u,u=qbz p (q::rest):=⟨_,rfl⟩
    rw[<-hu]at c1 k1 p1 m1 x1 b1 n1;obtain⟨⟨ua,uL⟩,uR⟩:=u;simp only at c1 k1 p1 m1 x1 b1 n1
    match uR,n1,c1,k1,p1,m1,x1,b1 with
    | q2::rest2,n1,c1,k1,p1,m1,x1,b1 =>
     obtain⟨c2,k2,p2,m2,x2,b2,n2⟩:=qhE rest2 q2;obtain⟨v,hv⟩:∃v,v=qbz q2 rest2:=⟨_,rfl⟩
     rw[<-hv]at c2 k2 p2 m2 x2 b2 n2;obtain⟨⟨vb,vL⟩,vR⟩:=v;simp only at c2 k2 p2 m2 x2 b2 n2
     -- the weights are the least ones
     have hpu:=(p1.trans hd2)
     simp only[List.map_cons]at hpu
     obtain⟨eua,hpr⟩:=qoK hpu l1 (by
      intro x hx;rw[<-List.map_cons (f:=Prod.fst)]at hx;obtain⟨y,hy,rfl⟩:=List.mem_map.1 hx;exact m1.2 y hy)
     have hpv:=p2.trans (by simpa using hpr);simp only[List.map_cons]at hpv
     obtain⟨evb,hpr2⟩:=qoK hpv l2 (by
      intro x hx;obtain⟨y,hy,rfl⟩:=List.mem_map.1 hx;exact m2.2 y hy)
     subst eua;subst evb
     -- the room
     have hb15:=b1 15 h15;have hvL:vL<=uL:=b2 uL x1.2 (b.1,vL) (by simp);have huL:uL<=15:=hb15 (a.1,uL) (by simp);rw[qcH]at k1;rw[qcH]at k2;simp only at k1 k2;have hpu1:=qef uL;have hdv:pw vL ∣ pw vL+krP vR:=Nat.dvd_add (Nat.dvd_refl _) (qqu vR fun z hz=>x2.2 z hz)
     have hd15:pw vL ∣ 32768:=by
      have:=qov (a:=0) (b:=vL) (by omega);exact this
     have hroom:pw vL+(pw vL+krP vR)<=32768:=by
      obtain⟨m,hm⟩:=hdv;obtain⟨n,hn⟩:=hd15;have hlt:pw vL*m<pw vL*n:=by omega
      have hmn:m<n:=Nat.lt_of_mul_lt_mul_left hlt;have:pw vL*(m+1)<=pw vL*n:=Nat.mul_le_mul_left _ hmn;rw[Nat.mul_add]at this;omega
     have hv1:1<=vL:=by
      rcases Nat.eq_zero_or_pos vL with e|e
      ·subst e;have:pw 0=32768:=rfl;omega
      ·exact e
     have hpw:=qqo (m:=vL-1) (by omega);rw[show vL-1+1=vL from by omega]at hpw
     have hdn:(((a.1+b.1,vL-1)::vR).map Prod.fst).Perm ((r++[mgT a b]).map Prod.fst):=by
      rw[List.map_append,List.map_cons,List.map_cons,List.map_nil];have h3:(r.map Prod.fst++[(mgT a b).1]).Perm ((mgT a b).1::r.map Prod.fst):=List.perm_append_comm;exact (hpr2.cons _).trans h3.symm
     have ih:=qpm g (r++[mgT a b]) hFp.step (by simp;omega) (by simp;omega) _ hdn (by rw[qcH];simp only;omega) (by
      intro z hz
      rcases List.mem_cons.1 hz with rfl|hz
      ·simp only;omega
      ·have:=x2.2 z hz;omega)
     rw[qhP,hs];rw[qeA]at ih c1 c2;simp only at ih c1 c2 ⊢;have hle:a.1*vL<=a.1*uL:=Nat.mul_le_mul_left _ hvL
     have e1:(a.1+b.1)*vL=a.1+b.1+(a.1+b.1)*(vL-1):=by
      conv=>lhs;rw[show vL=(vL-1)+1 from by omega]
      rw[Nat.mul_add];omega
     rw[Nat.add_mul]at e1;omega
end Pl
namespace Pl
def cn(c:List Int)(i:Nat):Nat:=(c.getD i 0).toNat
def qtQ(c:List Int)(i:Nat):Option Tr:=if 0<c.getD i 0 then some (cn c i,[i])else none
def qah(c:List Int):Nat->List Tr
 | 0=>[]
 | k+1=>qah c k++(qtQ c k).toList
theorem qdX{c:List Int}{k:Nat}(h:0<c.getD k 0):qah c (k+1)=qah c k++[(cn c k,[k])]:=by rw[qah,qtQ,if_pos h];rfl
theorem qdk{c:List Int}{k:Nat}(h:¬0<c.getD k 0):qah c (k+1)=qah c k:=by rw[qah,qtQ,if_neg h];simp
theorem mem_startF{c:List Int}{t:Tr} : ∀{k:Nat},t∈qah c k↔∃i,i<k/\0<c.getD i 0/\t=(cn c i,[i])
 | 0=>by simp[qah]
 | k+1=>by
  by_cases h:0<c.getD k 0
  ·rw[qdX h,List.mem_append,mem_startF,List.mem_singleton];constructor
   ·rintro (⟨i,h1,h2,h3⟩|h3)
    ·exact⟨i,by omega,h2,h3⟩
    ·exact⟨k,by omega,h,h3⟩
   ·rintro⟨i,h1,h2,h3⟩
    by_cases e:i=k
    ·subst e;exact .inr h3
    ·exact .inl ⟨i,by omega,h2,h3⟩
  ·rw[qdk h,mem_startF];constructor
   ·rintro⟨i,h1,h2,h3⟩;exact⟨i,by omega,h2,h3⟩
   ·rintro⟨i,h1,h2,h3⟩
    by_cases e:i=k
    ·subst e;exact absurd h2 h
    ·exact⟨i,by omega,h2,h3⟩
theorem qdY(c:List Int):∀k,(qah c k).length<=k
 | 0=>Nat.le_refl _
 | k+1=>by
  have:=qdY c k
  by_cases h:0<c.getD k 0
  ·rw[qdX h,zL];simp;omega
  ·rw[qdk h];omega
theorem qeq(c:List Int):∀k,k<=16->Forest (qah c k)
 | 0,_=>⟨by simp[qah],List.Pairwise.nil⟩
 | k+1,hk=>by
  have ih:=qeq c k (by omega)
  by_cases h:0<c.getD k 0
  ·rw[qdX h];refine⟨fun t ht=>?_,List.pairwise_append.2 ⟨ih.dis,by simp,fun x hx y hy=>?_⟩⟩
   ·rcases List.mem_append.1 ht with ht|ht
    ·exact ih.vt t ht
    ·have:t=(cn c k,[k]):=by simpa using ht
     subst this
     exact⟨by simp,by simp,fun i hi=>by
       have:i=k:=by simpa using hi
       omega⟩
   ·have hy:y=(cn c k,[k]):=by simpa using hy
    subst hy;obtain⟨i,h1,_,rfl⟩:=mem_startF.1 hx;intro j hj hj2;have e1:j=i:=by simpa using hj
    have e2:j=k:=by simpa using hj2
    omega
  ·rw[qdk h];exact ih
theorem qdU(c:List Int)(g:Tr->Nat)(q:Nat->Nat)(hg:∀i,g (cn c i,[i])=q i):∀k,((qah c k).map g).sum=qaB (fun j=>if 0<c.getD j 0 then q j else 0) k
 | 0=>rfl
 | k+1=>by
  rw[qaB,<-qdU c g q hg k]
  by_cases h:0<c.getD k 0
  ·rw[qdX h,if_pos h,List.map_append,List.sum_append];simp[hg]
  ·rw[qdk h,if_neg h];rfl
def qaq(c:List Int):List Tr:=qah c 16
def qav(c:List Int):Nat:=if qbq c=false then 3 else if (qaq c).length=0 then 5 else 0
def qaC(c:List Int)(i:Nat):Nat:=if (qaq c).length=1 then (if 0<c.getD i 0 then 1 else 0)else qbG ((qaq c).length-1) (qaq c) i
def qay(c:List Int):List Int:=if qav c≠0 then List.replicate 16 0 else (List.range 16).map fun i=>(qaC c i:Int)
theorem qcz(c:List Int):(qay c).length=16:=by unfold qay;split <;> simp
theorem qhw{c:List Int}(h:qav c=0){i:Nat}(hi:i<16):(qay c).getD i 0=(qaC c i:Int):=by
 unfold qay;rw[if_neg (by omega),List.getD_eq_getElem?_getD,List.getElem?_map,List.getElem?_range hi];rfl
theorem qkx(c:List Int):(qaq c).length<=16:=qdY c 16
theorem qp9{c:List Int}(h:qav c=0):qbq c=true/\1<=(qaq c).length:=by
 unfold qav at h;cases hf:qbq c with
 | false=>rw[hf,if_pos rfl]at h;omega
 | true =>
  rw[hf,if_neg (by simp)]at h
  by_cases h2:(qaq c).length=0
  ·rw[if_pos h2]at h;omega
  ·exact⟨rfl,by omega⟩
theorem qmM{c:List Int}(h:(qaq c).length=1):∃i,i<16/\∀j,j<16->(0<c.getD j 0↔j=i):=by
 match e:qaq c,h with
 | [t],_ =>
  have ht:t∈qah c 16:=by show t∈qaq c;rw[e];simp
  obtain⟨i,h1,h2,h3⟩:=mem_startF.1 ht;refine⟨i,h1,fun j hj=>⟨fun hp=>?_,fun e=>e ▸ h2⟩⟩;have hj2:(cn c j,[j])∈qaq c:=mem_startF.2 ⟨j,hj,hp,rfl⟩;rw[e,List.mem_singleton,h3]at hj2;have:=(Prod.ext_iff.1 hj2).2;simpa using this
theorem qfT{α:Type}(f:α->Nat):∀{l:List α} {x:α},x∈l->f x<=(l.map f).sum
 | y::l,x,h=>by
  rw[List.map_cons,List.sum_cons]
  rcases List.mem_cons.1 h with rfl|h
  ·omega
  ·have:=qfT f h;omega
theorem qvC{d:List (Tr×Nat)}(h:krD d=32768)(h2:2<=d.length):∀x∈d,1<=x.2:=by
 intro x hx
 rcases Nat.eq_zero_or_pos x.2 with e|e
 ·exfalso
  obtain⟨s,t,rfl⟩:=List.append_of_mem hx;unfold krD at h;rw[List.map_append,List.map_cons,List.sum_append,List.sum_cons,e]at h;have h0:pw 0=32768:=rfl
  have hne:∃y,y∈s++t:=by
   match s,t,h2 with
   | y::s,t,_=>exact⟨y,by simp⟩
   | [],y::t,_=>exact⟨y,by simp⟩
   | [],[],h2=>simp at h2
  obtain⟨y,hy⟩:=hne;have hp:=qef y.2
  rcases List.mem_append.1 hy with hy|hy
  ·have:=qfT (fun x:Tr×Nat=>pw x.2) hy;omega
  ·have:=qfT (fun x:Tr×Nat=>pw x.2) hy;omega
 ·exact e
structure Code2(c:List Int):Prop where
 used:∀j,j<16->0<c.getD j 0->1<=qaC c j/\qaC c j<=15
 not:∀j,j<16->¬0<c.getD j 0->qaC c j=0
 room:0<qaB (fun j=>if 0<c.getD j 0 then pw (qaC c j)else 0) 16/\qaB (fun j=>if 0<c.getD j 0 then pw (qaC c j)else 0) 16<=32768
 least:∀r:Nat->Nat,(∀j,j<16->0<c.getD j 0->1<=r j/\r j<=15)->qaB (fun j=>if 0<c.getD j 0 then pw (r j)else 0) 16<=32768->qaB (fun j=>if 0<c.getD j 0 then cn c j*qaC c j else 0) 16<=qaB (fun j=>if 0<c.getD j 0 then cn c j*r j else 0) 16
theorem qvi{c:List Int}(h:qav c=0):Code2 c:=by
 obtain⟨_,h1⟩:=qp9 h
 by_cases h2:(qaq c).length=1
 ·obtain⟨i,hi,hall⟩:=qmM h2;have hl:∀j,j<16->qaC c j=if 0<c.getD j 0 then 1 else 0:=fun j _=>by unfold qaC;rw[if_pos h2]
  refine⟨fun j hj hp=>?_,fun j hj hp=>?_,?_,fun r hr _=>?_⟩
  ·rw[hl j hj,if_pos hp];omega
  ·rw[hl j hj,if_neg hp]
  ·rw[qj7 (i:=i) 16 hi (fun j hj hne=>by rw[if_neg (fun hp=>hne ((hall j hj).1 hp))])];have:=qef (qaC c i);have:=qjd (qaC c i);rw[if_pos ((hall i hi).2 rfl)];omega
  ·refine qja 16 fun j hj=>?_
   by_cases hp:0<c.getD j 0
   ·rw[if_pos hp,if_pos hp,hl j hj,if_pos hp];exact Nat.mul_le_mul_left _ (hr j hj hp).1
   ·rw[if_neg hp,if_neg hp];exact Nat.le_refl _
 ·have hlen:=qkx c;have hF:Forest (qaq c):=qeq c 16 (Nat.le_refl _);have hl:∀j,qaC c j=qbG ((qaq c).length-1) (qaq c) j:=fun j=>by unfold qaC;rw[if_neg h2]
  obtain⟨d,e1,e2,e3,e4,e5,e6⟩:=qvj ((qaq c).length-1) (qaq c) hF h1 (by omega) hlen;have hdl:d.length=(qaq c).length:=by have:=e1.length_eq;simpa using this
  have hd1:=qvC e4 (by omega)
  have hone:∀x∈d,x.2=qaC c (hd x.1):=by
   intro x hx;have hx1:x.1∈qah c 16:=e1.mem_iff.1 (List.mem_map.2 ⟨x,hx,rfl⟩);obtain⟨i,_,_,hxi⟩:=mem_startF.1 hx1;rw[hl,<-e2 x hx (hd x.1) (by rw[hxi];simp[hd])]
  have hof:∀j,j<16->0<c.getD j 0->∃x∈d,x.2=qaC c j:=by
   intro j hj hp;have:(cn c j,[j])∈d.map Prod.fst:=e1.mem_iff.2 (mem_startF.2 ⟨j,hj,hp,rfl⟩);obtain⟨x,hx,hxe⟩:=List.mem_map.1 this;exact⟨x,hx,by rw[hone x hx,hxe];rfl⟩
  have hkr:krD d=qaB (fun j=>if 0<c.getD j 0 then pw (qaC c j)else 0) 16:=by
   rw[<-qdU c (fun t=>pw (qaC c (hd t))) (fun j=>pw (qaC c j)) (fun i=>rfl) 16];unfold krD
   have s1:d.map (fun x=>pw x.2)=(d.map Prod.fst).map fun t=>pw (qaC c (hd t)):=by
    rw[List.map_map];exact List.map_congr_left fun x hx=>by simp only[Function.comp];rw[<-hone x hx]
   rw[s1];exact (e1.map _).sum_nat
  have hco:coD d=qaB (fun j=>if 0<c.getD j 0 then cn c j*qaC c j else 0) 16:=by
   rw[<-qdU c (fun t=>t.1*qaC c (hd t)) (fun j=>cn c j*qaC c j) (fun i=>rfl) 16];unfold coD
   have s1:d.map (fun x=>x.1.1*x.2)=(d.map Prod.fst).map fun t=>t.1*qaC c (hd t):=by
    rw[List.map_map];exact List.map_congr_left fun x hx=>by simp only[Function.comp];rw[<-hone x hx]
   rw[s1];exact (e1.map _).sum_nat
  refine⟨fun j hj hp=>?_,fun j hj hp=>?_,?_,fun r hr hk=>?_⟩
  ·obtain⟨x,hx,hxe⟩:=hof j hj hp;have:=e5 x hx;have:=hd1 x hx;omega
  ·rw[hl];refine e3 j fun t ht=>?_;obtain⟨i,_,h2,rfl⟩:=mem_startF.1 ht;intro hm;have:j=i:=by simpa using hm
   subst this;exact hp h2
  ·rw[<-hkr,e4];omega
  ·rw[<-hco,e6];have hP:=qpm ((qaq c).length-1) (qaq c) hF (by omega) hlen ((qaq c).map fun t=>(t.1,r (hd t))) (by rw[List.map_map];exact List.Perm.refl _) ?_ ?_
   ·refine Nat.le_trans hP (Nat.le_of_eq ?_);rw[<-qdU c (fun t=>t.1*r (hd t)) (fun j=>cn c j*r j) (fun i=>rfl) 16];unfold coP;rw[List.map_map];rfl
   ·refine Nat.le_trans (Nat.le_of_eq ?_) hk;rw[<-qdU c (fun t=>pw (r (hd t))) (fun j=>pw (r j)) (fun i=>rfl) 16];unfold krP;rw[List.map_map];rfl
   ·intro x hx;obtain⟨t,ht,rfl⟩:=List.mem_map.1 hx;obtain⟨i,hi,hp,rfl⟩:=mem_startF.1 ht;exact (hr i hi hp).2
theorem qoL{l c:List Int} : ∀(_hl:l.length=c.length),(qlj l c=false↔∀j,j<l.length->¬(0<c.getD j 0/\l.getD j 0=0)):=by
 induction l generalizing c with
 | nil=>intro _;simp[qlj]
 | cons x l ih =>
  intro hl;cases c with
  | nil=>simp at hl
  | cons y c =>
   have hl2:l.length=c.length:=by simpa using hl
   rw[qlj,Bool.or_eq_false_iff,ih hl2,decide_eq_false_iff_not];constructor
   ·rintro⟨h1,h2⟩ j hj;cases j with
    | zero=>simpa using h1
    | succ j=>simpa using h2 j (by simpa using hj)
   ·intro h;exact⟨by simpa using h 0 (by simp),fun j hj=>by simpa using h (j+1) (by simpa using hj)⟩
theorem qo0{l:List Int}{j:Nat}(h:j<l.length):l.getD j 0∈l:=by rw[List.getD_eq_getElem?_getD,zG h];simp
theorem qfY{c:List Int}(h:qav c=0):qI (qay c)=0:=by
 have hc2:=qvi h;have hl16:=qcz c
 have hb:∀j,j<16->qaC c j<=15:=fun j hj=>by
  by_cases hp:0<c.getD j 0
  ·exact (hc2.used j hj hp).2
  ·rw[hc2.not j hj hp];omega
 have hnn:∀x∈qay c,0<=x/\x<=15:=by
  intro x hx;obtain⟨j,hj,rfl⟩:=List.mem_iff_getElem.1 hx;have e:(qay c)[j]=(qay c).getD j 0:=by rw[List.getD_eq_getElem?_getD,zG hj];rfl
  have hj2:j<16:=by omega
  rw[e,qhw h hj2];have:=hb j hj2;omega
 have hkr:kr (qay c)=qaB (fun j=>if 0<c.getD j 0 then pw (qaC c j)else 0) 16:=by
  rw[qtf hl16 fun x hx=>(hnn x hx).1];refine qdV 16 fun j hj=>?_;have e:ln (qay c) j=qaC c j:=by unfold ln;rw[qhw h hj];simp
  rw[e]
  by_cases hp:0<c.getD j 0
  ·rw[if_pos hp,if_pos (show 0<qaC c j from (hc2.used j hj hp).1)]
  ·rw[if_neg hp,if_neg (by rw[hc2.not j hj hp];omega)]
 refine qi0 ?_ ?_
 ·rw[List.any_eq_false];intro x hx;have:=hnn x hx;simp only[qcL,decide_eq_true_eq];omega
 ·rw[hkr];have:=hc2.room;omega
theorem quD{c:List Int}(hc:c.length=16)(h:qav c=0):qlj (qay c) c=false:=by
 have hl16:=qcz c;rw[qoL (by omega)];intro j hj;rw[qhw h (by omega)];rintro⟨h1,h2⟩;have:=((qvi h).used j (by omega) h1).1;omega
end Pl
namespace Pl
theorem qoh{l r:List Tr}{a b:Tr}(hF:Forest l)(hp:(a::b::r).Perm l)(hs:∃r',qcN l=a::b::r'/\r'.Perm r) :
  Forest (r++[mgT a b])/\((r++[mgT a b]).map Prod.fst).sum=(l.map Prod.fst).sum/\∀f i,qbG (f+1) l i=(if i∈mg a.2 b.2 then 1 else 0)+qbG f (r++[mgT a b]) i:=by
 have hF2:=hF.perm hp.symm;refine⟨hF2.step,?_,fun f i=>?_⟩
 ·have h:=(hp.map Prod.fst).sum_nat;rw[<-h];simp[mgT];omega
 ·obtain⟨r',h1,h2⟩:=hs;rw[qhT h1]
  congr 1
  refine qrX ?_ (h2.append_right _) i;exact hF2.step.perm (h2.symm.append_right _)
def Lf(f:Nat->Int):List Int:=(List.range 16).map f
theorem qab(f:Nat->Int):(Lf f).length=16:=by simp[Lf]
theorem qfH(f:Nat->Int){i:Nat}(h:i<16):(Lf f)[i]?=some (f i):=by unfold Lf;rw[List.getElem?_map,List.getElem?_range h];rfl
theorem qvQ:Lf (fun _=>0)=List.replicate 16 0:=by decide
theorem qcp{f g:Nat->Int}(h:∀i,i<16->f i=g i):Lf f=Lf g:=by
 unfold Lf;exact List.map_congr_left fun i hi=>h i (List.mem_range.1 hi)
theorem qhd(f:Nat->Int)(i:Nat)(v:Int):(Lf f).set i v=Lf fun j=>if j=i then v else f j:=by
 apply List.ext_getElem?;intro j;rw[List.getElem?_set]
 by_cases hj:j<16
 ·rw[qfH _ hj,qfH _ hj,qab]
  by_cases e:i=j
  ·subst e;simp[hj]
  ·rw[if_neg e,if_neg (fun h=>e h.symm)]
 ·have h1:(Lf f)[j]?=none:=List.getElem?_eq_none (by rw[qab];omega);have h2:(Lf fun j=>if j=i then v else f j)[j]?=none:=List.getElem?_eq_none (by rw[qab];omega);rw[h1,h2,qab]
  by_cases e:i=j
  ·subst e;simp[hj]
  ·rw[if_neg e]
theorem qmQ{c:List Int}(h:qav c=0):qay c=Lf fun i=>(qaC c i:Int):=by unfold qay Lf;rw[if_neg (by omega)]
theorem qfZ{c:List Int}(h:qav c≠0):qay c=Lf fun _=>0:=by unfold qay;rw[if_pos h,qvQ]
theorem qlN{c:List Int}(h:qbq c=false):qav c=3:=by unfold qav;rw[if_pos h]
theorem qjX{c:List Int}(h:qbq c=true)(h2:(qaq c).length=0):qav c=5:=by unfold qav;rw[h,if_neg (by simp),if_pos h2]
theorem qfG{c:List Int}(h:qbq c=true)(h2:(qaq c).length≠0):qav c=0:=by unfold qav;rw[h,if_neg (by simp),if_neg h2]
theorem qoJ{c:List Int}(h:qbq c=true){t:Tr}(h1:qaq c=[t]):qay c=Lf fun j=>if j=hd t then 1 else 0:=by
 have hl:(qaq c).length=1:=by rw[h1];rfl
 rw[qmQ (qfG h (by omega))];refine qcp fun j hj=>?_;unfold qaC;rw[if_pos hl];have ht:t∈qah c 16:=by show t∈qaq c;rw[h1];simp
 obtain⟨i,hi1,hi2,hi3⟩:=mem_startF.1 ht;have hh:hd t=i:=by rw[hi3];rfl
 obtain⟨i',h3,h4⟩:=qmM hl;have hii:i=i':=(h4 i hi1).1 hi2;rw[hh]
 by_cases hp:0<c.getD j 0
 ·have:=(h4 j hj).1 hp;rw[if_pos hp,if_pos (by omega)];rfl
 ·rw[if_neg hp,if_neg (fun e=>hp (by rw[e];exact hi2))];rfl
theorem qmP{c:List Int}(h:qbq c=true)(h2:2<=(qaq c).length):qay c=Lf fun i=>(qbG ((qaq c).length-1) (qaq c) i:Int):=by
 rw[qmQ (qfG h (by omega))];refine qcp fun j hj=>?_;unfold qaC;rw[if_neg (by omega)]
theorem qoc{c:List Int}(h:qbq c=true)(hc:c.length=16):((qaq c).map Prod.fst).sum<=32768:=by
 unfold qaq;rw[qdU c Prod.fst (cn c) (fun i=>rfl) 16]
 have hb:∀j,j<16->cn c j<=2048:=fun j hj=>by
  have:=(qhF h _ (qo0 (l:=c) (j:=j) (by omega))).2;unfold cn;omega
 have:∀k,k<=16->qaB (fun j=>if 0<c.getD j 0 then cn c j else 0) k<=2048*k:=by
  intro k
  induction k with
  | zero=>intro _;simp[qaB]
  | succ k ih =>
   intro hk;rw[qaB];have:=ih (by omega);have:=hb k (by omega)
   split <;> omega
 exact Nat.le_trans (this 16 (by omega)) (by omega)
def mgI(a b:Tr)(i:Nat):Tr:=(a.1+b.1,(mg a.2 b.2).filter fun j=>decide (j<i))
theorem qvB(a b:Tr):mgI a b 16=mgT a b:=by
 unfold mgI mgT
 congr 1
 rw[List.filter_eq_self];intro j hj;unfold mg at hj;have:=(List.mem_filter.1 hj).1;simpa using this
end Pl
namespace Pl
def qaP(n:Nat):List Bool:=List.replicate n false
theorem qcU(n:Nat):(qaP n).length=n:=List.length_replicate
theorem qim(a b:Nat):qaP a++qaP b=qaP (a+b):=List.replicate_append_replicate
theorem qsb(n:Nat):val (qaP n)=0:=by
 induction n with
 | zero=>rfl
 | succ n ih =>
  have:qaP (n+1)=qaP n++[false]:=by rw[<-qim];rfl
  rw[this,qdz,ih];rfl
def qB(b:qa):List Bool:=b.flatMap fun c=>bt c.toNat 8
theorem qdA(c:UInt8)(b:qa):qB (c::b)=bt c.toNat 8++qB b:=by simp[qB]
theorem qcb(b:qa):(qB b).length=8*b.length:=by
 induction b with
 | nil=>rfl
 | cons c b ih=>rw[qdA,zL,qcD,ih,List.length_cons];omega
theorem qpt(a b:qa):qB (a++b)=qB a++qB b:=by simp[qB]
def qf9(x:List Bool):UInt8:=UInt8.ofNat (val x*2 ^ (8-x.length))
theorem qen{x:List Bool}(h:x.length<=8):(qf9 x).toNat=val x*2 ^ (8-x.length):=by
 have h1:=qfB x;have h2:val x*2 ^ (8-x.length)<2 ^ x.length*2 ^ (8-x.length):=Nat.mul_lt_mul_of_pos_right h1 (Nat.pow_pos (by omega));rw[<-Nat.pow_add,show x.length+(8-x.length)=8 from by omega]at h2;show (UInt8.ofNat _).toNat=_;rw[UInt8.toNat_ofNat'];exact Nat.mod_eq_of_lt (by simpa using h2)
theorem qrY{x:List Bool}(h:x.length<=8):bt (qf9 x).toNat 8=x++qaP (8-x.length):=by
 rw[qen h];have h1:val (x++qaP (8-x.length))=val x*2 ^ (8-x.length):=by rw[qg2,qsb,qcU];omega
 have h2:=qtC (x++qaP (8-x.length));rw[h1,zL,qcU,show x.length+(8-x.length)=8 from by omega]at h2;exact h2
theorem qrW(c:UInt8):qf9 (bt c.toNat 8)=c:=by
 have:=c.toNat_lt;apply UInt8.toNat_inj.1;rw[qen (by rw[qcD];omega),qn0,qcD];simp
def qa6:Nat->List Bool->qa
 | 0,_=>[]
 | n+1,x=>qf9 (x.take 8)::qa6 n (x.drop 8)
def qfu(x:List Bool):qa:=qa6 ((x.length+7) / 8) x
theorem qmL(n:Nat)(x:List Bool):(qa6 n x).length=n:=by
 induction n generalizing x with
 | zero=>rfl
 | succ n ih=>rw[qa6,List.length_cons,ih]
theorem qeR:∀(n:Nat) (x:List Bool),x.length<=8*n->qB (qa6 n x)=x++qaP (8*n-x.length)
 | 0,x,h=>by
  have:x=[]:=List.length_eq_zero_iff.1 (by omega);subst this;rfl
 | n+1,x,h=>by
  rw[qa6,qdA,qrY (by rw[List.length_take];omega),qeR n _ (by rw[List.length_drop];omega),List.length_take,List.length_drop]
  by_cases h8:8<=x.length
  ·rw[show 8-min 8 x.length=0 from by omega,show 8*n-(x.length-8)=8*(n+1)-x.length from by omega];rw[show qaP 0=[]from rfl,List.append_nil,<-List.append_assoc,List.take_append_drop]
  ·rw[List.take_of_length_le (by omega),List.drop_eq_nil_of_le (by omega),List.nil_append,List.append_assoc,qim]
   congr 2;omega
theorem qiH(b:qa):qa6 b.length (qB b)=b:=by
 induction b with
 | nil=>rfl
 | cons c b ih =>
  rw[List.length_cons,qa6,qdA];have h8:=qcD 8 c.toNat;rw[List.take_append_of_le_length (by omega),List.take_of_length_le (by omega),qrW,List.drop_append_of_le_length (by omega),List.drop_eq_nil_of_le (by omega),List.nil_append,ih]
theorem qjw{a b:qa}(h:qB a=qB b):a=b:=by
 have hl:=congrArg List.length h;rw[qcb,qcb]at hl;rw[<-qiH a,<-qiH b,h,show a.length=b.length from by omega]
theorem qiI(x:List Bool):(qfu x).length=(x.length+7) / 8:=qmL _ _
theorem qgf(x:List Bool):qB (qfu x)=x++qaP (8*((x.length+7) / 8)-x.length):=qeR _ _ (by omega)
theorem qug(x rest:List Bool)(b:qa)(h:qB b=x++rest):qfu x=b↔rest.length<8/\rest=qaP rest.length:=by
 constructor
 ·intro e;have h2:=qgf x;rw[e,h]at h2;have h3:=List.append_cancel_left h2;rw[h3,qcU];exact⟨by omega,rfl⟩
 ·rintro⟨h1,h2⟩;apply qjw;rw[qgf,h];have hl:=congrArg List.length h;rw[qcb,zL]at hl;rw[h2]
  congr 2;omega
theorem qfX:∀(n:Nat) (x:List Bool),qa6 (n+1) x=qa6 n x++[qf9 ((x.drop (8*n)).take 8)]
 | 0,x=>by simp[qa6]
 | n+1,x=>by
  rw[qa6,qfX n (x.drop 8),qa6,List.cons_append,List.drop_drop,show 8+8*n=8*(n+1)from by omega]
theorem qsT(x:List Bool)(n:Nat)(h:x.length<=8*n):qa6 n (x++qaP (8*n-x.length))=qa6 n x:=by
 apply qjw;rw[qeR _ _ (by rw[zL,qcU];omega),qeR _ _ h,zL,qcU,show 8*n-(x.length+(8*n-x.length))=0 from by omega];simp[qaP]
def qp(s:qa):List Nat:=s.flatMap fun c=>[c.toNat / 16,c.toNat % 16]
theorem qdI(c:UInt8)(s:qa):qp (c::s)=c.toNat / 16::c.toNat % 16::qp s:=by simp[qp]
theorem qbK(s:qa):(qp s).length=2*s.length:=by
 induction s with
 | nil=>rfl
 | cons c s ih=>rw[qdI,List.length_cons,List.length_cons,ih,List.length_cons];omega
theorem ql9(s:qa):∀k∈qp s,k<16:=by
 induction s with
 | nil=>intro k hk;simp[qp]at hk
 | cons c s ih =>
  intro k hk;have:=c.toNat_lt;rw[qdI,List.mem_cons,List.mem_cons]at hk
  rcases hk with rfl|rfl|hk
  ·omega
  ·omega
  ·exact ih k hk
theorem qkj(a b:qa):qp (a++b)=qp a++qp b:=by simp[qp]
def qaV:List Nat->qa
 | []=>[]
 | [a]=>[UInt8.ofNat (16*a)]
 | a::b::r=>UInt8.ofNat (16*a+b)::qaV r
theorem qtk(s:qa):qaV (qp s)=s:=by
 induction s with
 | nil=>rfl
 | cons c s ih =>
  rw[qdI,qaV,ih,Nat.div_add_mod]
  congr 1
  exact UInt8.ofNat_toNat
theorem qmN:∀(ks:List Nat),ks.length % 2=0->(∀k∈ks,k<16)->qp (qaV ks)=ks
 | [],_,_=>rfl
 | [_],h,_=>by simp at h
 | a::b::r,h,hk=>by
  have ha:=hk a (by simp);have hb:=hk b (by simp);have e:(UInt8.ofNat (16*a+b)).toNat=16*a+b:=by rw[UInt8.toNat_ofNat'];exact Nat.mod_eq_of_lt (by simp;omega)
  rw[qaV,qdI,e,qmN r (by simp at h;omega) (fun k hk'=>hk k (by simp[hk']))]
  congr 1
  ·omega
  ·congr 1;omega
theorem qhC:∀(a b:List Nat),a.length % 2=0->qaV (a++b)=qaV a++qaV b
 | [],_,_=>rfl
 | [_],_,h=>by simp at h
 | x::y::r,b,h=>by
  rw[List.cons_append,List.cons_append,qaV,qaV,List.cons_append,qhC r b (by simp at h;omega)]
theorem qey:∀(ks:List Nat),(qaV ks).length=(ks.length+1) / 2
 | []=>rfl
 | [_]=>by simp[qaV]
 | a::b::r=>by rw[qaV,List.length_cons,qey r,List.length_cons,List.length_cons];omega
def qbk(l:List Int)(ks:List Nat):List Bool:=ks.flatMap (qS l)
theorem qo2(l:List Int)(a b:List Nat):qbk l (a++b)=qbk l a++qbk l b:=by simp[qbk]
theorem qgK(l:List Int)(a:Nat)(b:List Nat):qbk l (a::b)=qS l a++qbk l b:=by simp[qbk]
theorem qfp{l:List Int}(h:Right l)(ks:List Nat):(qbk l ks).length<=15*ks.length:=by
 induction ks with
 | nil=>simp[qbk]
 | cons a ks ih =>
  have:=h.one a;rw[qgK,zL,qac,List.length_cons];omega
def qaS(l:List Int)(ks:List Nat):Bool:=ks.any fun k=>decide (ln l k=0)
def qas(l:List Int)(s:qa):Nat:=if qI l≠0 then qI l else if 1024<s.length then 2 else if qaS l (qp s)=true then 5 else 0
def qan(l:List Int)(s:qa):qa:=if qas l s=0 then qfu (qbk l (qp s))else []
def qhB(l:List Int)(b:List Bool)(i:Nat):Bool:=decide (0<ln l i) && (qS l i).isPrefixOf b
def qby(l:List Int)(b:List Bool):Option Nat:=(List.range 16).find? (qhB l b)
theorem qjg(l:List Int)(b:List Bool)(i:Nat):qhB l b i=true↔0<ln l i/\qS l i <+: b:=by
 unfold qhB;rw[Bool.and_eq_true,decide_eq_true_eq,List.isPrefixOf_iff_prefix]
theorem qf0{l:List Int}{b:List Bool}{i:Nat}(h:qby l b=some i):i<16/\0<ln l i/\qS l i <+: b:=by
 unfold qby at h;rw[List.find?_range_eq_some]at h;have:=(qjg l b i).1 h.1;exact⟨by simpa using h.2.1,this.1,this.2⟩
theorem qm2{l:List Int}(hr:Right l){b:List Bool}{i:Nat}(hi:i<16)(h0:0<ln l i)(hp:qS l i <+: b):qby l b=some i:=by
 unfold qby;rw[List.find?_range_eq_some];refine⟨(qjg _ _ _).2 ⟨h0,hp⟩,by simpa using hi,fun j hj=>?_⟩;rw[Bool.not_eq_true'];cases hq:qhB l b j with
 | false=>rfl
 | true =>
  exfalso
  obtain⟨h1,h2⟩:=(qjg _ _ _).1 hq
  rcases Nat.le_total (ln l i) (ln l j)with hle|hle
  ·have:=qmr hr hi (by omega) h0 h1 (List.prefix_of_prefix_length_le hp h2 (by rw[qac,qac];exact hle));omega
  ·have:=qmr hr (by omega) hi h1 h0 (List.prefix_of_prefix_length_le h2 hp (by rw[qac,qac];exact hle));omega
def qb0(l:List Int):Nat->List Bool->Option (List Nat×List Bool)
 | 0,b=>some ([],b)
 | k+1,b=>match qby l b with
  | none=>none
  | some i=>match qb0 l k (b.drop (ln l i))with
   | none=>none
   | some (ks,r)=>some (i::ks,r)
theorem qkD{l:List Int} : ∀(k:Nat) (b:List Bool) (ks:List Nat) (r:List Bool),qb0 l k b=some (ks,r)->ks.length=k/\b=qbk l ks++r/\∀i∈ks,i<16/\0<ln l i
 | 0,b,ks,r,h=>by
  rw[qb0]at h;injection h with h;injection h with h1 h2
  subst h1;subst h2;exact⟨rfl,rfl,by simp⟩
 | k+1,b,ks,r,h=>by
  rw[qb0]at h;cases hf:qby l b with
  | none=>rw[hf]at h;cases h
  | some i =>
   rw[hf]at h;simp only at h;cases hd:qb0 l k (b.drop (ln l i))with
   | none=>rw[hd]at h;cases h
   | some q =>
    obtain⟨ks',r'⟩:=q;rw[hd]at h;simp only at h;injection h with h;injection h with h1 h2
    subst h1;subst h2;obtain⟨e1,e2,e3⟩:=qkD k _ _ _ hd;obtain⟨h1,h2,h3⟩:=qf0 hf;refine⟨by rw[List.length_cons,e1],?_,?_⟩
    ·obtain⟨t,ht⟩:=h3;have h4:b.drop (ln l i)=t:=by rw[<-ht,List.drop_append_of_le_length (by rw[qac];omega),List.drop_eq_nil_of_le (by rw[qac];omega),List.nil_append]
     rw[qgK,List.append_assoc,<-e2,h4,ht]
    ·intro j hj
     rcases List.mem_cons.1 hj with rfl|hj
     ·exact⟨h1,h2⟩
     ·exact e3 j hj
theorem qqD{l:List Int}(hr:Right l)(r:List Bool):∀(ks:List Nat),(∀i∈ks,i<16/\0<ln l i)->qb0 l ks.length (qbk l ks++r)=some (ks,r)
 | [],_=>rfl
 | i::ks,h=>by
  obtain⟨h1,h2⟩:=h i (by simp);rw[List.length_cons,qb0,qgK,List.append_assoc,qm2 hr h1 h2 ⟨_,rfl⟩];simp only;rw[List.drop_append_of_le_length (by rw[qac];omega),List.drop_eq_nil_of_le (by rw[qac];omega),List.nil_append,qqD hr r ks fun j hj=>h j (by simp[hj])]
def qaW(r:List Bool):Bool:=decide (r.length<8) && r.all (fun b=>!b)
theorem qe4(r:List Bool):qaW r=true↔r.length<8/\r=qaP r.length:=by
 unfold qaW;rw[Bool.and_eq_true,decide_eq_true_eq,List.all_eq_true];refine and_congr_right fun _=>⟨fun h=>List.eq_replicate_iff.2 ⟨rfl,fun b hb=>by simpa using h b hb⟩,fun h b hb=>?_⟩
 rw[h]at hb;simp[qaP]at hb;rw[hb.2];rfl
def qaZ(l:List Int)(b:qa)(n:Int):Nat :=
 if qI l≠0 then qI l else if n<0\/1024<n then 3 else
 match qb0 l (2*n.toNat) (qB b)with
 | none=>1
 | some (_,r)=>if qaW r=true then 0 else 1
def qbc(l:List Int)(b:qa)(n:Int):qa :=
 if qaZ l b n≠0 then []else
 match qb0 l (2*n.toNat) (qB b)with
 | none=>[]
 | some (ks,_)=>qaV ks
structure DecAt(l:List Int)(U:List Bool)(N i:Nat)(ks:List Nat)(R:List Bool):Prop where
 len:ks.length=i
 le:i<=N
 rest:qb0 l N U=(match qb0 l (N-i) R with
  | none=>none
  | some (a,r)=>some (ks++a,r))
 fine:∀k∈ks,k<16/\0<ln l k
 short:R.length<=U.length
theorem DecAt.start(l:List Int)(U:List Bool)(N:Nat):DecAt l U N 0 [] U:=by
 refine⟨rfl,by omega,?_,by simp,Nat.le_refl _⟩;rw[Nat.sub_zero];cases qb0 l N U <;> rfl
theorem DecAt.step{l:List Int}{U R:List Bool}{N i k:Nat}{ks:List Nat}(h:DecAt l U N i ks R)(hi:i<N)(hf:qby l R=some k):DecAt l U N (i+1) (ks++[k]) (R.drop (ln l k)):=by
 obtain⟨h1,h2,h3⟩:=qf0 hf;refine⟨by rw[zL,h.len];rfl,by omega,?_,?_,?_⟩
 ·rw[h.rest,show N-i=(N-(i+1))+1 from by omega,qb0,hf];simp only;cases qb0 l (N-(i+1)) (R.drop (ln l k))with
  | none=>rfl
  | some q=>obtain⟨a,r⟩:=q;simp
 ·intro j hj
  rcases List.mem_append.1 hj with hj|hj
  ·exact h.fine j hj
  ·have:j=k:=by simpa using hj
   subst this;exact⟨h1,h2⟩
 ·have:=h.short;rw[List.length_drop];omega
theorem DecAt.none{l:List Int}{U R:List Bool}{N i:Nat}{ks:List Nat}(h:DecAt l U N i ks R)(hi:i<N)(hf:qby l R=none):qb0 l N U=none:=by
 rw[h.rest,show N-i=(N-(i+1))+1 from by omega,qb0,hf]
theorem DecAt.done{l:List Int}{U R:List Bool}{N:Nat}{ks:List Nat}(h:DecAt l U N N ks R):qb0 l N U=some (ks,R):=by
 rw[h.rest,Nat.sub_self,qb0];simp
theorem qoW{ks:List Nat}(h:ks.length % 2=1)(hk:∀k∈ks,k<16)(b:Nat) :
  ∃ (h0:qa) (a:Nat),a<16/\qaV ks=h0++[UInt8.ofNat (16*a)]/\qaV (ks++[b])=h0++[UInt8.ofNat (16*a+b)]/\h0.length=ks.length / 2:=by
 have hne:ks≠[]:=by intro e;rw[e]at h;simp at h
 obtain⟨k0,a,rfl⟩:∃k0 a,ks=k0++[a]:=⟨ks.dropLast,ks.getLast hne,(List.dropLast_concat_getLast hne).symm⟩
 have h2:k0.length % 2=0:=by rw[zL,List.length_singleton]at h;omega
 refine⟨qaV k0,a,hk a (by simp),qhC k0 [a] h2,?_,?_⟩
 ·rw[List.append_assoc,qhC k0 _ h2];rfl
 ·rw[qey,zL,List.length_singleton]
theorem qmZ{ks:List Nat}(h:ks.length % 2=0)(b:Nat):qaV (ks++[b])=qaV ks++[UInt8.ofNat (16*b)]:=qhC ks [b] h
theorem qhk{l:List Int}{b:qa}{n:Int}(h:qI l≠0):qaZ l b n=qI l/\qbc l b n=[]:=by
 have:qaZ l b n=qI l:=by unfold qaZ;rw[if_pos h]
 exact⟨this,by unfold qbc;rw[if_pos (by omega)]⟩
theorem qgQ{l:List Int}{b:qa}{n:Int}(h:qI l=0)(h2:n<0\/1024<n):qaZ l b n=3/\qbc l b n=[]:=by
 have:qaZ l b n=3:=by unfold qaZ;rw[if_neg (by omega),if_pos h2]
 exact⟨this,by unfold qbc;rw[if_pos (by omega)]⟩
theorem qeW{l:List Int}{b:qa}{n:Int}(h:qI l=0)(h2:¬(n<0\/1024<n))(h3:qb0 l (2*n.toNat) (qB b)=none):qaZ l b n=1/\qbc l b n=[]:=by
 have:qaZ l b n=1:=by unfold qaZ;rw[if_neg (by omega),if_neg h2,h3]
 exact⟨this,by unfold qbc;rw[if_pos (by omega)]⟩
theorem qeX{l:List Int}{b:qa}{n:Int}{ks:List Nat}{r:List Bool}(h:qI l=0)(h2:¬(n<0\/1024<n))(h3:qb0 l (2*n.toNat) (qB b)=some (ks,r))(h4:qaW r=false):qaZ l b n=1/\qbc l b n=[]:=by
 have:qaZ l b n=1:=by unfold qaZ;rw[if_neg (by omega),if_neg h2,h3];simp only[h4];rfl
 exact⟨this,by unfold qbc;rw[if_pos (by omega)]⟩
theorem qhj{l:List Int}{b:qa}{n:Int}{ks:List Nat}{r:List Bool}(h:qI l=0)(h2:¬(n<0\/1024<n))(h3:qb0 l (2*n.toNat) (qB b)=some (ks,r))(h4:qaW r=true):qaZ l b n=0/\qbc l b n=qaV ks:=by
 have:qaZ l b n=0:=by unfold qaZ;rw[if_neg (by omega),if_neg h2,h3];simp only[h4];rfl
 exact⟨this,by unfold qbc;rw[if_neg (by omega),h3]⟩
theorem quW{l:List Int}(hr:Right l){b:qa}{n:Nat}(h:4*n<b.length){ks:List Nat}{r:List Bool}(hd:qb0 l (2*n) (qB b)=some (ks,r)):qaW r=false:=by
 obtain⟨h1,h2,h3⟩:=qkD _ _ _ _ hd;have hl:=congrArg List.length h2;rw[qcb,zL]at hl;have:=qfp hr ks;cases hg:qaW r with
 | false=>rfl
 | true =>
  have:=((qe4 r).1 hg).1;omega
theorem qpS{l:List Int}{ks:List Nat}(h:∀i∈ks,i<16/\0<ln l i):qaS l ks=false:=by
 unfold qaS;rw[List.any_eq_false];intro k hk;have:=(h k hk).2;simp;omega
theorem qmp{l:List Int}(hc:qI l=0){b:qa}{n:Nat}(hn:n<=1024){ks:List Nat}{r:List Bool}(hd:qb0 l (2*n) (qB b)=some (ks,r)) :
  qas l (qaV ks)=0/\(qan l (qaV ks)=b↔qaW r=true)/\(qaV ks).length=n:=by
 obtain⟨h1,h2,h3⟩:=qkD _ _ _ _ hd;have hl:(qaV ks).length=n:=by rw[qey];omega
 have hnb:qp (qaV ks)=ks:=qmN ks (by omega) fun k hk=>(h3 k hk).1
 have hw:qas l (qaV ks)=0:=by
  unfold qas;rw[if_neg (by omega),if_neg (by omega),hnb,qpS h3];rfl
 refine⟨hw,?_,hl⟩;unfold qan;rw[if_pos hw,hnb,qe4];exact qug _ _ _ h2
end Pl
namespace Pl
theorem qci{l:List Int}{s:qa}(h:qas l s=0):qI l=0/\s.length<=1024/\qaS l (qp s)=false:=by
 unfold qas at h
 by_cases h1:qI l=0
 ·rw[if_neg (by omega)]at h
  by_cases h2:1024<s.length
  ·rw[if_pos h2]at h;cases h
  ·rw[if_neg h2]at h;cases h3:qaS l (qp s)with
   | true=>rw[h3]at h;simp at h
   | false=>exact⟨h1,by omega,rfl⟩
 ·rw[if_pos h1]at h;exact absurd h h1
theorem qlE{l:List Int}(hr:Right l){s:qa}(h:qas l s=0):qaZ l (qan l s) (s.length:Int)=0/\qbc l (qan l s) (s.length:Int)=s:=by
 obtain⟨h1,h2,h3⟩:=qci h
 have hk:∀i∈qp s,i<16/\0<ln l i:=fun i hi=>by
  refine⟨ql9 s i hi,?_⟩;unfold qaS at h3;have:=List.any_eq_false.1 h3 i hi;simp at this;omega
 have hu:qB (qan l s)=qbk l (qp s)++qaP (8*(((qbk l (qp s)).length+7) / 8)-(qbk l (qp s)).length):=by
  unfold qan;rw[if_pos h];exact qgf _
 have hd:=qqD hr (qaP (8*(((qbk l (qp s)).length+7) / 8)-(qbk l (qp s)).length)) (qp s) hk;rw[<-hu,qbK]at hd
 have hg:qaW (qaP (8*(((qbk l (qp s)).length+7) / 8)-(qbk l (qp s)).length))=true:=by
  rw[qe4,qcU];exact⟨by omega,rfl⟩
 obtain⟨e1,e2⟩:=qhj (l:=l) (b:=qan l s) (n:=(s.length:Int)) h1 (by omega) (by rw[Int.toNat_natCast];exact hd) hg;exact⟨e1,by rw[e2,qtk]⟩
theorem qfd{l:List Int}{b:qa}{n:Int}(h:qaZ l b n=0):qas l (qbc l b n)=0/\qan l (qbc l b n)=b/\((qbc l b n).length:Int)=n:=by
 have h1:qI l=0:=by
  by_cases e:qI l=0
  ·exact e
  ·have:=(qhk (b:=b) (n:=n) e).1;omega
 have h2:¬(n<0\/1024<n):=fun e=>by have:=(qgQ (b:=b) h1 e).1;omega
 cases hd:qb0 l (2*n.toNat) (qB b)with
 | none=>have:=(qeW h1 h2 hd).1;omega
 | some q =>
  obtain⟨ks,r⟩:=q;cases hg:qaW r with
  | false=>have:=(qeX h1 h2 hd hg).1;omega
  | true =>
   obtain⟨e1,e2⟩:=qhj h1 h2 hd hg;obtain⟨w1,w2,w3⟩:=qmp h1 (n:=n.toNat) (by omega) hd;rw[e2];exact⟨w1,w2.2 hg,by omega⟩
end Pl
namespace Pl
theorem qvT(X:List Bool){p:Nat}(h:p<=X.length):val X / 2 ^ p=val (X.take (X.length-p)):=by
 have e:X=X.take (X.length-p)++X.drop (X.length-p):=(List.take_append_drop _ _).symm;have hl:(X.drop (X.length-p)).length=p:=by rw[List.length_drop];omega
 have hv:=qg2 (X.take (X.length-p)) (X.drop (X.length-p));rw[<-e,hl]at hv;have hlt:=qfB (X.drop (X.length-p));rw[hl]at hlt;rw[hv,Nat.mul_comm,Nat.mul_add_div (Nat.pow_pos (by omega)),Nat.div_eq_of_lt hlt];omega
theorem qsc(X:List Bool){p:Nat}(h:p<=X.length):val X % 2 ^ p=val (X.drop (X.length-p)):=by
 have e:X=X.take (X.length-p)++X.drop (X.length-p):=(List.take_append_drop _ _).symm;have hl:(X.drop (X.length-p)).length=p:=by rw[List.length_drop];omega
 have hv:=qg2 (X.take (X.length-p)) (X.drop (X.length-p));rw[<-e,hl]at hv;have hlt:=qfB (X.drop (X.length-p));rw[hl]at hlt;rw[hv,Nat.mul_comm,Nat.mul_add_mod,Nat.mod_eq_of_lt hlt]
theorem qvl(X:List Bool){a p:Nat}(h:a+8+p=X.length):val X / 2 ^ p % 256=val ((X.drop a).take 8):=by
 rw[qvT X (by omega)];have h2:=qsc (X.take (X.length-p)) (p:=8) (by rw[List.length_take];omega);rw[show (256:Nat)=2 ^ 8 from rfl,h2,List.length_take,show min (X.length-p) X.length-8=a from by omega]
 congr 1
 rw[List.drop_take]
 congr 1;omega
structure Wait(X:List Bool)(n0:Nat)(out:qa)(h left:Nat):Prop where
 le:n0<=out.length
 len:8*out.length+left=X.length
 pk:out=qa6 out.length X
 va:h=Pl.val (X.drop (8*n0))
theorem Wait.step{X:List Bool}{n0:Nat}{out:qa}{h left:Nat}(w:Wait X n0 out h left)(h8:8<=left)(b:UInt8)(hb:b.toNat=h / 2 ^ (left-8) % 256):Wait X n0 (out++[b]) h (left-8):=by
 obtain⟨w1,w2,w3,w4⟩:=w;refine⟨by simp;omega,by simp;omega,?_,w4⟩;have e:val (X.drop (8*n0)) / 2 ^ (left-8) % 256=val (((X.drop (8*n0)).drop (8*(out.length-n0))).take 8):=qvl _ (by rw[List.length_drop];omega);rw[List.drop_drop,show 8*n0+8*(out.length-n0)=8*out.length from by omega,<-w4,<-hb]at e;rw[zL,List.length_singleton,qfX,<-w3]
 congr 2
 have hl:((X.drop (8*out.length)).take 8).length=8:=by rw[List.length_take,List.length_drop];omega
 apply UInt8.toNat_inj.1;rw[qen (by omega),hl,e];simp
theorem Wait.cut{X:List Bool}{n0:Nat}{out:qa}{h left:Nat}(w:Wait X n0 out h left):Wait X out.length out (h % 2 ^ left) left:=by
 obtain⟨w1,w2,w3,w4⟩:=w;refine⟨Nat.le_refl _,w2,w3,?_⟩;rw[w4,qsc _ (by rw[List.length_drop];omega),List.length_drop,List.drop_drop]
 congr 2;omega
theorem Wait.more{X:List Bool}{out:qa}{h left:Nat}(w:Wait X out.length out h left)(y:List Bool):Wait (X++y) out.length out (h*2 ^ y.length+val y) (left+y.length):=by
 obtain⟨w1,w2,w3,w4⟩:=w;refine⟨Nat.le_refl _,by rw[zL];omega,?_,?_⟩
 ·have h1:(X++y).take (8*out.length)=X.take (8*out.length):=List.take_append_of_le_length (by omega)
  have key:∀n (A B:List Bool),A.take (8*n)=B.take (8*n)->qa6 n A=qa6 n B:=by
   intro n
   induction n with
   | zero=>intro A B _;rfl
   | succ n ih =>
    intro A B hAB;rw[qa6,qa6]
    have h8:A.take 8=B.take 8:=by
     have:=congrArg (List.take 8) hAB
     rwa [List.take_take,List.take_take,Nat.min_eq_left (by omega)]at this
    have hd:(A.drop 8).take (8*n)=(B.drop 8).take (8*n):=by
     have:=congrArg (List.drop 8) hAB
     rwa [List.drop_take,List.drop_take,show 8*(n+1)-8=8*n from by omega]at this
    rw[h8,ih _ _ hd]
  rw[key _ _ _ h1];exact w3
 ·rw[w4,List.drop_append_of_le_length (by omega),qg2]
theorem Wait.lt{X:List Bool}{n0:Nat}{out:qa}{h left:Nat}(w:Wait X n0 out h left):h<2 ^ (8*(out.length-n0)+left):=by
 have:=qfB (X.drop (8*n0));rw[<-w.va,List.length_drop]at this;have e:X.length-8*n0=8*(out.length-n0)+left:=by have:=w.le;have:=w.len;omega
 rwa [e]at this
theorem Wait.done{X:List Bool}{out:qa}{h:Nat}(w:Wait X out.length out h 0):out=qfu X:=by
 have h1:=w.len;have h2:=w.pk;unfold qfu;rw[show (X.length+7) / 8=out.length from by omega];exact h2
theorem Wait.last{X:List Bool}{out:qa}{h left:Nat}(w:Wait X out.length out h left)(h0:0<left)(h8:left<8)(b:UInt8)(hb:b.toNat=h*2 ^ (8-left)):out++[b]=qfu X:=by
 have h1:=w.len;have h2:=w.pk;have h3:=w.va;unfold qfu;rw[show (X.length+7) / 8=out.length+1 from by omega,qfX,<-h2]
 congr 2
 have hl:(X.drop (8*out.length)).length=left:=by rw[List.length_drop];omega
 rw[List.take_of_length_le (by omega)];apply UInt8.toNat_inj.1;rw[qen (by omega),hl,hb,h3]
theorem qki:∀{s:qa} {q:Nat} {c:UInt8},s[q]?=some c->(qp s)[2*q]?=some (c.toNat / 16)/\(qp s)[2*q+1]?=some (c.toNat % 16)
 | [],q,c,h=>by simp at h
 | d::s,0,c,h=>by simp at h;subst h;simp[qdI]
 | d::s,q+1,c,h=>by
  have:=qki (s:=s) (q:=q) (c:=c) (by simpa using h);rw[qdI,show 2*(q+1)=2*q+1+1 from by omega];simpa using this
structure WSt(l:List Int)(s:qa)(i:Nat)(out:qa)(h left:Nat):Prop where
 wait:Wait (qbk l ((qp s).take i)) out.length out h left
 lt:left<8
 has:qaS l ((qp s).take i)=false
theorem WSt.start(l:List Int)(s:qa):WSt l s 0 [] 0 0:=⟨⟨Nat.le_refl _,rfl,rfl,rfl⟩,by omega,rfl⟩
theorem qts{l:List Int}{ks:List Nat}{i k:Nat}(h:ks[i]?=some k):qbk l (ks.take (i+1))=qbk l (ks.take i)++qS l k:=by
 rw[List.take_add_one,h,qo2];simp[qbk]
theorem qli{l:List Int}{ks:List Nat}{i k:Nat}(h:ks[i]?=some k):qaS l (ks.take (i+1))=(qaS l (ks.take i) || decide (ln l k=0)):=by
 rw[List.take_add_one,h];simp[qaS]
theorem qny{l:List Int}{ks:List Nat}{i:Nat}(h:qaS l (ks.take i)=true):qaS l ks=true:=by
 unfold qaS at h ⊢;rw[List.any_eq_true]at h ⊢;obtain⟨x,hx,hb⟩:=h;exact⟨x,List.mem_of_mem_take hx,hb⟩
theorem WSt.next{l:List Int}{s:qa}{i k:Nat}{out:qa}{h left:Nat}(hr:Right l)(w:WSt l s i out h left)(hk:(qp s)[i]?=some k)(hk16:k<16)(h0:0<ln l k) :
  Wait (qbk l ((qp s).take (i+1))) out.length out (h*2 ^ ln l k+wv l k) (left+ln l k)/\qaS l ((qp s).take (i+1))=false/\h<128:=by
 have h1:=w.wait.more (qS l k);rw[qac,qgA hr hk16 h0,<-qts hk]at h1;refine⟨h1,?_,?_⟩
 ·rw[qli hk,w.has];simp;omega
 ·have h2:=w.wait.lt;have h3:=w.lt;have h4:2 ^ (8*(out.length-out.length)+left)<=2 ^ 7:=Nat.pow_le_pow_right (by omega) (by omega);omega
end Pl
namespace Pl
def qa2(ks:List Nat):List Int:=Lf fun i=>((ks.count i:Nat):Int)
theorem qdO(ks:List Nat):(qa2 ks).length=16:=qab _
theorem qqF(f:Nat->Int){i:Nat}(h:i<16):(Lf f).getD i 0=f i:=by rw[List.getD_eq_getElem?_getD,qfH f h];rfl
theorem qhR(ks:List Nat){i:Nat}(h:i<16):(qa2 ks)[i]?=some ((ks.count i:Nat):Int):=qfH _ h
theorem qeL(ks:List Nat)(k:Nat):(qa2 ks).set k ((ks.count k:Nat)+1:Int)=qa2 (ks++[k]):=by
 unfold qa2;rw[qhd];refine qcp fun i _=>?_;rw[List.count_append,List.count_singleton]
 by_cases h:i=k
 ·subst h;simp
 ·rw[if_neg h,if_neg (by simpa using fun e=>h e.symm)];simp
theorem qkH:qa2 []=Lf fun _=>0:=by unfold qa2;simp
theorem qtz{ks:List Nat}(h:ks.length<=2048):qbq (qa2 ks)=true :=
 qjU fun x hx=>by
  unfold qa2 Lf at hx;obtain⟨i,_,rfl⟩:=List.mem_map.1 hx;have:=List.count_le_length (a:=i) (l:=ks);omega
theorem qlF{ks:List Nat}(h:ks.length<=2048)(h0:ks≠[])(h16:∀k∈ks,k<16):qav (qa2 ks)=0:=by
 refine qfG (qtz h) ?_;cases ks with
 | nil=>exact absurd rfl h0
 | cons k r =>
  have hk:=h16 k (by simp)
  have:(cn (qa2 (k::r)) k,[k])∈qaq (qa2 (k::r)):=mem_startF.2 ⟨k,hk,by
   unfold qa2;rw[qqF _ hk,List.count_cons_self];omega,rfl⟩
  have:=List.length_pos_of_mem this;omega
theorem qty:qav (qa2 [])=5:=by rw[qkH];decide +kernel
theorem qrv{ks:List Nat}(h:ks.length<=2048)(h16:∀k∈ks,k<16):qaS (qay (qa2 ks)) ks=false:=by
 unfold qaS;rw[List.any_eq_false];intro k hk;have hb:=qlF h (List.ne_nil_of_mem hk) h16;have hl:=(qoL (by rw[qcz,qdO])).1 (quD (qdO ks) hb) k (by rw[qcz];exact h16 k hk)
 have hc:0<(qa2 ks).getD k 0:=by
  unfold qa2;rw[qqF _ (h16 k hk)];have:=List.count_pos_iff.2 hk;omega
 have h0:=(qem (qfY hb)).1 _ (qo0 (l:=qay (qa2 ks)) (j:=k) (by rw[qcz];exact h16 k hk));unfold ln;simp only[decide_eq_true_eq];intro e;exact hl ⟨hc,by omega⟩
def hdB(l:List Int):qa:=(List.range 8).map fun i=>UInt8.ofNat (16*ln l (2*i)+ln l (2*i+1))
theorem qfm(l:List Int):(hdB l).length=8:=by simp[hdB]
def qgg(b:qa):List Int:=(qp (b.take 8)).map Int.ofNat
theorem qtO{l:List Int}(hl:l.length=16)(h:∀x∈l,0<=x/\x<=15)(r:qa):qgg (hdB l++r)=l:=by
 unfold qgg;rw[List.take_left' (qfm l)]
 match l,hl with
 | [a0,a1,a2,a3,a4,a5,a6,a7,a8,a9,a10,a11,a12,a13,a14,a15],_ =>
  simp only[List.mem_cons,List.not_mem_nil,or_false,forall_eq_or_imp,forall_eq]at h;obtain⟨h0,h1,h2,h3,h4,h5,h6,h7,h8,h9,h10,h11,h12,h13,h14,h15⟩:=h
  have e:∀a b:Int,0<=a/\a<=15->0<=b/\b<=15->(((UInt8.ofNat (16*a.toNat+b.toNat)).toNat / 16:Nat):Int)=a/\(((UInt8.ofNat (16*a.toNat+b.toNat)).toNat % 16:Nat):Int)=b:=fun a b ha hb=>by
   rw[UInt8.toNat_ofNat'];have:(16*a.toNat+b.toNat) % 2 ^ 8=16*a.toNat+b.toNat:=Nat.mod_eq_of_lt (by omega);rw[this];omega
  simp only[hdB,ln,List.range,List.range.loop,List.map_cons,List.map_nil,qp,List.flatMap_cons,List.flatMap_nil,List.cons_append,List.nil_append,List.getD_cons_zero,List.getD_cons_succ,Nat.mul_zero,Int.ofNat_eq_natCast];rw[(e a0 a1 h0 h1).1,(e a0 a1 h0 h1).2,(e a2 a3 h2 h3).1,(e a2 a3 h2 h3).2,(e a4 a5 h4 h5).1,(e a4 a5 h4 h5).2,(e a6 a7 h6 h7).1,(e a6 a7 h6 h7).2,(e a8 a9 h8 h9).1,(e a8 a9 h8 h9).2,(e a10 a11 h10 h11).1,(e a10 a11 h10 h11).2,(e a12 a13 h12 h13).1,(e a12 a13 h12 h13).2,(e a14 a15 h14 h15).1,(e a14 a15 h14 h15).2]
theorem qj3{b:qa}(h:8<=b.length):(qgg b).length=16:=by unfold qgg;rw[List.length_map,qbK,List.length_take];omega
theorem qn4{b:qa}{q:Nat}{c:UInt8}(hq:q<8)(hc:b[q]?=some c):(qgg b)[2*q]?=some ((c.toNat / 16:Nat):Int)/\(qgg b)[2*q+1]?=some ((c.toNat % 16:Nat):Int):=by
 unfold qgg;have hc2:(b.take 8)[q]?=some c:=by rw[List.getElem?_take];simp[hq,hc]
 obtain⟨h1,h2⟩:=@qki (b.take 8) q c hc2;rw[List.getElem?_map,List.getElem?_map,h1,h2];exact⟨rfl,rfl⟩
def qfw(s:qa):List Int:=qay (qa2 (qp s))
def qaR(s:qa):qa:=2::(hdB (qfw s)++nb s.length++qan (qfw s) s)
def qeJ(L:List Int)(X:qa):Option qa :=
 match take X with
 | none=>none
 | some (n,r)=>if qaZ L r (n:Int)=0 then some (qbc L r (n:Int))else none
theorem qgw{L:List Int}{X:qa}(h:take X=none):qeJ L X=none:=by unfold qeJ;rw[h]
theorem qfa{L:List Int}{X r:qa}{n:Nat}(h:take X=some (n,r)):qeJ L X=if qaZ L r (n:Int)=0 then some (qbc L r (n:Int))else none:=by unfold qeJ;rw[h]
def qaG(s:qa):Option qa:=if s.length<8 then none else qeJ (qgg s) (s.drop 8)
theorem qvA{s:qa}(h:s≠[]):qp s≠[]:=by
 cases s with
 | nil=>exact absurd rfl h
 | cons c s=>rw[qdI];exact List.cons_ne_nil _ _
theorem qgU{s:qa}(h:s≠[])(hs:s.length<=1024):qav (qa2 (qp s))=0 :=
 qlF (by rw[qbK];omega) (qvA h) (ql9 s)
theorem qnJ{s:qa}(h:s≠[])(hs:s.length<=1024):qaG (qaR s).tail=some s:=by
 have hb:=qgU h hs;have hr:qI (qfw s)=0:=qfY hb;have hl:(qfw s).length=16:=qcz _;have hlk:qaS (qfw s) (qp s)=false:=qrv (by rw[qbK];omega) (ql9 s);have hw:qas (qfw s) s=0:=by unfold qas;rw[if_neg (by omega),if_neg (by omega),hlk];rfl
 obtain⟨e1,e2⟩:=qlE (qdF hl hr) hw;have ht:(qaR s).tail=hdB (qfw s)++(nb s.length++qan (qfw s) s):=by unfold qaR;rw[List.tail_cons,List.append_assoc]
 rw[ht];unfold qaG;rw[if_neg (by rw[zL,qfm];omega),List.drop_left' (qfm _),qfa (qdj (by unfold qap;omega) _)];rw[qtO hl (qem hr).1,e1,if_pos rfl,e2]
def qbQ(dict s:qa):Option qa:=(read dict s).map fun l=>(qF dict l).1
def ql(dict:qa):qa->Option qa
 | []=>none
 | k::s=>if k=0 then (if s.length<=512 then some s else none)else if k=1 then qbQ dict s else if k=2 then (qaG s).bind (qbQ dict)else none
def qhn(text s:qa):qa:=if s.length+1<text.length+1 then 1::s else 0::text
def qbe(text s:qa):qa:=if s≠[]/\(qaR s).length<(qhn text s).length then qaR s else qhn text s
def qfM(dict text:qa):qa:=qbe text (qad (qbd dict text))
theorem qtT{d:Nat}{s:qa}{b:Bool}{t:Tok}(h:qw d s b t=0)(hs:s.length<=768):(qdq t).length+2*s.length<=2*(qbj s t).length:=by
 unfold qw at h;unfold qbj qdq;have n2:∀n,n<16384->(nb n).length<=2:=fun n hn=>qb1 1 n (by omega);have n1:∀n,n<128->(nb n).length<=1:=fun n hn=>qb1 0 n (by omega)
 by_cases h1:t.lit≠[]
 ·rw[if_pos h1]at h ⊢;rw[if_pos h1];have hl:0<t.lit.length:=List.length_pos_iff.2 h1;rw[zL,zL]
  split at h
  ·omega
  ·split at h
   ·omega
   ·by_cases h2:t.lit.length=1
    ·have:=n1 (2*t.lit.length) (by omega);omega
    ·have:=n2 (2*t.lit.length) (by omega);omega
 ·rw[if_neg h1]at h ⊢;rw[if_neg h1,qeK,zL]
  split at h
  ·omega
  ·have a:=n2 (2*t.len.toNat+1) (by omega);have b:=n2 t.far.toNat (by omega);omega
theorem qms(d:Nat):∀(l:List Tok) (s:qa) (b:Bool),(qY d s b l).2=0->d<=s.length->s.length-d<=512->d<=256->(qad l).length+2*(s.length-d)<=1024
 | [],s,_,_,h,h2,_=>by rw[qad];simp;omega
 | t::l,s,b,h,hd,hr,h256=>by
  rw[qY]at h
  by_cases he:qw d s b t≠0
  ·rw[if_pos he]at h;exact absurd h he
  ·rw[if_neg he]at h;have he0:=Decidable.not_not.1 he;obtain⟨h1,h2⟩:=qdB he0 hd;have:=qms d l _ _ h (by omega) h2 h256;have:=qtT he0 (by omega);rw[qad,zL];omega
theorem qdi{dict:qa}{l:List Tok}(h:(qF dict l).2=0):(qad l).length<=1024:=by
 unfold qF at h
 by_cases e:qbY<dict.length
 ·rw[if_pos e]at h;exact absurd h (by decide)
 ·rw[if_neg e]at h;have:=qms dict.length l dict false h (Nat.le_refl _) (by omega) (by unfold qbY at e;omega);omega
theorem qgT{dict text:qa}(hd:dict.length<=256)(ht:text.length<=512):(qad (qbd dict text)).length<=1024 :=
 qdi (dict:=dict) (by rw[qeY hd ht])
theorem qgM{dict text:qa}(hd:dict.length<=256)(ht:text.length<=512):write dict (qbd dict text)=(qad (qbd dict text),0):=by
 unfold write;rw[qeY hd ht];exact if_neg (by omega)
theorem qjE{dict text:qa}(hd:dict.length<=256)(ht:text.length<=512):qbQ dict (qad (qbd dict text))=some text:=by
 have h:=qq5 (dict:=dict) (l:=qbd dict text) (by rw[qgM hd ht]);rw[qgM hd ht]at h;simp only at h;unfold qbQ;rw[h];simp only[Option.map_some];rw[qeY hd ht]
theorem qn2{dict s:qa}(h:s≠[])(hs:s.length<=1024):ql dict (qaR s)=qbQ dict s:=by
 have h1:qaR s=2::(qaR s).tail:=rfl;rw[h1,ql,if_neg (by decide),if_neg (by decide),if_pos rfl,qnJ h hs];rfl
theorem qps{dict text:qa}(hd:dict.length<=256)(ht:text.length<=512):ql dict (qfM dict text)=some text:=by
 unfold qfM qbe
 split
 ·rename_i h
  rw[qn2 h.1 (qgT hd ht)];exact qjE hd ht
 ·unfold qhn
  split
  ·rw[ql,if_neg (by decide),if_pos rfl];exact qjE hd ht
  ·rw[ql,if_pos rfl,if_pos ht]
end Pl
end
end Go.Proofs.YtbnmfdlaabdlhaaGreatDoor
