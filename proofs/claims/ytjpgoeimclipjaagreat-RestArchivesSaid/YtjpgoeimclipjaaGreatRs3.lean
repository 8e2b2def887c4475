/- Parts of the proofs. -/
import Derived.Test.YtjpgoeimclipjaaGreatRs2
import Derived.Lib.IndexMore
import Derived.RegionTactic
import Derived.Deep.QuietTactic
import Derived.BigQuiet
import Derived.Deep.RegionWith
import Derived.Deep.RegionHeld3
import Derived.Laws.ResultCell
import Derived.Deep.MidRow
import Derived.Deep.WholeRow
import Derived.Laws.CopyOwn
import Derived.Lib.SliceRun
import Derived.Lib.AppendZerosOnto
import Derived.Lib.Overlaps
import Derived.Deep.RegionLaw
import Derived.Deep.AppendLies
import Derived.Deep.DeepCutAuto
namespace Go.Proofs.YtjpgoeimclipjaaGreat
open Go.RowKit Go.Lib Pl
attribute [local go_sem] ext_list app_list
def StrsAt (w:World) (Bd:Nat) (A:Option Addr) (n:Nat) (l:List Bytes):Prop :=
 l.length=n∧(0<n→∃ b off,A=some ⟨b,off,none⟩∧b<Bd∧∀ i t,l[i]? = some t→w.cell? ⟨b,off+i,none⟩=some (S t))
theorem StrsAt.keep {w w':World} {Bd n:Nat} {A:Option Addr} {l:List Bytes} (h:StrsAt w Bd A n l) (hk:∀ p:Addr,p.block<Bd→w'.cell? p=w.cell? p):StrsAt w' Bd A n l :=
 ⟨h.1,fun hn=>by
  obtain ⟨b,off,e,hb,hc⟩:=h.2 hn;exact ⟨b,off,e,hb,fun i t hi=>(hk _ hb).trans (hc i t hi)⟩⟩
theorem StrsAt.below {w w':World} {Bd n:Nat} {A:Option Addr} {l:List Bytes} (h:StrsAt w Bd A n l) (hb:Below Bd w w'):StrsAt w' Bd A n l:=h.keep fun _ hp=>hb.cell hp
theorem StrsAt.up {w w':World} {n:Nat} {A:Option Addr} {l:List Bytes} (h:StrsAt w w.heap.size A n l) (hb:Below w.heap.size w w'):StrsAt w' w'.heap.size A n l:=by
 have h1:=h.below hb;exact ⟨h1.1,fun hn=>by obtain ⟨b,off,e,hlt,hc⟩:=h1.2 hn;exact ⟨b,off,e,Nat.lt_of_lt_of_le hlt hb.size,hc⟩⟩
theorem StrsAt.at_ {w:World} {Bd n k:Nat} {A:Option Addr} {l:List Bytes} (h:StrsAt w Bd A n l) (hk:k<n):∃ b off t,A=some ⟨b,off,none⟩∧b<Bd∧l[k]? = some t∧w.cell? ⟨b,off+k,none⟩=some (S t):=by
 obtain ⟨b,off,e,hb,hc⟩:=h.2 (by omega);have hl:k<l.length:=by have:=h.1;omega
 exact ⟨b,off,l[k],e,hb,List.getElem?_eq_getElem hl,hc k _ (List.getElem?_eq_getElem hl)⟩
def MaxLenIs (w:World):Prop:=∃ m:Int,w.cell? ⟨0,0,none⟩=some (.int .i64 m)
theorem MaxLenIs.up {w w':World} (h:MaxLenIs w) (hb:Below w.heap.size w w'):MaxLenIs w':=by
 obtain ⟨m,hm⟩:=h
 have hlt:0<w.heap.size:=by
  rcases Nat.lt_or_ge 0 w.heap.size with h | h
  ·exact h
  ·simp [World.cell?,Array.getElem?_eq_none h] at hm
 exact ⟨m,(hb.cell (p:=⟨0,0,none⟩) hlt).trans hm⟩
theorem index_stands (p:Bytes):∀ t:Bytes,0≤Lib.index t p↔stands p t=true
 | []=>by
  rcases Lib.index_spec [] p with ⟨h1,h2⟩ | ⟨i,h1,h2,h3,_⟩
  ·have:=h2 0 (Nat.zero_le _);rw [h1];unfold stands;cases p with
   | nil=>simp [Lib.occAt] at this
   | cons a p=>simp
  ·rw [h1];have hi:i=0:=by simpa using h2
   subst hi;cases p with
   | nil=>simp [stands]
   | cons a p=>simp [Lib.occAt] at h3
 | c::t=>by
  rw [Lib.index,stands]
  by_cases h:p.isPrefixOf (c::t)=true
  ·rw [if_pos h,h];simp
  ·rw [if_neg h];have h':p.isPrefixOf (c::t)=false:=Bool.eq_false_iff.2 h;rw [h',Bool.false_or,←index_stands p t]
   rcases Lib.index_spec t p with ⟨h1,_⟩ | ⟨i,h1,_⟩
   ·rw [h1];decide
   ·rw [h1];have:((i:Int) == -1)=false:=by rw [beq_eq_false_iff_ne];omega
    simp [this];omega
theorem contains_stands (p t:Bytes):Lib.contains t p=stands p t:=by
 unfold Lib.contains;rw [Bool.eq_iff_iff,decide_eq_true_eq];exact index_stands p t
theorem contains_any (t p:Bytes) (w:World) (hm:MaxLenIs w) (ht:t.length<4294967281) :
  Calls Tryz.prog 121 #[S t,S p] w fun e w'=>e = .returned (.bool (stands p t))∧w=w':=by
 obtain ⟨m,hm⟩:=hm;refine (Tryz.strings_Contains ⟨t.toArray⟩ ⟨p.toArray⟩ m w ht hm).mono ?_;rintro e w' ⟨rfl,rfl⟩;refine ⟨?_,rfl⟩;rw [←contains_stands]
theorem stands_short {p t:Bytes} (h:t.length<p.length):stands p t=false:=by
 rw [Bool.eq_false_iff];intro hs;obtain ⟨a,b,rfl⟩:=(stands_iff p t).1 hs;simp at h;omega
theorem stands_at {p t:Bytes} {i:Nat} (h:i+p.length≤t.length) (he:slice t i (i+p.length)=p):stands p (t.drop i)=true:=by
 rw [stands_iff];refine ⟨[],t.drop (i+p.length),?_⟩;rw [List.nil_append];have:=slice_split (t:=t) (a:=i) (b:=i+p.length) (by omega);rw [he] at this;have hl:(t.take i).length=i:=by rw [List.length_take];omega
 conv=>lhs;rw [this]
 rw [List.append_assoc,List.drop_left' hl]
theorem stands_next {p t:Bytes} {i:Nat} (h:i+p.length≤t.length) (he:slice t i (i+p.length)≠p):i<t.length∧stands p (t.drop i)=stands p (t.drop (i+1)):=by
 have hi:i<t.length:=by
  rcases Nat.lt_or_ge i t.length with h1 | h1
  ·exact h1
  ·exfalso
   apply he;have hp:p=[]:=List.eq_nil_of_length_eq_zero (by omega);rw [hp];apply List.eq_nil_of_length_eq_zero;rw [slice_len];simp;omega
 refine ⟨hi,?_⟩;rw [List.drop_eq_getElem_cons hi,stands]
 have:p.isPrefixOf (t[i]::t.drop (i+1))=false:=by
  rw [Bool.eq_false_iff];intro hx;rw [List.isPrefixOf_iff_prefix,←List.drop_eq_getElem_cons hi] at hx;obtain ⟨r,hr⟩:=hx;apply he;unfold slice;rw [List.drop_take,←hr];have:i+p.length-i=p.length:=by omega
  rw [this,List.take_left' rfl]
 rw [this,Bool.false_or]
set_option maxHeartbeats 1000000 in
set_option maxRecDepth 100000 in
theorem standsR_any (p t:Bytes) (w:World) (hp:p.length≤1000000000) (ht:t.length≤1000000000) :
  Calls Tryz.prog 123 #[S p,S t] w fun e w'=>e = .returned (.bool (stands p t))∧w=w':=by
 go_enter Tryz.func123,Tryz.ntmps123;go_wp2_with fail;go_loop [5] (fun i=>∃ k:Nat,k≤t.length∧i = .int .i64 k∧stands p t=stands p (t.drop k)) (fun i=>t.length-(intOf i).toNat)
 case atStart=>exact ⟨0,Nat.zero_le _,rfl,by simp⟩
 case round =>
  obtain ⟨k,hk,rfl,hs⟩:=hrel;have HS:=zH hs;clear hs
  by_cases h1:k+p.length≤t.length
  ·have h2:(k:Int)+(p.length:Int)≤(t.length:Int):=by omega
   have e1:IntKind.i64.wrap ((k:Int)+(p.length:Int))=(k:Int)+(p.length:Int):=IntWalk.i64_in _ ⟨by omega,by omega⟩;have e2:(0:Int)≤(k:Int)+(p.length:Int):=by omega
   have e3:((k:Int)+(p.length:Int)).toNat=k+p.length:=by omega
   have e4:k≤k+p.length:=by omega
   by_cases he:slice t k (k+p.length)=p
   ·have hr:stands p t=true:=by rw [zU HS];exact stands_at h1 he
    have q1:(slice t k (k+p.length) == p)=true:=by simpa using he
    have HR:=zH hr;clear hr he;go_wp2_with fail;go_ret;exact ⟨by rw [zU HR];rfl,rfl⟩
   ·obtain ⟨h3,h4⟩:=stands_next h1 he;have q1:(slice t k (k+p.length) == p)=false:=by simpa using he
    have H4:=zH h4;clear h4 he;go_wp2_with fail;go_round
    case rel=>exact ⟨k+1,by omega,by go_num,by rw [zU HS,zU H4]⟩
    case measure=>simp [intOf];omega
  ·have h2:(t.length:Int)<(k:Int)+(p.length:Int):=by omega
   have hr:stands p t=false:=by rw [zU HS];exact stands_short (by simp;omega)
   have HR:=zH hr;clear hr;go_wp2_with fail;go_ret;exact ⟨by rw [zU HR];rfl,rfl⟩
end Go.Proofs.YtjpgoeimclipjaaGreat
namespace Go.Proofs.YtjpgoeimclipjaaGreat
open Go.RowKit Pl
set_option maxHeartbeats 400000 in
theorem put_bad (n:Int) (w:World) (h:n<0∨2147483647<n) :
  Calls Tryz.prog 92 #[I n] w fun e w'=>e = .returned (.tuple #[S [],I 3])∧w=w':=by
 rcases h with h | h
 ·go_enter Tryz.func92,Tryz.ntmps92;go_wp2;go_ret2;exact ⟨rfl,rfl⟩
 ·have h0:¬ n<0:=by omega
  go_enter Tryz.func92,Tryz.ntmps92;go_wp2;go_ret2;exact ⟨rfl,rfl⟩
set_option maxHeartbeats 400000 in
set_option maxRecDepth 100000 in
theorem put_good (n:Int) (w:World) (h0:0≤n) (h1:n≤2147483647) :
  Calls Tryz.prog 92 #[I n] w fun e w'=>e = .returned (.tuple #[S (nb n.toNat),I 0])∧Below w.heap.size w w':=by
 obtain ⟨m,rfl⟩:=Int.eq_ofNat_of_zero_le h0;obtain ⟨i0,hi,hz0,hz1,hz2⟩:=info_parts info_u8;go_enter Tryz.func92,Tryz.ntmps92;go_wp2_with fail
 go_loopw [0,4] (fun i v wr=>∃ (k:Nat) (xs:Bytes),k≤m∧xs++nb k=nb m∧i = .int .i64 k∧wr.ownsRow w.heap.size 5 1 v xs.length (xs.map B)∧Below w.heap.size w wr)
  (fun i _ _=>(intOf i).toNat)
 case atStart=>exact ⟨m,[],by omega,rfl,rfl,World.ownsRow_nil _ _ _ _,Below.refl _ _⟩
 case round =>
  obtain ⟨k,xs,hk,hx,rfl,hown,hnx⟩:=hrel;have HX:=zH hx;clear hx
  have hl:xs.length≤10:=by
   have h2:=nb_len 4 m (by omega);rw [←zU HX,List.length_append] at h2;omega
  by_cases hlt:k<128
  ·have hsz:=hnx.size;go_wp2_with (at_builtin;refine wpList_push rfl _ _ _ rfl w.heap.size 5 i0 _ 1 Tryz.underlying77 hi hz0 hz1 hz2 rfl _ _ _ rfl hown _ _ rfl rfl ?_ ?_ hsz ?_;(unfold maxLen;omega);omega;intro v' w' hown' hb hg;have hst:=run_str_own (P:=Tryz.prog) (own_byte (UInt8.ofNat k) hown' (ofNat_toNat (by omega))) 77 9 Tryz.underlying77 Tryz.underlying5 Tryz.underlying9;clear hown');go_ret2;rw [Int.toNat_natCast,←zU HX,nb_small hlt];exact ⟨rfl,hnx.trans hb⟩
  ·have hsz:=hnx.size;go_wp2_with (at_builtin;refine wpList_push rfl _ _ _ rfl w.heap.size 5 i0 _ 1 Tryz.underlying77 hi hz0 hz1 hz2 rfl _ _ _ rfl hown _ _ rfl rfl ?_ ?_ hsz ?_;(unfold maxLen;omega);omega;intro v' w' hown' hb hg;have hown2:=own_byte (UInt8.ofNat (128+k % 128)) hown' (by rw [or128 _ (by omega) (by omega),ofNat_toNat (by omega)];omega);clear hown');clear hown hg;go_roundw
   case rel =>
    refine ⟨k / 128,xs++[UInt8.ofNat (128+k % 128)],by omega,?_,by go_num,by simpa using hown2,hnx.trans hb⟩;rw [←zU HX,nb_big (by omega:128≤k)];simp
   case measure=>simp [intOf];omega
end Go.Proofs.YtjpgoeimclipjaaGreat
namespace Go.Proofs.YtjpgoeimclipjaaGreat
open Go.RowKit Pl
attribute [local go_sem] ext_list
def TakeV (l:Bytes):Value:=match take l with
 | some (n,r)=>.tuple #[I n,S r,I 0]
 | none=>.tuple #[I 0,S [],I 1]
set_option maxHeartbeats 400000 in
set_option maxRecDepth 100000 in
theorem take_any (l:Bytes) (w:World) (hs:l.length≤9223372036854775807) :
  Calls Tryz.prog 101 #[S l] w fun e w'=>e = .returned (TakeV l)∧∃ k,w'=w.drewN k:=by
 go_enter Tryz.func101,Tryz.ntmps101;go_wp2_with fail
 all_goals
  go_loop [5,10,6] (fun n i _=>∃ (k acc:Nat),k≤l.length∧k≤5∧acc<128 ^ k∧take l=takeF (5-k) k acc (l.drop k)∧i = .int .i64 k∧n = .int .i64 acc)
   (fun _ i _=>5-(intOf i).toNat)
  case atStart=>exact ⟨0,0,by omega,by omega,by omega,rfl,rfl,rfl⟩
  case round =>
   obtain ⟨k,acc,hk,hk5,hacc,hx,rfl,rfl⟩:=hrel;have HX:=zH hx;clear hx
   by_cases hlt:k<l.length∧k<5
   ·obtain ⟨hl,h5⟩:=hlt;obtain ⟨c,hc⟩:∃ c,(⟨l.toArray⟩:ByteArray)[k]'hl=c:=⟨_,rfl⟩
    have ha:=and127 c;have hcb:=c.toNat_lt;obtain ⟨acc2,hA⟩:∃ acc2,acc2=acc+c.toNat % 128*128 ^ k:=⟨_,rfl⟩
    have hor:bits .or .i64 (acc:Int) (wrap64 ((c.toNat:Int) % 128*2 ^ (7*k)))=(acc2:Int):=by
     rw [hA];exact or7 acc (c.toNat % 128) k hacc (by omega) h5
    have hdrop:l.drop k=c::l.drop (k+1):=by rw [←hc];exact List.drop_eq_getElem_cons hl
    have hbd:acc2<128 ^ (k+1):=by
     rw [hA,Nat.pow_succ];have:(c.toNat % 128)*128 ^ k≤127*128 ^ k:=Nat.mul_le_mul_right _ (by omega);omega
    have hbd2:acc2<34359738368:=Nat.lt_of_lt_of_le hbd (Nat.pow_le_pow_right (by omega) (by omega:k+1≤5));have h5k:5-k=(4-k)+1:=by omega
    have h6:=zU HX;rw [hdrop,h5k,takeF,←hA] at h6;have HA:=zH hA;have HD:=zH hdrop;have HK:=zH h5k;have HX6:=zH h6;clear hA hdrop h5k h6 HX
    by_cases hge:128≤c.toNat
    ·go_wp2_with fail;go_round
     case rel =>
      have h6:=zU HX6;rw [if_pos hge] at h6;exact ⟨k+1,acc2,by omega,by omega,hbd,by rw [h6,show 5-(k+1)=4-k from by omega],by go_num,rfl⟩
     case measure=>simp [intOf];omega
    ·by_cases h0:0<k∧c.toNat=0
     ·obtain ⟨h01,h02⟩:=h0;go_wp2_with fail;go_ret3;have h6:=zU HX6;rw [if_neg hge,if_pos (.inl ⟨h01,h02⟩)] at h6;unfold TakeV;rw [h6];exact ⟨rfl,0,rfl⟩
     ·have hz:k<1∨(0<k∧((c.toNat:Int) == 0)=false):=by
       by_cases h1:k<1
       ·exact .inl h1
       ·exact .inr ⟨by omega,beq_eq_false_iff_ne.2 (by omega)⟩
      by_cases hm:2147483647<acc2
      ·have h6:=zU HX6;rw [if_neg hge,if_pos (.inr (by unfold maxNum;exact hm))] at h6;have H6:=zH h6;clear h6 HX6
       rcases hz with hz | ⟨hz1,hz2⟩
       all_goals
        go_wp2_with fail;go_ret3;unfold TakeV;rw [zU H6];exact ⟨rfl,0,rfl⟩
      ·have h6:=zU HX6;rw [if_neg hge,if_neg (by unfold maxNum;omega)] at h6;have H6:=zH h6;clear h6 HX6
       rcases hz with hz | ⟨hz1,hz2⟩
       all_goals
        go_wp2_with fail;go_quiet (fail);go_wp2;go_ret3;unfold TakeV;rw [zU H6,←slice_end];exact ⟨rfl,_,rfl⟩
   ·have h9:¬ (k<l.length∧k<5):=hlt;have h6:=zU HX
    have h7:take l=none:=by
     rw [h6]
     by_cases h8:k<l.length
     ·rw [show 5-k=0 from by omega];rfl
     ·rw [List.drop_of_length_le (by omega)];cases 5-k <;> rfl
    have H7:=zH h7;clear h6 h7 HX;go_wp2_with fail;go_ret3;unfold TakeV;rw [zU H7];exact ⟨rfl,0,rfl⟩
end Go.Proofs.YtjpgoeimclipjaaGreat
namespace Go.Proofs.YtjpgoeimclipjaaGreat
open Go.RowKit Pl
attribute [local go_sem] ext_list app_list
set_option maxHeartbeats 400000 in
set_option maxRecDepth 100000 in
theorem numBytes_small (n:Int) (w:World) (h0:0≤n) (hn:n<128) :
  Calls Tryz.prog 95 #[I n] w fun e w'=>e = .returned (S (nb n.toNat))∧Below w.heap.size w w':=by
 obtain ⟨m,rfl⟩:=Int.eq_ofNat_of_zero_le h0;obtain ⟨b,hb,hx⟩:=byte_of m (by omega);have HB:=zH hb;clear hb;have hcv:=fun (W:World)=>run_conv1_new (P:=Tryz.prog) W b hx 5 77 9 5 Tryz.underlying77 Tryz.underlying5 Tryz.underlying9
 have HX:=zH hx;clear hx;go_enter Tryz.func95,Tryz.ntmps95;go_wp2_with fail;go_ret;refine ⟨?_,(Below.refl _ _).alloc (Nat.le_refl _) _⟩;rw [Int.toNat_natCast,nb_small (by omega),←zU HB];rfl
set_option maxHeartbeats 400000 in
set_option maxRecDepth 100000 in
theorem numBytes_k (k:Nat):∀ (n:Int) (w:World),n.toNat≤k→0≤n→n≤9223372036854775807 →
  Calls Tryz.prog 95 #[I n] w fun e w'=>e = .returned (S (nb n.toNat))∧Below w.heap.size w w':=by
 induction k with
 | zero=>intro n w hk h0 h1;exact numBytes_small n w h0 (by omega)
 | succ k ih =>
  intro n w hk h0 h1;obtain ⟨m,rfl⟩:=Int.eq_ofNat_of_zero_le h0
  by_cases hn:(m:Int)<128
  ·exact numBytes_small m w h0 hn
  ·obtain ⟨r,hr⟩:∃ r,r=m % 128:=⟨_,rfl⟩
   obtain ⟨q,hq⟩:∃ q,q=m / 128:=⟨_,rfl⟩
   have ht:(m:Int).tmod 128=(r:Int):=by rw [Int.tmod_eq_emod_of_nonneg h0];omega
   have hw1:IntKind.i64.wrap (128+(r:Int))=128+(r:Int):=IntWalk.i64_in _ ⟨by omega,by omega⟩;have hw2:IntKind.u8.wrap (128+(r:Int))=128+(r:Int):=by rw [IntKind.wrap_u8];omega
   have hw3:IntKind.i64.wrap ((m:Int) / 128)=(q:Int):=by
    have e:(m:Int) / 128=(q:Int):=by omega
    rw [e];exact IntWalk.i64_in _ ⟨by omega,by omega⟩
   obtain ⟨b,hbb,hx⟩:=byte_of (128+r) (by omega);rw [Int.natCast_add] at hx;have hx:(b.toNat:Int)=128+(r:Int):=hx;have HX:=zH hx;have hcv:=fun (W:World)=>run_conv1_new (P:=Tryz.prog) W b hx 5 77 9 5 Tryz.underlying77 Tryz.underlying5 Tryz.underlying9
   have hcw:=fun (W:World)=>run_conv1_drew (P:=Tryz.prog) W b hx 5 77 9 5 Tryz.underlying77 Tryz.underlying5 Tryz.underlying9
   clear hx;have c1:=fun (W:World)=>ih (q:Int) W (by omega) (by omega) (by omega);have hr1:r<128:=by omega
   have hlen:=nb_len 9 q (by omega);have HR:=zH hr;have HQ:=zH hq;have C1:=zH c1;clear c1 ih hr hq;have hnb:nb m=b::nb q:=by rw [hbb,zU HR,zU HQ];exact nb_big (by omega)
   have HN:=zH hnb;clear hnb hbb;go_enter Tryz.func95,Tryz.ntmps95;go_wp2_with fail;go_region_with (refine (zU C1 _).mono ?_;rintro e w' ⟨rfl,hb⟩;try (have hcl:=run_conv1_later_drew (P:=Tryz.prog) b (zU HX) hb 77 9 5 Tryz.underlying77 Tryz.underlying5 Tryz.underlying9))
   all_goals
    go_wp2;go_ret;refine ⟨?_,?_⟩
    ·rw [Int.toNat_natCast,zU HN];rfl
    ·first
      | exact (((Below.refl _ _).alloc (Nat.le_refl _) _).drew).trans (hb.mono (by simp))
      | exact ((Below.refl _ _).drew.trans hb).alloc hb.size _
end Go.Proofs.YtjpgoeimclipjaaGreat
namespace Go.Proofs.YtjpgoeimclipjaaGreat
open Go.RowKit Pl
attribute [local go_sem] ext_list app_list
def FromV (l:Bytes):Value:=match take l with
 | some (n,r)=>.tuple #[I n,S r,.bool true]
 | none=>.tuple #[I 0,S [],.bool false]
set_option maxHeartbeats 2000000 in
set_option maxRecDepth 100000 in
theorem numFrom_any (l:Bytes) (w:World) (hs:l.length≤9223372036854775807) :
  Calls Tryz.prog 102 #[S l] w fun e w'=>e = .returned (FromV l)∧Below w.heap.size w w':=by
 go_enter Tryz.func102,Tryz.ntmps102;go_wp2_with fail
 go_loop [5,6,7] (fun n p i=>∃ (k acc:Nat),k≤l.length∧k≤5∧acc<128 ^ k∧take l=takeF (5-k) k acc (l.drop k)∧Canon l k acc∧i = .int .i64 k∧n = .int .i64 acc∧p = .int .i64 (128 ^ k:Nat))
  (fun _ _ i=>5-(intOf i).toNat)
 case atStart=>exact ⟨0,0,by omega,by omega,by omega,rfl,canon_zero l,rfl,rfl,rfl⟩
 case round =>
  obtain ⟨k,acc,hk,hk5,hacc,hx,hcan,rfl,rfl,rfl⟩:=hrel;have HX:=zH hx;have HC:=zH hcan;clear hx hcan;obtain ⟨p,hp⟩:∃ p,p=128 ^ k:=⟨_,rfl⟩
  have hpb:p≤34359738368:=by rw [hp];exact Nat.pow_le_pow_right (by omega) (by omega:k≤5)
  rw [←hp]
  by_cases hlt:k<l.length∧k<5
  ·obtain ⟨hl,h5⟩:=hlt;obtain ⟨c,hc⟩:∃ c,(⟨l.toArray⟩:ByteArray)[k]'hl=c:=⟨_,rfl⟩
   have hcb:=c.toNat_lt;obtain ⟨r,hr⟩:∃ r,r=c.toNat % 128:=⟨_,rfl⟩
   obtain ⟨acc2,hA⟩:∃ acc2,acc2=acc+c.toNat % 128*128 ^ k:=⟨_,rfl⟩
   have hdrop:l.drop k=c::l.drop (k+1):=by rw [←hc];exact List.drop_eq_getElem_cons hl
   have hbd:acc2<128 ^ (k+1):=by
    rw [hA,Nat.pow_succ];have:(c.toNat % 128)*128 ^ k≤127*128 ^ k:=Nat.mul_le_mul_right _ (by omega);omega
   have hbd2:acc2<34359738368:=Nat.lt_of_lt_of_le hbd (Nat.pow_le_pow_right (by omega) (by omega:k+1≤5));have h5k:5-k=(4-k)+1:=by omega
   have h6:=zU HX;rw [hdrop,h5k,takeF,←hA] at h6;have hacp:acc<p:=by rw [hp];exact hacc
   obtain ⟨t,htt⟩:∃ t,t=p*r:=⟨_,rfl⟩
   have hmul:(p:Int)*(r:Int)=(t:Int):=by rw [htt,Int.natCast_mul]
   have hadd:(acc:Int)+(t:Int)=(acc2:Int):=by
    rw [hA,htt,←hr,←hp,Int.natCast_add,Nat.mul_comm]
   clear htt;have hp1:128 ^ (k+1)=p*128:=by rw [hp,Nat.pow_succ]
   have hce:=canon_end (zU HC) hdrop;have hcs:=canon_step (zU HC) hdrop;rw [←hA] at hce hcs;have hrr:(c.toNat:Int) % 128=(r:Int):=by omega
   have hr1:r<128:=by omega
   have HA:=zH hA;have HD:=zH hdrop;have HK:=zH h5k;have HX6:=zH h6;have HP:=zH hp;have HP1:=zH hp1;have HR:=zH hr;have HCE:=zH hce;have HCS:=zH hcs;have hgt:acc≤acc2:=by omega
   clear hA hdrop h5k h6 HX hp hp1 hr hce hcs HC
   by_cases hge:128≤c.toNat
   ·go_wp2_with fail;go_round
    case rel =>
     have h6:=zU HX6;rw [if_pos hge] at h6;exact ⟨k+1,acc2,by omega,by omega,hbd,by rw [h6,show 5-(k+1)=4-k from by omega],zU HCS hge,by go_num,by go_num,by rw [zU HP1];go_num⟩
    case measure=>simp [intOf];omega
   ·have hge2:c.toNat<128:=by omega
    have hce:=zU HCE hge2 hacc;have h6:=zU HX6;rw [if_neg hge] at h6;clear HX6 HCE HCS
    by_cases hm:2147483647<acc2
    ·rw [if_pos (.inr (by unfold maxNum;exact hm))] at h6;have H6:=zH h6;clear h6 hce;have hd:decide ((2147483647:Int)<(acc2:Int))=true:=by simp;omega
     go_wp2_with fail;go_quiet (fail);go_wp2_with fail;go_ret3;unfold FromV;rw [zU H6];exact ⟨rfl,_root_.Go.below_drewN (Below.refl _ _) _⟩
    ·have hd:decide ((2147483647:Int)<(acc2:Int))=false:=by simp;omega
     have c1:=fun (W:World)=>numBytes_k acc2 (acc2:Int) W (by omega) (by omega) (by omega);have C1:=zH c1;have hk1:IntKind.i64.wrap ((k:Int)+1)=(k:Int)+1:=IntWalk.i64_in _ ⟨by omega,by omega⟩;have hk2:(0:Int)≤(k:Int)+1:=by omega
     have hk3:((k:Int)+1).toNat=k+1:=by omega
     have hk4:(k:Int)+1≤(l.length:Int):=by omega
     by_cases hz:0<k∧c.toNat=0
     ·rw [if_pos (.inl hz)] at h6
      have hq:(nb acc2 == slice l 0 (k+1))=false:=by
       rw [slice_head,beq_eq_false_iff_ne];intro h;exact (hce.1 h) hz
      have H6:=zH h6;clear c1 h6 hce hz;go_wp2_with fail;go_region_held3 (fun _=>True) (first | exact trivial) ((first | (refine (zU C1 _).mono ?_;rintro e w1 ⟨rfl,hb⟩)));clear hk1 hk2 hk3 hk4;go_wp2_with fail;go_ret3;unfold FromV;rw [zU H6];exact ⟨rfl,(Below.refl _ _).drew.trans hb⟩
     ·rw [if_neg (by unfold maxNum;omega)] at h6
      have hq:(nb acc2 == slice l 0 (k+1))=true:=by
       rw [slice_head,beq_iff_eq];exact hce.2 hz
      have H6:=zH h6;clear c1 h6 hce hz;go_wp2_with fail;go_region_held3 (fun _=>True) (first | exact trivial) ((first | (refine (zU C1 _).mono ?_;rintro e w1 ⟨rfl,hb⟩)));clear hk1 hk2 hk3 hk4;go_wp2_with fail;go_quiet (fail);go_wp2_with fail;go_ret3;unfold FromV;rw [zU H6,←slice_end];exact ⟨rfl,_root_.Go.below_drewN ((Below.refl _ _).drew.trans hb) _⟩
  ·have h9:¬ (k<l.length∧k<5):=hlt;have h6:=zU HX
   have h7:take l=none:=by
    rw [h6]
    by_cases h8:k<l.length
    ·rw [show 5-k=0 from by omega];rfl
    ·rw [List.drop_of_length_le (by omega)];cases 5-k <;> rfl
   have H7:=zH h7;clear h6 h7 HX
   by_cases h8:k<l.length
   all_goals
    go_wp2_with fail;go_ret3;unfold FromV;rw [zU H7];exact ⟨rfl,Below.refl _ _⟩
end Go.Proofs.YtjpgoeimclipjaaGreat
namespace Go.Proofs.YtjpgoeimclipjaaGreat
open Go.RowKit Pl
attribute [local go_sem] ext_list app_list
theorem take_ok {l:Bytes} {n:Nat} {r:Bytes} (h:take l=some (n,r)) (w:World) (hs:l.length≤9223372036854775807) :
  Calls Tryz.prog 101 #[S l] w fun e w'=>e = .returned (.tuple #[I n,S r,I 0])∧Below w.heap.size w w' :=
 (take_any l w hs).mono fun e w' ⟨he,k,hk⟩=>⟨by rw [he];unfold TakeV;rw [h],by rw [hk];exact _root_.Go.below_drewN (Below.refl _ _) _⟩
theorem take_no {l:Bytes} (h:take l=none) (w:World) (hs:l.length≤9223372036854775807) :
  Calls Tryz.prog 101 #[S l] w fun e w'=>e = .returned (.tuple #[I 0,S [],I 1])∧Below w.heap.size w w' :=
 (take_any l w hs).mono fun e w' ⟨he,k,hk⟩=>⟨by rw [he];unfold TakeV;rw [h],by rw [hk];exact _root_.Go.below_drewN (Below.refl _ _) _⟩
theorem numFrom_ok {l:Bytes} {n:Nat} {r:Bytes} (h:take l=some (n,r)) (w:World) (hs:l.length≤9223372036854775807) :
  Calls Tryz.prog 102 #[S l] w fun e w'=>e = .returned (.tuple #[I n,S r,.bool true])∧Below w.heap.size w w' :=
 (numFrom_any l w hs).mono fun e w' ⟨he,hk⟩=>⟨by rw [he];unfold FromV;rw [h],hk⟩
theorem numFrom_no {l:Bytes} (h:take l=none) (w:World) (hs:l.length≤9223372036854775807) :
  Calls Tryz.prog 102 #[S l] w fun e w'=>e = .returned (.tuple #[I 0,S [],.bool false])∧Below w.heap.size w w' :=
 (numFrom_any l w hs).mono fun e w' ⟨he,hk⟩=>⟨by rw [he];unfold FromV;rw [h],hk⟩
theorem numBytes_any (n:Nat) (w:World) (h:n≤9223372036854775807) :
  Calls Tryz.prog 95 #[I n] w fun e w'=>e = .returned (S (nb n))∧Below w.heap.size w w' :=
 (numBytes_k n (n:Int) w (by omega) (by omega) (by omega)).mono fun e w' ⟨he,hk⟩=>⟨by rw [he,Int.toNat_natCast],hk⟩
theorem put_ok (n:Nat) (w:World) (h:n≤2147483647) :
  Calls Tryz.prog 92 #[I n] w fun e w'=>e = .returned (.tuple #[S (nb n),I 0])∧Below w.heap.size w w' :=
 (put_good (n:Int) w (by omega) (by omega)).mono fun e w' ⟨he,hk⟩=>⟨by rw [he,Int.toNat_natCast],hk⟩
theorem take_len {l:Bytes} {n:Nat} {r:Bytes} (h:take l=some (n,r)):r.length≤l.length∧n≤2147483647:=by
 obtain ⟨h1,h2⟩:=take_some h;rw [h1,List.length_append];unfold maxNum at h2;omega
end Go.Proofs.YtjpgoeimclipjaaGreat
namespace Go.Proofs.YtjpgoeimclipjaaGreat
open Go.RowKit Pl
attribute [local go_sem] ext_list app_list
theorem sumF_snoc:∀ (xs:Bytes) (i:Nat) (c:UInt8),sumF i (xs++[c])=sumF i xs+(i+xs.length+1)*c.toNat
 | [],i,c=>by simp [sumF]
 | x::xs,i,c=>by
  rw [List.cons_append,sumF,sumF,sumF_snoc xs (i+1) c,List.length_cons];have:i+1+xs.length+1=i+(xs.length+1)+1:=by omega
  rw [this];omega
theorem sum_step {l:Bytes} {k:Nat} {c:UInt8} {s:Nat} (hk:k<l.length) (hc:(⟨l.toArray⟩:ByteArray)[k]'hk=c) (hs:s=sumOf (l.take k)) :
  sumOf (l.take (k+1))=(s+(k+1)*c.toNat) % 65536:=by
 have h:l.take (k+1)=l.take k++[c]:=by
  rw [List.take_succ_eq_append_getElem hk];congr 2
 have hl:(l.take k).length=k:=by simp;omega
 rw [h,hs];unfold sumOf;rw [sumF_snoc,hl,Nat.zero_add,Nat.mod_add_mod]
theorem sum_u16 (s k c:Nat):IntKind.u16.wrap ((s:Int)+IntKind.u16.wrap (IntKind.u16.wrap ((k:Int)+1)*(c:Int)))=(((s+(k+1)*c) % 65536:Nat):Int):=by
 simp only [IntKind.wrap_u16]
 have e:((((s+(k+1)*c) % 65536:Nat)):Int)=((s:Int)+((k:Int)+1)*(c:Int)) % 65536:=by
  rw [Int.natCast_emod,Int.natCast_add,Int.natCast_mul,Int.natCast_add];rfl
 rw [e,Int.add_emod_emod];rw [Int.add_emod,Int.mul_emod,Int.emod_emod,←Int.mul_emod,←Int.add_emod]
theorem sum_i64 (s k c:Nat) (hs:s<65536) (hc:c<256):(wrap64 ((s:Int)+wrap64 (((k:Int) % 65536+1)*(c:Int)))).tmod 65536=(((s+(k+1)*c) % 65536:Nat):Int):=by
 have h1:((k:Int) % 65536+1)*(c:Int)=(((k % 65536+1)*c:Nat):Int):=by
  rw [Int.natCast_mul,Int.natCast_add,Int.natCast_emod];rfl
 have h2:(k % 65536+1)*c≤65536*255:=Nat.mul_le_mul (by omega) (by omega);have w1:wrap64 (((k % 65536+1)*c:Nat):Int)=(((k % 65536+1)*c:Nat):Int):=IntWalk.wrap64_in _ ⟨by omega,by omega⟩;have w2:wrap64 ((s+(k % 65536+1)*c:Nat):Int)=((s+(k % 65536+1)*c:Nat):Int):=IntWalk.wrap64_in _ ⟨by omega,by omega⟩;rw [h1,w1,←Int.natCast_add,w2,Int.tmod_eq_emod_of_nonneg (by omega)]
 have h3:(s+(k % 65536+1)*c) % 65536=(s+(k+1)*c) % 65536:=by
  rw [Nat.add_mod,Nat.mul_mod,Nat.add_mod (k % 65536),Nat.mod_mod,←Nat.add_mod k,←Nat.mul_mod,←Nat.add_mod]
 rw [←h3,Int.natCast_emod];rfl
set_option maxHeartbeats 400000 in
set_option maxRecDepth 100000 in
theorem sum_any (l:Bytes) (w:World) (hs:l.length≤9223372036854775807) :
  Calls Tryz.prog 107 #[S l] w fun e w'=>e = .returned (I (sumOf l))∧w=w':=by
 go_enter Tryz.func107,Tryz.ntmps107;go_wp2_with fail
 go_loop [3,7,4] (fun n i _=>∃ (k:Nat),k≤l.length∧i = .int .i64 k∧n = .int .u16 (sumOf (l.take k):Nat))
  (fun _ i _=>l.length-(intOf i).toNat)
 case atStart=>exact ⟨0,by omega,rfl,rfl⟩
 case round =>
  obtain ⟨k,hk,rfl,rfl⟩:=hrel;obtain ⟨s,hs1⟩:∃ s,s=sumOf (l.take k):=⟨_,rfl⟩
  have hsb:s<65536:=by rw [hs1];exact Nat.mod_lt _ (by omega)
  rw [←hs1];have HS:=zH hs1;clear hs1
  by_cases hl:k<l.length
  ·obtain ⟨c,hc⟩:∃ c,(⟨l.toArray⟩:ByteArray)[k]'hl=c:=⟨_,rfl⟩
   have hcb:=c.toNat_lt;go_wp2_with fail;go_round
   case rel=>exact ⟨k+1,by omega,by go_num,by rw [sum_step hl hc (zU HS),sum_u16]⟩
   case measure=>simp [intOf];omega
  ·go_wp2_with fail;go_ret;have hk2:k=l.length:=by omega
   have h3:=zU HS;rw [hk2,List.take_length] at h3;exact ⟨by rw [←h3];rfl,rfl⟩
set_option maxHeartbeats 400000 in
set_option maxRecDepth 100000 in
theorem sumOf_any (l:Bytes) (w:World) (hs:l.length≤9223372036854775807) :
  Calls Tryz.prog 86 #[S l] w fun e w'=>e = .returned (I (sumOf l))∧w=w':=by
 go_enter Tryz.func86,Tryz.ntmps86;go_wp2_with fail
 go_loop [3,4] (fun n i=>∃ (k:Nat),k≤l.length∧i = .int .i64 k∧n = .int .i64 (sumOf (l.take k):Nat))
  (fun _ i=>l.length-(intOf i).toNat)
 case atStart=>exact ⟨0,by omega,rfl,rfl⟩
 case round =>
  obtain ⟨k,hk,rfl,rfl⟩:=hrel;obtain ⟨s,hs1⟩:∃ s,s=sumOf (l.take k):=⟨_,rfl⟩
  have hsb:s<65536:=by rw [hs1];exact Nat.mod_lt _ (by omega)
  rw [←hs1];have HS:=zH hs1;clear hs1
  by_cases hl:k<l.length
  ·obtain ⟨c,hc⟩:∃ c,(⟨l.toArray⟩:ByteArray)[k]'hl=c:=⟨_,rfl⟩
   have hcb:=c.toNat_lt;go_wp2_with fail;go_round
   case rel=>exact ⟨k+1,by omega,by go_num,by rw [sum_step hl hc (zU HS),sum_i64 s k _ hsb hcb]⟩
   case measure=>simp [intOf];omega
  ·go_wp2_with fail;go_ret;have hk2:k=l.length:=by omega
   have h3:=zU HS;rw [hk2,List.take_length] at h3;exact ⟨by rw [←h3];rfl,rfl⟩
end Go.Proofs.YtjpgoeimclipjaaGreat
namespace Go.Proofs.YtjpgoeimclipjaaGreat
open Go.RowKit Go.Lib Pl
attribute [local go_sem] ext_list app_list
abbrev arcV (A:Option Addr) (n cap:Nat) (A2:Option Addr) (n2 cap2:Nat):Value:=.agg #[.slice A n cap,.slice A2 n2 cap2]
structure ArcIn (w:World) (A:Option Addr) (n:Nat) (A2:Option Addr) (n2:Nat) (a:Arc):Prop where
 s:StrsAt w w.heap.size A n a.ds
 f:filsAt w w.heap.size A2 n2 a.fs
theorem ArcIn.up {w w':World} {A A2:Option Addr} {n n2:Nat} {a:Arc} (h:ArcIn w A n A2 n2 a) (hb:Below w.heap.size w w'):ArcIn w' A n A2 n2 a:=⟨h.s.up hb,h.f.up hb⟩
theorem ArcIn.alloc {w:World} {A A2:Option Addr} {n n2:Nat} {a:Arc} (h:ArcIn w A n A2 n2 a) (o:Obj):ArcIn (w.alloc o) A n A2 n2 a:=h.up ((Below.refl _ _).alloc (Nat.le_refl _) _)
structure FilSz (f:Fil):Prop where
 nm:f.name.length≤140737488355328
 bl:f.block.length≤140737488355328
 d0 : -9223372036854775808≤f.dict
 d1:f.dict≤9223372036854775807
 z0 : -9223372036854775808≤f.size
 z1:f.size≤9223372036854775807
 u0 : -9223372036854775808≤f.sum
 u1:f.sum≤9223372036854775807
structure ArcSz (a:Arc):Prop where
 nd:a.ds.length≤4611686018427387904
 nf:a.fs.length≤4611686018427387904
 ds:∀ d∈a.ds,d.length≤140737488355328
 fs:∀ f∈a.fs,FilSz f
structure ABox (A:Option Addr) (n cap:Nat) (A2:Option Addr) (n2 cap2:Nat) (a:Arc) (w wr:World) (B:Nat):Prop where
 o:wr.heap[B]? = some (.cells #[.slice A n cap,.slice A2 n2 cap2] 33 (0,0))
 i:ArcIn wr A n A2 n2 a
 bel:Below B w wr
theorem ABox.lt {A A2:Option Addr} {n cap n2 cap2:Nat} {a:Arc} {w wr:World} {B:Nat} (h:ABox A n cap A2 n2 cap2 a w wr B):B<wr.heap.size:=(Array.getElem?_eq_some_iff.1 h.o).1
theorem ABox.below {A A2:Option Addr} {n cap n2 cap2:Nat} {a:Arc} {w wr w1:World} {B:Nat} (h:ABox A n cap A2 n2 cap2 a w wr B) (hb:Below wr.heap.size wr w1):ABox A n cap A2 n2 cap2 a w w1 B :=
 ⟨(hb.block _ h.lt).trans h.o,h.i.up hb,h.bel.trans (hb.mono (Nat.le_of_lt h.lt))⟩
theorem ABox.c {A A2:Option Addr} {n cap n2 cap2:Nat} {a:Arc} {w wr:World} {B:Nat} (h:ABox A n cap A2 n2 cap2 a w wr B):wr.cell? ⟨B,0,none⟩=some (.slice A n cap)∧wr.cell? ⟨B,1,none⟩=some (.slice A2 n2 cap2):=by
 refine ⟨?_,?_⟩ <;> (rw [cell_of_row _ _ _ _ _ _ h.o];rfl)
theorem ABox.new {A A2:Option Addr} {n n2:Nat} {a:Arc} {w:World} (h:ArcIn w A n A2 n2 a) (cap cap2:Nat):ABox A n cap A2 n2 cap2 a w (w.alloc (.cells #[.slice A n cap,.slice A2 n2 cap2] 33)) w.heap.size :=
 ⟨heap_alloc_new _ _,h.alloc _,(Below.refl _ _).alloc (Nat.le_refl _) _⟩
theorem dictO_zero (ds:List Bytes):dictO ds 0=some []:=by unfold dictO;rw [if_pos rfl]
theorem dictO_bad {ds:List Bytes} {k:Int} (h:k<0∨(ds.length:Int)<k):dictO ds k=none:=by
 unfold dictO;rw [if_neg (by omega),if_pos (by omega)]
theorem dictO_at {ds:List Bytes} {j:Nat} {t:Bytes} (h:ds[j]? = some t):dictO ds ((j:Int)+1)=some t:=by
 have hl:=(List.getElem?_eq_some_iff.1 h).1;unfold dictO;rw [if_neg (by omega),if_neg (by omega),List.getD_eq_getElem?_getD,show ((j:Int)+1).toNat-1=j from by omega,h];rfl
attribute [local go_sem] World.cell?_alloc_some in
set_option maxHeartbeats 1000000 in
set_option maxRecDepth 100000 in
theorem dict_any (A:Option Addr) (n cap:Nat) (A2:Option Addr) (n2 cap2:Nat) (a:Arc) (k:Int) (w:World) (h:ArcIn w A n A2 n2 a) (_hn:n≤4611686018427387904) (h0 : -9223372036854775808≤k) (h1:k≤9223372036854775807) :
  Calls Tryz.prog 70 #[arcV A n cap A2 n2 cap2,I k] w fun e w'=>e = .returned (.tuple #[S ((dictO a.ds k).getD []),.bool (dictO a.ds k).isSome])∧Below w.heap.size w w':=by
 have hl:=h.s.1;have HB:=zH (fun (o:Obj)=>(Below.refl w.heap.size w).alloc (Nat.le_refl _) o)
 by_cases k0:k=0
 ·subst k0;rw [dictO_zero];clear h;go_enter Tryz.func70,Tryz.ntmps70;go_wp2_with fail;go_ret2;exact ⟨rfl,zU HB _⟩
 ·have z0:(k == 0)=false:=by rw [beq_eq_false_iff_ne];exact k0
  by_cases kb:k<0∨(n:Int)<k
  ·rw [dictO_bad (by rw [hl];exact kb)];have hc:(k<1)∨(¬ k<1∧(n:Int)<k):=by omega
   clear h kb k0
   rcases hc with d1 | ⟨d1,d2⟩
   ·go_enter Tryz.func70,Tryz.ntmps70;go_wp2_with fail;go_ret2;exact ⟨rfl,zU HB _⟩
   ·go_enter Tryz.func70,Tryz.ntmps70;go_wp2_with fail;go_ret2;exact ⟨rfl,zU HB _⟩
  ·obtain ⟨j,rfl⟩:∃ j:Nat,k=(j:Int)+1:=⟨k.toNat-1,by omega⟩
   obtain ⟨b,off,t,rfl,hb,ht,hc⟩:=h.s.at_ (k:=j) (by omega);rw [dictO_at ht];have w1:IntKind.i64.wrap ((j:Int)+1-1)=(j:Int):=by rw [show (j:Int)+1-1=(j:Int) from by omega];exact IntWalk.i64_in _ ⟨by omega,by omega⟩
   have w2:wrap64 ((j:Int)+1-1)=(j:Int):=by rw [show (j:Int)+1-1=(j:Int) from by omega];exact IntWalk.wrap64_in _ ⟨by omega,by omega⟩
   have w3:IntKind.i64.wrap (j:Int)=(j:Int):=IntWalk.i64_in _ ⟨by omega,by omega⟩;have d1:¬ (j:Int)+1<1:=by omega
   have d2:¬ (n:Int)<(j:Int)+1:=by omega
   have d3:(j:Int)<(n:Int):=by omega
   clear h kb ht;go_enter Tryz.func70,Tryz.ntmps70;go_wp2_with fail;go_ret2;exact ⟨rfl,zU HB _⟩
attribute [local go_sem] World.cell?_alloc_some in
set_option maxHeartbeats 1000000 in
set_option maxRecDepth 100000 in
theorem dictOf_any (A:Option Addr) (n cap:Nat) (A2:Option Addr) (n2 cap2:Nat) (a:Arc) (k:Int) (w:World) (h:ArcIn w A n A2 n2 a) (hn:n≤4611686018427387904) (hk:(dictO a.ds k).isSome=true) :
  Calls Tryz.prog 85 #[arcV A n cap A2 n2 cap2,I k] w fun e w'=>e = .returned (S ((dictO a.ds k).getD []))∧Below w.heap.size w w':=by
 have hl:=h.s.1;have HB:=zH (fun (o:Obj)=>(Below.refl w.heap.size w).alloc (Nat.le_refl _) o)
 by_cases k0:k=0
 ·subst k0;rw [dictO_zero];clear h hk;go_enter Tryz.func85,Tryz.ntmps85;go_wp2_with fail;go_ret;exact ⟨rfl,zU HB _⟩
 ·have z0:(k == 0)=false:=by rw [beq_eq_false_iff_ne];exact k0
  by_cases kb:k<0∨(n:Int)<k
  ·rw [dictO_bad (by rw [hl];exact kb)] at hk;cases hk
  ·obtain ⟨j,rfl⟩:∃ j:Nat,k=(j:Int)+1:=⟨k.toNat-1,by omega⟩
   obtain ⟨b,off,t,rfl,hb,ht,hc⟩:=h.s.at_ (k:=j) (by omega);rw [dictO_at ht];have w1:IntKind.i64.wrap ((j:Int)+1-1)=(j:Int):=by rw [show (j:Int)+1-1=(j:Int) from by omega];exact IntWalk.i64_in _ ⟨by omega,by omega⟩
   have w2:wrap64 ((j:Int)+1-1)=(j:Int):=by rw [show (j:Int)+1-1=(j:Int) from by omega];exact IntWalk.wrap64_in _ ⟨by omega,by omega⟩
   have w3:IntKind.i64.wrap (j:Int)=(j:Int):=IntWalk.i64_in _ ⟨by omega,by omega⟩;have d3:(j:Int)<(n:Int):=by omega
   clear h kb ht hk;go_enter Tryz.func85,Tryz.ntmps85;go_wp2_with fail;go_ret;exact ⟨rfl,zU HB _⟩
end Go.Proofs.YtjpgoeimclipjaaGreat
namespace Go.Proofs.YtjpgoeimclipjaaGreat
open Go.RowKit Go.Lib
theorem results_row_tmp {P:Program} {fn:Func} {p u:Tmp} {ty:TypeId} (h:fn.results=#[.cell p ty,.tmp u]) (tmps:Array Value) (w:World) (g:Nat) (t:TypeId) (cs:Array Value) (fr:Nat×Nat) (d:TypeDesc)
  (hp:tmps.getD p undef = .pointer (some ⟨g,0,none⟩)) (hg:w.heap[g]? = some (.cells cs t fr))
  (hu:P.underlying ty=some d) (hd:(match d with | .struct _ | .array _ _=>true | _=>false)=true) (hi:(P.info? ty).map (·.size)=some cs.size) :
  (results fn tmps).run P w = .ok (.tuple #[.agg cs,tmps.getD u undef]) w:=by
 rw [results_cell_tmp h tmps P w,hp];simp [asAddr,run_loadVar_row w g t ty cs fr d hg hu hd hi,Result.andThen]
end Go.Proofs.YtjpgoeimclipjaaGreat
namespace Go.Proofs.YtjpgoeimclipjaaGreat
open Go.RowKit Go.Lib Pl
attribute [local go_sem] ext_list app_list
set_option maxHeartbeats 1000000 in
set_option maxRecDepth 100000 in
theorem cloneFil_any (A:Option Addr) (n cap:Nat) (l:List Fil) (w:World) (hl:filsAt w w.heap.size A n l) (hn:n≤1000000) :
  Calls Tryz.prog 89 #[.slice A n cap] w fun e w'=>∃ v,e = .returned v∧w'.ownsRow w.heap.size 61 5 v n (filsCells l)∧Below w.heap.size w w':=by
 have qn:∀ (w:World) (a:Option Addr) (n c n' c':Nat),(binOp .eql 31 (.slice a n c) (.slice none n' c')).run Tryz.prog w = .ok (.bool a.isNone) w:=fun w a n c n' c'=>Lib.run_eql_slice_nil w _ _ a n c n' c' Tryz.underlying31;cases A with
 | none =>
  have h0:n=0:=by
   rcases Nat.eq_zero_or_pos n with h | h
   ·exact h
   ·obtain ⟨b,off,e,_⟩:=hl.2 h;cases e
  subst h0;have hl0:l=[]:=List.eq_nil_of_length_eq_zero hl.1;subst hl0;clear hl;go_enter Tryz.func89,Tryz.ntmps89;go_wp2_with fail;go_ret;exact ⟨_,rfl,World.ownsRow_nil _ _ _ _,Below.refl _ _⟩
 | some ad =>
  obtain ⟨i0,hi,hz0,hz1,hz2⟩:=info_parts info_fil
  have hnews:∀ j u,(filsCells l)[j]? = some u→w.cell? (ad.add j)=some u:=by
   intro j u hj;have hlen:=filsCells_len l;have hj2:=(List.getElem?_eq_some_iff.1 hj).1;obtain ⟨b,off,e,hb,hc⟩:=hl.2 (by have:=hl.1;omega);cases e;have e:(⟨b,off,none⟩:Addr).add j=⟨b,off+j,none⟩:=by unfold Addr.add;split <;> simp_all
   rw [e];obtain ⟨q,r,hq,hr⟩:∃ q r,j=q*5+r∧r<5:=⟨j / 5,j % 5,by omega,by omega⟩
   have hql:q<l.length:=by omega
   obtain ⟨c0,c1,c2,c3,c4⟩:=hc q _ (List.getElem?_eq_getElem hql);obtain ⟨d0,d1,d2,d3,d4⟩:=filsCells_get l q _ (List.getElem?_eq_getElem hql)
   rcases (show r=0∨r=1∨r=2∨r=3∨r=4 by omega) with h | h | h | h | h
   all_goals
    subst h;rw [hq] at hj ⊢
   ·rw [Nat.add_zero] at hj ⊢;rw [c0,←hj,d0]
   ·rw [←Nat.add_assoc,c1,←hj,d1]
   ·rw [←Nat.add_assoc,c2,←hj,d2]
   ·rw [←Nat.add_assoc,c3,←hj,d3]
   ·rw [←Nat.add_assoc,c4,←hj,d4]
  have hone:∀ y∈filsCells l,y.oneCell'=true:=by
   intro y hy;obtain ⟨t,_,ht⟩:=List.mem_flatMap.1 hy;exact fil_one t y ht
  have hlen:(filsCells l).length=n*5:=by rw [filsCells_len,hl.1]
  have hlt:∀ j,j<(filsCells l).length→ad.block<w.heap.size:=fun j hj=>by
   obtain ⟨b,off,e,hb,_⟩:=hl.2 (by have:=hl.1;rw [filsCells_len] at hj;omega);cases e;exact hb
  have HN:=zH hnews;have HO:=zH hone;have HL:=zH hlen;have HLT:=zH hlt;obtain ⟨cs,hcs⟩:∃ cs,cs=filsCells l:=⟨_,rfl⟩
  rw [←hcs] at HN HO HL HLT ⊢;clear hl hnews hone hlen hlt hcs;go_enter Tryz.func89,Tryz.ntmps89;go_wp2_with (at_builtin;refine wpList_append_own _ rfl _ _ 31 rfl w.heap.size 61 i0 _ 5 56 Tryz.underlying31 hi hz0 hz1 hz2 rfl (by decide) _ _ _ rfl (World.ownsRow_made w #[] 0 (Nat.le_refl _) (Nat.zero_le _) (by simp)) ad n cap cs rfl ?qc1 ?qc2 ?qc3 ?qc4 ?qc5 ?qc6 ?_)
  case qc1=>exact zU HL
  case qc2 =>
   intro j u hj;have e:=zU HN j u hj;have hb:=zU HLT j (List.getElem?_eq_some_iff.1 hj).1;exact (Below.cell ((Below.refl w.heap.size w).alloc (Nat.le_refl _) _) (p:=ad.add j) (by rw [show (ad.add j).block=ad.block from by unfold Addr.add;split <;> rfl];exact hb)).trans e
  case qc3=>exact zU HO
  case qc4=>unfold maxLen;omega
  case qc5=>omega
  case qc6=>simp
  intro v' w1 hown hgrow hnil;have HOWN:=zH hown;have HG:=zH hgrow;clear hown hgrow;go_wp2_with fail;go_ret;refine ⟨v',rfl,by simpa using zU HOWN,?_⟩;exact ((Below.refl _ w).alloc (Nat.le_refl _) _).grown (zU HG) (by simp) (by intro k hk;simp [Value.ownBlock] at hk;omega)
end Go.Proofs.YtjpgoeimclipjaaGreat
namespace Go.Proofs.YtjpgoeimclipjaaGreat
namespace Pl
abbrev Asc (fs:List Fil):Prop:=fs.Pairwise fun f g=>lessB f.name g.name=true
def posF (name:Bytes):List Fil→Nat
 | []=>0
 | g::r=>if lessB g.name name=true then posF name r+1 else 0
def thereB (name:Bytes):List Fil→Bool
 | []=>false
 | g::r=>if lessB g.name name=true then thereB name r else decide (g.name=name)
theorem posF_le (name:Bytes):∀ fs:List Fil,posF name fs≤fs.length
 | []=>Nat.le_refl _
 | g::r=>by
  rw [posF]
  split
  ·have:=posF_le name r;simp;omega
  ·simp
theorem posF_eq {name:Bytes} : ∀ {fs:List Fil} {i:Nat},i≤fs.length→(∀ j f,j<i→fs[j]? = some f→lessB f.name name=true)→(∀ f,fs[i]? = some f→lessB f.name name=false)→posF name fs=i
 | [],i,h,_,_=>by simp at h;subst h;rfl
 | g::r,0,_,_,h2=>by
  rw [posF,if_neg (by rw [h2 g rfl];simp)]
 | g::r,i+1,h,h1,h2=>by
  rw [posF,if_pos (h1 0 g (by omega) rfl),posF_eq (fs:=r) (i:=i) (by simpa using h) (fun j f hj hf=>h1 (j+1) f (by omega) (by simpa using hf)) (fun f hf=>h2 f (by simpa using hf))]
theorem there_pos (name:Bytes):∀ fs:List Fil,thereB name fs=match fs[posF name fs]? with | some f=>decide (f.name=name) | none=>false
 | []=>rfl
 | g::r=>by
  rw [posF,thereB]
  split
  ·rw [there_pos name r];simp
  ·simp
theorem there_at {name:Bytes} {fs:List Fil} (h:thereB name fs=true):∃ f,fs[posF name fs]? = some f∧f.name=name:=by
 rw [there_pos] at h;cases hf:fs[posF name fs]? with
 | none=>rw [hf] at h;cases h
 | some f=>rw [hf] at h;exact ⟨f,rfl,by simpa using h⟩
theorem there_lt {name:Bytes} {fs:List Fil} (h:thereB name fs=true):posF name fs<fs.length:=by
 obtain ⟨f,hf,_⟩:=there_at h;exact (List.getElem?_eq_some_iff.1 hf).1
theorem insF_there {f:Fil} : ∀ {fs:List Fil},thereB f.name fs=true→insF f fs=fs.set (posF f.name fs) f
 | [],h=>by cases h
 | g::r,h=>by
  rw [thereB] at h;rw [insF,posF]
  split at h
  ·rename_i h1
   rw [if_pos h1,if_pos h1,insF_there h];rfl
  ·rename_i h1
   rw [if_neg h1,if_neg h1,if_pos (by simpa using h)];rfl
theorem insF_new {f:Fil} : ∀ {fs:List Fil},thereB f.name fs=false→insF f fs=fs.take (posF f.name fs)++f::fs.drop (posF f.name fs)
 | [],_=>rfl
 | g::r,h=>by
  rw [thereB] at h;rw [insF,posF]
  split at h
  ·rename_i h1
   rw [if_pos h1,if_pos h1,insF_new h];simp
  ·rename_i h1
   rw [if_neg h1,if_neg h1,if_neg (by simpa using h)];rfl
theorem insF_len {f:Fil} {fs:List Fil} : (insF f fs).length=if thereB f.name fs=true then fs.length else fs.length+1:=by
 have:=posF_le f.name fs
 split
 ·rename_i h;rw [insF_there h];simp
 ·rename_i h;rw [insF_new (by simpa using h)];simp;omega
theorem find_later {name:Bytes} {g:Fil} {r:List Fil} (h:∀ f∈r,lessB g.name f.name=true) (hn:lessB g.name name=false):∀ f∈r,f.name≠name:=by
 intro f hf e;have:=h f hf;rw [e,hn] at this;cases this
theorem find_pos {name:Bytes} : ∀ {fs:List Fil},Asc fs→findF name fs=if thereB name fs=true then fs[posF name fs]? else none
 | [],_=>rfl
 | g::r,h=>by
  have hp:=List.pairwise_cons.1 h;rw [thereB,posF]
  by_cases h1:lessB g.name name=true
  ·rw [if_pos h1,if_pos h1,List.getElem?_cons_succ,←find_pos hp.2];unfold findF;rw [List.find?_cons_of_neg];simp only [decide_eq_true_eq];intro e;rw [e,lessB_irrefl] at h1;cases h1
  ·rw [if_neg h1,if_neg h1]
   by_cases h2:g.name=name
   ·simp [findF,h2]
   ·rw [if_neg (by simpa using h2)];unfold findF;rw [List.find?_eq_none];intro f hf;simp only [decide_eq_true_eq]
    rcases List.mem_cons.1 hf with rfl | hf
    ·exact h2
    ·exact find_later hp.1 (by simpa using h1) f hf
theorem filter_pos {name:Bytes} : ∀ {fs:List Fil},Asc fs→thereB name fs=true→(fs.filter fun f=>decide (f.name≠name))=fs.take (posF name fs)++fs.drop (posF name fs+1)
 | [],_,h=>by cases h
 | g::r,h,ht=>by
  have hp:=List.pairwise_cons.1 h;rw [thereB] at ht;rw [posF]
  by_cases h1:lessB g.name name=true
  ·rw [if_pos h1] at ht ⊢;have hg:g.name≠name:=by intro e;rw [e,lessB_irrefl] at h1;cases h1
   rw [List.filter_cons_of_pos (by simpa using hg),filter_pos hp.2 ht];simp
  ·rw [if_neg h1] at ht ⊢;have hg:g.name=name:=by simpa using ht
   rw [List.filter_cons_of_neg (by simpa using hg)];simp only [List.take_zero,List.nil_append,Nat.zero_add,List.drop_one,List.tail_cons];rw [List.filter_eq_self];intro f hf;simpa using find_later hp.1 (by simpa using h1) f hf
def putGo (f:Fil):Bool→List Fil→List Fil
 | false,[]=>[f]
 | true,[]=>[]
 | d,g::r=>(if d=false∧lessB g.name f.name=false then [f] else [])++((if g.name=f.name then [] else [g])++putGo f (d || !lessB g.name f.name) r)
theorem putGo_done {f:Fil} : ∀ {fs:List Fil},(∀ g∈fs,g.name≠f.name)→putGo f true fs=fs
 | [],_=>rfl
 | g::r,h=>by
  rw [putGo,if_neg (by simp),if_neg (h g (by simp)),Bool.true_or,putGo_done (fun x hx=>h x (by simp [hx]))];rfl
theorem putGo_ins {f:Fil} : ∀ {fs:List Fil},Asc fs→putGo f false fs=insF f fs
 | [],_=>rfl
 | g::r,h=>by
  have hp:=List.pairwise_cons.1 h;rw [putGo,insF]
  by_cases h1:lessB g.name f.name=true
  ·have hg:g.name≠f.name:=by intro e;rw [e,lessB_irrefl] at h1;cases h1
   rw [if_neg (by simp [h1]),if_neg hg,if_pos h1,h1,show (false || !true)=false from rfl,putGo_ins hp.2];rfl
  ·have h1':lessB g.name f.name=false:=by simpa using h1
   rw [if_pos ⟨rfl,h1'⟩,if_neg h1,h1',show (false || !false)=true from rfl,putGo_done (find_later hp.1 h1')]
   by_cases h2:g.name=f.name
   ·rw [if_pos h2,if_pos h2];rfl
   ·rw [if_neg h2,if_neg h2];rfl
theorem keepD_snoc (fs:List Fil):∀ (l:List Bytes) (i:Nat) (d:Bytes),keepD fs i (l++[d])=keepD fs i l++if usedB fs (i+l.length+1)=true then [d] else []
 | [],i,d=>by
  rw [List.nil_append,keepD,keepD,keepD]
  split <;> simp_all
 | x::l,i,d=>by
  rw [List.cons_append,keepD,keepD,keepD_snoc fs l (i+1) d];have e:i+1+l.length+1=i+(x::l).length+1:=by simp;omega
  rw [e]
  split <;> simp
theorem keepD_take {fs:List Fil} {ds:List Bytes} {n:Nat} {d:Bytes} (h:ds[n]? = some d):keepD fs 0 (ds.take (n+1))=keepD fs 0 (ds.take n)++if usedB fs (n+1)=true then [d] else []:=by
 have hn:=(List.getElem?_eq_some_iff.1 h).1;rw [List.take_add_one,h];show keepD fs 0 (ds.take n++[d])=_;rw [keepD_snoc,List.length_take,Nat.min_eq_left (by omega),Nat.zero_add]
theorem keepD_takeLen {fs:List Fil} {ds:List Bytes} {n:Nat} (h:n≤ds.length):(keepD fs 0 (ds.take n)).length=movedN fs n:=by
 have:=keepD_len fs (ds.take n) 0;rw [List.length_take,Nat.min_eq_left h,Nat.zero_add] at this;have e:movedN fs 0=0:=rfl;rw [e] at this;omega
def moveTo (fs:List Fil) (n:Nat) (f:Fil):Fil:=if 1≤f.dict∧f.dict≤(n:Int) then moveF fs f else f
theorem moveTo_zero (fs:List Fil) (f:Fil):moveTo fs 0 f=f:=if_neg (by omega)
theorem moveTo_hit {fs:List Fil} {n:Nat} {f:Fil} (h:f.dict=((n+1:Nat):Int)):moveTo fs (n+1) f = { f with dict:=(movedN fs (n+1):Nat) }:=by
 unfold moveTo moveF;rw [if_pos (by omega),h];simp
theorem moveTo_miss {fs:List Fil} {n:Nat} {f:Fil} (h:f.dict≠((n+1:Nat):Int)):moveTo fs (n+1) f=moveTo fs n f:=by
 unfold moveTo
 by_cases h1:1≤f.dict∧f.dict≤(n:Int)
 ·rw [if_pos h1,if_pos (by omega)]
 ·rw [if_neg h1,if_neg (by omega)]
theorem moveTo_unused {fs l:List Fil} {n:Nat} (h:usedB fs (n+1)=false) (hl:∀ f∈l,f∈fs):l.map (moveTo fs (n+1))=l.map (moveTo fs n):=by
 apply List.map_congr_left;intro f hf;refine moveTo_miss fun e=>?_;have:usedB fs (n+1)=true:=used_iff.2 ⟨f,hl f hf,e⟩;rw [h] at this;cases this
theorem moveTo_all {fs:List Fil} {N:Nat} {f:Fil} (h0:0≤f.dict) (h1:f.dict≤(N:Int)):moveTo fs N f=moveF fs f:=by
 unfold moveTo
 by_cases h:1≤f.dict∧f.dict≤(N:Int)
 ·rw [if_pos h]
 ·rw [if_neg h];have e:f.dict=0:=by omega
  unfold moveF;rw [e];show f = { f with dict:=((movedN fs 0:Nat):Int) };have:((movedN fs 0:Nat):Int)=f.dict:=by rw [e];rfl
  rw [this]
theorem dictO_range {ds:List Bytes} {k:Int} (h:dictO ds k≠none):0≤k∧k≤(ds.length:Int):=by
 unfold dictO at h
 by_cases h0:k=0
 ·omega
 ·rw [if_neg h0] at h
  by_cases h1:k<1∨(ds.length:Int)<k
  ·rw [if_pos h1] at h;exact absurd rfl h
  ·omega
theorem fileB_dict {ds:List Bytes} {f:Fil} (h:fileB ds f=true):0≤f.dict∧f.dict≤(ds.length:Int):=by
 have:=fileB_text h;refine dictO_range fun e=>?_;unfold textO at this;rw [e] at this;cases this
theorem moved_final {a:Arc} (h:RightA a):a.fs.map (moveTo a.fs a.ds.length)=a.fs.map (moveF a.fs) :=
 List.map_congr_left fun f hf=>moveTo_all (fileB_dict (h.fr.each f hf)).1 (fileB_dict (h.fr.each f hf)).2
def usedN (fs:List Fil) (k:Int):Nat:=(fs.filter fun f=>decide (f.dict=k)).length
theorem usedN_le (fs:List Fil) (k:Int):usedN fs k≤fs.length:=List.length_filter_le _ _
theorem usedN_take {fs:List Fil} {k:Nat} {f:Fil} (h:fs[k]? = some f) (x:Int):usedN (fs.take (k+1)) x=if x=f.dict then usedN (fs.take k) x+1 else usedN (fs.take k) x:=by
 unfold usedN;rw [List.take_add_one,h,List.filter_append,List.length_append]
 by_cases e:x=f.dict
 ·simp [e]
 ·simp [e,Ne.symm e]
theorem usedN_pos {fs:List Fil} {n:Nat} : 0<usedN fs (n:Int)↔usedB fs n=true:=by
 unfold usedN usedB;rw [List.length_pos_iff_exists_mem,List.any_eq_true];simp only [List.mem_filter]
def movedF (fs:List Fil) (n:Nat) (k:Int):Nat:=if 1≤k∧k≤(n:Int)∧usedB fs k.toNat=true then movedN fs k.toNat else 0
theorem movedF_yes {fs:List Fil} {n:Nat} (h:usedB fs (n+1)=true):movedF fs (n+1)=fun k=>if k=((n+1:Nat):Int) then movedN fs (n+1) else movedF fs n k:=by
 funext k
 unfold movedF
 by_cases e:k=((n+1:Nat):Int)
 ·subst e;rw [if_pos ⟨by omega,by omega,by rw [Int.toNat_natCast];exact h⟩,if_pos rfl,Int.toNat_natCast]
 ·rw [if_neg e]
  by_cases h2:1≤k∧k≤(n:Int)∧usedB fs k.toNat=true
  ·rw [if_pos h2,if_pos ⟨h2.1,by omega,h2.2.2⟩]
  ·rw [if_neg h2,if_neg (fun h3=>h2 ⟨h3.1,by omega,h3.2.2⟩)]
theorem movedF_no {fs:List Fil} {n:Nat} (h:usedB fs (n+1)=false):movedF fs (n+1)=movedF fs n:=by
 funext k
 unfold movedF
 by_cases h2:1≤k∧k≤(n:Int)∧usedB fs k.toNat=true
 ·rw [if_pos h2,if_pos ⟨h2.1,by omega,h2.2.2⟩]
 ·rw [if_neg h2,if_neg];intro h3
  by_cases e:k=((n+1:Nat):Int)
  ·subst e;have:=h3.2.2;rw [Int.toNat_natCast,h] at this;cases this
  ·exact h2 ⟨h3.1,by omega,h3.2.2⟩
theorem movedF_file {a:Arc} (h:RightA a) {f:Fil} (hf:f∈a.fs):movedF a.fs a.ds.length f.dict=movedN a.fs f.dict.toNat:=by
 obtain ⟨h0,h1⟩:=fileB_dict (h.fr.each f hf);unfold movedF
 by_cases e:f.dict=0
 ·rw [if_neg (by omega),e];rfl
 ·have hu:usedB a.fs f.dict.toNat=true:=used_iff.2 ⟨f,hf,by omega⟩;rw [if_pos ⟨by omega,h1,hu⟩]
end Pl
end Go.Proofs.YtjpgoeimclipjaaGreat
namespace Go.Proofs.YtjpgoeimclipjaaGreat
open Go.RowKit Go.Lib Pl
theorem filsCells_take {l:List Fil} {i:Nat} (h:i≤l.length):(filsCells l).take (i*5)=filsCells (l.take i):=by
 have e:filsCells l=filsCells (l.take i)++filsCells (l.drop i):=by rw [←filsCells_app,List.take_append_drop]
 rw [e,List.take_left' (by rw [filsCells_len,List.length_take];omega)]
theorem filsCells_drop {l:List Fil} {i:Nat} (h:i≤l.length):(filsCells l).drop (i*5)=filsCells (l.drop i):=by
 have e:filsCells l=filsCells (l.take i)++filsCells (l.drop i):=by rw [←filsCells_app,List.take_append_drop]
 rw [e,List.drop_left' (by rw [filsCells_len,List.length_take];omega)]
theorem filsCells_one (l:List Fil):∀ y∈filsCells l,y.oneCell'=true:=by
 intro y hy;obtain ⟨t,_,ht⟩:=List.mem_flatMap.1 hy;exact fil_one t y ht
theorem filCells_len (f:Fil):(filCells f).length=5:=rfl
theorem filsCells_cons (f:Fil) (l:List Fil):filsCells (f::l)=filCells f++filsCells l:=by simp [filsCells]
theorem filsCells_set {l:List Fil} {i:Nat} {f:Fil} (h:i<l.length):filsCells (l.set i f)=filsCells (l.take i)++(filCells f++filsCells (l.drop (i+1))):=by
 rw [List.set_eq_take_append_cons_drop,if_pos h,filsCells_app,filsCells_cons]
theorem ownsFil_row {w:World} {base n g cap:Nat} {l:List Fil} (h:w.ownsRow base 61 5 (.slice (some ⟨g,0,none⟩) n cap) n (filsCells l)) :
  ∃ cur,base≤g∧w.heap[g]? = some (.cells cur 61 (0,0))∧n≤cap∧cap≤maxLen∧cur.size=cap*5∧cur.toList.take (n*5)=filsCells l:=by
 rcases h.2 with ⟨hv,_⟩ | ⟨g',cap',cur,hv,hb,hg,hn,hc,hs,ht⟩
 ·cases hv
 ·injection hv with ha _ hcap
  injection ha with ha
  injection ha with ha
  subst ha;subst hcap;exact ⟨cur,hb,hg,hn,hc,hs,ht⟩
theorem ownsFil_len {w:World} {base n:Nat} {v:Value} {l:List Fil} (h:w.ownsRow base 61 5 v n (filsCells l)):l.length=n:=by
 have:=h.1;rw [filsCells_len] at this;omega
theorem ownsFil_form {w:World} {base n:Nat} {v:Value} {l:List Fil} (h:w.ownsRow base 61 5 v n (filsCells l)):(v = .slice none 0 0∧n=0∧l=[])∨∃ g cap,v = .slice (some ⟨g,0,none⟩) n cap:=by
 have hl:=ownsFil_len h
 rcases h.2 with ⟨hv,h0⟩ | ⟨g',cap',cur,hv,_⟩
 ·exact .inl ⟨hv,h0,List.eq_nil_of_length_eq_zero (by omega)⟩
 ·exact .inr ⟨_,_,hv⟩
theorem ownsFil_mk {w:World} {base n g cap:Nat} {l:List Fil} {cur:Array Value} (hb:base≤g) (hg:w.heap[g]? = some (.cells cur 61 (0,0))) (hn:n≤cap) (hc:cap≤maxLen) (hs:cur.size=cap*5) (hl:l.length=n) (ht:cur.toList.take (n*5)=filsCells l) :
  w.ownsRow base 61 5 (.slice (some ⟨g,0,none⟩) n cap) n (filsCells l) :=
 ⟨by rw [filsCells_len,hl],.inr ⟨g,cap,cur,rfl,hb,hg,hn,hc,hs,ht⟩⟩
theorem run_copyF {w:World} (dT sT ty:TypeId) (hT:Tryz.prog.underlying dT=some (.slice 61)) (g o dLen dCap:Nat) (a:Addr) (sLen sCap:Nat) (cs:List Value) (cur:Array Value) (hn:cs.length=Nat.min sLen dLen*5)
  (hsrc:∀ j v,cs[j]? = some v→w.cell? (a.add j)=some v) (hg:w.heap[g]? = some (.cells cur 61 (0,0))) (hfit:o+cs.length≤cur.size) (h1:∀ v∈cs,v.oneCell'=true) :
  (Builtin.copy_ #[dT,sT] ty #[.slice (some ⟨g,o,none⟩) dLen dCap,.slice (some a) sLen sCap]).run Tryz.prog w = .ok (goInt (Nat.min sLen dLen)) (w.setRow g (cur.toList.take o++cs++cur.toList.drop (o+cs.length)).toArray):=by
 obtain ⟨i0,hi,hz0,hz1,hz2⟩:=info_parts info_fil;have hf:=run_firstCells_some (P:=Tryz.prog) w 5 (Nat.min sLen dLen) a sLen sCap cs hn hsrc;have hst:=run_storeCells_at Tryz.prog g o 61 cs 0 cur w hg (by simpa using hfit) h1;simp only [Nat.add_zero] at hst;simp [Builtin.copy_,run_underlying hT,Builtin.lenOf,sizeOf,typeInfo,hi,hz1,hf,hst]
theorem wpList_copy_runF (w:World) {ops:Array Oper} {rest:List Oper} {o:Oper} {a:Act} {Q:Exit→Act→World→Prop} (hgd:o.guard=none) (d s:Operand) (t t':TypeId)
  (ho:o.op = .call { callee:=.builtin .copy,args:=#[d,s],argTypes:=#[t,t'] }) (v u:Value) (hd:a.eval d=v) (hs:a.eval s=u) {v':Value} {w':World}
  (hr:(Builtin.copy_ #[t,t'] o.type #[v,u]).run Tryz.prog w = .ok v' w') (h:wpList Tryz.prog ops Q rest (a.put o.dst v') w'):wpList Tryz.prog ops Q (o::rest) a w :=
 wpList_plain hgd fun _ hK=>by
  unfold Oper.wp execOp;simp only [ho,resolve,invoke,builtin,Sem.run_bind,Sem.run_pure,Result.andThen_ok,List.map_toArray,List.map_cons,List.map_nil,hd,hs,hr];exact hK _ _ h
theorem step_copy_runF {ops:Array Oper} {o:Oper} {a:Act} {w:World} {K:Act→World→Prop} {Q:Exit→Act→World→Prop} {E:Prop}
  (hg:o.guard=none) (d x:Operand) (dT sT:TypeId) (hop:o.op=Op.call { callee:=Callee.builtin Builtin.copy,args:=#[d,x],argTypes:=#[dT,sT] })
  (v u:Value) (hd:a.eval d=v) (hx:a.eval x=u) {v':Value} {w':World} (hr:(Builtin.copy_ #[dT,sT] o.type #[v,u]).run Tryz.prog w = .ok v' w') (hK:K (a.put o.dst v') w') :
  if Region.wanted o (yielded ops a.tmps)=true then Oper.wp Tryz.prog o a w K Q else E:=by
 have hw:Region.wanted o (yielded ops a.tmps)=true:=by simp [Region.wanted,hg]
 rw [if_pos hw];unfold Oper.wp;simp [execOp,hop,resolve,invoke,builtin,hd,hx,hr,Result.andThen];exact hK
theorem run_clearF {w:World} (tT ty:TypeId) (hT:Tryz.prog.underlying tT=some (.slice 61)) (g o cap:Nat) (cur:Array Value) (hg:w.heap[g]? = some (.cells cur 61 (0,0))) (hfit:o+5≤cur.size) :
  (Builtin.clear_ #[tT] ty #[.slice (some ⟨g,o,none⟩) 1 cap]).run Tryz.prog w = .ok (.tuple #[]) (w.setRow g (cur.toList.take o++filCells ⟨[],0,0,0,[]⟩++cur.toList.drop (o+5)).toArray):=by
 have hz:∀ w,(zeroValue 61).run Tryz.prog w = .ok (.agg #[.string ByteArray.empty,.int .i64 0,.int .i64 0,.int .i64 0,.string ByteArray.empty]) w:=by
  intro w;obtain ⟨i0,hi,hz0,hz1,hz2⟩:=info_parts info_fil;simp [zeroValue,typeInfo,hi,hz0]
 have hzc:(Builtin.zeroCells (Value.agg #[.string ByteArray.empty,.int .i64 0,.int .i64 0,.int .i64 0,.string ByteArray.empty]).cells 1).toList=filCells ⟨[],0,0,0,[]⟩:=by kernel_rfl
 have hst:=run_storeCells_at Tryz.prog g o 61 (filCells ⟨[],0,0,0,[]⟩) 0 cur w hg (by simpa [filCells_len] using hfit) (fil_one _);simp only [Nat.add_zero,filCells_len] at hst;simp [Builtin.clear_,run_underlying hT,hz,hzc,hst]
end Go.Proofs.YtjpgoeimclipjaaGreat
namespace Go.Proofs.YtjpgoeimclipjaaGreat
open Go.RowKit Go.Lib Pl
attribute [local go_sem] ext_list app_list
structure VarF (w:World) (H:Nat) (f:Fil):Prop where
 h:w.heap[H]? = some (.cells #[S f.name,I f.dict,I f.size,I f.sum,S f.block] 61 (0,0))
theorem VarF.cells {w:World} {H:Nat} {f:Fil} (h:VarF w H f):∀ j u,(filCells f)[j]? = some u→w.cell? ((⟨H,0,none⟩:Addr).add j)=some u:=by
 intro j u hj;rw [Addr.add_lit,cell_of_row w H _ _ _ _ h.h];simpa [filCells] using hj
set_option maxHeartbeats 2000000 in
set_option maxRecDepth 100000 in
theorem insertFil_end (v:Value) (n:Nat) (l:List Fil) (base:Nat) (f:Fil) (H:Nat) (w:World) (hown:w.ownsRow base 61 5 v n (filsCells l)) (hn:n≤1000) (hv:VarF w H f) (hbase:base≤w.heap.size) :
  Calls Tryz.prog 75 #[v,I n,.slice (some ⟨H,0,none⟩) 1 1] w fun e w'=>∃ v',e = .returned v'∧w'.ownsRow base 61 5 v' (n+1) (filsCells (l++[f]))∧w.grownBy w' v.ownBlock:=by
 obtain ⟨i0,hi,hz0,hz1,hz2⟩:=info_parts info_fil;have HC:=zH hv.cells;have HOWN:=zH hown
 rcases ownsFil_form hown with ⟨rfl,rfl,rfl⟩ | ⟨g,cap,rfl⟩
 ·clear hown hv;go_enter Tryz.func75,Tryz.ntmps75;go_wp2_with (at_builtin;refine wpList_append_own _ rfl _ _ 31 rfl base 61 i0 _ 5 56 Tryz.underlying31 hi hz0 hz1 hz2 rfl (by decide) _ _ _ rfl (zU HOWN) ⟨H,0,none⟩ 1 1 (filCells f) rfl rfl (zU HC) (fil_one f) (by unfold maxLen;omega) (by omega) hbase ?_;intro v' w' hown' hg' _;have HOWN2:=zH hown';have HG:=zH hg';clear hown' hg');go_ret;exact ⟨_,rfl,zU HOWN2,zU HG⟩
 ·obtain ⟨cur,hb,hg,hnc,hcm,hsz,ht⟩:=ownsFil_row hown;have d1:n≤cap:=hnc;have d2:cap≤9223372036854775807:=by unfold maxLen at hcm;exact hcm
  clear hown hv ht hsz hg hb hcm
  by_cases hcn:cap=n
  ·subst hcn;go_enter Tryz.func75,Tryz.ntmps75;go_wp2_with (at_builtin;refine wpList_append_own _ rfl _ _ 31 rfl base 61 i0 _ 5 56 Tryz.underlying31 hi hz0 hz1 hz2 rfl (by decide) _ _ _ rfl (zU HOWN) ⟨H,0,none⟩ 1 1 (filCells f) rfl rfl (zU HC) (fil_one f) (by unfold maxLen;omega) (by omega) hbase ?_;intro v' w' hown' hg' _;have HOWN2:=zH hown';have HG:=zH hg';clear hown' hg');go_ret;exact ⟨_,rfl,by rw [filsCells_snoc];exact zU HOWN2,zU HG⟩
  ·go_enter Tryz.func75,Tryz.ntmps75;go_wp2_with (at_builtin;refine wpList_append_own _ rfl _ _ 31 rfl base 61 i0 _ 5 56 Tryz.underlying31 hi hz0 hz1 hz2 rfl (by decide) _ _ _ rfl (zU HOWN) ⟨H,0,none⟩ 1 1 (filCells f) rfl rfl (zU HC) (fil_one f) (by unfold maxLen;omega) (by omega) hbase ?_;intro v' w' hown' hg' _;have HOWN2:=zH hown';have HG:=zH hg';clear hown' hg');go_ret;exact ⟨_,rfl,by rw [filsCells_snoc];exact zU HOWN2,zU HG⟩
theorem setRow_cells {w:World} {g:Nat} {c:Array Value} {p:Addr} (h:p.block≠g):(w.setRow g c).cell? p=w.cell? p:=by
 unfold World.cell?;rw [setRow_other w g p.block c h]
theorem grown_setRow {w w1:World} {g:Nat} {c:Array Value} (h:w.grownBy w1 (some g)):w.grownBy (w1.setRow g c) (some g) :=
 ⟨h.os,h.tape,h.output,by simpa [World.setRow] using h.size,fun k hk hne=>by rw [setRow_other w1 g k _ (fun e=>hne (by rw [e]))];exact h.block k hk hne⟩
set_option maxHeartbeats 4000000 in
set_option maxRecDepth 100000 in
theorem insertFil_room (g cap n i:Nat) (l:List Fil) (base:Nat) (f:Fil) (H:Nat) (w:World) (hown:w.ownsRow base 61 5 (.slice (some ⟨g,0,none⟩) n cap) n (filsCells l)) (hn:n≤1000) (hv:VarF w H f) (hne:H≠g) (hi:i<n) (hroom:n<cap) :
  Calls Tryz.prog 75 #[.slice (some ⟨g,0,none⟩) n cap,I i,.slice (some ⟨H,0,none⟩) 1 1] w fun e w'=>∃ v',e = .returned v'∧w'.ownsRow base 61 5 v' (n+1) (filsCells (l.take i++f::l.drop i))∧w.grownBy w' (some g):=by
 obtain ⟨cur,hb,hg,hnc,hcm,hsz,ht⟩:=ownsFil_row hown;have hl:=ownsFil_len hown;obtain ⟨i0,hi0,hz0,hz1,hz2⟩:=info_parts info_fil;have hc63:cap≤9223372036854775807:=by unfold maxLen at hcm;exact hcm
 have hov:∀ lb cb,(callFunc 111 #[.slice (some ⟨H,0,none⟩) 1 1,.slice (some ⟨g,(i+1)*5,none⟩) lb cb]).run Tryz.prog w = .ok (.value (.bool false)) w:=fun lb cb=>by
  have hsz5:∀ w,(Go.sizeOf 61).run Tryz.prog w = .ok 5 w:=fun w=>by simp [Go.sizeOf,typeInfo,hi0,hz1]
  rw [run_callFunc_extern Tryz.func111 (by kernel_rfl) (by kernel_rfl) (by kernel_rfl) (e:=Extern.SlicesOverlaps.overlaps #[31,31] #[4]) (by kernel_rfl),
   Lib.run_overlaps_apart w 31 4 61 Tryz.underlying31 5 hsz5 ⟨H,0,none⟩ ⟨g,(i+1)*5,none⟩ 1 1 lb cb hne 61 61 5 cur.size (by simp [World.shape?,hv.h]) (by simp [World.shape?,hg]) (by omega) (by simp [World.frozen?,hv.h]) (by simp [World.frozen?,hv.h])]
  rfl
 -- what is moved to the right
 obtain ⟨mv,hmv⟩:∃ mv,mv=filsCells (l.drop i):=⟨_,rfl⟩
 have hmvl:mv.length=(n-i)*5:=by rw [hmv,filsCells_len,List.length_drop,hl]
 have hget:∀ j u,mv[j]? = some u→w.cell? ⟨g,i*5+j,none⟩=some u:=by
  intro j u hj;rw [cell_of_row w g _ cur _ _ hg];rw [hmv,←filsCells_drop (by omega),List.getElem?_drop,←ht,List.getElem?_take] at hj
  split at hj
  ·simpa using hj
  ·cases hj
 obtain ⟨c1,hc1⟩:∃ c1,c1=(cur.toList.take ((i+1)*5)++mv++cur.toList.drop ((i+1)*5+mv.length)).toArray:=⟨_,rfl⟩
 have hcp1:∀ (W:World) (ty:TypeId) (dc sc:Nat),W.heap=w.heap→(Builtin.copy_ #[31,31] ty #[.slice (some ⟨g,(i+1)*5,none⟩) (n+1-(i+1)) dc,.slice (some ⟨g,i*5,none⟩) (n+1-i) sc]).run Tryz.prog W = .ok (goInt ((n-i:Nat):Int)) (W.setRow g c1):=fun W ty dc sc hW=>by
  have hWg:W.heap[g]? = some (.cells cur 61 (0,0)):=by rw [hW];exact hg
  have hWc:∀ p:Addr,W.cell? p=w.cell? p:=fun p=>by unfold World.cell?;rw [hW]
  have hmin:Nat.min (n+1-i) (n+1-(i+1))=n-i:=by show min (n+1-i) (n+1-(i+1))=n-i;omega
  have:=run_copyF (w:=W) 31 31 ty Tryz.underlying31 g ((i+1)*5) (n+1-(i+1)) dc ⟨g,i*5,none⟩ (n+1-i) sc mv cur (by rw [hmin];exact hmvl) (fun j v hj=>by rw [Addr.add_lit,hWc];exact hget j v hj) hWg (by rw [hmvl];omega) (by rw [hmv];exact filsCells_one _);rw [hmin] at this;rw [this,hc1]
 have hc1z:c1.size=cap*5:=by rw [hc1];simp;omega
 obtain ⟨c2,hc2⟩:∃ c2,c2=(c1.toList.take (i*5)++filCells f++c1.toList.drop (i*5+(filCells f).length)).toArray:=⟨_,rfl⟩
 have hcp2:∀ (W:World) (ty:TypeId) (dc:Nat),W.heap[g]? = some (.cells c1 61 (0,0))→W.heap[H]? = w.heap[H]?→(Builtin.copy_ #[31,31] ty #[.slice (some ⟨g,i*5,none⟩) (n+1-i) dc,.slice (some ⟨H,0,none⟩) 1 1]).run Tryz.prog W = .ok (goInt ((1:Nat):Int)) (W.setRow g c2):=fun W ty dc hWg hWH=>by
  have hWv:VarF W H f:=⟨by rw [hWH];exact hv.h⟩
  have hmin:Nat.min 1 (n+1-i)=1:=by show min 1 (n+1-i)=1;omega
  have:=run_copyF (w:=W) 31 31 ty Tryz.underlying31 g (i*5) (n+1-i) dc ⟨H,0,none⟩ 1 1 (filCells f) c1 (by rw [hmin];rfl) hWv.cells hWg (by rw [hc1z,filCells_len];omega) (fil_one f);rw [hmin] at this;rw [this,hc2]
 have hend:∀ W:World,W.heap[g]? = some (.cells c1 61 (0,0))→(W.setRow g c2).ownsRow base 61 5 (.slice (some ⟨g,0,none⟩) (n+1) cap) (n+1) (filsCells (l.take i++f::l.drop i)):=fun W hW=>by
  refine ownsFil_mk hb (setRow_heap _ _ _ _ _ _ hW) (by omega) hcm ?_ (by simp;omega) ?_
  ·rw [hc2];simp only [List.size_toArray,List.length_append,List.length_take,List.length_drop,Array.length_toList,filCells_len];omega
  ·have e1:c1.toList.take (i*5)=filsCells (l.take i):=by
    rw [hc1,List.toList_toArray,List.append_assoc,List.take_append_of_le_length (by simp;omega),List.take_take,Nat.min_eq_left (by omega),←filsCells_take (by omega),←ht,List.take_take,Nat.min_eq_left (by omega)]
   have e2:c1.toList.drop (i*5+(filCells f).length)=mv++cur.toList.drop ((i+1)*5+mv.length):=by
    rw [hc1,List.toList_toArray,List.append_assoc,filCells_len,List.drop_append_of_le_length (by simp;omega),List.drop_of_length_le (by simp;omega),List.nil_append]
   rw [hc2,List.toList_toArray,e1,e2,filsCells_app,filsCells_cons,←hmv,List.append_assoc,←List.append_assoc (filCells f),←List.append_assoc]
   have hlen:(filsCells (l.take i)++(filCells f++mv)).length=(n+1)*5:=by
    simp only [List.length_append,filsCells_len,filCells_len,hmvl,List.length_take];omega
   rw [List.take_append_of_le_length (by omega),List.take_of_length_le (by omega)]
 have HCP1:=zH hcp1;have HCP2:=zH hcp2;have HEND:=zH hend;have HOV:=zH hov;have HG:=zH (show (w.drew.setRow g c1).heap[g]? = some (.cells c1 61 (0,0)) from setRow_heap w.drew g cur c1 _ _ hg);have HH:=zH (show (w.drew.setRow g c1).heap[H]? = w.heap[H]? from setRow_other w.drew g H c1 hne);have z1:((i:Int) == (n:Int))=false:=by rw [beq_eq_false_iff_ne];omega
 have e1:IntKind.i64.wrap ((n:Int)+1)=(n:Int)+1:=IntWalk.i64_in _ ⟨by omega,by omega⟩;have e2:IntKind.i64.wrap ((i:Int)+1)=(i:Int)+1:=IntWalk.i64_in _ ⟨by omega,by omega⟩;have z2:¬ (cap:Int)<(n:Int)+1:=by omega
 have z3:(0:Int)≤(n:Int)+1:=by omega
 have z4:((n:Int)+1).toNat=n+1:=by omega
 have z5:n+1≤cap:=by omega
 have z6:(0:Int)≤(i:Int)+1:=by omega
 have z7:((i:Int)+1).toNat=i+1:=by omega
 have z8:(i:Int)+1≤(n:Int)+1:=by omega
 have z9:i+1≤n+1:=by omega
 have z10:¬ (cap=i+1):=by omega
 have z11:¬ (cap=i):=by omega
 have z12:(i:Int)≤(n:Int):=by omega
 have z13:i≤n:=by omega
 have z14:i≤n+1:=by omega
 have z15:(i:Int)≤(n:Int)+1:=by omega
 clear hcp1 hcp2 hend hc1z hc1 hc2 hget hmvl hmv ht hown hsz hg hv;have hov:=hov;go_enter Tryz.func75,Tryz.ntmps75;go_wp2_with (simp only [hov]);go_region_law (refine step_copy_runF rfl (.tmp 73) (.tmp 76) 31 31 rfl (.slice (some ⟨g,(i+1)*5,none⟩) (n+1-(i+1)) (cap-(i+1))) (.slice (some ⟨g,i*5,none⟩) (n+1-i) (cap-i)) (by simp [Act.eval,Act.put]) (by simp [Act.eval,Act.put]) (zU HCP1 w.drew _ _ _ rfl) ?_);have hcp2:=fun ty dc=>zU HCP2 (w.drew.setRow g c1) ty dc (zU HG) (zU HH);go_wp2_with (at_builtin;refine wpList_copy_runF _ rfl (.tmp 80) (.tmp 81) 31 31 rfl (.slice (some ⟨g,i*5,none⟩) (n+1-i) (cap-i)) (.slice (some ⟨H,0,none⟩) 1 1) rfl rfl (hcp2 _ _) ?_);go_ret;refine ⟨_,rfl,zU HEND _ (zU HG),grown_setRow (grown_setRow ⟨rfl,rfl,rfl,Nat.le_refl _,fun _ _ _=>rfl⟩)⟩
set_option maxHeartbeats 4000000 in
set_option maxRecDepth 100000 in
theorem insertFil_grow (g n i:Nat) (l:List Fil) (base:Nat) (f:Fil) (H:Nat) (w:World) (hown:w.ownsRow base 61 5 (.slice (some ⟨g,0,none⟩) n n) n (filsCells l)) (hn:n≤1000) (hv:VarF w H f) (hi:i<n) (hbase:base≤w.heap.size) :
  Calls Tryz.prog 75 #[.slice (some ⟨g,0,none⟩) n n,I i,.slice (some ⟨H,0,none⟩) 1 1] w fun e w'=>∃ v',e = .returned v'∧w'.ownsRow base 61 5 v' (n+1) (filsCells (l.take i++f::l.drop i))∧w.grownBy w' (some g):=by
 obtain ⟨cur,hb,hg,hnc,hcm,hsz,ht⟩:=ownsFil_row hown;have hl:=ownsFil_len hown;obtain ⟨i0,hi0,hz0,hz1,hz2⟩:=info_parts info_fil;have hgl:g<w.heap.size:=(Array.getElem?_eq_some_iff.1 hg).1;have hHl:H<w.heap.size:=(Array.getElem?_eq_some_iff.1 hv.h).1;obtain ⟨N,hN⟩:∃ N,N=w.heap.size:=⟨_,rfl⟩
 obtain ⟨G,hG⟩:∃ G,G=grownCap w (n+1) n 61:=⟨_,rfl⟩
 have hGn:n+1≤G:=by rw [hG];exact grownCap_ge w _ _ _
 have hGm:G≤maxLen:=by rw [hG];exact grownCap_le_maxLen w _ _ _ (by unfold maxLen;omega)
 have hG63:G≤9223372036854775807:=by unfold maxLen at hGm;exact hGm
 obtain ⟨ROW,hROW⟩:∃ ROW:Array Value,ROW=(filsCells (l.take i)).toArray++Builtin.zeroCells (Value.agg #[.string ByteArray.empty,.int .i64 0,.int .i64 0,.int .i64 0,.string ByteArray.empty]).cells (n+1-i)++Builtin.zeroCells (Value.agg #[.string ByteArray.empty,.int .i64 0,.int .i64 0,.int .i64 0,.string ByteArray.empty]).cells (G-(n+1)):=⟨_,rfl⟩
 have hRs:ROW.size=G*5:=by
  have hz:(Value.agg #[.string ByteArray.empty,.int .i64 0,.int .i64 0,.int .i64 0,.string ByteArray.empty]).cells.size=5:=rfl;rw [hROW,Array.size_append,Array.size_append,size_zeroCells,size_zeroCells,hz,List.size_toArray,filsCells_len,List.length_take];omega
 obtain ⟨W1,hW1⟩:∃ W1,W1=w.drew.alloc (.cells ROW 61):=⟨_,rfl⟩
 have hrz:∀ ty,(Builtin.append_ #[31,3] ty #[.slice (some ⟨g,0,none⟩) i n,.int .i64 ((n:Int)+1-(i:Int))]).run Tryz.prog w = .ok (.slice (some ⟨N,0,none⟩) (n+1) G) W1:=fun ty=>by
  have hold:(Builtin.firstCells i0.size i (.slice (some ⟨g,0,none⟩) i n)).run Tryz.prog w.drew = .ok (filsCells (l.take i)).toArray w.drew:=by
   rw [hz1];refine run_firstCells_some w.drew 5 i ⟨g,0,none⟩ i n _ (by rw [filsCells_len,List.length_take];omega) (fun j v hj=>?_);rw [Addr.add_lit];show w.cell? _=_;rw [cell_of_row w g _ cur _ _ hg];rw [←filsCells_take (by omega),←ht,List.take_take,List.getElem?_take] at hj
   split at hj
   ·simpa using hj
   ·cases hj
  have h:=Lib.run_append_grow_zeros w 31 3 ty 61 i0 _ .i64 .i64 Tryz.underlying31 Tryz.underlying3 hi0 hz0 (some ⟨g,0,none⟩) i n (filsCells (l.take i)) hold (n+1-i) (by omega) (by omega) (by omega) (by omega) (by rw [hz2];omega) (by rw [hz2];exact growslice_fits (by omega) (by omega));rw [show i+(n+1-i)=n+1 from by omega] at h;rw [show (n:Int)+1-(i:Int)=((n+1-i:Nat):Int) from by omega,h,hW1,hROW,hG,hN]
 have hR1:W1.heap[N]? = some (.cells ROW 61 (0,0)):=by rw [hW1,hN];exact heap_alloc_new w.drew _
 have hO1:∀ k,k<N→W1.heap[k]? = w.heap[k]?:=fun k hk=>by rw [hW1];exact Below.heap_alloc w.drew _ k (by rw [hN] at hk;exact hk)
 obtain ⟨c1,hc1⟩:∃ c1,c1=(ROW.toList.take (i*5)++filCells f++ROW.toList.drop (i*5+(filCells f).length)).toArray:=⟨_,rfl⟩
 have hcpA:∀ (ty:TypeId) (dc:Nat),(Builtin.copy_ #[31,31] ty #[.slice (some ⟨N,i*5,none⟩) (n+1-i) dc,.slice (some ⟨H,0,none⟩) 1 1]).run Tryz.prog W1 = .ok (goInt ((1:Nat):Int)) (W1.setRow N c1):=fun ty dc=>by
  have hWv:VarF W1 H f:=⟨by rw [hO1 H (by omega)];exact hv.h⟩
  have hmin:Nat.min 1 (n+1-i)=1:=by show min 1 (n+1-i)=1;omega
  have:=run_copyF (w:=W1) 31 31 ty Tryz.underlying31 N (i*5) (n+1-i) dc ⟨H,0,none⟩ 1 1 (filCells f) ROW (by rw [hmin];rfl) hWv.cells hR1 (by rw [hRs,filCells_len];omega) (fil_one f);rw [hmin] at this;rw [this,hc1]
 have hc1z:c1.size=G*5:=by rw [hc1];simp only [List.size_toArray,List.length_append,List.length_take,List.length_drop,Array.length_toList,filCells_len];omega
 obtain ⟨mv,hmv⟩:∃ mv,mv=filsCells (l.drop i):=⟨_,rfl⟩
 have hmvl:mv.length=(n-i)*5:=by rw [hmv,filsCells_len,List.length_drop,hl]
 have hget:∀ j u,mv[j]? = some u→w.cell? ⟨g,i*5+j,none⟩=some u:=by
  intro j u hj;rw [cell_of_row w g _ cur _ _ hg];rw [hmv,←filsCells_drop (by omega),List.getElem?_drop,←ht,List.getElem?_take] at hj
  split at hj
  ·simpa using hj
  ·cases hj
 obtain ⟨c2,hc2⟩:∃ c2,c2=(c1.toList.take ((i+1)*5)++mv++c1.toList.drop ((i+1)*5+mv.length)).toArray:=⟨_,rfl⟩
 have hgN:g≠N:=by omega
 have hcpB:∀ (ty:TypeId) (dc sc:Nat),(Builtin.copy_ #[31,31] ty #[.slice (some ⟨N,(i+1)*5,none⟩) (n+1-(i+1)) dc,.slice (some ⟨g,i*5,none⟩) (n-i) sc]).run Tryz.prog (W1.setRow N c1).drew = .ok (goInt ((n-i:Nat):Int)) ((W1.setRow N c1).drew.setRow N c2):=fun ty dc sc=>by
  have hWg:(W1.setRow N c1).drew.heap[N]? = some (.cells c1 61 (0,0)):=setRow_heap _ _ _ _ _ _ hR1
  have hWc:∀ o,(W1.setRow N c1).drew.cell? ⟨g,o,none⟩=w.cell? ⟨g,o,none⟩:=fun o=>by
   show (W1.setRow N c1).cell? _=_;rw [setRow_cells (by exact hgN)];unfold World.cell?;simp only;rw [hO1 g (by omega)]
  have hmin:Nat.min (n-i) (n+1-(i+1))=n-i:=by show min (n-i) (n+1-(i+1))=n-i;omega
  have:=run_copyF (w:=(W1.setRow N c1).drew) 31 31 ty Tryz.underlying31 N ((i+1)*5) (n+1-(i+1)) dc ⟨g,i*5,none⟩ (n-i) sc mv c1 (by rw [hmin];exact hmvl) (fun j v hj=>by rw [Addr.add_lit,hWc];exact hget j v hj) hWg (by rw [hmvl,hc1z];omega) (by rw [hmv];exact filsCells_one _);rw [hmin] at this;rw [this,hc2]
 have hend:((W1.setRow N c1).drew.setRow N c2).ownsRow base 61 5 (.slice (some ⟨N,0,none⟩) (n+1) G) (n+1) (filsCells (l.take i++f::l.drop i))∧w.grownBy ((W1.setRow N c1).drew.setRow N c2) (some g):=by
  refine ⟨ownsFil_mk (by omega) (setRow_heap _ _ _ _ _ _ (show (W1.setRow N c1).drew.heap[N]? = some (.cells c1 61 (0,0)) from setRow_heap _ _ _ _ _ _ hR1)) hGn hGm ?_ (by simp;omega) ?_,?_⟩
  ·rw [hc2];simp only [List.size_toArray,List.length_append,List.length_take,List.length_drop,Array.length_toList,hmvl];omega
  ·have e0:ROW.toList.take (i*5)=filsCells (l.take i):=by
    rw [hROW,Array.toList_append,Array.toList_append,List.toList_toArray,List.append_assoc,List.take_append_of_le_length (by rw [filsCells_len,List.length_take];omega),List.take_of_length_le (by rw [filsCells_len,List.length_take];omega)]
   have e1:c1.toList.take ((i+1)*5)=filsCells (l.take i)++filCells f:=by
    rw [hc1,List.toList_toArray,e0,List.take_append_of_le_length (by simp only [List.length_append,filsCells_len,filCells_len,List.length_take];omega),List.take_of_length_le (by simp only [List.length_append,filsCells_len,filCells_len,List.length_take];omega)]
   rw [hc2,List.toList_toArray,e1,filsCells_app,filsCells_cons,←hmv,←List.append_assoc]
   have hlen:(filsCells (l.take i)++filCells f++mv).length=(n+1)*5:=by
    simp only [List.length_append,filsCells_len,filCells_len,hmvl,List.length_take];omega
   rw [List.take_append_of_le_length (by omega),List.take_of_length_le (by omega)]
  ·refine ⟨by rw [hW1];rfl,by rw [hW1];rfl,by rw [hW1];rfl,by rw [hW1];simp [World.setRow],fun k hk hne=>?_⟩;rw [setRow_other _ N k _ (by omega)];show (W1.setRow N c1).heap[k]? = _;rw [setRow_other _ N k _ (by omega)];exact hO1 k (by omega)
 have HRZ:=zH hrz;have HCPA:=zH hcpA;have HCPB:=zH hcpB;have HEND:=zH hend;have z1:((i:Int) == (n:Int))=false:=by rw [beq_eq_false_iff_ne];omega
 have e1:IntKind.i64.wrap ((n:Int)+1)=(n:Int)+1:=IntWalk.i64_in _ ⟨by omega,by omega⟩;have e2:IntKind.i64.wrap ((i:Int)+1)=(i:Int)+1:=IntWalk.i64_in _ ⟨by omega,by omega⟩;have e3:IntKind.i64.wrap ((n:Int)+1-(i:Int))=(n:Int)+1-(i:Int):=IntWalk.i64_in _ ⟨by omega,by omega⟩;have z2:(n:Int)<(n:Int)+1:=by omega
 have z6:(0:Int)≤(i:Int)+1:=by omega
 have z7:((i:Int)+1).toNat=i+1:=by omega
 have z8:(i:Int)+1≤(n:Int)+1:=by omega
 have z9:i+1≤n+1:=by omega
 have z10:¬ (G=i+1):=by omega
 have z11:¬ (G=i):=by omega
 have z12:(i:Int)≤(n:Int):=by omega
 have z13:i≤n:=by omega
 have z14:i≤n+1:=by omega
 have z15:(i:Int)≤(n:Int)+1:=by omega
 have z16:¬ (n=i):=by omega
 clear hrz hcpA hcpB hend hc1z hc1 hc2 hget hmvl hmv ht hown hsz hg hv hROW hRs hR1 hO1 hW1 hG hN;go_enter Tryz.func75,Tryz.ntmps75;have hcpa:=zU HCPA
 go_wp2_with (first
  | (at_builtin;refine Lib.wpList_append_run _ rfl _ _ _ _ rfl _ _ rfl rfl _ _ (zU HRZ _) ?_)
  | (at_builtin;refine wpList_copy_runF _ rfl (.tmp 43) (.tmp 44) 31 31 rfl (.slice (some ⟨N,i*5,none⟩) (n+1-i) (G-i)) (.slice (some ⟨H,0,none⟩) 1 1) rfl rfl (hcpa _ _) ?_))
 go_region_law (refine step_copy_runF rfl (.tmp 50) (.tmp 53) 31 31 rfl (.slice (some ⟨N,(i+1)*5,none⟩) (n+1-(i+1)) (G-(i+1))) (.slice (some ⟨g,i*5,none⟩) (n-i) (n-i)) (by simp [Act.eval,Act.put]) (by simp [Act.eval,Act.put]) (zU HCPB _ _ _) ?_);go_wp2_with fail;go_ret;exact ⟨_,rfl,(zU HEND).1,(zU HEND).2⟩
theorem insertFil_any (v:Value) (n i:Nat) (l:List Fil) (base:Nat) (f:Fil) (H:Nat) (w:World) (hown:w.ownsRow base 61 5 v n (filsCells l)) (hn:n≤1000) (hv:VarF w H f) (hne:v.ownBlock≠some H) (hi:i≤n) (hbase:base≤w.heap.size) :
  Calls Tryz.prog 75 #[v,I i,.slice (some ⟨H,0,none⟩) 1 1] w fun e w'=>∃ v',e = .returned v'∧w'.ownsRow base 61 5 v' (n+1) (filsCells (l.take i++f::l.drop i))∧w.grownBy w' v.ownBlock:=by
 have hl:=ownsFil_len hown
 by_cases he:i=n
 ·subst he;have:=insertFil_end v i l base f H w hown hn hv hbase;rw [List.take_of_length_le (by omega),List.drop_of_length_le (by omega)];exact this
 ·rcases ownsFil_form hown with ⟨rfl,rfl,rfl⟩ | ⟨g,cap,rfl⟩
  ·omega
  ·obtain ⟨cur,hb,hg,hnc,hcm,hsz,ht⟩:=ownsFil_row hown
   by_cases hroom:n<cap
   ·exact insertFil_room g cap n i l base f H w hown hn hv (fun e=>hne (by rw [e];rfl)) (by omega) hroom
   ·obtain rfl:cap=n:=by omega
    exact insertFil_grow g cap i l base f H w hown hn hv (by omega) hbase
end Go.Proofs.YtjpgoeimclipjaaGreat
namespace Go.Proofs.YtjpgoeimclipjaaGreat
open Go.RowKit Go.Lib Pl
attribute [local go_sem] ext_list app_list
set_option maxHeartbeats 2000000 in
set_option maxRecDepth 100000 in
theorem deleteFil_any (g cap n i:Nat) (l:List Fil) (base:Nat) (w:World) (hown:w.ownsRow base 61 5 (.slice (some ⟨g,0,none⟩) n cap) n (filsCells l)) (hi:i<n) (hn:n≤1000) :
  Calls Tryz.prog 76 #[.slice (some ⟨g,0,none⟩) n cap,I i,I ((i:Int)+1)] w fun e w'=>e = .returned (.slice (some ⟨g,0,none⟩) (n-1) cap)∧w'.ownsRow base 61 5 (.slice (some ⟨g,0,none⟩) (n-1) cap) (n-1) (filsCells (l.take i++l.drop (i+1)))∧w.grownBy w' (some g):=by
 obtain ⟨cur,hb,hg,hnc,hcm,hsz,ht⟩:=ownsFil_row hown;have hl:=ownsFil_len hown;obtain ⟨i0,hi0,hz0,hz1,hz2⟩:=info_parts info_fil;have hc63:cap≤9223372036854775807:=by unfold maxLen at hcm;exact hcm
 -- what is moved to the left
 obtain ⟨news,hnews⟩:∃ news,news=filsCells (l.drop (i+1)):=⟨_,rfl⟩
 have hlen:news.length=(n-(i+1))*5:=by rw [hnews,filsCells_len,List.length_drop,hl]
 have hget:∀ j u,news[j]? = some u→w.cell? ⟨g,(i+1)*5+j,none⟩=some u:=by
  intro j u hj;rw [cell_of_row w g _ cur _ _ hg];rw [hnews,←filsCells_drop (by omega),List.getElem?_drop,←ht,List.getElem?_take] at hj
  split at hj
  ·simpa using hj
  ·cases hj
 obtain ⟨A,hA,hsrc⟩:∃ A:Addr,(if cap=i+1 then some (⟨g,0,none⟩:Addr) else some ⟨g,(i+1)*5,none⟩)=some A∧Hid (∀ t u,news[t]? = some u→w.drew.cell? (A.add t)=some u):=by
  by_cases h:cap=i+1
  ·refine ⟨⟨g,0,none⟩,by simp [h],fun t u hu=>?_⟩;have h0:news.length=0:=by rw [hlen];omega
   rw [List.length_eq_zero_iff.1 h0] at hu;simp at hu
  ·refine ⟨⟨g,(i+1)*5,none⟩,by simp [h],fun t u hu=>?_⟩;rw [Addr.add_lit];exact hget t u hu
 have s1:Hid (news.length=(n-(i+1))*5):=hlen;have s2:Hid (∀ u∈news,u.oneCell'=true):=by rw [hnews];exact filsCells_one _
 have s3:Hid (∀ t,t<news.length→(w.drew.cell? ⟨g,0+i*5+t,none⟩).isSome=true∧w.drew.frozen? ⟨g,0+i*5+t,none⟩=false):=by
  intro t ht2;rw [hlen] at ht2;refine ⟨?_,by show w.frozen? _=false;simp [World.frozen?,hg]⟩;show (w.cell? _).isSome=true;rw [cell_of_row w g _ cur _ _ hg,Array.getElem?_eq_getElem (by omega)];rfl
 obtain ⟨W1,hW1⟩:∃ W1,W1=w.drew.setCells g (0+i*5) news:=⟨_,rfl⟩
 have hW:Hid (W1=w.drew.setCells g (0+i*5) news):=hW1
 -- the row behind the append
 have hrow:∃ c1:Array Value,W1.heap[g]? = some (.cells c1 61 (0,0))∧c1.size=cap*5∧c1.toList.take ((n-1)*5)=filsCells (l.take i++l.drop (i+1))∧w.grownBy W1 (some g):=by
  have hst:=run_storeCells_at Tryz.prog g (i*5) 61 news 0 cur w.drew hg (by rw [hlen];omega) s2;have hst2:=run_storeCells_cells (P:=Tryz.prog) g (i*5) news 0 w.drew (fun j hj=>by have:=(s3 j hj).1;simpa using this) (fun j hj=>by have:=(s3 j hj).2;simpa using this) s2;rw [hst] at hst2;injection hst2 with _ hst2
  have e:W1=w.drew.setRow g (cur.toList.take (i*5)++news++cur.toList.drop (i*5+news.length)).toArray:=by
   rw [hW1];simpa using hst2.symm
  refine ⟨_,by rw [e];exact setRow_heap _ _ _ _ _ _ hg,?_,?_,?_⟩
  ·simp;omega
  ·simp only
   have e1:cur.toList.take (i*5)=filsCells (l.take i):=by
    rw [←filsCells_take (by omega),←ht,List.take_take,Nat.min_eq_left (by omega)]
   rw [e1,filsCells_app,←hnews,List.take_append_of_le_length (by rw [List.length_append,hlen,filsCells_len,List.length_take];omega),List.take_of_length_le (by rw [List.length_append,hlen,filsCells_len,List.length_take];omega)]
  ·rw [e];exact ⟨rfl,rfl,rfl,by simp [World.setRow],fun k hk hne=>setRow_other w.drew g k _ (fun e=>hne (by rw [e]))⟩
 obtain ⟨c1,k1,k2,k3,k4⟩:=hrow;have hcl:=fun ty c=>run_clearF (w:=W1) 31 ty Tryz.underlying31 g ((n-1)*5) c c1 k1 (by omega);obtain ⟨c2,hc2⟩:∃ c2,c2=(c1.toList.take ((n-1)*5)++filCells ⟨[],0,0,0,[]⟩++c1.toList.drop ((n-1)*5+5)).toArray:=⟨_,rfl⟩
 rw [←hc2] at hcl
 have hend:(W1.setRow g c2).ownsRow base 61 5 (.slice (some ⟨g,0,none⟩) (n-1) cap) (n-1) (filsCells (l.take i++l.drop (i+1)))∧w.grownBy (W1.setRow g c2) (some g):=by
  refine ⟨ownsFil_mk hb (setRow_heap _ _ _ _ _ _ k1) (by omega) hcm ?_ (by simp;omega) ?_,?_⟩
  ·rw [hc2];simp [filCells];omega
  ·rw [hc2,List.toList_toArray,List.append_assoc,List.take_append_of_le_length (by simp;omega),List.take_take,Nat.min_self];exact k3
  ·refine ⟨k4.os,k4.tape,k4.output,by simpa [World.setRow] using k4.size,fun k hk hne=>?_⟩;rw [setRow_other W1 g k _ (fun e=>hne (by rw [e]))];exact k4.block k hk hne
 have HEND:=zH hend;have HCL:=zH hcl;have d1:((i:Int) == (i:Int)+1)=false:=by rw [beq_eq_false_iff_ne];omega
 have d2:(i:Int)≤(i:Int)+1:=by omega
 have d3:(i:Int)+1≤(n:Int):=by omega
 have d4:((i:Int)+1).toNat=i+1:=by omega
 have d5:i+(n-(i+1))=n-1:=by omega
 have d6:(0:Int)≤(i:Int)+1:=by omega
 have d7:i≤i+1:=by omega
 have d8:i+1≤n:=by omega
 have d9:n-1≤n:=by omega
 have d10:n-(n-1)=1:=by omega
 have d11:i≤cap:=by omega
 have d12:¬ (cap=n-1):=by omega
 have d13:i≤n:=by omega
 clear hend hcl hc2 k1 k2 k3 k4 hW1 hget hnews hlen ht hsz hown;go_enter Tryz.func76,Tryz.ntmps76;go_wp2_with fail;go_region_law (refine step_append_room rfl (.tmp 22) (.tmp 25) 31 rfl 61 i0 5 Tryz.underlying31 hi0 hz1 g 0 i cap (by simp [Act.eval,Act.put]) A (n-(i+1)) (cap-(i+1)) news (by simp [Act.eval,Act.put]) s1.out hsrc.out s2.out (by omega) s3.out ?_;rw [←hW.out]);have hcl:=zU HCL;go_wp2_with fail;go_ret;exact ⟨rfl,zU HEND⟩
end Go.Proofs.YtjpgoeimclipjaaGreat
namespace Go.Proofs.YtjpgoeimclipjaaGreat
open Go.RowKit Go.Lib Pl
attribute [local go_sem] ext_list app_list
def strS (t:Bytes):Value:=S t
structure OwnA (w:World) (base:Nat) (v1 v2:Value) (a:Arc):Prop where
 s:w.ownsRow base 9 1 v1 a.ds.length (a.ds.map strS)
 f:w.ownsRow base 61 5 v2 a.fs.length (filsCells a.fs)
theorem own_below {w w':World} {base e size n:Nat} {v:Value} {xs:List Value} (h:w.ownsRow base e size v n xs) (hb:Below w.heap.size w w'):w'.ownsRow base e size v n xs:=by
 refine ⟨h.1,?_⟩
 rcases h.2 with hn | ⟨g,cap,cur,rfl,hbb,hgg,rest⟩
 ·exact .inl hn
 ·exact .inr ⟨g,cap,cur,rfl,hbb,(hb.block g (Array.getElem?_eq_some_iff.1 hgg).1).trans hgg,rest⟩
theorem own_mono {w:World} {base b e size n:Nat} {v:Value} {xs:List Value} (h:w.ownsRow base e size v n xs) (hb:b≤base):w.ownsRow b e size v n xs:=by
 refine ⟨h.1,?_⟩
 rcases h.2 with hn | ⟨g,cap,cur,rfl,hbb,rest⟩
 ·exact .inl hn
 ·exact .inr ⟨g,cap,cur,rfl,Nat.le_trans hb hbb,rest⟩
theorem OwnA.below {w w':World} {base:Nat} {v1 v2:Value} {a:Arc} (h:OwnA w base v1 v2 a) (hb:Below w.heap.size w w'):OwnA w' base v1 v2 a:=⟨own_below h.s hb,own_below h.f hb⟩
theorem OwnA.mono {w:World} {base b:Nat} {v1 v2:Value} {a:Arc} (h:OwnA w base v1 v2 a) (hb:b≤base):OwnA w b v1 v2 a:=⟨own_mono h.s hb,own_mono h.f hb⟩
theorem OwnA.nil (w:World) (base:Nat):OwnA w base (.slice none 0 0) (.slice none 0 0) arc0:=⟨World.ownsRow_nil _ _ _ _,World.ownsRow_nil _ _ _ _⟩
theorem strsAt_of_own {w:World} {base n:Nat} {v:Value} {l:List Bytes} (h:w.ownsRow base 9 1 v n (l.map strS)):∃ A cap,v = .slice A n cap∧StrsAt w w.heap.size A n l∧l.length=n:=by
 have hn:l.length=n:=by have:=h.1;simpa using this
 rcases h.2 with ⟨rfl,h0⟩ | ⟨g,cap,cur,rfl,hb,hg,_⟩
 ·subst h0;exact ⟨_,_,rfl,⟨hn,fun h=>absurd h (by omega)⟩,hn⟩
 ·refine ⟨_,_,rfl,⟨hn,fun _=>⟨g,0,rfl,(Array.getElem?_eq_some_iff.1 hg).1,fun i t hi=>?_⟩⟩,hn⟩;have:=h.cells (g:=g) rfl i (S t) (by rw [List.getElem?_map,hi];rfl)
  rwa [Addr.add_lit] at this
theorem OwnA.form {w:World} {base:Nat} {v1 v2:Value} {a:Arc} (h:OwnA w base v1 v2 a):∃ A cap A2 cap2,v1 = .slice A a.ds.length cap∧v2 = .slice A2 a.fs.length cap2∧ArcIn w A a.ds.length A2 a.fs.length a:=by
 obtain ⟨A,cap,e1,h1,_⟩:=strsAt_of_own h.s;obtain ⟨A2,cap2,e2,h2,_⟩:=filsAt_of_own h.f;exact ⟨A,cap,A2,cap2,e1,e2,⟨h1,h2⟩⟩
def ArcRes (base:Nat) (r:Arc×Nat) (e:Ending) (w':World):Prop:=∃ v1 v2,e = .returned (.tuple #[.agg #[v1,v2],I r.2])∧OwnA w' base v1 v2 r.1
theorem sizeArc:(Tryz.prog.info? 33).map (·.size)=some 2:=by kernel_rfl
theorem sizeFil:(Tryz.prog.info? 61).map (·.size)=some 5:=by kernel_rfl
theorem all_nil2:(#[Value.slice none 0 0,Value.slice none 0 0]:Array Value).all (·.oneCell')=true:=all_oneCell_toArray (cs:=[.slice none 0 0,.slice none 0 0]) (by intro v hv;simp at hv;subst hv;rfl)
theorem cloneStr_any (A:Option Addr) (n cap:Nat) (l:List Bytes) (w:World) (hl:StrsAt w w.heap.size A n l) (hn:n≤1000000) :
  Calls Tryz.prog 105 #[.slice A n cap] w fun e w'=>∃ v,e = .returned v∧w'.ownsRow w.heap.size 9 1 v n (l.map strS)∧Below w.heap.size w w':=by
 have hln:=hl.1
 rcases Nat.eq_zero_or_pos n with h0 | h0
 ·subst h0;obtain rfl:l=[]:=List.eq_nil_of_length_eq_zero hln;cases A with
  | none =>
   refine (Tryz.slices_Clone_string_nil 0 cap w).mono ?_;rintro e w' ⟨rfl,rfl⟩;exact ⟨_,rfl,World.ownsRow_nil _ _ _ _,Below.refl _ _⟩
  | some ad =>
   refine (Tryz.slices_Clone_string_zero ad cap w).mono ?_;rintro e w' ⟨v,rfl,h1,_,h2⟩;exact ⟨v,rfl,h1,h2⟩
 ·obtain ⟨b,off,rfl,hb,hc⟩:=hl.2 h0;refine (Tryz.slices_Clone_string b off n cap (l.map fun t=>⟨t.toArray⟩) w (by simp;omega) (by omega) (fun j hj=>?_)).mono ?_
  ·have hj2:j<l.length:=by simpa using hj
   rw [hc j _ (List.getElem?_eq_getElem hj2),List.getD_eq_getElem?_getD,List.getElem?_map,List.getElem?_eq_getElem hj2];rfl
  ·rintro e w' ⟨v,rfl,h1,_,h2⟩;refine ⟨v,rfl,?_,h2⟩;rw [List.take_of_length_le (by simp;omega),List.map_map] at h1;exact h1
structure AR (A:Option Addr) (n cap:Nat) (A2:Option Addr) (n2 cap2:Nat) (a:Arc) (w W:World) (B:Nat):Prop where
 ab:ABox A n cap A2 n2 cap2 a w W B
 z:W.heap[B+1]? = some (.cells #[.slice none 0 0,.slice none 0 0] 33 (0,0))
theorem AR.lt {A A2:Option Addr} {n cap n2 cap2:Nat} {a:Arc} {w W:World} {B:Nat} (h:AR A n cap A2 n2 cap2 a w W B):B+1<W.heap.size:=(Array.getElem?_eq_some_iff.1 h.z).1
theorem AR.below {A A2:Option Addr} {n cap n2 cap2:Nat} {a:Arc} {w W W1:World} {B:Nat} (h:AR A n cap A2 n2 cap2 a w W B) (hb:Below W.heap.size W W1):AR A n cap A2 n2 cap2 a w W1 B:=⟨h.ab.below hb,(hb.block _ h.lt).trans h.z⟩
theorem AR.new {A A2:Option Addr} {n n2:Nat} {a:Arc} {w:World} (h:ArcIn w A n A2 n2 a) (cap cap2:Nat):AR A n cap A2 n2 cap2 a w ((w.alloc (.cells #[.slice A n cap,.slice A2 n2 cap2] 33)).alloc (.cells #[.slice none 0 0,.slice none 0 0] 33)) w.heap.size :=
 ⟨(ABox.new h cap cap2).below ((Below.refl _ _).alloc (Nat.le_refl _) _),by have:=heap_alloc_new (w.alloc (.cells #[.slice A n cap,.slice A2 n2 cap2] 33)) (.cells #[.slice none 0 0,.slice none 0 0] 33);simpa using this⟩
theorem AR.end_ {A A2:Option Addr} {n cap n2 cap2:Nat} {a:Arc} {w W:World} {B:Nat} (h:AR A n cap A2 n2 cap2 a w W B) (c:Array Value):(W.setRow (B+1) c).heap[B+1]? = some (.cells c 33 (0,0))∧Below B w (W.setRow (B+1) c) :=
 ⟨setRow_heap _ _ _ _ _ _ h.z,below_setRow h.ab.bel (by omega) _⟩
end Go.Proofs.YtjpgoeimclipjaaGreat
namespace Go.Proofs.YtjpgoeimclipjaaGreat
open Go.RowKit Go.Lib Pl
attribute [local go_sem] ext_list app_list
theorem set_two {W:World} {p:Nat} {x y:Value} {T:TypeId} (h:W.heap[p]? = some (.cells #[x,y] T (0,0))) (u v:Value):(W.setCell ⟨p,0,none⟩ u).setCell ⟨p,1,none⟩ v=W.setRow p #[u,v]:=by
 rw [setCell_eq_setRow W p 0 #[x,y] T (0,0) u h,setCell_eq_setRow _ p 1 (#[x,y].setIfInBounds 0 u) T (0,0) v (setRow_heap _ _ _ _ _ _ h),setRow_setRow];rfl
theorem two_cells {W:World} {p:Nat} {x y:Value} {T:TypeId} (h:W.heap[p]? = some (.cells #[x,y] T (0,0))):W.cell? ⟨p,0,none⟩=some x∧W.cell? ⟨p,1,none⟩=some y∧W.frozen? ⟨p,0,none⟩=false∧W.frozen? ⟨p,1,none⟩=false:=by
 refine ⟨by rw [cell_of_row _ _ _ _ _ _ h];rfl,by rw [cell_of_row _ _ _ _ _ _ h];rfl,by simp [World.frozen?,h],by simp [World.frozen?,h]⟩
structure CopK (A:Option Addr) (n cap:Nat) (A2:Option Addr) (n2 cap2:Nat) (B N:Nat) (w0 W:World):Prop where
 a:W.cell? ⟨B,0,none⟩=some (.slice A n cap)
 b:W.cell? ⟨B,1,none⟩=some (.slice A2 n2 cap2)
 c:W.cell? ⟨B+1,0,none⟩=some (.slice none 0 0)
 d:W.cell? ⟨B+1,1,none⟩=some (.slice none 0 0)
 e:W.frozen? ⟨B+1,0,none⟩=false
 f:W.frozen? ⟨B+1,1,none⟩=false
 g:Below N w0 W
set_option maxHeartbeats 4000000 in
set_option maxRecDepth 100000 in
theorem copied_any (A:Option Addr) (n cap:Nat) (A2:Option Addr) (n2 cap2:Nat) (a:Arc) (w:World) (h:ArcIn w A n A2 n2 a) (hn:n≤1000000) (hn2:n2≤1000000) :
  Calls Tryz.prog 72 #[arcV A n cap A2 n2 cap2] w fun e w'=>∃ v1 v2,e = .returned (.agg #[v1,v2])∧OwnA w' w.heap.size v1 v2 a∧Below w.heap.size w w':=by
 obtain ⟨B,hB⟩:∃ B,B=w.heap.size:=⟨_,rfl⟩
 obtain ⟨w0,hw0⟩:∃ w0,w0=(w.alloc (.cells #[.slice A n cap,.slice A2 n2 cap2] 33)).alloc (.cells #[.slice none 0 0,.slice none 0 0] 33):=⟨_,rfl⟩
 obtain ⟨N,hN⟩:∃ N,N=w0.heap.size:=⟨_,rfl⟩
 have hBN:B≤N:=by rw [hN,hw0,hB];simp;omega
 have h0:AR A n cap A2 n2 cap2 a w w0 B:=by rw [hw0,hB];exact AR.new h cap cap2
 have kf:∀ W,Below N w0 W→AR A n cap A2 n2 cap2 a w W B:=fun W hW=>h0.below (by rw [←hN];exact hW)
 have kk:∀ W,Below N w0 W→CopK A n cap A2 n2 cap2 B N w0 W:=fun W hW=>by
  have k:=kf W hW;obtain ⟨k1,k2⟩:=k.ab.c;obtain ⟨k3,k4,k5,k6⟩:=two_cells k.z;exact ⟨k1,k2,k3,k4,k5,k6,hW⟩
 have CS:∀ W,Below N w0 W→Calls Tryz.prog 105 #[.slice A n cap] W fun e w'=>∃ A' cap',e = .returned (.slice A' n cap')∧w'.ownsRow B 9 1 (.slice A' n cap') n (a.ds.map strS)∧Below W.heap.size W w'∧CopK A n cap A2 n2 cap2 B N w0 w':=fun W hW=>by
  have k:=kf W hW;refine (cloneStr_any A n cap a.ds W k.ab.i.s hn).mono ?_;rintro e w' ⟨v,he,h1,h2⟩;obtain ⟨A',cap',rfl,_⟩:=strsAt_of_own h1;exact ⟨A',cap',he,own_mono h1 (Nat.le_of_lt k.ab.lt),h2,kk _ (hW.trans (h2.mono (by have:=hW.size;omega)))⟩
 have CF:∀ W,Below N w0 W→Calls Tryz.prog 89 #[.slice A2 n2 cap2] W fun e w'=>∃ A' cap',e = .returned (.slice A' n2 cap')∧w'.ownsRow B 61 5 (.slice A' n2 cap') n2 (filsCells a.fs)∧Below W.heap.size W w'∧CopK A n cap A2 n2 cap2 B N w0 w':=fun W hW=>by
  have k:=kf W hW;refine (cloneFil_any A2 n2 cap2 a.fs W k.ab.i.f hn2).mono ?_;rintro e w' ⟨v,he,h1,h2⟩;obtain ⟨A',cap',rfl,_⟩:=filsAt_of_own h1;exact ⟨A',cap',he,own_mono h1 (Nat.le_of_lt k.ab.lt),h2,kk _ (hW.trans (h2.mono (by have:=hW.size;omega)))⟩
 have e0:Below N w0 w0.drew:=by rw [hN];exact (Below.refl _ _).drew
 have fin:∀ (W:World) (v1 v2:Value),Below N w0 W→W.ownsRow B 9 1 v1 n (a.ds.map strS)→W.ownsRow B 61 5 v2 n2 (filsCells a.fs)→(W.setCell ⟨B+1,0,none⟩ v1).setCell ⟨B+1,1,none⟩ v2=W.setRow (B+1) #[v1,v2]∧(W.setRow (B+1) #[v1,v2]).heap[B+1]? = some (.cells #[v1,v2] 33 (0,0))∧OwnA (W.setRow (B+1) #[v1,v2]) B v1 v2 a∧Below B w (W.setRow (B+1) #[v1,v2]):=fun W v1 v2 hW o1 o2=>by
  have k:=kf W hW
  have hne:∀ {e size m:Nat} {v:Value} {xs:List Value},W.ownsRow B e size v m xs→e≠33→(W.setRow (B+1) #[v1,v2]).ownsRow B e size v m xs:=by
   intro e size m v xs ho hne;refine ⟨ho.1,?_⟩
   rcases ho.2 with hn | ⟨g,cap,cur,rfl,hb,hg,rest⟩
   ·exact .inl hn
   ·refine .inr ⟨g,cap,cur,rfl,hb,?_,rest⟩;rw [setRow_other W (B+1) g _ (fun e2=>?_)]
    ·exact hg
    ·subst e2;rw [k.z] at hg;injection hg with hg
     injection hg with _ hg
     exact hne hg.symm
  refine ⟨set_two k.z v1 v2,(k.end_ _).1,⟨?_,?_⟩,(k.end_ _).2⟩
  ·rw [h.s.1];exact hne o1 (by decide)
  ·rw [h.f.1];exact hne o2 (by decide)
 have HB:=zH hB;have HW0:=zH hw0;have CS:=zH CS;have CF:=zH CF;have E0:=zH e0;have FIN:=zH fin;have k0:=kk _ (by rw [hN];exact Below.refl _ _:Below N w0 w0);clear hB hw0 kk kf h h0 e0 fin hBN hN;rw [←zU HB];go_enter Tryz.func72,Tryz.ntmps72;go_upto_region 1 with fail
 rw [←zU HW0,←zU HB];obtain ⟨a0,a1,a2,a3,a4,a5,a6⟩:=k0
 go_region_with (first
  | (go_at_call 105;refine (zU CS _ (by first | assumption | exact zU E0)).mono ?_;rintro e wS ⟨A',cap',rfl,hs1,hs2,⟨s0,s1,s2,s3,s4,s5,s6⟩⟩;have HS1:=zH hs1;have HS2:=zH hs2;clear hs1 hs2)
  | (go_at_call 89;refine (zU CF _ (by first | assumption | exact zU E0)).mono ?_;rintro e wF ⟨A2',cap2',rfl,hf1,hf2,⟨f0,f1,f2,f3,f4,f5,f6⟩⟩;have HF1:=zH hf1;have HF2:=zH hf2;clear hf1 hf2))
 all_goals
  first
   | (obtain ⟨g1,g2,g3,g4⟩:=zU FIN wF _ _ f6 (own_below (zU HS1) (zU HF2)) (zU HF1))
   | (obtain ⟨g1,g2,g3,g4⟩:=zU FIN wS _ _ s6 (zU HS1) (own_below (zU HF1) (zU HS2)))
  rw [g1];go_wp2_with fail;refine bodyPost_ret (results_cell_row rfl _ _ (B+1) 33 _ (0,0) _ rfl g2 Tryz.underlying33 rfl sizeArc) rfl ⟨_,_,rfl,g3,g4⟩
end Go.Proofs.YtjpgoeimclipjaaGreat
namespace Go.Proofs.YtjpgoeimclipjaaGreat
open Go.RowKit Go.Lib Pl
attribute [local go_sem] ext_list app_list
theorem free_row (w:World) (b i:Nat) (c:Array Value) (t:TypeId) (h:w.heap[b]? = some (.cells c t (0,0))):w.frozen? ⟨b,i,none⟩=false:=by simp [World.frozen?,h]
theorem after_grown {w w1:World} {base M n k:Nat} {o:Obj} {cs:Array Value} {fz:Nat×Nat} {v:Value} {xs:List Value} (hblk:w.heap[M]? = some (.cells cs 225 fz)) (hown:OwnM w base 5 1 v n xs)
  (hg:((w.alloc o).drewN k).drew.grownBy w1 v.ownBlock):w1.heap[M]? = some (.cells cs 225 fz):=by
 have hlt:M<w.heap.size:=(Array.getElem?_eq_some_iff.1 hblk).1
 have h1:M<((w.alloc o).drewN k).drew.heap.size:=by
  show M<(w.alloc o).heap.size;simp;omega
 exact (hg.block M h1 (fun e=>mk_far hblk hown e.symm)).trans ((Below.heap_alloc w o M hlt).trans hblk)
theorem below_drew_alloc (w:World) (o:Obj) (k:Nat):Below w.heap.size w ((w.alloc o).drewN k).drew:=(_root_.Go.below_drewN ((Below.refl _ _).alloc (Nat.le_refl _) o) k).drew
set_option maxHeartbeats 1000000 in
set_option maxRecDepth 100000 in
theorem tok_litok (base M d:Nat) (lit:Bool) (s l:Bytes) (far len:Int) (w:World) (hM:Mk w base M d lit s) (hd:d≤s.length) (hs:s.length≤d+512) (hd2:d≤256)
  (hl:l≠[]) (h0:far=0∧len=0∧lit=false) (hr:l.length+(s.length-d)≤512) :
  Calls Tryz.prog 181 #[.pointer (some ⟨M,0,none⟩),.agg #[S l,I far,I len]] w fun e w'=>e = .returned (I 0)∧Mk w' base M d true (s++l)∧Below base w w'∧Keeps badMk w w':=by
 obtain ⟨hbM,A,cap,hblk,hown⟩:=hM;obtain ⟨rfl,rfl,rfl⟩:=h0;have hlt:M<w.heap.size:=(Array.getElem?_eq_some_iff.1 hblk).1;have c0:w.cell? ⟨M,0,none⟩=some (.slice A s.length cap):=by rw [cell_of_row w M 0 _ _ _ hblk];rfl
 have c1:w.cell? ⟨M,1,none⟩=some (.int .i64 d):=by rw [cell_of_row w M 1 _ _ _ hblk];rfl
 have c2:w.cell? ⟨M,2,none⟩=some (.bool false):=by rw [cell_of_row w M 2 _ _ _ hblk];rfl
 have f0:w.frozen? ⟨M,0,none⟩=false:=by simp [World.frozen?,hblk]
 have f2:w.frozen? ⟨M,2,none⟩=false:=by simp [World.frozen?,hblk]
 have hl1:l.isEmpty=false:=by simpa using hl
 have hl2:(l == [])=false:=by simpa using hl
 have hk1:(0:Int)≤(s.length:Int)-(d:Int):=by omega
 have hk2:(s.length:Int)-(d:Int)≤512:=by omega
 have hbH:base≤w.heap.size:=by omega
 have hk3:(l.length:Int)≤512-((s.length:Int)-(d:Int)):=by omega
 obtain ⟨i0,hi0,hz0,hz1,hz2⟩:=info_parts info_u8;have hB:=zH hblk;have hO:=zH hown;clear hblk hown hl;go_enter Tryz.func181,Tryz.ntmps181;go_wp2_with fail;go_quiet (fail);go_wp2_with fail;go_region_law (refine step_append_M_string rfl _ _ _ _ rfl base 5 i0 Tryz.underlying77 Tryz.underlying9 hi0 hz0 hz1 hz2 _ s.length (s.map B) rfl (by first | exact ((zU hO).alloc _).drew | exact (((zU hO).alloc _).drewN _) | exact (((zU hO).alloc _).drewN _).drew) ⟨l.toArray⟩ rfl (by show s.length+l.length≤9223372036854775807;omega) (by show s.length+l.length≤140737488355328;omega) (by show base≤(w.alloc _).heap.size;simp;omega) ?_;intro A1 cap1 w1 hown1 hgrow1 hat1;have hm1:=after_grown (zU hB) (zU hO) hgrow1;have c0':=cell_of_row w1 M 0 _ _ _ hm1;have c2':=cell_of_row w1 M 2 _ _ _ hm1;simp at c0' c2';have f0':=free_row w1 M 0 _ _ hm1;have f2':=free_row w1 M 2 _ _ hm1)
 all_goals
  go_wp2_with fail;go_ret;refine ⟨rfl,?_⟩;rw [strCells_list,←List.map_append] at hown1;refine mk_end hbM (zU hB) (zU hO) (below_drew_alloc w _ _) hown1 hgrow1 ?_ (fun k hk=>?_) (by rw [size_setCell,size_setCell]) rfl rfl rfl
  ·rw [set_row (set_row hm1 _ _) _ _];rfl
  ·rw [Below.heap_setCell _ _ _ _ hk,Below.heap_setCell _ _ _ _ hk]
set_option maxHeartbeats 1000000 in
set_option maxRecDepth 100000 in
theorem tok_form1 (base M d:Nat) (lit:Bool) (s:Bytes) (l:Bytes) (far len:Int) (w:World) (hM:Mk w base M d lit s) (hd:d≤s.length) (hs:s.length≤d+512)
  (hl:l≠[]) (h0:far≠0) :
  Calls Tryz.prog 181 #[.pointer (some ⟨M,0,none⟩),.agg #[S l,I far,I len]] w fun e w'=>e = .returned (I 1)∧Below base w w'∧Keeps badMk w w':=by
 obtain ⟨hbM,A,cap,hblk,hown⟩:=hM;have hlt:M<w.heap.size:=(Array.getElem?_eq_some_iff.1 hblk).1;have c0:w.cell? ⟨M,0,none⟩=some (.slice A s.length cap):=by rw [cell_of_row w M 0 _ _ _ hblk];rfl
 have c1:w.cell? ⟨M,1,none⟩=some (.int .i64 d):=by rw [cell_of_row w M 1 _ _ _ hblk];rfl
 have c2:w.cell? ⟨M,2,none⟩=some (.bool lit):=by rw [cell_of_row w M 2 _ _ _ hblk];rfl
 have hk1:(0:Int)≤(s.length:Int)-(d:Int):=by omega
 have hk2:(s.length:Int)-(d:Int)≤512:=by omega
 have hbH:base≤w.heap.size:=by omega
 have hl1:l.isEmpty=false:=by simpa using hl
 have hl2:(l == [])=false:=by simpa using hl
 clear hl;have h1:(far == 0)=false:=beq_eq_false_iff_ne.2 h0;have h2:(far != 0)=true:=by rw [bne_iff_ne];exact h0
 clear h0;clear hblk hown;go_enter Tryz.func181,Tryz.ntmps181;go_wp2_with fail;go_quiet (fail);go_wp2_with fail;go_ret
 first | exact ⟨rfl,_root_.Go.below_drewN ((Below.refl _ _).alloc hbH _) _,((Keeps.refl _ _).alloc _).drewN _⟩ | exact ⟨rfl,_root_.Go.below_drewN (_root_.Go.below_drewN ((Below.refl _ _).alloc hbH _) _) _,(((Keeps.refl _ _).alloc _).drewN _).drewN _⟩
set_option maxHeartbeats 1000000 in
set_option maxRecDepth 100000 in
theorem tok_form2 (base M d:Nat) (lit:Bool) (s:Bytes) (l:Bytes) (far len:Int) (w:World) (hM:Mk w base M d lit s) (hd:d≤s.length) (hs:s.length≤d+512)
  (hl:l≠[]) (h0:far=0) (h9:len≠0) :
  Calls Tryz.prog 181 #[.pointer (some ⟨M,0,none⟩),.agg #[S l,I far,I len]] w fun e w'=>e = .returned (I 1)∧Below base w w'∧Keeps badMk w w':=by
 obtain ⟨hbM,A,cap,hblk,hown⟩:=hM;have hlt:M<w.heap.size:=(Array.getElem?_eq_some_iff.1 hblk).1;have c0:w.cell? ⟨M,0,none⟩=some (.slice A s.length cap):=by rw [cell_of_row w M 0 _ _ _ hblk];rfl
 have c1:w.cell? ⟨M,1,none⟩=some (.int .i64 d):=by rw [cell_of_row w M 1 _ _ _ hblk];rfl
 have c2:w.cell? ⟨M,2,none⟩=some (.bool lit):=by rw [cell_of_row w M 2 _ _ _ hblk];rfl
 have hk1:(0:Int)≤(s.length:Int)-(d:Int):=by omega
 have hk2:(s.length:Int)-(d:Int)≤512:=by omega
 have hbH:base≤w.heap.size:=by omega
 have hl1:l.isEmpty=false:=by simpa using hl
 have hl2:(l == [])=false:=by simpa using hl
 clear hl;subst h0;have h1:(len == 0)=false:=beq_eq_false_iff_ne.2 h9;have h2:(len != 0)=true:=by rw [bne_iff_ne];exact h9
 clear h9;clear hblk hown;go_enter Tryz.func181,Tryz.ntmps181;go_wp2_with fail;go_quiet (fail);go_wp2_with fail;go_ret
 first | exact ⟨rfl,_root_.Go.below_drewN ((Below.refl _ _).alloc hbH _) _,((Keeps.refl _ _).alloc _).drewN _⟩ | exact ⟨rfl,_root_.Go.below_drewN (_root_.Go.below_drewN ((Below.refl _ _).alloc hbH _) _) _,(((Keeps.refl _ _).alloc _).drewN _).drewN _⟩
set_option maxHeartbeats 1000000 in
set_option maxRecDepth 100000 in
theorem tok_form3 (base M d:Nat) (lit:Bool) (s:Bytes) (l:Bytes) (far len:Int) (w:World) (hM:Mk w base M d lit s) (hd:d≤s.length) (hs:s.length≤d+512)
  (hl:l≠[]) (h0:far=0) (h9:len=0) (h8:lit=true) :
  Calls Tryz.prog 181 #[.pointer (some ⟨M,0,none⟩),.agg #[S l,I far,I len]] w fun e w'=>e = .returned (I 1)∧Below base w w'∧Keeps badMk w w':=by
 obtain ⟨hbM,A,cap,hblk,hown⟩:=hM;have hlt:M<w.heap.size:=(Array.getElem?_eq_some_iff.1 hblk).1;have c0:w.cell? ⟨M,0,none⟩=some (.slice A s.length cap):=by rw [cell_of_row w M 0 _ _ _ hblk];rfl
 have c1:w.cell? ⟨M,1,none⟩=some (.int .i64 d):=by rw [cell_of_row w M 1 _ _ _ hblk];rfl
 have c2:w.cell? ⟨M,2,none⟩=some (.bool lit):=by rw [cell_of_row w M 2 _ _ _ hblk];rfl
 have hk1:(0:Int)≤(s.length:Int)-(d:Int):=by omega
 have hk2:(s.length:Int)-(d:Int)≤512:=by omega
 have hbH:base≤w.heap.size:=by omega
 have hl1:l.isEmpty=false:=by simpa using hl
 have hl2:(l == [])=false:=by simpa using hl
 clear hl;subst h0 h9 h8;clear hblk hown;go_enter Tryz.func181,Tryz.ntmps181;go_wp2_with fail;go_quiet (fail);go_wp2_with fail;go_ret
 first | exact ⟨rfl,_root_.Go.below_drewN ((Below.refl _ _).alloc hbH _) _,((Keeps.refl _ _).alloc _).drewN _⟩ | exact ⟨rfl,_root_.Go.below_drewN (_root_.Go.below_drewN ((Below.refl _ _).alloc hbH _) _) _,(((Keeps.refl _ _).alloc _).drewN _).drewN _⟩
set_option maxHeartbeats 1000000 in
set_option maxRecDepth 100000 in
theorem tok_many (base M d:Nat) (lit:Bool) (s:Bytes) (l:Bytes) (far len:Int) (w:World) (hM:Mk w base M d lit s) (hd:d≤s.length) (hs:s.length≤d+512)
  (hl:l≠[]) (h0:far=0) (h9:len=0) (h8:lit=false) (hr:512<l.length+(s.length-d)) :
  Calls Tryz.prog 181 #[.pointer (some ⟨M,0,none⟩),.agg #[S l,I far,I len]] w fun e w'=>e = .returned (I 2)∧Below base w w'∧Keeps badMk w w':=by
 obtain ⟨hbM,A,cap,hblk,hown⟩:=hM;have hlt:M<w.heap.size:=(Array.getElem?_eq_some_iff.1 hblk).1;have c0:w.cell? ⟨M,0,none⟩=some (.slice A s.length cap):=by rw [cell_of_row w M 0 _ _ _ hblk];rfl
 have c1:w.cell? ⟨M,1,none⟩=some (.int .i64 d):=by rw [cell_of_row w M 1 _ _ _ hblk];rfl
 have c2:w.cell? ⟨M,2,none⟩=some (.bool lit):=by rw [cell_of_row w M 2 _ _ _ hblk];rfl
 have hk1:(0:Int)≤(s.length:Int)-(d:Int):=by omega
 have hk2:(s.length:Int)-(d:Int)≤512:=by omega
 have hbH:base≤w.heap.size:=by omega
 have hl1:l.isEmpty=false:=by simpa using hl
 have hl2:(l == [])=false:=by simpa using hl
 clear hl;subst h0 h9 h8;have hk3:512-((s.length:Int)-(d:Int))<(l.length:Int):=by omega
 clear hblk hown;go_enter Tryz.func181,Tryz.ntmps181;go_wp2_with fail;go_quiet (fail);go_wp2_with fail;go_ret
 first | exact ⟨rfl,_root_.Go.below_drewN ((Below.refl _ _).alloc hbH _) _,((Keeps.refl _ _).alloc _).drewN _⟩ | exact ⟨rfl,_root_.Go.below_drewN (_root_.Go.below_drewN ((Below.refl _ _).alloc hbH _) _) _,(((Keeps.refl _ _).alloc _).drewN _).drewN _⟩
set_option maxHeartbeats 1000000 in
set_option maxRecDepth 100000 in
theorem tok_copy1 (base M d:Nat) (lit:Bool) (s:Bytes) (l:Bytes) (far len:Int) (w:World) (hM:Mk w base M d lit s) (hd:d≤s.length) (hs:s.length≤d+512)
  (hl:l=[]) (h0:len<3) :
  Calls Tryz.prog 181 #[.pointer (some ⟨M,0,none⟩),.agg #[S l,I far,I len]] w fun e w'=>e = .returned (I 1)∧Below base w w'∧Keeps badMk w w':=by
 obtain ⟨hbM,A,cap,hblk,hown⟩:=hM;have hlt:M<w.heap.size:=(Array.getElem?_eq_some_iff.1 hblk).1;have c0:w.cell? ⟨M,0,none⟩=some (.slice A s.length cap):=by rw [cell_of_row w M 0 _ _ _ hblk];rfl
 have c1:w.cell? ⟨M,1,none⟩=some (.int .i64 d):=by rw [cell_of_row w M 1 _ _ _ hblk];rfl
 have c2:w.cell? ⟨M,2,none⟩=some (.bool lit):=by rw [cell_of_row w M 2 _ _ _ hblk];rfl
 have hk1:(0:Int)≤(s.length:Int)-(d:Int):=by omega
 have hk2:(s.length:Int)-(d:Int)≤512:=by omega
 have hbH:base≤w.heap.size:=by omega
 subst hl;have e1:decide (len<3)=true:=by simpa using h0
 clear hblk hown;go_enter Tryz.func181,Tryz.ntmps181;go_wp2_with fail;go_quiet (fail);go_wp2_with fail;go_quiet (fail);go_wp2_with fail;go_ret
 first | exact ⟨rfl,_root_.Go.below_drewN ((Below.refl _ _).alloc hbH _) _,((Keeps.refl _ _).alloc _).drewN _⟩ | exact ⟨rfl,_root_.Go.below_drewN (_root_.Go.below_drewN ((Below.refl _ _).alloc hbH _) _) _,(((Keeps.refl _ _).alloc _).drewN _).drewN _⟩
set_option maxHeartbeats 1000000 in
set_option maxRecDepth 100000 in
theorem tok_copy2 (base M d:Nat) (lit:Bool) (s:Bytes) (l:Bytes) (far len:Int) (w:World) (hM:Mk w base M d lit s) (hd:d≤s.length) (hs:s.length≤d+512)
  (hl:l=[]) (h0:64<len) :
  Calls Tryz.prog 181 #[.pointer (some ⟨M,0,none⟩),.agg #[S l,I far,I len]] w fun e w'=>e = .returned (I 1)∧Below base w w'∧Keeps badMk w w':=by
 obtain ⟨hbM,A,cap,hblk,hown⟩:=hM;have hlt:M<w.heap.size:=(Array.getElem?_eq_some_iff.1 hblk).1;have c0:w.cell? ⟨M,0,none⟩=some (.slice A s.length cap):=by rw [cell_of_row w M 0 _ _ _ hblk];rfl
 have c1:w.cell? ⟨M,1,none⟩=some (.int .i64 d):=by rw [cell_of_row w M 1 _ _ _ hblk];rfl
 have c2:w.cell? ⟨M,2,none⟩=some (.bool lit):=by rw [cell_of_row w M 2 _ _ _ hblk];rfl
 have hk1:(0:Int)≤(s.length:Int)-(d:Int):=by omega
 have hk2:(s.length:Int)-(d:Int)≤512:=by omega
 have hbH:base≤w.heap.size:=by omega
 subst hl;have e1:decide (len<3)=false:=by simp;omega
 have e2:decide (64<len)=true:=by simpa using h0
 clear hblk hown;go_enter Tryz.func181,Tryz.ntmps181;go_wp2_with fail;go_quiet (fail);go_wp2_with fail;go_quiet (fail);go_wp2_with fail;go_ret
 first | exact ⟨rfl,_root_.Go.below_drewN ((Below.refl _ _).alloc hbH _) _,((Keeps.refl _ _).alloc _).drewN _⟩ | exact ⟨rfl,_root_.Go.below_drewN (_root_.Go.below_drewN ((Below.refl _ _).alloc hbH _) _) _,(((Keeps.refl _ _).alloc _).drewN _).drewN _⟩
set_option maxHeartbeats 1000000 in
set_option maxRecDepth 100000 in
theorem tok_copy3 (base M d:Nat) (lit:Bool) (s:Bytes) (l:Bytes) (far len:Int) (w:World) (hM:Mk w base M d lit s) (hd:d≤s.length) (hs:s.length≤d+512)
  (hl:l=[]) (h0:3≤len) (h1:len≤64) (h2:far<1) :
  Calls Tryz.prog 181 #[.pointer (some ⟨M,0,none⟩),.agg #[S l,I far,I len]] w fun e w'=>e = .returned (I 1)∧Below base w w'∧Keeps badMk w w':=by
 obtain ⟨hbM,A,cap,hblk,hown⟩:=hM;have hlt:M<w.heap.size:=(Array.getElem?_eq_some_iff.1 hblk).1;have c0:w.cell? ⟨M,0,none⟩=some (.slice A s.length cap):=by rw [cell_of_row w M 0 _ _ _ hblk];rfl
 have c1:w.cell? ⟨M,1,none⟩=some (.int .i64 d):=by rw [cell_of_row w M 1 _ _ _ hblk];rfl
 have c2:w.cell? ⟨M,2,none⟩=some (.bool lit):=by rw [cell_of_row w M 2 _ _ _ hblk];rfl
 have hk1:(0:Int)≤(s.length:Int)-(d:Int):=by omega
 have hk2:(s.length:Int)-(d:Int)≤512:=by omega
 have hbH:base≤w.heap.size:=by omega
 subst hl;have e1:decide (len<3)=false:=by simp;omega
 have e2:decide (64<len)=false:=by simp;omega
 have e3:decide (far<1)=true:=by simpa using h2
 clear hblk hown;go_enter Tryz.func181,Tryz.ntmps181;go_wp2_with fail;go_quiet (fail);go_wp2_with fail;go_quiet (fail);go_wp2_with fail;go_ret
 first | exact ⟨rfl,_root_.Go.below_drewN ((Below.refl _ _).alloc hbH _) _,((Keeps.refl _ _).alloc _).drewN _⟩ | exact ⟨rfl,_root_.Go.below_drewN (_root_.Go.below_drewN ((Below.refl _ _).alloc hbH _) _) _,(((Keeps.refl _ _).alloc _).drewN _).drewN _⟩
set_option maxHeartbeats 1000000 in
set_option maxRecDepth 100000 in
theorem tok_copy4 (base M d:Nat) (lit:Bool) (s:Bytes) (l:Bytes) (far len:Int) (w:World) (hM:Mk w base M d lit s) (hd:d≤s.length) (hs:s.length≤d+512)
  (hl:l=[]) (h0:3≤len) (h1:len≤64) (h2:1≤far) (h3:(s.length:Int)<far) :
  Calls Tryz.prog 181 #[.pointer (some ⟨M,0,none⟩),.agg #[S l,I far,I len]] w fun e w'=>e = .returned (I 1)∧Below base w w'∧Keeps badMk w w':=by
 obtain ⟨hbM,A,cap,hblk,hown⟩:=hM;have hlt:M<w.heap.size:=(Array.getElem?_eq_some_iff.1 hblk).1;have c0:w.cell? ⟨M,0,none⟩=some (.slice A s.length cap):=by rw [cell_of_row w M 0 _ _ _ hblk];rfl
 have c1:w.cell? ⟨M,1,none⟩=some (.int .i64 d):=by rw [cell_of_row w M 1 _ _ _ hblk];rfl
 have c2:w.cell? ⟨M,2,none⟩=some (.bool lit):=by rw [cell_of_row w M 2 _ _ _ hblk];rfl
 have hk1:(0:Int)≤(s.length:Int)-(d:Int):=by omega
 have hk2:(s.length:Int)-(d:Int)≤512:=by omega
 have hbH:base≤w.heap.size:=by omega
 subst hl;have e1:decide (len<3)=false:=by simp;omega
 have e2:decide (64<len)=false:=by simp;omega
 have e3:decide (far<1)=false:=by simp;omega
 have e4:decide ((s.length:Int)<far)=true:=by simpa using h3
 clear hblk hown;go_enter Tryz.func181,Tryz.ntmps181;go_wp2_with fail;go_quiet (fail);go_wp2_with fail;go_quiet (fail);go_wp2_with fail;go_ret
 first | exact ⟨rfl,_root_.Go.below_drewN ((Below.refl _ _).alloc hbH _) _,((Keeps.refl _ _).alloc _).drewN _⟩ | exact ⟨rfl,_root_.Go.below_drewN (_root_.Go.below_drewN ((Below.refl _ _).alloc hbH _) _) _,(((Keeps.refl _ _).alloc _).drewN _).drewN _⟩
set_option maxHeartbeats 1000000 in
set_option maxRecDepth 100000 in
theorem tok_copy5 (base M d:Nat) (lit:Bool) (s:Bytes) (l:Bytes) (far len:Int) (w:World) (hM:Mk w base M d lit s) (hd:d≤s.length) (hs:s.length≤d+512)
  (hl:l=[]) (h0:3≤len) (h1:len≤64) (h2:1≤far) (h3:far≤(s.length:Int)) (hr:512<len+((s.length-d:Nat):Int)) :
  Calls Tryz.prog 181 #[.pointer (some ⟨M,0,none⟩),.agg #[S l,I far,I len]] w fun e w'=>e = .returned (I 2)∧Below base w w'∧Keeps badMk w w':=by
 obtain ⟨hbM,A,cap,hblk,hown⟩:=hM;have hlt:M<w.heap.size:=(Array.getElem?_eq_some_iff.1 hblk).1;have c0:w.cell? ⟨M,0,none⟩=some (.slice A s.length cap):=by rw [cell_of_row w M 0 _ _ _ hblk];rfl
 have c1:w.cell? ⟨M,1,none⟩=some (.int .i64 d):=by rw [cell_of_row w M 1 _ _ _ hblk];rfl
 have c2:w.cell? ⟨M,2,none⟩=some (.bool lit):=by rw [cell_of_row w M 2 _ _ _ hblk];rfl
 have hk1:(0:Int)≤(s.length:Int)-(d:Int):=by omega
 have hk2:(s.length:Int)-(d:Int)≤512:=by omega
 have hbH:base≤w.heap.size:=by omega
 subst hl;have e1:decide (len<3)=false:=by simp;omega
 have e2:decide (64<len)=false:=by simp;omega
 have e3:decide (far<1)=false:=by simp;omega
 have e4:decide ((s.length:Int)<far)=false:=by simp;omega
 have hk3:512-((s.length:Int)-(d:Int))<len:=by omega
 clear hblk hown;go_enter Tryz.func181,Tryz.ntmps181;go_wp2_with fail;go_quiet (fail);go_wp2_with fail;go_quiet (fail);go_wp2_with fail;go_ret
 first | exact ⟨rfl,_root_.Go.below_drewN ((Below.refl _ _).alloc hbH _) _,((Keeps.refl _ _).alloc _).drewN _⟩ | exact ⟨rfl,_root_.Go.below_drewN (_root_.Go.below_drewN ((Below.refl _ _).alloc hbH _) _) _,(((Keeps.refl _ _).alloc _).drewN _).drewN _⟩
end Go.Proofs.YtjpgoeimclipjaaGreat
