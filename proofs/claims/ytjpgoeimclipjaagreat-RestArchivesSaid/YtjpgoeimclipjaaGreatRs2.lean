/- Parts of the proofs. -/
import Derived.Test.YtjpgoeimclipjaaGreatRs1
import Derived.Test.YtjpgoeimclipjaaGreatProg
import Derived.WalkKit
import Derived.WalkSpells
import Derived.WalkLawsBesides
import Derived.Lib.Hide
import Derived.Deep.Draws
import Derived.Laws.OwnMore
import Derived.Laws.IdiomStrings
import Derived.Lib.BufferRead
import Derived.Maps.AppendAt
import Derived.Laws.BitsAllLaws
import Derived.Laws.BitsLemmas
import Derived.Lib.AppendStr
import Derived.Lib.FrozenHead
import Derived.Shelf.Strings.Builder1
import Derived.Shelf.Strings.Builder2
import Derived.Shelf.Strings.OnBuilder
import Derived.Shelf.Small.Bits
import Derived.Shelf.Small.Wraps
import Derived.Shelf.Strings.BuilderF
import Derived.Shelf.Strings.BuilderK
import Derived.Shelf.Strings.Builder2Cap
import Derived.Shelf.Strconv.Itoa0
import Derived.Shelf.Strings.Search1
import Derived.Shelf.Strings.Search2
import Derived.Shelf.Strings.Search3
import Derived.Shelf.LaysM
import Derived.Shelf.Strings.Shaped
import Derived.Shelf.Sort.Plain
import Derived.Ground.GgwProg
import Derived.Shelf.Strings.Prefix
import Derived.Shelf.Strings.BuilderCap
import Derived.Shelf.Slices.Turned
import Derived.Ground.Names2Prog
import Derived.Shelf.Slices.Clone
import Derived.Shelf.Slices.SearchI
import Derived.Shelf.Slices.In.SortNone
import Derived.Ground.SlsfProg
import Derived.Shelf.SlSortCmp.Insertion
namespace Go.Proofs.YtjpgoeimclipjaaGreat
namespace Pl
def cntN (ks:List Nat):List Int:=Lf fun i=>((ks.count i:Nat):Int)
theorem cntN_len (ks:List Nat):(cntN ks).length=16:=Lf_len _
theorem Lf_getD (f:Nat→Int) {i:Nat} (h:i<16):(Lf f).getD i 0=f i:=by rw [List.getD_eq_getElem?_getD,Lf_get f h];rfl
theorem cntN_get (ks:List Nat) {i:Nat} (h:i<16):(cntN ks)[i]? = some ((ks.count i:Nat):Int):=Lf_get _ h
theorem cntN_snoc (ks:List Nat) (k:Nat):(cntN ks).set k ((ks.count k:Nat)+1:Int)=cntN (ks++[k]):=by
 unfold cntN;rw [Lf_set];refine Lf_congr fun i _=>?_;rw [List.count_append,List.count_singleton]
 by_cases h:i=k
 ·subst h;simp
 ·rw [if_neg h,if_neg (by simpa using fun e=>h e.symm)];simp
theorem cntN_nil:cntN []=Lf fun _=>0:=by unfold cntN;simp
theorem cntN_fine {ks:List Nat} (h:ks.length≤2048):fineB (cntN ks)=true :=
 fine_of_all fun x hx=>by
  unfold cntN Lf at hx;obtain ⟨i,_,rfl⟩:=List.mem_map.1 hx;have:=List.count_le_length (a:=i) (l:=ks);omega
theorem cntN_build {ks:List Nat} (h:ks.length≤2048) (h0:ks≠[]) (h16:∀ k∈ks,k<16):buildE (cntN ks)=0:=by
 refine buildE_ok (cntN_fine h) ?_;cases ks with
 | nil=>exact absurd rfl h0
 | cons k r =>
  have hk:=h16 k (by simp)
  have:(cn (cntN (k::r)) k,[k])∈fulF (cntN (k::r)):=mem_startF.2 ⟨k,hk,by
   unfold cntN;rw [Lf_getD _ hk,List.count_cons_self];omega,rfl⟩
  have:=List.length_pos_of_mem this;omega
theorem cntN_none:buildE (cntN [])=5:=by rw [cntN_nil];decide +kernel
theorem lens_lacks {ks:List Nat} (h:ks.length≤2048) (h16:∀ k∈ks,k<16):lacks (lensOf (cntN ks)) ks=false:=by
 unfold lacks;rw [List.any_eq_false];intro k hk;have hb:=cntN_build h (List.ne_nil_of_mem hk) h16;have hl:=(lack_iff (by rw [lensOf_len,cntN_len])).1 (lens_has (cntN_len ks) hb) k (by rw [lensOf_len];exact h16 k hk)
 have hc:0<(cntN ks).getD k 0:=by
  unfold cntN;rw [Lf_getD _ (h16 k hk)];have:=List.count_pos_iff.2 hk;omega
 have h0:=(checkE_zero (lens_right hb)).1 _ (getD_mem (l:=lensOf (cntN ks)) (j:=k) (by rw [lensOf_len];exact h16 k hk));unfold ln;simp only [decide_eq_true_eq];intro e;exact hl ⟨hc,by omega⟩
def hdB (l:List Int):Bytes:=(List.range 8).map fun i=>UInt8.ofNat (16*ln l (2*i)+ln l (2*i+1))
theorem hdB_len (l:List Int):(hdB l).length=8:=by simp [hdB]
def unHd (b:Bytes):List Int:=(nibs (b.take 8)).map Int.ofNat
theorem unHd_hdB {l:List Int} (hl:l.length=16) (h:∀ x∈l,0≤x∧x≤15) (r:Bytes):unHd (hdB l++r)=l:=by
 unfold unHd;rw [List.take_left' (hdB_len l)]
 match l,hl with
 | [a0,a1,a2,a3,a4,a5,a6,a7,a8,a9,a10,a11,a12,a13,a14,a15],_ =>
  simp only [List.mem_cons,List.not_mem_nil,or_false,forall_eq_or_imp,forall_eq] at h;obtain ⟨h0,h1,h2,h3,h4,h5,h6,h7,h8,h9,h10,h11,h12,h13,h14,h15⟩:=h
  have e:∀ a b:Int,0≤a∧a≤15→0≤b∧b≤15→(((UInt8.ofNat (16*a.toNat+b.toNat)).toNat / 16:Nat):Int)=a∧(((UInt8.ofNat (16*a.toNat+b.toNat)).toNat % 16:Nat):Int)=b:=fun a b ha hb=>by
   rw [UInt8.toNat_ofNat'];have:(16*a.toNat+b.toNat) % 2 ^ 8=16*a.toNat+b.toNat:=Nat.mod_eq_of_lt (by omega);rw [this];omega
  simp only [hdB,ln,List.range,List.range.loop,List.map_cons,List.map_nil,nibs,List.flatMap_cons,List.flatMap_nil,List.cons_append,List.nil_append,List.getD_cons_zero,List.getD_cons_succ,Nat.mul_zero,Int.ofNat_eq_natCast];rw [(e a0 a1 h0 h1).1,(e a0 a1 h0 h1).2,(e a2 a3 h2 h3).1,(e a2 a3 h2 h3).2,(e a4 a5 h4 h5).1,(e a4 a5 h4 h5).2,(e a6 a7 h6 h7).1,(e a6 a7 h6 h7).2,(e a8 a9 h8 h9).1,(e a8 a9 h8 h9).2,(e a10 a11 h10 h11).1,(e a10 a11 h10 h11).2,(e a12 a13 h12 h13).1,(e a12 a13 h12 h13).2,(e a14 a15 h14 h15).1,(e a14 a15 h14 h15).2]
theorem unHd_len {b:Bytes} (h:8≤b.length):(unHd b).length=16:=by unfold unHd;rw [List.length_map,nibs_len,List.length_take];omega
theorem unHd_get {b:Bytes} {q:Nat} {c:UInt8} (hq:q<8) (hc:b[q]? = some c):(unHd b)[2*q]? = some ((c.toNat / 16:Nat):Int)∧(unHd b)[2*q+1]? = some ((c.toNat % 16:Nat):Int):=by
 unfold unHd;have hc2:(b.take 8)[q]? = some c:=by rw [List.getElem?_take];simp [hq,hc]
 obtain ⟨h1,h2⟩:=@nibs_get (b.take 8) q c hc2;rw [List.getElem?_map,List.getElem?_map,h1,h2];exact ⟨rfl,rfl⟩
def lensS (s:Bytes):List Int:=lensOf (cntN (nibs s))
def third (s:Bytes):Bytes:=2::(hdB (lensS s)++nb s.length++writeS (lensS s) s)
def decodeO (L:List Int) (X:Bytes):Option Bytes :=
 match take X with
 | none=>none
 | some (n,r)=>if readE L r (n:Int)=0 then some (readS L r (n:Int)) else none
theorem decodeO_none {L:List Int} {X:Bytes} (h:take X=none):decodeO L X=none:=by unfold decodeO;rw [h]
theorem decodeO_some {L:List Int} {X r:Bytes} {n:Nat} (h:take X=some (n,r)):decodeO L X=if readE L r (n:Int)=0 then some (readS L r (n:Int)) else none:=by unfold decodeO;rw [h]
def decoded (s:Bytes):Option Bytes:=if s.length<8 then none else decodeO (unHd s) (s.drop 8)
theorem nibs_ne {s:Bytes} (h:s≠[]):nibs s≠[]:=by
 cases s with
 | nil=>exact absurd rfl h
 | cons c s=>rw [nibs_cons];exact List.cons_ne_nil _ _
theorem lensS_build {s:Bytes} (h:s≠[]) (hs:s.length≤1024):buildE (cntN (nibs s))=0 :=
 cntN_build (by rw [nibs_len];omega) (nibs_ne h) (nibs_lt s)
theorem decoded_third {s:Bytes} (h:s≠[]) (hs:s.length≤1024):decoded (third s).tail=some s:=by
 have hb:=lensS_build h hs;have hr:checkE (lensS s)=0:=lens_right hb;have hl:(lensS s).length=16:=lensOf_len _;have hlk:lacks (lensS s) (nibs s)=false:=lens_lacks (by rw [nibs_len];omega) (nibs_lt s);have hw:writeE (lensS s) s=0:=by unfold writeE;rw [if_neg (by omega),if_neg (by omega),hlk];rfl
 obtain ⟨e1,e2⟩:=code_read_write (right_of hl hr) hw;have ht:(third s).tail=hdB (lensS s)++(nb s.length++writeS (lensS s) s):=by unfold third;rw [List.tail_cons,List.append_assoc]
 rw [ht];unfold decoded;rw [if_neg (by rw [List.length_append,hdB_len];omega),List.drop_left' (hdB_len _),decodeO_some (take_nb (by unfold maxNum;omega) _)];rw [unHd_hdB hl (checkE_zero hr).1,e1,if_pos rfl,e2]
def playO (dict s:Bytes):Option Bytes:=(read dict s).map fun l=>(play dict l).1
def unpackO (dict:Bytes):Bytes→Option Bytes
 | []=>none
 | k::s=>if k=0 then (if s.length≤512 then some s else none) else if k=1 then playO dict s else if k=2 then (decoded s).bind (playO dict) else none
def pack1 (text s:Bytes):Bytes:=if s.length+1<text.length+1 then 1::s else 0::text
def pack2 (text s:Bytes):Bytes:=if s≠[]∧(third s).length<(pack1 text s).length then third s else pack1 text s
def pack (dict text:Bytes):Bytes:=pack2 text (toksB (parse dict text))
theorem tokB_len {d:Nat} {s:Bytes} {b:Bool} {t:Tok} (h:tokE d s b t=0) (hs:s.length≤768):(tokB t).length+2*s.length≤2*(tokS s t).length:=by
 unfold tokE at h;unfold tokS tokB;have n2:∀ n,n<16384→(nb n).length≤2:=fun n hn=>nb_len 1 n (by omega);have n1:∀ n,n<128→(nb n).length≤1:=fun n hn=>nb_len 0 n (by omega)
 by_cases h1:t.lit≠[]
 ·rw [if_pos h1] at h ⊢;rw [if_pos h1];have hl:0<t.lit.length:=List.length_pos_iff.2 h1;rw [List.length_append,List.length_append]
  split at h
  ·omega
  ·split at h
   ·omega
   ·by_cases h2:t.lit.length=1
    ·have:=n1 (2*t.lit.length) (by omega);omega
    ·have:=n2 (2*t.lit.length) (by omega);omega
 ·rw [if_neg h1] at h ⊢;rw [if_neg h1,copyB_len,List.length_append]
  split at h
  ·omega
  ·have a:=n2 (2*t.len.toNat+1) (by omega);have b:=n2 t.far.toNat (by omega);omega
theorem toksB_len (d:Nat):∀ (l:List Tok) (s:Bytes) (b:Bool),(playF d s b l).2=0→d≤s.length→s.length-d≤512→d≤256→(toksB l).length+2*(s.length-d)≤1024
 | [],s,_,_,h,h2,_=>by rw [toksB];simp;omega
 | t::l,s,b,h,hd,hr,h256=>by
  rw [playF] at h
  by_cases he:tokE d s b t≠0
  ·rw [if_pos he] at h;exact absurd h he
  ·rw [if_neg he] at h;have he0:=Decidable.not_not.1 he;obtain ⟨h1,h2⟩:=tokS_grow he0 hd;have:=toksB_len d l _ _ h (by omega) h2 h256;have:=tokB_len he0 (by omega);rw [toksB,List.length_append];omega
theorem toksB_small {dict:Bytes} {l:List Tok} (h:(play dict l).2=0):(toksB l).length≤1024:=by
 unfold play at h
 by_cases e:maxDict<dict.length
 ·rw [if_pos e] at h;exact absurd h (by decide)
 ·rw [if_neg e] at h;have:=toksB_len dict.length l dict false h (Nat.le_refl _) (by omega) (by unfold maxDict at e;omega);omega
theorem parse_small {dict text:Bytes} (hd:dict.length≤256) (ht:text.length≤512):(toksB (parse dict text)).length≤1024 :=
 toksB_small (dict:=dict) (by rw [play_parse hd ht])
theorem write_parse {dict text:Bytes} (hd:dict.length≤256) (ht:text.length≤512):write dict (parse dict text)=(toksB (parse dict text),0):=by
 unfold write;rw [play_parse hd ht];exact if_neg (by omega)
theorem playO_parse {dict text:Bytes} (hd:dict.length≤256) (ht:text.length≤512):playO dict (toksB (parse dict text))=some text:=by
 have h:=read_write (dict:=dict) (l:=parse dict text) (by rw [write_parse hd ht]);rw [write_parse hd ht] at h;simp only at h;unfold playO;rw [h];simp only [Option.map_some];rw [play_parse hd ht]
theorem unpack_third {dict s:Bytes} (h:s≠[]) (hs:s.length≤1024):unpackO dict (third s)=playO dict s:=by
 have h1:third s=2::(third s).tail:=rfl;rw [h1,unpackO,if_neg (by decide),if_neg (by decide),if_pos rfl,decoded_third h hs];rfl
theorem unpack_pack {dict text:Bytes} (hd:dict.length≤256) (ht:text.length≤512):unpackO dict (pack dict text)=some text:=by
 unfold pack pack2
 split
 ·rename_i h
  rw [unpack_third h.1 (parse_small hd ht)];exact playO_parse hd ht
 ·unfold pack1
  split
  ·rw [unpackO,if_neg (by decide),if_pos rfl];exact playO_parse hd ht
  ·rw [unpackO,if_pos rfl,if_pos ht]
end Pl
end Go.Proofs.YtjpgoeimclipjaaGreat
namespace Go.Proofs.YtjpgoeimclipjaaGreat
namespace Pl
def stands (p:Bytes):Bytes→Bool
 | []=>p.isEmpty
 | c::t=>p.isPrefixOf (c::t) || stands p t
theorem stands_iff (p:Bytes):∀ t:Bytes,stands p t=true↔∃ a b,t=a++p++b
 | []=>by
  simp only [stands,List.isEmpty_iff];constructor
  ·rintro rfl;exact ⟨[],[],rfl⟩
  ·rintro ⟨a,b,h⟩;have:=congrArg List.length h;simp at this;exact List.eq_nil_of_length_eq_zero (by omega)
 | c::t=>by
  simp only [stands,Bool.or_eq_true,List.isPrefixOf_iff_prefix];rw [stands_iff p t];constructor
  ·rintro (⟨b,h⟩ | ⟨a,b,h⟩)
   ·exact ⟨[],b,by simp [h]⟩
   ·exact ⟨c::a,b,by simp [h]⟩
  ·rintro ⟨a,b,h⟩;cases a with
   | nil=>exact .inl ⟨b,by simpa using h.symm⟩
   | cons d a =>
    simp at h;exact .inr ⟨a,b,by simp [h.2]⟩
theorem stands_app {p t:Bytes} (x:Bytes) (h:stands p t=true):stands p (x++t)=true:=by
 obtain ⟨a,b,rfl⟩:=(stands_iff p t).1 h;exact (stands_iff p _).2 ⟨x++a,b,by simp⟩
theorem stands_head (p t:Bytes):stands p (p++t)=true:=(stands_iff p _).2 ⟨[],t,by simp⟩
def piece (t:Bytes) (k:Nat):Bytes:=slice t k (k+4)
def piecesOf (t:Bytes):List Bytes:=(List.range (t.length-3)).map (piece t)
theorem piece_len {t:Bytes} {k:Nat} (h:k<t.length-3):(piece t k).length=4:=by unfold piece;rw [slice_len];omega
theorem piecesOf_get {t:Bytes} {k:Nat} (h:k<t.length-3):(piecesOf t)[k]? = some (piece t k):=by unfold piecesOf;rw [List.getElem?_map,List.getElem?_range h];rfl
theorem piecesOf_len (t:Bytes):(piecesOf t).length=t.length-3:=by simp [piecesOf]
theorem slice_split {t:Bytes} {a b:Nat} (h:a≤b):t=t.take a++slice t a b++t.drop b:=by
 unfold slice
 have h1:t.take a++(t.take b).drop a=t.take b:=by
  have:t.take a=(t.take b).take a:=by rw [List.take_take,Nat.min_eq_left h]
  rw [this,List.take_append_drop]
 rw [h1,List.take_append_drop]
theorem mem_piecesOf {p t:Bytes} (hp:p.length=4):p∈piecesOf t↔stands p t=true:=by
 rw [stands_iff];unfold piecesOf;simp only [List.mem_map,List.mem_range];constructor
 ·rintro ⟨k,hk,rfl⟩;exact ⟨t.take k,t.drop (k+4),slice_split (by omega)⟩
 ·rintro ⟨a,b,rfl⟩;refine ⟨a.length,by simp;omega,?_⟩;unfold piece slice;have:a.length+4=(a++p).length:=by simp [hp]
  rw [this,List.take_left' rfl,List.drop_left' rfl]
theorem mem_piecesOf_len {p t:Bytes} (h:p∈piecesOf t):p.length=4:=by
 unfold piecesOf at h;simp only [List.mem_map,List.mem_range] at h;obtain ⟨k,hk,rfl⟩:=h;exact piece_len hk
def cnt (l:List Bytes) (p:Bytes):Nat:=(l.filter (stands p)).length
def allPieces (l:List Bytes):List Bytes:=l.flatMap piecesOf
theorem cnt_pos {l:List Bytes} {p:Bytes} (hp:p.length=4):0<cnt l p↔p∈allPieces l:=by
 unfold cnt allPieces;rw [List.length_pos_iff_exists_mem];simp only [List.mem_filter,List.mem_flatMap];constructor
 ·rintro ⟨t,h1,h2⟩;exact ⟨t,h1,(mem_piecesOf hp).2 h2⟩
 ·rintro ⟨t,h1,h2⟩;exact ⟨t,h1,(mem_piecesOf hp).1 h2⟩
theorem cnt_le (l:List Bytes) (p:Bytes):cnt l p≤l.length:=List.length_filter_le _ _
theorem allPieces_len {l:List Bytes} {p:Bytes} (h:p∈allPieces l):p.length=4:=by
 unfold allPieces at h;obtain ⟨t,_,ht⟩:=List.mem_flatMap.1 h;exact mem_piecesOf_len ht
def lessB:Bytes→Bytes→Bool
 | _,[]=>false
 | [],_::_=>true
 | a::x,b::y=>a<b || (a == b && lessB x y)
theorem lessB_irrefl:∀ a:Bytes,lessB a a=false
 | []=>rfl
 | a::x=>by
  have:¬ a<a:=by rw [UInt8.lt_iff_toNat_lt];omega
  simp [lessB,lessB_irrefl x,this]
theorem lessB_trans:∀ {a b c:Bytes},lessB a b=true→lessB b c=true→lessB a c=true
 | _,_,[],_,h2=>by cases ‹Bytes› <;> simp [lessB] at h2
 | _,[],_::_,h1,_=>by cases ‹Bytes› <;> simp [lessB] at h1
 | [],_::_,_::_,_,_=>rfl
 | a::x,b::y,c::z,h1,h2=>by
  simp only [lessB,Bool.or_eq_true,decide_eq_true_eq,Bool.and_eq_true,beq_iff_eq] at h1 h2 ⊢;simp only [UInt8.lt_iff_toNat_lt] at h1 h2 ⊢
  rcases h1 with h1 | ⟨rfl,h1⟩
  ·rcases h2 with h2 | ⟨rfl,h2⟩
   ·exact .inl (by omega)
   ·exact .inl h1
  ·rcases h2 with h2 | ⟨rfl,h2⟩
   ·exact .inl h2
   ·exact .inr ⟨rfl,lessB_trans h1 h2⟩
theorem lessB_total:∀ {a b:Bytes},lessB a b=false→lessB b a=false→a=b
 | [],[],_,_=>rfl
 | [],_::_,h,_=>by simp [lessB] at h
 | _::_,[],_,h=>by simp [lessB] at h
 | a::x,b::y,h1,h2=>by
  simp only [lessB,Bool.or_eq_false_iff,decide_eq_false_iff_not,Bool.and_eq_false_iff] at h1 h2;simp only [UInt8.lt_iff_toNat_lt] at h1 h2;obtain ⟨h1,h3⟩:=h1;obtain ⟨h2,h4⟩:=h2;have e:a=b:=by apply UInt8.toNat_inj.1;omega
  subst e
  rcases h3 with h3 | h3
  ·simp at h3
  ·rcases h4 with h4 | h4
   ·simp at h4
   ·rw [lessB_total h3 h4]
def better (a b:Bytes×Nat):Bool:=decide (b.2<a.2) || (a.2 == b.2 && lessB a.1 b.1)
theorem better_irrefl (a:Bytes×Nat):better a a=false:=by simp [better,lessB_irrefl]
theorem better_trans {a b c:Bytes×Nat} (h1:better a b=true) (h2:better b c=true):better a c=true:=by
 simp only [better,Bool.or_eq_true,decide_eq_true_eq,Bool.and_eq_true,beq_iff_eq] at h1 h2 ⊢
 rcases h1 with h1 | ⟨e1,h1⟩
 ·rcases h2 with h2 | ⟨e2,h2⟩
  ·exact .inl (by omega)
  ·exact .inl (by omega)
 ·rcases h2 with h2 | ⟨e2,h2⟩
  ·exact .inl (by omega)
  ·exact .inr ⟨by omega,lessB_trans h1 h2⟩
theorem better_total {a b:Bytes×Nat} (h1:better a b=false) (h2:better b a=false):a=b:=by
 simp only [better,Bool.or_eq_false_iff,decide_eq_false_iff_not,Bool.and_eq_false_iff] at h1 h2;obtain ⟨x,n⟩:=a;obtain ⟨y,m⟩:=b;simp only at h1 h2;have e:n=m:=by omega
 subst e;have h3:lessB x y=false:=by rcases h1.2 with h | h;simp at h;exact h
 have h4:lessB y x=false:=by rcases h2.2 with h | h;simp at h;exact h
 rw [lessB_total h3 h4]
def greedy (size:Nat):Bytes→List Bytes→Bytes
 | dict,[]=>dict
 | dict,p::c=>if size<dict.length+4 then dict else if stands p dict then greedy size dict c else greedy size (p++dict) c
structure Cands (l:List Bytes) (c:List Bytes):Prop where
 mem:∀ p,p∈c↔p∈allPieces l∧1<cnt l p
 sorted:c.Pairwise fun a b=>better (a,cnt l a) (b,cnt l b)=true
def bestStep (l:List Bytes) (dict:Bytes) (b:Bytes×Nat) (p:Bytes):Bytes×Nat :=
 if ((b.2<cnt l p)∨(cnt l p=b.2∧1<cnt l p∧lessB p b.1=true))∧stands p dict=false then (p,cnt l p) else b
def bestOf (l:List Bytes) (dict:Bytes) (ps:List Bytes):Bytes×Nat:=ps.foldl (bestStep l dict) ([],1)
def trainR (l:List Bytes) (size:Nat):Nat→Bytes→Bytes
 | 0,dict=>dict
 | f+1,dict=>if dict.length+4≤size then (if (bestOf l dict (allPieces l)).1=[] then dict else trainR l size f ((bestOf l dict (allPieces l)).1++dict)) else dict
def IsBest (l:List Bytes) (dict:Bytes) (ps:List Bytes) (b:Bytes×Nat):Prop :=
 (b=([],1)∧∀ q∈ps,1<cnt l q→stands q dict=true) ∨
 (b.1∈ps∧b.2=cnt l b.1∧1<b.2∧stands b.1 dict=false∧∀ q∈ps,1<cnt l q→stands q dict=false→q=b.1∨better b (q,cnt l q)=true)
theorem isBest_step {l:List Bytes} {dict:Bytes} {ps:List Bytes} {b:Bytes×Nat} (h:IsBest l dict ps b) (p:Bytes) (hne:p≠[]):IsBest l dict (ps++[p]) (bestStep l dict b p):=by
 unfold bestStep
 by_cases hc:((b.2<cnt l p)∨(cnt l p=b.2∧1<cnt l p∧lessB p b.1=true))∧stands p dict=false
 ·rw [if_pos hc];obtain ⟨hc,hs⟩:=hc;right
  rcases h with ⟨rfl,h⟩ | ⟨h1,h2,h3,h4,h5⟩
  ·have hp:1<cnt l p:=by rcases hc with hc | hc <;> simp at hc <;> omega
   refine ⟨by simp,rfl,hp,hs,fun q hq hq1 hq2=>?_⟩
   rcases List.mem_append.1 hq with hq | hq
   ·rw [h q hq hq1] at hq2;cases hq2
   ·exact .inl (by simpa using hq)
  ·have hp:1<cnt l p:=by rcases hc with hc | hc <;> omega
   have hb:better (p,cnt l p) b=true:=by
    simp only [better,Bool.or_eq_true,decide_eq_true_eq,Bool.and_eq_true,beq_iff_eq]
    rcases hc with hc | ⟨hc,_,hl⟩
    ·exact .inl hc
    ·exact .inr ⟨hc,hl⟩
   refine ⟨by simp,rfl,hp,hs,fun q hq hq1 hq2=>?_⟩
   rcases List.mem_append.1 hq with hq | hq
   ·rcases h5 q hq hq1 hq2 with e | h6
    ·right;rw [e];have:(b.1,cnt l b.1)=b:=by rw [←h2]
     rw [this];exact hb
    ·exact .inr (better_trans hb h6)
   ·exact .inl (by simpa using hq)
 ·rw [if_neg hc]
  rcases h with ⟨rfl,h⟩ | ⟨h1,h2,h3,h4,h5⟩
  ·left;refine ⟨rfl,fun q hq hq1=>?_⟩
   rcases List.mem_append.1 hq with hq | hq
   ·exact h q hq hq1
   ·have hq:q=p:=by simpa using hq
    subst hq;cases hs:stands q dict with
    | true=>rfl
    | false=>exact absurd ⟨.inl hq1,hs⟩ hc
  ·right;refine ⟨by simp [h1],h2,h3,h4,fun q hq hq1 hq2=>?_⟩
   rcases List.mem_append.1 hq with hq | hq
   ·exact h5 q hq hq1 hq2
   ·have hq:q=p:=by simpa using hq
    subst hq
    by_cases e:q=b.1
    ·exact .inl e
    ·right;have hn:¬ (b.2<cnt l q∨(cnt l q=b.2∧1<cnt l q∧lessB q b.1=true)):=fun h=>hc ⟨h,hq2⟩;simp only [not_or,not_and] at hn;simp only [better,Bool.or_eq_true,decide_eq_true_eq,Bool.and_eq_true,beq_iff_eq]
     by_cases h6:cnt l q<b.2
     ·exact .inl h6
     ·have h7:b.2=cnt l q:=by omega
      refine .inr ⟨h7,?_⟩;have h8:=hn.2 h7.symm hq1;cases h9:lessB b.1 q with
      | true=>rfl
      | false=>exact absurd (lessB_total (by simpa using h8) h9) e
theorem bestOf_is (l:List Bytes) (dict:Bytes) (ps:List Bytes) (hne:∀ p∈ps,p≠[]):IsBest l dict ps (bestOf l dict ps):=by
 have key:∀ (ps done:List Bytes) (b:Bytes×Nat),(∀ p∈ps,p≠[])→IsBest l dict done b→IsBest l dict (done++ps) (ps.foldl (bestStep l dict) b):=by
  intro ps
  induction ps with
  | nil=>intro done b _ h;simpa using h
  | cons p ps ih =>
   intro done b hn h;have:=ih (done++[p]) _ (fun q hq=>hn q (by simp [hq])) (isBest_step h p (hn p (by simp)));simpa using this
 have:=key ps [] ([],1) hne (.inl ⟨rfl,by simp⟩);unfold bestOf;simpa using this
theorem trainR_greedy {l c:List Bytes} (size:Nat) (hc:Cands l c):∀ (f:Nat) (dict:Bytes) (done rest:List Bytes),c=done++rest→(∀ p∈done,stands p dict=true)→size<dict.length+4+4*f →
  trainR l size f dict=greedy size dict rest:=by
 intro f
 induction f with
 | zero =>
  intro dict done rest h1 h2 h3;rw [trainR];cases rest with
  | nil=>rfl
  | cons p rest=>rw [greedy,if_pos (by omega)]
 | succ f ih =>
  intro dict done rest
  induction rest generalizing done with
  | nil =>
   intro h1 h2 h3;rw [trainR,greedy];have hb:=bestOf_is l dict (allPieces l) (fun p hp e=>by have:=allPieces_len hp;rw [e] at this;simp at this)
   rcases hb with ⟨hb,_⟩ | ⟨h4,h5,h6,h7,_⟩
   ·rw [hb];simp
   ·have hm:=(hc.mem (bestOf l dict (allPieces l)).1).2 ⟨h4,by omega⟩;rw [h1,List.append_nil] at hm;rw [h2 _ hm] at h7;cases h7
  | cons p rest ih2 =>
   intro h1 h2 h3
   by_cases hz:size<dict.length+4
   ·rw [trainR,greedy,if_pos hz,if_neg (by omega)]
   ·by_cases hs:stands p dict=true
    ·rw [greedy,if_neg hz,if_pos hs]
     exact ih2 (done++[p]) (by rw [h1];simp) (fun q hq=>by
      rcases List.mem_append.1 hq with hq | hq
      ·exact h2 q hq
      ·have:q=p:=by simpa using hq
       rw [this];exact hs) h3
    ·rw [greedy,if_neg hz,if_neg hs,trainR,if_pos (by omega)];have hs:stands p dict=false:=by simpa using hs
     have hpc:=(hc.mem p).1 (by rw [h1];simp);have hpl:=allPieces_len hpc.1;have hb:=bestOf_is l dict (allPieces l) (fun p hp e=>by have:=allPieces_len hp;rw [e] at this;simp at this)
     have hbe:(bestOf l dict (allPieces l)).1=p:=by
      rcases hb with ⟨_,h4⟩ | ⟨h4,h5,h6,h7,h8⟩
      ·rw [h4 p hpc.1 hpc.2] at hs;cases hs
      ·have hm:=(hc.mem (bestOf l dict (allPieces l)).1).2 ⟨h4,by omega⟩;rw [h1] at hm
       rcases List.mem_append.1 hm with hm | hm
       ·rw [h2 _ hm] at h7;cases h7
       ·rcases List.mem_cons.1 hm with hm | hm
        ·exact hm
        ·have hsrt:=hc.sorted;rw [h1,List.pairwise_append,List.pairwise_cons] at hsrt;have h9:=hsrt.2.1.1 _ hm
         rcases h8 p hpc.1 hpc.2 hs with e | h10
         ·exact e.symm
         ·rw [←h5] at h9;have:=better_trans h9 h10;rw [better_irrefl] at this;cases this
     rw [hbe,if_neg (by intro e;rw [e] at hpl;simp at hpl)]
     exact ih (p++dict) (done++[p]) rest (by rw [h1];simp) (fun q hq=>by
      rcases List.mem_append.1 hq with hq | hq
      ·exact stands_app p (h2 q hq)
      ·have:q=p:=by simpa using hq
       rw [this];exact stands_head p dict) (by simp [hpl];omega)
theorem trainR_eq {l c:List Bytes} {size f:Nat} (hc:Cands l c) (hf:size<4+4*f):trainR l size f []=greedy size [] c :=
 trainR_greedy size hc f [] [] c rfl (by simp) (by simpa using hf)
def big (t:Bytes):Bool:=decide (512<t.length)
def manyB (l:List Bytes):Bool:=decide (12<l.length) || l.any big
theorem manyB_no {l:List Bytes} (h:manyB l=false):l.length≤12∧∀ t∈l,t.length≤512:=by
 simp only [manyB,Bool.or_eq_false_iff,decide_eq_false_iff_not,List.any_eq_false] at h;refine ⟨by omega,fun t ht=>?_⟩;have:=h.2 t ht;simp only [big,decide_eq_true_eq] at this;omega
def trainOf (l:List Bytes) (size:Nat):Bytes:=trainR l size 64 []
def trainE (l:List Bytes) (size:Int):Nat:=if manyB l=true then 2 else if size<0∨256<size then 3 else 0
def trainD (l:List Bytes) (size:Int):Bytes:=if manyB l=true then [] else if size<0∨256<size then [] else trainOf l size.toNat
theorem trainOf_eq {l c:List Bytes} {size:Nat} (hc:Cands l c) (hs:size≤256):trainOf l size=greedy size [] c:=trainR_eq hc (by omega)
theorem trainR_len (l:List Bytes) (size:Nat):∀ (f:Nat) (dict:Bytes),dict.length≤size→(trainR l size f dict).length≤size
 | 0,dict,h=>by rw [trainR];exact h
 | f+1,dict,h=>by
  rw [trainR]
  split
  ·split
   ·exact h
   ·rename_i h1 h2
    refine trainR_len l size f _ ?_
    have hb:(bestOf l dict (allPieces l)).1.length=4:=by
     rcases bestOf_is l dict (allPieces l) (fun p hp e=>by have:=allPieces_len hp;rw [e] at this;simp at this) with h3 | h3
     ·exact absurd (by rw [h3.1]) h2
     ·exact allPieces_len h3.1
    rw [List.length_append,hb];omega
  ·exact h
theorem trainOf_len (l:List Bytes) (size:Nat):(trainOf l size).length≤size:=trainR_len l size 64 [] (Nat.zero_le _)
theorem trainD_len (l:List Bytes) (size:Int):(trainD l size).length≤256:=by
 unfold trainD
 split
 ·simp
 ·split
  ·simp
  ·have:=trainOf_len l size.toNat;omega
end Pl
end Go.Proofs.YtjpgoeimclipjaaGreat
namespace Go.Proofs.YtjpgoeimclipjaaGreat
namespace Pl
structure Fil where
 name:Bytes
 dict:Int
 size:Int
 sum:Int
 block:Bytes
deriving DecidableEq
structure Arc where
 ds:List Bytes
 fs:List Fil
deriving DecidableEq
def arc0:Arc:=⟨[],[]⟩
def nameC (c:UInt8):Bool:=decide (97≤c.toNat∧c.toNat≤122∨48≤c.toNat∧c.toNat≤57∨c.toNat=46)
def nameB (s:Bytes):Bool:=decide (1≤s.length∧s.length≤12) && s.all nameC
def dictO (ds:List Bytes) (n:Int):Option Bytes:=if n=0 then some [] else if n<1∨(ds.length:Int)<n then none else some (ds.getD (n.toNat-1) [])
def sizedO (d b:Bytes) (size sum:Int):Option Bytes:=(unpackO d b).bind fun t=>if (t.length:Int)=size∧((sumOf t:Nat):Int)=sum then some t else none
def textO (ds:List Bytes) (f:Fil):Option Bytes:=(dictO ds f.dict).bind fun d=>sizedO d f.block f.size f.sum
def textD (ds:List Bytes) (f:Fil):Bytes:=(textO ds f).getD []
def fileB (ds:List Bytes) (f:Fil):Bool:=(textO ds f).isSome && nameB f.name
def filesB (ds:List Bytes):Bytes→List Fil→Bool
 | _,[]=>true
 | last,f::r=>fileB ds f && lessB last f.name && filesB ds f.name r
def bigD (d:Bytes):Bool:=decide (256<d.length)
def checkA (a:Arc):Nat:=if 4<a.ds.length∨12<a.fs.length∨a.ds.any bigD=true then 2 else if filesB a.ds [] a.fs=true then 0 else 1
def packedF (ds:List Bytes) (name text:Bytes) (n:Int):Fil:=⟨name,n,text.length,(sumOf text:Nat),pack ((dictO ds n).getD []) text⟩
def insF (f:Fil):List Fil→List Fil
 | []=>[f]
 | g::r=>if lessB g.name f.name=true then g::insF f r else if g.name=f.name then f::r else f::g::r
def put (a:Arc) (name text:Bytes) (n:Int):Arc×Nat :=
 if checkA a≠0 then (arc0,checkA a) else
 if nameB name=false then (arc0,4) else
 if dictO a.ds n=none then (arc0,3) else
 if 512<text.length then (arc0,2) else
 if 12<(insF (packedF a.ds name text n) a.fs).length then (arc0,2) else (⟨a.ds,insF (packedF a.ds name text n) a.fs⟩,0)
def findF (name:Bytes) (fs:List Fil):Option Fil:=fs.find? fun f=>decide (f.name=name)
def drop (a:Arc) (name:Bytes):Arc×Nat :=
 if checkA a≠0 then (arc0,checkA a) else
 if findF name a.fs=none then (arc0,5) else (⟨a.ds,a.fs.filter fun f=>decide (f.name≠name)⟩,0)
def get (a:Arc) (name:Bytes):Bytes×Nat :=
 if checkA a≠0 then ([],checkA a) else
 match findF name a.fs with
 | none=>([],5)
 | some f=>(textD a.ds f,0)
def cutR (t:Bytes) (m n:Int):Bytes×Nat:=if m<0∨n<0∨(t.length:Int)<m∨(t.length:Int)-m<n then ([],3) else (slice t m.toNat (m.toNat+n.toNat),0)
def range (a:Arc) (name:Bytes) (m n:Int):Bytes×Nat:=if (get a name).2≠0 then ([],(get a name).2) else cutR (get a name).1 m n
def textsA (a:Arc):List Bytes:=a.fs.map (textD a.ds)
def retrain (a:Arc) (size:Int):Arc×Nat :=
 if checkA a≠0 then (arc0,checkA a) else
 if trainE (textsA a) size≠0 then (arc0,trainE (textsA a) size) else
 if 4≤a.ds.length then (arc0,2) else
 (⟨a.ds++[trainD (textsA a) size],a.fs.map fun f=>packedF (a.ds++[trainD (textsA a) size]) f.name (textD a.ds f) (a.ds.length+1:Nat)⟩,0)
def usedB (fs:List Fil) (n:Nat):Bool:=fs.any fun f=>decide (f.dict=(n:Int))
def keepD (fs:List Fil):Nat→List Bytes→List Bytes
 | _,[]=>[]
 | i,d::r=>if usedB fs (i+1)=true then d::keepD fs (i+1) r else keepD fs (i+1) r
def movedN (fs:List Fil):Nat→Nat
 | 0=>0
 | n+1=>movedN fs n+if usedB fs (n+1)=true then 1 else 0
def moveF (fs:List Fil) (f:Fil):Fil:={ f with dict:=(movedN fs f.dict.toNat:Nat) }
def compact (a:Arc):Arc×Nat:=if checkA a≠0 then (arc0,checkA a) else (⟨keepD a.fs 0 a.ds,a.fs.map (moveF a.fs)⟩,0)
def sizeA (a:Arc):Nat:=(a.ds.map List.length).sum+(a.fs.map fun f=>f.block.length).sum
theorem nameB_ne {s:Bytes} (h:nameB s=true):s≠[]:=by
 intro e;subst e;simp [nameB] at h
theorem lessB_nil {s:Bytes} (h:s≠[]):lessB [] s=true:=by
 cases s with
 | nil=>exact absurd rfl h
 | cons c s=>rfl
structure FilesR (ds:List Bytes) (fs:List Fil):Prop where
 each:∀ f∈fs,fileB ds f=true
 asc:fs.Pairwise fun f g=>lessB f.name g.name=true
theorem filesB_iff (ds:List Bytes):∀ (fs:List Fil) (last:Bytes),filesB ds last fs=true↔FilesR ds fs∧∀ f∈fs,lessB last f.name=true
 | [],last=>by
  rw [filesB];exact ⟨fun _=>⟨⟨by simp,List.Pairwise.nil⟩,by simp⟩,fun _=>rfl⟩
 | f::r,last=>by
  rw [filesB,Bool.and_eq_true,Bool.and_eq_true,filesB_iff ds r f.name];constructor
  ·rintro ⟨⟨h1,h2⟩,h3,h4⟩;refine ⟨⟨fun g hg=>?_,List.pairwise_cons.2 ⟨h4,h3.asc⟩⟩,fun g hg=>?_⟩
   ·rcases List.mem_cons.1 hg with rfl | hg
    ·exact h1
    ·exact h3.each g hg
   ·rcases List.mem_cons.1 hg with rfl | hg
    ·exact h2
    ·exact lessB_trans h2 (h4 g hg)
  ·rintro ⟨h1,h2⟩;have hp:=List.pairwise_cons.1 h1.asc;exact ⟨⟨h1.each f (by simp),h2 f (by simp)⟩,⟨fun g hg=>h1.each g (by simp [hg]),hp.2⟩,hp.1⟩
theorem fileB_name {ds:List Bytes} {f:Fil} (h:fileB ds f=true):nameB f.name=true:=by
 unfold fileB at h;rw [Bool.and_eq_true] at h;exact h.2
theorem fileB_text {ds:List Bytes} {f:Fil} (h:fileB ds f=true):textO ds f=some (textD ds f):=by
 unfold fileB at h;rw [Bool.and_eq_true] at h;obtain ⟨t,ht⟩:=Option.isSome_iff_exists.1 h.1;unfold textD;rw [ht];rfl
structure RightA (a:Arc):Prop where
 nd:a.ds.length≤4
 nf:a.fs.length≤12
 sd:∀ d∈a.ds,d.length≤256
 fr:FilesR a.ds a.fs
theorem check_iff (a:Arc):checkA a=0↔RightA a:=by
 have hb:a.ds.any bigD=true↔∃ d∈a.ds,256<d.length:=by
  rw [List.any_eq_true];simp [bigD]
 unfold checkA;constructor
 ·intro h
  by_cases h1:4<a.ds.length∨12<a.fs.length∨a.ds.any bigD=true
  ·rw [if_pos h1] at h;cases h
  ·rw [if_neg h1] at h
   by_cases h2:filesB a.ds [] a.fs=true
   ·refine ⟨by omega,by omega,fun d hd=>?_,((filesB_iff _ _ _).1 h2).1⟩;have:¬ ∃ d∈a.ds,256<d.length:=fun e=>h1 (Or.inr (Or.inr (hb.2 e)));exact Nat.le_of_not_lt fun e=>this ⟨d,hd,e⟩
   ·rw [if_neg h2] at h;cases h
 ·intro h
  rw [if_neg (by
   rintro (e | e | e)
   ·exact absurd h.nd (by omega)
   ·exact absurd h.nf (by omega)
   ·obtain ⟨d,hd,e⟩:=hb.1 e;exact absurd (h.sd d hd) (by omega))]
  rw [if_pos ((filesB_iff _ _ _).2 ⟨h.fr,fun f hf=>lessB_nil (nameB_ne (fileB_name (h.fr.each f hf)))⟩)]
theorem arc0_right:RightA arc0:=⟨by decide,by decide,by simp [arc0],⟨by simp [arc0],List.Pairwise.nil⟩⟩
theorem dictO_app {ds:List Bytes} {n:Int} {d:Bytes} (x:List Bytes) (h:dictO ds n=some d):dictO (ds++x) n=some d:=by
 unfold dictO at h ⊢
 by_cases h0:n=0
 ·rw [if_pos h0] at h ⊢;exact h
 ·rw [if_neg h0] at h ⊢
  by_cases h1:n<1∨(ds.length:Int)<n
  ·rw [if_pos h1] at h;cases h
  ·rw [if_neg h1] at h;rw [if_neg (by simp;omega)];rw [←h,List.getD_eq_getElem?_getD,List.getD_eq_getElem?_getD,List.getElem?_append_left (by omega)]
theorem dictO_len {ds:List Bytes} {n:Int} {d:Bytes} (hs:∀ d∈ds,d.length≤256) (h:dictO ds n=some d):d.length≤256:=by
 unfold dictO at h
 by_cases h0:n=0
 ·rw [if_pos h0] at h;cases h;simp
 ·rw [if_neg h0] at h
  by_cases h1:n<1∨(ds.length:Int)<n
  ·rw [if_pos h1] at h;cases h
  ·rw [if_neg h1] at h;cases h;have:n.toNat-1<ds.length:=by omega
   rw [List.getD_eq_getElem?_getD,List.getElem?_eq_getElem this];exact hs _ (List.getElem_mem this)
theorem packed_text {ds:List Bytes} {name text:Bytes} {n:Int} {d:Bytes} (hd:dictO ds n=some d) (h256:d.length≤256) (ht:text.length≤512):textO ds (packedF ds name text n)=some text:=by
 unfold textO packedF sizedO;simp only [hd,Option.bind_some,Option.getD_some];rw [unpack_pack h256 ht];simp
theorem playF_len (d:Nat):∀ (l:List Tok) (s:Bytes) (b:Bool),d≤s.length→s.length-d≤512→(playF d s b l).1.length≤512
 | [],s,_,_,h=>by rw [playF];simp;omega
 | t::l,s,b,hd,h=>by
  rw [playF]
  by_cases he:tokE d s b t≠0
  ·rw [if_pos he];simp
  ·rw [if_neg he];obtain ⟨h1,h2⟩:=tokS_grow (Decidable.not_not.1 he) hd;exact playF_len d l _ _ (by omega) h2
theorem play_len (dict:Bytes) (l:List Tok):(play dict l).1.length≤512:=by
 unfold play
 split
 ·simp
 ·exact playF_len _ _ _ _ (Nat.le_refl _) (by omega)
theorem unpack_len {dict b t:Bytes} (h:unpackO dict b=some t):t.length≤512:=by
 have hp:∀ s,playO dict s=some t→t.length≤512:=by
  intro s hs;unfold playO at hs;cases hr:read dict s with
  | none=>rw [hr] at hs;cases hs
  | some l =>
   rw [hr] at hs;simp only [Option.map_some,Option.some.injEq] at hs;subst hs;exact play_len dict l
 cases b with
 | nil=>cases h
 | cons k s =>
  rw [unpackO] at h
  split at h
  ·split at h
   ·cases h;assumption
   ·cases h
  ·split at h
   ·exact hp s h
   ·split at h
    ·cases hd:decoded s with
     | none=>rw [hd] at h;cases h
     | some x=>rw [hd] at h;exact hp x h
    ·cases h
theorem textD_len {ds:List Bytes} {f:Fil} : (textD ds f).length≤512:=by
 unfold textD textO sizedO;cases dictO ds f.dict with
 | none=>simp
 | some d =>
  simp only [Option.bind_some];cases hu:unpackO d f.block with
  | none=>simp
  | some t =>
   simp only [Option.bind_some]
   split
   ·exact unpack_len hu
   ·simp
theorem mem_insF {f g:Fil} : ∀ {fs:List Fil},g∈insF f fs→g=f∨(g∈fs)
 | [],h=>by simp [insF] at h;exact Or.inl h
 | x::r,h=>by
  rw [insF] at h
  split at h
  ·rcases List.mem_cons.1 h with rfl | h
   ·exact Or.inr (by simp)
   ·rcases mem_insF h with h | h
    ·exact Or.inl h
    ·exact Or.inr (by simp [h])
  ·split at h
   ·rcases List.mem_cons.1 h with rfl | h
    ·exact Or.inl rfl
    ·exact Or.inr (by simp [h])
   ·rcases List.mem_cons.1 h with rfl | h
    ·exact Or.inl rfl
    ·exact Or.inr h
theorem less_of_not {a b:Bytes} (h1:¬ lessB a b=true) (h2:¬ a=b):lessB b a=true:=by
 cases h:lessB b a with
 | true=>rfl
 | false=>exact absurd (lessB_total (by simpa using h1) h) h2
theorem insF_asc {f:Fil} : ∀ {fs:List Fil},fs.Pairwise (fun f g=>lessB f.name g.name=true)→(insF f fs).Pairwise fun f g=>lessB f.name g.name=true
 | [],_=>by simp [insF]
 | x::r,h=>by
  have hp:=List.pairwise_cons.1 h;rw [insF]
  split
  ·rename_i hx
   refine List.pairwise_cons.2 ⟨fun g hg=>?_,insF_asc hp.2⟩
   rcases mem_insF hg with rfl | hg
   ·exact hx
   ·exact hp.1 g hg
  ·rename_i hx
   split
   ·rename_i he
    exact List.pairwise_cons.2 ⟨fun g hg=>by rw [←he];exact hp.1 g hg,hp.2⟩
   ·rename_i he
    refine List.pairwise_cons.2 ⟨fun g hg=>?_,h⟩
    rcases List.mem_cons.1 hg with rfl | hg
    ·exact less_of_not hx he
    ·exact lessB_trans (less_of_not hx he) (hp.1 g hg)
theorem find_insF (f:Fil):∀ fs:List Fil,findF f.name (insF f fs)=some f
 | []=>by simp [insF,findF]
 | x::r=>by
  rw [insF]
  split
  ·rename_i hx
   unfold findF;rw [List.find?_cons_of_neg]
   ·exact find_insF f r
   ·simp only [decide_eq_true_eq];intro e;rw [e,lessB_irrefl] at hx;cases hx
  ·split
   ·simp [findF]
   ·simp [findF]
theorem find_insF_other {f:Fil} {other:Bytes} (ho:other≠f.name):∀ fs:List Fil,findF other (insF f fs)=findF other fs
 | []=>by simp [insF,findF,Ne.symm ho]
 | x::r=>by
  rw [insF]
  split
  ·unfold findF;rw [List.find?_cons,List.find?_cons]
   split
   ·rfl
   ·exact find_insF_other ho r
  ·split
   ·rename_i he
    unfold findF;rw [List.find?_cons_of_neg (by simp [Ne.symm ho]),List.find?_cons_of_neg (by rw [he];simp [Ne.symm ho])]
   ·unfold findF;rw [List.find?_cons_of_neg (by simp [Ne.symm ho])]
theorem put_right {a:Arc} {name text:Bytes} {n:Int} (h:(put a name text n).2=0) :
  RightA a∧RightA (put a name text n).1∧text.length≤512∧(put a name text n).1=⟨a.ds,insF (packedF a.ds name text n) a.fs⟩∧textO a.ds (packedF a.ds name text n)=some text:=by
 unfold put at h ⊢
 by_cases h1:checkA a≠0
 ·rw [if_pos h1] at h;exact absurd h h1
 ·rw [if_neg h1] at h ⊢;have hr:=(check_iff a).1 (Decidable.not_not.1 h1)
  by_cases h2:nameB name=false
  ·rw [if_pos h2] at h;cases h
  ·rw [if_neg h2] at h ⊢
   by_cases h3:dictO a.ds n=none
   ·rw [if_pos h3] at h;cases h
   ·rw [if_neg h3] at h ⊢;obtain ⟨d,hd⟩:=Option.ne_none_iff_exists'.1 h3
    by_cases h4:512<text.length
    ·rw [if_pos h4] at h;cases h
    ·rw [if_neg h4] at h ⊢
     by_cases h5:12<(insF (packedF a.ds name text n) a.fs).length
     ·rw [if_pos h5] at h;cases h
     ·rw [if_neg h5] at h ⊢;have htx:=packed_text (name:=name) hd (dictO_len hr.sd hd) (Nat.le_of_not_lt h4);refine ⟨hr,⟨hr.nd,Nat.le_of_not_lt h5,hr.sd,⟨fun f hf=>?_,insF_asc hr.fr.asc⟩⟩,Nat.le_of_not_lt h4,rfl,htx⟩
      rcases mem_insF hf with rfl | hf
      ·unfold fileB;rw [htx];simpa [packedF] using h2
      ·exact hr.fr.each f hf
theorem get_right {a:Arc} (h:RightA a) (name:Bytes):get a name=match findF name a.fs with | none=>([],5) | some f=>(textD a.ds f,0):=by
 unfold get;rw [if_neg (by rw [(check_iff a).2 h];simp)]
theorem put_get {a:Arc} {name text:Bytes} {n:Int} (h:(put a name text n).2=0):get (put a name text n).1 name=(text,0):=by
 obtain ⟨h1,h2,h3,h4,h5⟩:=put_right h;rw [get_right h2,h4];have:findF name (insF (packedF a.ds name text n) a.fs)=some (packedF a.ds name text n):=find_insF (packedF a.ds name text n) a.fs;simp only [this];unfold textD;rw [h5];rfl
theorem put_other {a:Arc} {name text other:Bytes} {n:Int} (h:(put a name text n).2=0) (ho:other≠name):get (put a name text n).1 other=get a other:=by
 obtain ⟨h1,h2,h3,h4,h5⟩:=put_right h;rw [get_right h2,get_right h1,h4];have:findF other (insF (packedF a.ds name text n) a.fs)=findF other a.fs:=find_insF_other (f:=packedF a.ds name text n) ho a.fs;simp only [this]
theorem drop_right {a:Arc} {name:Bytes} (h:(drop a name).2=0):RightA a∧RightA (drop a name).1∧(drop a name).1=⟨a.ds,a.fs.filter fun f=>decide (f.name≠name)⟩:=by
 unfold drop at h ⊢
 by_cases h1:checkA a≠0
 ·rw [if_pos h1] at h;exact absurd h h1
 ·rw [if_neg h1] at h ⊢;have hr:=(check_iff a).1 (Decidable.not_not.1 h1)
  by_cases h2:findF name a.fs=none
  ·rw [if_pos h2] at h;cases h
  ·rw [if_neg h2] at h ⊢;exact ⟨hr,⟨hr.nd,Nat.le_trans (List.length_filter_le _ _) hr.nf,hr.sd,⟨fun f hf=>hr.fr.each f (List.mem_filter.1 hf).1,hr.fr.asc.filter _⟩⟩,rfl⟩
theorem find_filter {name:Bytes} {fs:List Fil} : findF name (fs.filter fun f=>decide (f.name≠name))=none:=by
 unfold findF;rw [List.find?_eq_none];intro f hf;have:=(List.mem_filter.1 hf).2;simpa using this
theorem drop_get {a:Arc} {name:Bytes} (h:(drop a name).2=0):get (drop a name).1 name=([],5):=by
 obtain ⟨h1,h2,h3⟩:=drop_right h;rw [get_right h2,h3];simp only [find_filter]
theorem find_map {g:Fil→Fil} (hg:∀ f,(g f).name=f.name) (name:Bytes):∀ fs:List Fil,findF name (fs.map g)=(findF name fs).map g
 | []=>rfl
 | x::r=>by
  have ih:=find_map hg name r;unfold findF at ih ⊢;rw [List.map_cons,List.find?_cons,List.find?_cons,hg]
  split
  ·rfl
  ·exact ih
theorem texts_few {a:Arc} (h:RightA a):manyB (textsA a)=false:=by
 unfold manyB textsA;rw [Bool.or_eq_false_iff];refine ⟨by simp only [List.length_map,decide_eq_false_iff_not];exact Nat.not_lt.2 h.nf,?_⟩;rw [List.any_eq_false];intro t ht;obtain ⟨f,_,rfl⟩:=List.mem_map.1 ht;have:=textD_len (ds:=a.ds) (f:=f);simp only [big,decide_eq_true_eq];omega
theorem retrain_right {a:Arc} {size:Int} (h:(retrain a size).2=0) :
  RightA a∧RightA (retrain a size).1∧(retrain a size).1=⟨a.ds++[trainD (textsA a) size],a.fs.map fun f=>packedF (a.ds++[trainD (textsA a) size]) f.name (textD a.ds f) (a.ds.length+1:Nat)⟩ ∧
  ∀ f,textO (a.ds++[trainD (textsA a) size]) (packedF (a.ds++[trainD (textsA a) size]) f.name (textD a.ds f) (a.ds.length+1:Nat))=some (textD a.ds f):=by
 unfold retrain at h ⊢
 by_cases h1:checkA a≠0
 ·rw [if_pos h1] at h;exact absurd h h1
 ·rw [if_neg h1] at h ⊢;have hr:=(check_iff a).1 (Decidable.not_not.1 h1)
  by_cases h2:trainE (textsA a) size≠0
  ·rw [if_pos h2] at h;exact absurd h h2
  ·rw [if_neg h2] at h ⊢
   by_cases h3:4≤a.ds.length
   ·rw [if_pos h3] at h;cases h
   ·rw [if_neg h3] at h ⊢;have hdl:=trainD_len (textsA a) size
    have hd:dictO (a.ds++[trainD (textsA a) size]) (a.ds.length+1:Nat)=some (trainD (textsA a) size):=by
     unfold dictO;rw [if_neg (by omega),if_neg (by simp;omega)]
     congr 1
     rw [List.getD_eq_getElem?_getD,show ((a.ds.length+1:Nat):Int).toNat-1=a.ds.length from by omega,List.getElem?_append_right (Nat.le_refl _)];simp
    have htx:∀ f,textO (a.ds++[trainD (textsA a) size]) (packedF (a.ds++[trainD (textsA a) size]) f.name (textD a.ds f) (a.ds.length+1:Nat))=some (textD a.ds f):=fun f =>
     packed_text hd hdl textD_len
    refine ⟨hr,⟨by simp;omega,by simpa using hr.nf,fun d hd=>?_,⟨fun f hf=>?_,?_⟩⟩,rfl,htx⟩
    ·rcases List.mem_append.1 hd with hd | hd
     ·exact hr.sd d hd
     ·rw [List.mem_singleton.1 hd];exact hdl
    ·obtain ⟨g,hg,rfl⟩:=List.mem_map.1 hf;unfold fileB;rw [htx g];simpa [packedF] using fileB_name (hr.fr.each g hg)
    ·rw [List.pairwise_map];exact hr.fr.asc
theorem retrain_get {a:Arc} {size:Int} (h:(retrain a size).2=0) (name:Bytes):get (retrain a size).1 name=get a name:=by
 obtain ⟨h1,h2,h3,h4⟩:=retrain_right h;rw [get_right h2,get_right h1,h3];simp only;rw [find_map (g:=fun f=>packedF (a.ds++[trainD (textsA a) size]) f.name (textD a.ds f) (a.ds.length+1:Nat)) (fun _=>rfl)];cases findF name a.fs with
 | none=>rfl
 | some f =>
  simp only [Option.map_some];show ((textO (a.ds++[trainD (textsA a) size]) (packedF (a.ds++[trainD (textsA a) size]) f.name (textD a.ds f) (a.ds.length+1:Nat))).getD [],0)=(textD a.ds f,0);rw [h4 f];rfl
theorem used_iff {fs:List Fil} {n:Nat} : usedB fs n=true↔∃ f∈fs,f.dict=(n:Int):=by
 unfold usedB;rw [List.any_eq_true];simp
theorem moved_step (fs:List Fil) (n:Nat):movedN fs (n+1)=movedN fs n+if usedB fs (n+1)=true then 1 else 0:=rfl
theorem moved_mono (fs:List Fil) {m n:Nat} (h:m≤n):movedN fs m≤movedN fs n:=by
 induction h with
 | refl=>exact Nat.le_refl _
 | step _ ih=>rw [moved_step];omega
theorem moved_le (fs:List Fil):∀ n,movedN fs n≤n
 | 0=>by rw [movedN];omega
 | n+1=>by have:=moved_le fs n;rw [moved_step];split <;> omega
theorem keepD_len (fs:List Fil):∀ (ds:List Bytes) (i:Nat),(keepD fs i ds).length+movedN fs i=movedN fs (i+ds.length)
 | [],i=>by simp [keepD]
 | d::r,i=>by
  have ih:=keepD_len fs r (i+1);rw [moved_step] at ih;rw [keepD,List.length_cons,show i+(r.length+1)=i+1+r.length from by omega,←ih]
  split
  ·simp;omega
  ·omega
theorem keepD_get (fs:List Fil):∀ (ds:List Bytes) (i j:Nat) (d:Bytes),ds[j]? = some d→usedB fs (i+j+1)=true→(keepD fs i ds)[movedN fs (i+j)-movedN fs i]? = some d
 | [],_,_,_,h,_=>by simp at h
 | x::r,i,0,d,h,hu=>by
  rw [keepD,if_pos (by simpa using hu)];simpa using h
 | x::r,i,j+1,d,h,hu=>by
  have ih:=keepD_get fs r (i+1) j d (by simpa using h) (by rw [←hu];congr 1;omega);have hm:=moved_mono fs (show i+1≤i+1+j from by omega);rw [show i+1+j=i+(j+1) from by omega] at ih hm;have hs:=moved_step fs i;rw [keepD]
  split
  ·rename_i h1
   rw [if_pos h1] at hs;rw [show movedN fs (i+(j+1))-movedN fs i=movedN fs (i+(j+1))-movedN fs (i+1)+1 from by omega];simpa using ih
  ·rename_i h1
   rw [if_neg h1] at hs;rw [show movedN fs (i+(j+1))-movedN fs i=movedN fs (i+(j+1))-movedN fs (i+1) from by omega];exact ih
theorem keepD_mem (fs:List Fil):∀ (ds:List Bytes) (i:Nat) (d:Bytes),d∈keepD fs i ds→d∈ds
 | [],_,_,h=>h
 | x::r,i,d,h=>by
  rw [keepD] at h
  split at h
  ·rcases List.mem_cons.1 h with rfl | h
   ·simp
   ·exact List.mem_cons_of_mem _ (keepD_mem fs r _ d h)
  ·exact List.mem_cons_of_mem _ (keepD_mem fs r _ d h)
theorem keepD_dict {fs:List Fil} {ds:List Bytes} {f:Fil} {d:Bytes} (hf:f∈fs) (h:dictO ds f.dict=some d):dictO (keepD fs 0 ds) (movedN fs f.dict.toNat:Nat)=some d:=by
 unfold dictO at h
 by_cases h0:f.dict=0
 ·rw [if_pos h0] at h;rw [h0];exact h
 ·rw [if_neg h0] at h
  by_cases h1:f.dict<1∨(ds.length:Int)<f.dict
  ·rw [if_pos h1] at h;cases h
  ·rw [if_neg h1] at h;obtain ⟨n,hn⟩:∃ n,f.dict.toNat=n+1:=⟨f.dict.toNat-1,by omega⟩
   have hu:usedB fs (n+1)=true:=used_iff.2 ⟨f,hf,by omega⟩;have hlt:n<ds.length:=by omega
   have hg:=keepD_get fs ds 0 n _ (List.getElem?_eq_getElem hlt) (by simpa using hu);have hz:movedN fs 0=0:=rfl;rw [Nat.zero_add,hz,Nat.sub_zero] at hg;have hlt2:=(List.getElem?_eq_some_iff.1 hg).1;have hs:=moved_step fs n;rw [if_pos hu] at hs;rw [hn];unfold dictO;rw [if_neg (by omega),if_neg (by omega),List.getD_eq_getElem?_getD,show ((movedN fs (n+1):Nat):Int).toNat-1=movedN fs n from by omega,hg];rw [hn,List.getD_eq_getElem?_getD,Nat.add_sub_cancel,List.getElem?_eq_getElem hlt] at h;simpa using h
theorem keepD_text {fs:List Fil} {ds:List Bytes} {f:Fil} {t:Bytes} (hf:f∈fs) (h:textO ds f=some t):textO (keepD fs 0 ds) (moveF fs f)=some t:=by
 unfold textO at h ⊢;cases hd:dictO ds f.dict with
 | none=>rw [hd] at h;cases h
 | some d =>
  rw [hd] at h;have:=keepD_dict hf hd;unfold moveF;simp only;rw [this];exact h
theorem compact_right {a:Arc} (h:(compact a).2=0):RightA a∧RightA (compact a).1∧(compact a).1=⟨keepD a.fs 0 a.ds,a.fs.map (moveF a.fs)⟩:=by
 unfold compact at h ⊢
 by_cases h1:checkA a≠0
 ·rw [if_pos h1] at h;exact absurd h h1
 ·rw [if_neg h1] at h ⊢;have hr:=(check_iff a).1 (Decidable.not_not.1 h1);have hkl:=keepD_len a.fs a.ds 0;have hml:=moved_le a.fs (0+a.ds.length);refine ⟨hr,⟨?_,by simpa using hr.nf,fun d hd=>hr.sd d (keepD_mem _ _ _ _ hd),⟨fun f hf=>?_,?_⟩⟩,rfl⟩
  ·have:=hr.nd;have hz:movedN a.fs 0=0:=rfl;simp only;omega
  ·obtain ⟨g,hg,rfl⟩:=List.mem_map.1 hf;have hk:=keepD_text hg (fileB_text (hr.fr.each g hg));unfold fileB;simp only [hk];simpa [moveF] using fileB_name (hr.fr.each g hg)
  ·rw [List.pairwise_map];exact hr.fr.asc
end Pl
end Go.Proofs.YtjpgoeimclipjaaGreat
namespace Go.Proofs.YtjpgoeimclipjaaGreat
namespace Pl
theorem playO_small {d s t:Bytes} (hd:d.length≤256) (h:playO d s=some t):s.length≤1024:=by
 unfold playO at h;cases hr:read d s with
 | none=>rw [hr] at h;cases h
 | some l =>
  have hw:=write_read hd hr
  have hp:(play d l).2=0:=by
   by_cases e:(play d l).2=0
   ·exact e
   ·unfold write at hw;rw [if_pos e] at hw;exact absurd (Prod.ext_iff.1 hw).2 e
  have:=toksB_small hp;unfold write at hw;rw [if_neg (by omega)] at hw;have e:toksB l=s:=(Prod.ext_iff.1 hw).1;rw [←e];exact this
theorem decoded_small {s x:Bytes} (h:decoded s=some x):s.length≤3900:=by
 unfold decoded at h
 split at h
 ·cases h
 ·rename_i h8
  cases ht:take (s.drop 8) with
  | none=>rw [decodeO_none ht] at h;cases h
  | some p =>
   obtain ⟨n,r⟩:=p;rw [decodeO_some ht] at h
   split at h
   ·rename_i he
    obtain ⟨h1,h2,h3⟩:=code_write_read he;have hn:=(take_some ht)
    have hx:=(writeE_parts h1).2.1;have hR:=right_of (unHd_len (b:=s) (Nat.le_of_not_lt h8)) (writeE_parts h1).1
    have hl:r.length≤3841:=by
     rw [←h2];unfold writeS;rw [if_pos h1,packB_len];have:=encK_len hR (nibs (readS (unHd s) r (n:Int)));rw [nibs_len] at this;omega
    have hb:=nb_len 4 n (by have:=hn.2;unfold maxNum at this;omega);have e:(s.drop 8).length=(nb n).length+r.length:=by rw [hn.1,List.length_append]
    rw [List.length_drop] at e;omega
   ·cases h
theorem unpack_small {d b t:Bytes} (hd:d.length≤256) (h:unpackO d b=some t):b.length≤3901:=by
 cases b with
 | nil=>cases h
 | cons k s =>
  rw [unpackO] at h;rw [List.length_cons]
  split at h
  ·split at h
   ·omega
   ·cases h
  ·split at h
   ·have:=playO_small hd h;omega
   ·split at h
    ·cases hx:decoded s with
     | none=>rw [hx] at h;cases h
     | some x=>have:=decoded_small hx;omega
    ·cases h
theorem file_nums {ds:List Bytes} {f:Fil} (hn:ds.length≤4) (hs:∀ d∈ds,d.length≤256) (h:fileB ds f=true) :
  f.name.length≤12∧0≤f.dict∧f.dict≤4∧0≤f.size∧f.size≤512∧0≤f.sum∧f.sum<65536∧f.block.length≤3901:=by
 have hnm:=fileB_name h;have ht:=fileB_text h;unfold nameB at hnm;rw [Bool.and_eq_true,decide_eq_true_eq] at hnm;unfold textO at ht;cases hd:dictO ds f.dict with
 | none=>rw [hd] at ht;cases ht
 | some d =>
  rw [hd] at ht;simp only [Option.bind_some] at ht;have hdl:=dictO_len hs hd
  have hdi:0≤f.dict∧f.dict≤4:=by
   unfold dictO at hd
   by_cases h0:f.dict=0
   ·omega
   ·rw [if_neg h0] at hd
    by_cases h1:f.dict<1∨(ds.length:Int)<f.dict
    ·rw [if_pos h1] at hd;cases hd
    ·omega
  unfold sizedO at ht;cases hu:unpackO d f.block with
  | none=>rw [hu] at ht;cases ht
  | some t =>
   rw [hu] at ht;simp only [Option.bind_some] at ht
   split at ht
   ·rename_i he
    have h1:=unpack_len hu;have h2:=unpack_small hdl hu;have h3:sumOf t<65536:=Nat.mod_lt _ (by decide);omega
   ·cases ht
end Pl
end Go.Proofs.YtjpgoeimclipjaaGreat
namespace Go.Proofs.YtjpgoeimclipjaaGreat
open Go.RowKit Go.Lib
abbrev S (l:List UInt8):Value:=.string ⟨l.toArray⟩
abbrev I (n:Int):Value:=.int .i64 n
abbrev B (b:UInt8):Value:=.int .u8 b.toNat
theorem acc {P:Program} {f:FuncId} {args:Array Value} {w0 W:World} {v:Value} (h:Calls P f args W fun e w'=>e = .returned v∧Below W.heap.size W w') (hb:Below w0.heap.size w0 W) :
  Calls P f args W fun e w'=>e = .returned v∧Below w0.heap.size w0 w' :=
 h.mono fun _ _ ⟨he,h1⟩=>⟨he,hb.trans (h1.mono hb.size)⟩
theorem zH {p:Prop} (h:p):Hid p:=h
theorem zU {p:Prop} (h:Hid p):p:=h
theorem info_u8:(Tryz.prog.info? 5).map (fun i=>(i.zero,i.size,i.bytes))=some (some (.int .u8 0),1,1):=by kernel_rfl
theorem ext_list (l:List UInt8) (a b:Nat):(⟨l.toArray⟩:ByteArray).extract a b=⟨(Pl.slice l a b).toArray⟩:=by
 apply ByteArray.ext;simp [Pl.slice,ByteArray.data_extract,List.extract_toArray,List.extract_eq_take_drop,List.drop_take]
theorem app_list (a b:List UInt8):(⟨a.toArray⟩:ByteArray)++(⟨b.toArray⟩:ByteArray)=⟨(a++b).toArray⟩:=by
 apply ByteArray.ext;simp
theorem wpList_push {P:Program} {w:World} {ops:Array Oper} {rest:List Oper} {o:Oper} {a:Act} {Q:Exit→Act→World→Prop} (hgd:o.guard=none) (s x:Operand) (t:TypeId)
  (ho:o.op = .call { callee:=.builtin .append,args:=#[s,x],argTypes:=#[t,t] })
  (base:Nat) (e:TypeId) (i:TypeInfo) (z:Value) (bytes:Nat) (ht:P.underlying t=some (.slice e)) (hi:P.info? e=some i) (hz:i.zero=some z)
  (hsize:i.size=1) (hby:i.bytes=bytes) (hzs:z.cells.size=1)
  (v:Value) (n:Nat) (xs:List Value) (hs:a.eval s=v) (hown:w.ownsRow base e 1 v n xs) (u:Value) (te:TypeId)
  (hx:a.eval x = .slice (some ⟨w.heap.size,0,none⟩) 1 1) (h1:u.oneCell'=true)
  (h63:n+1≤maxLen) (hbytes:(n+1)*bytes≤140737488355328) (hbase:base≤w.heap.size)
  (h:∀ v' w',w'.ownsRow base e 1 v' (n+1) (xs++[u])→Below base w w'→(w.alloc (.cells #[u] te)).grownBy w' v.ownBlock→wpList P ops Q rest (a.put o.dst v') w') :
  wpList P ops Q (o::rest) a (w.alloc (.cells #[u] te)):=by
 refine wpList_append_own _ hgd s x t ho base e i z 1 bytes ht hi hz hsize hby hzs (by decide) v n xs hs (hown.alloc _) ⟨w.heap.size,0,none⟩ 1 1 [u] hx rfl (cell_one_new _ _ _) ?_ h63 hbytes ?_ ?_
 ·intro y hy;simp at hy;subst hy;exact h1
 ·simp;omega
 ·intro v' w' hown' hg _;refine h v' w' hown' ?_ hg;exact ((Below.refl _ _).alloc hbase _).grown hg (by simp;omega) (fun k hk=>(hown.lt k hk).1)
theorem run_str_own {P:Program} {w:World} {base e:Nat} {v:Value} {n:Nat} {l:List UInt8} (h:w.ownsRow base e 1 v n (l.map B)) (src dst:TypeId)
  (hs:P.underlying src=some (.slice e)) (he:P.underlying e=some (.int .u8)) (hd:P.underlying dst=some .string) :
  (convert src dst v).run P w = .ok (S l) w:=by
 have hn:l.length=n:=by have:=h.1;simpa using this
 rcases h.2 with ⟨rfl,h0⟩ | ⟨g,cap,cur,rfl,_⟩
 ·subst h0;have:l=[]:=List.eq_nil_of_length_eq_zero hn;subst this;exact run_convert_nil_bytes w src dst e 0 hs he hd
 ·subst hn;refine run_convert_bytes_back w src dst e _ cap l hs he hd ?_
  intro j hj;refine h.cells (g:=g) rfl j _ ?_;simp [hj]
theorem own_byte {w:World} {base e:Nat} {v:Value} {n:Nat} {l:List UInt8} {x:Int} (b:UInt8) (h:w.ownsRow base e 1 v n (l.map B++[.int .u8 x])) (hb:(b.toNat:Int)=x) :
  w.ownsRow base e 1 v n ((l++[b]).map B):=by
 subst hb;simpa using h
theorem byte_of (k:Nat) (h:k<256):∃ b:UInt8,b=UInt8.ofNat k∧(b.toNat:Int)=k:=⟨_,rfl,by simp [UInt8.toNat_ofNat'];omega⟩
theorem ofNat_toNat {k:Nat} (h:k<256):((UInt8.ofNat k).toNat:Int)=k:=by
 simp [UInt8.toNat_ofNat'];omega
theorem run_conv1 {P:Program} (w:World) (g:Nat) {x:Int} (b:UInt8) (hx:(b.toNat:Int)=x) (hc:w.cell? ⟨g,0,none⟩=some (.int .u8 x)) (src dst e:TypeId)
  (hs:P.underlying src=some (.slice e)) (he:P.underlying e=some (.int .u8)) (hd:P.underlying dst=some .string) :
  (convert src dst (.slice (some ⟨g,0,none⟩) 1 1)).run P w = .ok (S [b]) w:=by
 subst hx;refine run_convert_bytes_back w src dst e _ 1 [b] hs he hd ?_
 intro j hj;have hj0:j=0:=by simp at hj;omega
 subst hj0;simpa [Addr.add] using hc
theorem run_conv1_new {P:Program} (w:World) {x:Int} (b:UInt8) (hx:(b.toNat:Int)=x) (t src dst e:TypeId)
  (hs:P.underlying src=some (.slice e)) (he:P.underlying e=some (.int .u8)) (hd:P.underlying dst=some .string) :
  (convert src dst (.slice (some ⟨w.heap.size,0,none⟩) 1 1)).run P (w.alloc (.cells #[.int .u8 x] t)) = .ok (S [b]) (w.alloc (.cells #[.int .u8 x] t)) :=
 run_conv1 _ _ b hx (by simp) src dst e hs he hd
theorem run_conv1_drew {P:Program} (w:World) {x:Int} (b:UInt8) (hx:(b.toNat:Int)=x) (t src dst e:TypeId)
  (hs:P.underlying src=some (.slice e)) (he:P.underlying e=some (.int .u8)) (hd:P.underlying dst=some .string) :
  (convert src dst (.slice (some ⟨w.heap.size,0,none⟩) 1 1)).run P (w.alloc (.cells #[.int .u8 x] t)).drew = .ok (S [b]) (w.alloc (.cells #[.int .u8 x] t)).drew :=
 run_conv1 _ _ b hx (by show (w.alloc (.cells #[.int .u8 x] t)).cell? _=_;simp) src dst e hs he hd
theorem run_conv1_later_drew {P:Program} {w w':World} {t:TypeId} {x:Int} (b:UInt8) (hx:(b.toNat:Int)=x) (hb:Below (w.alloc (.cells #[.int .u8 x] t)).drew.heap.size (w.alloc (.cells #[.int .u8 x] t)).drew w') (src dst e:TypeId)
  (hs:P.underlying src=some (.slice e)) (he:P.underlying e=some (.int .u8)) (hd:P.underlying dst=some .string) :
  (convert src dst (.slice (some ⟨w.heap.size,0,none⟩) 1 1)).run P w' = .ok (S [b]) w' :=
 run_conv1 _ _ b hx (cell_later hb (by show (w.alloc (.cells #[.int .u8 x] t)).cell? _=_;simp)) src dst e hs he hd
theorem or128 (x:Int) (h0:0≤x) (h1:x<256):bits .or .u8 x 128=128+x % 128:=by
 have h:∀ y:Fin 256,bits .or .u8 (y.val:Int) 128=128+(y.val:Int) % 128:=by decide +kernel
 have:=h ⟨x.toNat,by omega⟩;have e:((x.toNat:Nat):Int)=x:=by omega
 rw [e] at this;exact this
theorem and127 (c:UInt8):bits .and .u8 (c.toNat:Int) 127=((c.toNat % 128:Nat):Int):=by
 have h:∀ y:Fin 256,bits .and .u8 (y.val:Int) 127=((y.val % 128:Nat):Int):=by decide +kernel
 exact h ⟨c.toNat,c.toNat_lt⟩
theorem ofInt_i64 (a:Nat) (ha:a<9223372036854775808):(BitVec.ofInt 64 (a:Int)).toNat=a:=by
 rw [BitVec.ofInt_natCast,BitVec.toNat_ofNat];exact Nat.mod_eq_of_lt (by omega)
theorem i64_and_nat (a b:Nat) (ha:a<9223372036854775808) (hb:b<9223372036854775808):bits .and .i64 (a:Int) (b:Int)=((a &&& b:Nat):Int):=by
 have hx:a &&& b<2 ^ 63:=Nat.and_lt_two_pow _ (by omega);show IntKind.i64.wrap ((BitVec.ofInt 64 (a:Int) &&& BitVec.ofInt 64 (b:Int)).toNat:Int)=_;rw [BitVec.toNat_and,ofInt_i64 a ha,ofInt_i64 b hb,IntKind.wrap_i64];omega
theorem i64_or_nat (a b:Nat) (ha:a<9223372036854775808) (hb:b<9223372036854775808):bits .or .i64 (a:Int) (b:Int)=((a ||| b:Nat):Int):=by
 have hx:a ||| b<2 ^ 63:=Nat.or_lt_two_pow (by omega) (by omega);show IntKind.i64.wrap ((BitVec.ofInt 64 (a:Int) ||| BitVec.ofInt 64 (b:Int)).toNat:Int)=_;rw [BitVec.toNat_or,ofInt_i64 a ha,ofInt_i64 b hb,IntKind.wrap_i64];omega
theorem or7 (acc x k:Nat) (ha:acc<128 ^ k) (hx:x<128) (hk:k<5):bits .or .i64 (acc:Int) (wrap64 ((x:Int)*2 ^ (7*k)))=((acc+x*128 ^ k:Nat):Int):=by
 have e:(2:Int) ^ (7*k)=((128 ^ k:Nat):Int):=by
  have:(128:Nat) ^ k=2 ^ (7*k):=by rw [Nat.pow_mul]
  rw [this];norm_cast
 have hp:(128:Nat) ^ k≤128 ^ 4:=Nat.pow_le_pow_right (by omega) (by omega);have hm:x*128 ^ k≤127*128 ^ 4:=Nat.mul_le_mul (by omega) hp;rw [e,←Int.natCast_mul];have hw:wrap64 ((x*128 ^ k:Nat):Int)=((x*128 ^ k:Nat):Int):=IntWalk.wrap64_in _ ⟨by omega,by omega⟩;rw [hw,i64_or_nat _ _ (by omega) (by omega)]
 congr 1
 have e2:x*128 ^ k=x <<< (7*k):=by
  rw [Nat.shiftLeft_eq];congr 1;rw [Nat.pow_mul]
 rw [e2,Nat.or_comm,←Nat.shiftLeft_add_eq_or_of_lt (by rw [Nat.pow_mul];exact ha)];omega
end Go.Proofs.YtjpgoeimclipjaaGreat
namespace Go.Proofs.YtjpgoeimclipjaaGreat
open Go.RowKit Go.Lib
def Clear (fz:Nat×Nat) (n:Nat):Prop:=fz.2≤fz.1∨n≤fz.1
def OwnM (w:World) (base:Nat) (e:TypeId) (size:Nat) (v:Value) (n:Nat) (xs:List Value):Prop :=
 xs.length=n*size ∧
 ((v = .slice none 0 0∧n=0) ∨
  ∃ g cap cur fz,v = .slice (some ⟨g,0,none⟩) n cap∧base≤g∧w.heap[g]? = some (.cells cur e fz)∧Clear fz cur.size∧n≤cap∧cap≤maxLen∧cur.size=cap*size∧cur.toList.take (n*size)=xs)
section
variable {w : World} {base : Nat} {e : TypeId} {size : Nat} {v : Value} {n : Nat} {xs : List Value}
theorem OwnM.of (h:w.ownsRow base e size v n xs):OwnM w base e size v n xs:=by
 refine ⟨h.1,?_⟩
 rcases h.2 with hn | ⟨g,cap,cur,hv,hb,hg,rest⟩
 ·exact .inl hn
 ·exact .inr ⟨g,cap,cur,(0,0),hv,hb,hg,.inl (Nat.le_refl _),rest⟩
theorem OwnM.lt (h:OwnM w base e size v n xs):∀ k,v.ownBlock=some k→base≤k∧k<w.heap.size:=by
 intro k hk
 rcases h.2 with ⟨rfl,_⟩ | ⟨g,cap,cur,fz,rfl,hb,hg,_⟩
 ·simp [Value.ownBlock] at hk
 ·simp [Value.ownBlock] at hk;subst hk;exact ⟨hb,(Array.getElem?_eq_some_iff.1 hg).1⟩
theorem OwnM.kept {w':World} (h:OwnM w base e size v n xs) (hg:∀ k,v.ownBlock=some k→w'.heap[k]? = w.heap[k]?):OwnM w' base e size v n xs:=by
 refine ⟨h.1,?_⟩
 rcases h.2 with hn | ⟨g,cap,cur,fz,rfl,hb,hgg,rest⟩
 ·exact .inl hn
 ·exact .inr ⟨g,cap,cur,fz,rfl,hb,(hg g rfl).trans hgg,rest⟩
theorem OwnM.alloc (h:OwnM w base e size v n xs) (o:Obj):OwnM (w.alloc o) base e size v n xs :=
 h.kept fun k hk=>Below.heap_alloc w o k (h.lt k hk).2
theorem OwnM.drew (h:OwnM w base e size v n xs):OwnM w.drew base e size v n xs:=h
theorem OwnM.drewN (h:OwnM w base e size v n xs) (k:Nat):OwnM (w.drewN k) base e size v n xs:=h
theorem OwnM.mono {b:Nat} (h:OwnM w base e size v n xs) (hb:b≤base):OwnM w b e size v n xs:=by
 refine ⟨h.1,?_⟩
 rcases h.2 with hn | ⟨g,cap,cur,fz,hv,hb',rest⟩
 ·exact .inl hn
 ·exact .inr ⟨g,cap,cur,fz,hv,Nat.le_trans hb hb',rest⟩
theorem OwnM.setCell (h:OwnM w base e size v n xs) {p:Addr} (hp:v.ownBlock≠some p.block) (u:Value):OwnM (w.setCell p u) base e size v n xs :=
 h.kept fun k hk=>Below.heap_setCell w p u k (fun e=>hp (by rw [hk,e]))
theorem OwnM.cells (h:OwnM w base e size v n xs) {g:Nat} (hg:v.ownBlock=some g):∀ j u,xs[j]? = some u→w.cell? ((⟨g,0,none⟩:Addr).add j)=some u:=by
 intro j u hu
 rcases h.2 with ⟨rfl,_⟩ | ⟨g',cap,cur,fz,rfl,_,hgg,_,_,_,_,htake⟩
 ·simp [Value.ownBlock] at hg
 ·simp [Value.ownBlock] at hg;subst hg;have hadd:(⟨g',0,none⟩:Addr).add j=⟨g',j,none⟩:=by unfold Addr.add;split <;> simp_all
  rw [hadd,cell_of_row w g' j cur e fz hgg];rw [←htake,List.getElem?_take] at hu
  split at hu
  ·simpa using hu
  ·cases hu
theorem OwnM.at_ (h:OwnM w base e 1 v n xs) {k:Nat} (hk:k<n):∃ g cap u,v = .slice (some ⟨g,0,none⟩) n cap∧base≤g∧xs[k]? = some u∧w.cell? ⟨g,k,none⟩=some u:=by
 have hx:k<xs.length:=by have:=h.1;omega
 rcases h.2 with ⟨_,rfl⟩ | ⟨g,cap,cur,fz,hv,hb,_⟩
 ·omega
 ·have hc:=h.cells (g:=g) (by rw [hv];rfl) k _ (List.getElem?_eq_getElem hx);have hadd:(⟨g,0,none⟩:Addr).add k=⟨g,k,none⟩:=by unfold Addr.add;split <;> simp_all
  rw [hadd] at hc;exact ⟨g,cap,_,hv,hb,List.getElem?_eq_getElem hx,hc⟩
end
theorem OwnM.bytes (w:World) (e:TypeId) (s:ByteArray) (base:Nat) (hb:base≤w.heap.size) (hs:s.size≤maxLen) :
  OwnM (w.drew.alloc (.cells (bytesRow s (grownCap w s.size 0 e)) e ((bytesRow s (grownCap w s.size 0 e)).size,(bytesRow s (grownCap w s.size 0 e)).size+1))) base e 1
   (.slice (some ⟨w.heap.size,0,none⟩) s.size (grownCap w s.size 0 e)) s.size (strCells s):=by
 have hge:=grownCap_ge w s.size 0 e;refine ⟨by rw [strCells_length];omega,.inr ⟨w.heap.size,_,_,_,rfl,hb,heap_alloc_new w.drew _,.inr (Nat.le_refl _),hge,grownCap_le_maxLen w _ _ e hs,?_,?_⟩⟩
 ·have hz:s.data.size=s.size:=rfl;simp [bytesRow,hz];omega
 ·have hz:s.data.size=s.size:=rfl;simp only [bytesRow,Array.toList_append,Nat.mul_one];rw [List.take_append_of_le_length (by simp [hz])];rw [List.take_of_length_le (by simp [hz])];simp [strCells]
theorem run_storeCells_atM (P:Program) (g o:Nat) (t:TypeId) (fz:Nat×Nat):∀ (vs:List Value) (i:Nat) (cur:Array Value) (w:World),w.heap[g]? = some (.cells cur t fz)→Clear fz cur.size→o+i+vs.length≤cur.size→(∀ v∈vs,v.oneCell'=true) →
  (storeCells ⟨g,o,none⟩ vs i).run P w = .ok () (w.setRow g (cur.toList.take (o+i)++vs++cur.toList.drop (o+i+vs.length)).toArray)
 | [],i,cur,w,hg,_,_,_=>by
  simp only [storeCells,List.append_nil,List.length_nil,Nat.add_zero,List.take_append_drop,Array.toArray_toList];rw [setRow_self w g cur t fz hg];rfl
 | v::rest,i,cur,w,hg,hfz,hl,h1=>by
  have hi:o+i<cur.size:=by simp at hl;omega
  have hadd:(⟨g,o,none⟩:Addr).add i=⟨g,o+i,none⟩:=by unfold Addr.add;split <;> simp_all
  have hcell:w.cell? ⟨g,o+i,none⟩=some cur[o+i]:=by simp [World.cell?,hg,hi]
  have hfro:w.frozen? ⟨g,o+i,none⟩=false:=by
   obtain ⟨lo,hi'⟩:=fz;simp only [World.frozen?,hg,Bool.and_eq_false_iff,decide_eq_false_iff_not];unfold Clear at hfz;simp only at hfz;omega
  have hst:(store ((⟨g,o,none⟩:Addr).add i) v).run P w = .ok () (w.setRow g (cur.setIfInBounds (o+i) v)):=by
   rw [hadd,run_store P w _ v _ (h1 v (by simp)),hcell];simp [hfro,setCell_eq_setRow w g (o+i) cur t fz v hg]
  have ih:=run_storeCells_atM P g o t fz rest (i+1) (cur.setIfInBounds (o+i) v) (w.setRow g (cur.setIfInBounds (o+i) v)) (setRow_heap w g cur _ t _ hg) (by simpa using hfz) (by simp at hl ⊢;omega) (fun x hx=>h1 x (by simp [hx]));simp only [storeCells,Sem.run_bind,hst,Result.andThen_ok,ih,setRow_setRow]
  congr 3
  have e:=list_seg_step cur.toList (o+i) v rest (by simp at hl ⊢;omega);simpa [Array.toList_setIfInBounds,Nat.add_assoc] using e
section
variable {P : Program} (w : World)
theorem run_append_roomM (t ty e:TypeId) (i:TypeInfo) (ht:P.underlying t=some (.slice e)) (hi:P.info? e=some i)
  (g sLen sCap:Nat) (cur:Array Value) (fz:Nat×Nat) (hg:w.heap[g]? = some (.cells cur e fz)) (hfz:Clear fz cur.size)
  (a:Addr) (m c:Nat) (news:List Value) (hl:news.length=m*i.size) (hnews:∀ j u,news[j]? = some u→w.cell? (a.add j)=some u) (h1:∀ u∈news,u.oneCell'=true)
  (hroom:sLen+m≤sCap) (hfit:sLen*i.size+news.length≤cur.size) :
  (Builtin.append_ #[t,t] ty #[.slice (some ⟨g,0,none⟩) sLen sCap,.slice (some a) m c]).run P w =
   .ok (.slice (some ⟨g,0,none⟩) (sLen+m) sCap) (w.setRow g (cur.toList.take (sLen*i.size)++news++cur.toList.drop (sLen*i.size+news.length)).toArray):=by
 have hf:=run_firstCells_some (P:=P) w i.size m a m c news hl hnews;have hst:=run_storeCells_atM P g (sLen*i.size) e fz news 0 cur w hg hfz (by simpa using hfit) h1;simp only [Nat.add_zero] at hst;simp [Builtin.append_,run_underlying ht,sizeOf,typeInfo,hi,Builtin.lenOf,hroom,hf,Addr.add_lit,hst]
theorem run_append_roomM_string (t u ty e:TypeId) (i:TypeInfo) (ht:P.underlying t=some (.slice e)) (hu:P.underlying u=some .string) (hi:P.info? e=some i) (hs1:i.size=1)
  (g sLen sCap:Nat) (cur:Array Value) (fz:Nat×Nat) (hg:w.heap[g]? = some (.cells cur e fz)) (hfz:Clear fz cur.size) (s:ByteArray)
  (hroom:sLen+s.size≤sCap) (hfit:sLen+s.size≤cur.size) :
  (Builtin.append_ #[t,u] ty #[.slice (some ⟨g,0,none⟩) sLen sCap,.string s]).run P w =
   .ok (.slice (some ⟨g,0,none⟩) (sLen+s.size) sCap) (w.setRow g (cur.toList.take sLen++strCells s++cur.toList.drop (sLen+s.size)).toArray):=by
 have hf:=run_firstCells_string (P:=P) w 1 s;have hst:=run_storeCells_atM P g sLen e fz (strCells s) 0 cur w hg hfz (by simpa [strCells_length] using hfit) (strCells_oneCell s);simp only [Nat.add_zero,strCells_length] at hst;simp [Builtin.append_,run_underlying ht,run_underlying hu,sizeOf,typeInfo,hi,hs1,Builtin.lenOf,hroom,hf,Addr.add_lit,hst]
theorem run_append_M (base:Nat) (t ty e:TypeId) (i:TypeInfo) (z:Value) (size bytes:Nat) (ht:P.underlying t=some (.slice e)) (hi:P.info? e=some i) (hz:i.zero=some z)
  (hsize:i.size=size) (hby:i.bytes=bytes) (hzs:z.cells.size=size) (hsz:0<size)
  (v:Value) (n:Nat) (xs:List Value) (hown:OwnM w base e size v n xs)
  (a:Addr) (m c:Nat) (news:List Value) (hl:news.length=m*size) (hnews:∀ j u,news[j]? = some u→w.cell? (a.add j)=some u) (h1:∀ u∈news,u.oneCell'=true)
  (h63:n+m≤maxLen) (hbytes:(n+m)*bytes≤140737488355328) (hbase:base≤w.heap.size) :
  ∃ v' w',(Builtin.append_ #[t,t] ty #[v,.slice (some a) m c]).run P w = .ok v' w'∧OwnM w' base e size v' (n+m) (xs++news)∧w.grownBy w' v.ownBlock ∧
   (v'.ownBlock=v.ownBlock∨v'.ownBlock=some w.heap.size):=by
 rcases hown.2 with ⟨rfl,rfl⟩ | ⟨g,cap,cur,fz,rfl,hbg,hg,hfz,hnc,hcm,hcs,htake⟩
 ·obtain ⟨v',w',hr,h2,h3,_,h5⟩:=run_append_own_at (P:=P) w base t ty e i z size bytes ht hi hz hsize hby hzs hsz (.slice none 0 0) 0 xs ⟨hown.1,.inl ⟨rfl,rfl⟩⟩ a m c news hl hnews h1 h63 hbytes hbase;exact ⟨v',w',hr,OwnM.of h2,h3,h5⟩
 ·subst hsize;subst hby;have hsmall:n+m≤9223372036854775807:=by simp only [maxLen] at h63;omega
  have hlen:(xs++news).length=(n+m)*i.size:=by rw [List.length_append,hown.1,hl,Nat.add_mul]
  by_cases hroom:n+m≤cap
  ·have hfit:n*i.size+news.length≤cur.size:=by rw [hl,hcs,←Nat.add_mul];exact Nat.mul_le_mul_right _ hroom
   have hr:=run_append_roomM (P:=P) w t ty e i ht hi g n cap cur fz hg hfz a m c news hl hnews h1 hroom hfit
   have hcs2:(cur.toList.take (n*i.size)++news++cur.toList.drop (n*i.size+news.length)).toArray.size=cur.size:=by
    simp only [List.size_toArray,List.length_append,List.length_take,List.length_drop,Array.length_toList];omega
   refine ⟨_,_,hr,⟨hlen,.inr ⟨g,cap,_,fz,rfl,hbg,setRow_heap w g cur _ e _ hg,by rw [hcs2];exact hfz,hroom,hcm,by rw [hcs2];exact hcs,?_⟩⟩,⟨rfl,rfl,rfl,by simp,fun k _ hk=>setRow_other w g k _ (fun e=>hk (by simp [Value.ownBlock,e]))⟩,.inl rfl⟩;rw [htake,←hlen];exact List.take_left
  ·have holds:∀ j u,xs[j]? = some u→w.cell? ((⟨g,0,none⟩:Addr).add j)=some u:=hown.cells (g:=g) rfl;have hr:=run_append_grow (P:=P) w t ty e i z ht hi hz ⟨g,0,none⟩ n cap xs hown.1 holds a m c news hl hnews (by omega) (by omega) (growslice_fits (by omega) hbytes);have hge:=grownCap_ge w (n+m) cap e;have hcm2:grownCap w (n+m) cap e≤maxLen:=grownCap_le_maxLen w (n+m) cap e h63;refine ⟨_,_,hr,⟨hlen,.inr ⟨w.heap.size,_,_,(0,0),rfl,hbase,heap_alloc_new w.drew _,.inl (Nat.le_refl _),hge,hcm2,?_,?_⟩⟩,⟨rfl,rfl,rfl,by simp,fun k hk _=>Below.heap_alloc w.drew _ k hk⟩,.inr rfl⟩
   ·simp only [Array.size_append,List.size_toArray,size_zeroCells,hzs,hown.1,hl,←Nat.add_mul]
    congr 1
    omega
   ·simp only [Array.toList_append,List.append_assoc];rw [←List.append_assoc,←hlen];exact List.take_left
theorem run_append_M_string (base:Nat) (t u ty e:TypeId) (i:TypeInfo) (ht:P.underlying t=some (.slice e)) (hu:P.underlying u=some .string) (hi:P.info? e=some i) (hz:i.zero=some (.int .u8 0))
  (hsize:i.size=1) (hby:i.bytes=1)
  (v:Value) (n:Nat) (xs:List Value) (hown:OwnM w base e 1 v n xs) (s:ByteArray)
  (h63:n+s.size≤maxLen) (hbytes:n+s.size≤140737488355328) (hbase:base≤w.heap.size) :
  ∃ v' w',(Builtin.append_ #[t,u] ty #[v,.string s]).run P w = .ok v' w'∧OwnM w' base e 1 v' (n+s.size) (xs++strCells s)∧w.grownBy w' v.ownBlock ∧
   (v'.ownBlock=v.ownBlock∨v'.ownBlock=none∨∃ g,v'.ownBlock=some g∧w.heap.size≤g):=by
 rcases hown.2 with ⟨rfl,rfl⟩ | ⟨g,cap,cur,fz,rfl,hbg,hg,hfz,hnc,hcm,hcs,htake⟩
 ·obtain ⟨v',w',h1,h2,h3,_⟩:=run_append_own_string (P:=P) w w.heap.size t u ty e i ht hu hi hz hsize hby (.slice none 0 0) 0 xs ⟨hown.1,.inl ⟨rfl,rfl⟩⟩ s h63 hbytes (Nat.le_refl _);refine ⟨v',w',h1,(OwnM.of h2).mono hbase,h3,.inr ?_⟩;cases hv:v'.ownBlock with
  | none=>exact .inl rfl
  | some g=>exact .inr ⟨g,rfl,(h2.lt g hv).1⟩
 ·have hsmall:n+s.size≤9223372036854775807:=by simp only [maxLen] at h63;omega
  have hxl:xs.length=n:=by simpa using hown.1
  have hlen:(xs++strCells s).length=(n+s.size)*1:=by rw [List.length_append,hxl,strCells_length,Nat.mul_one]
  by_cases hroom:n+s.size≤cap
  ·have hcs':cur.size=cap:=by simpa using hcs
   have hr:=run_append_roomM_string (P:=P) w t u ty e i ht hu hi hsize g n cap cur fz hg hfz s hroom (by omega)
   have hcs2:(cur.toList.take n++strCells s++cur.toList.drop (n+s.size)).toArray.size=cur.size:=by
    simp only [List.size_toArray,List.length_append,List.length_take,List.length_drop,Array.length_toList,strCells_length];omega
   refine ⟨_,_,hr,⟨hlen,.inr ⟨g,cap,_,fz,rfl,hbg,setRow_heap w g cur _ e _ hg,by rw [hcs2];exact hfz,hroom,hcm,by rw [hcs2];exact hcs,?_⟩⟩,⟨rfl,rfl,rfl,by simp,fun k _ hk=>setRow_other w g k _ (fun e=>hk (by simp [Value.ownBlock,e]))⟩,.inl rfl⟩;have ht':cur.toList.take n=xs:=by simpa using htake
   rw [ht',←hlen];exact List.take_left
  ·have holds:∀ j u,xs[j]? = some u→w.cell? ((⟨g,0,none⟩:Addr).add j)=some u:=hown.cells (g:=g) rfl;have hr:=run_append_grow_string (P:=P) w t u ty e i (.int .u8 0) ht hu hi hz ⟨g,0,none⟩ n cap xs (by rw [hsize];simpa using hxl) holds s (by omega) (by omega) (by rw [hby];exact growslice_fits (by omega) (by omega));have hge:=grownCap_ge w (n+s.size) cap e;have hcm2:grownCap w (n+s.size) cap e≤maxLen:=grownCap_le_maxLen w (n+s.size) cap e h63;refine ⟨_,_,hr,⟨hlen,.inr ⟨w.heap.size,_,_,(0,0),rfl,hbase,heap_alloc_new w.drew _,.inl (Nat.le_refl _),hge,hcm2,?_,?_⟩⟩,⟨rfl,rfl,rfl,by simp,fun k hk _=>Below.heap_alloc w.drew _ k hk⟩,.inr (.inr ⟨_,rfl,Nat.le_refl _⟩)⟩
   ·have hz1:(Value.int IntKind.u8 0).cells.size=1:=rfl;simp only [Array.size_append,List.size_toArray,size_zeroCells,hz1,hxl,strCells_length];omega
   ·simp only [Array.toList_append,List.append_assoc];rw [←List.append_assoc,←hlen];exact List.take_left
end
section
variable {P : Program} {w : World}
theorem wp_append_M_string {o:Oper} {a:Act} {K:Act→World→Prop} {Q:Exit→Act→World→Prop} (sl x:Operand) (t u:TypeId)
  (ho:o.op = .call { callee:=.builtin .append,args:=#[sl,x],argTypes:=#[t,u] })
  (base:Nat) (e:TypeId) (i:TypeInfo) (ht:P.underlying t=some (.slice e)) (hu:P.underlying u=some .string) (hi:P.info? e=some i) (hz:i.zero=some (.int .u8 0))
  (hsize:i.size=1) (hby:i.bytes=1)
  (v:Value) (n:Nat) (xs:List Value) (hs:a.eval sl=v) (hown:OwnM w base e 1 v n xs) (s:ByteArray) (hx:a.eval x = .string s)
  (h63:n+s.size≤maxLen) (hbytes:n+s.size≤140737488355328) (hbase:base≤w.heap.size)
  (h:∀ A' cap' w',OwnM w' base e 1 (.slice A' (n+s.size) cap') (n+s.size) (xs++strCells s)→w.grownBy w' v.ownBlock →
   (Value.ownBlock (.slice A' (n+s.size) cap')=v.ownBlock∨Value.ownBlock (.slice A' (n+s.size) cap')=none∨∃ g,Value.ownBlock (.slice A' (n+s.size) cap')=some g∧w.heap.size≤g)→K (a.put o.dst (.slice A' (n+s.size) cap')) w'):o.wp P a w K Q:=by
 obtain ⟨v',w',hr,h2,h3,h4⟩:=run_append_M_string (P:=P) w base t u o.type e i ht hu hi hz hsize hby v n xs hown s h63 hbytes hbase;unfold Oper.wp execOp;simp only [ho,resolve,invoke,builtin,Sem.run_bind,Sem.run_pure,Result.andThen_ok,List.map_toArray,List.map_cons,List.map_nil,hs,hx,hr]
 rcases h2.2 with ⟨rfl,hn⟩ | ⟨g,cap,cur,fz,rfl,_⟩
 ·have e1:Value.slice none 0 0 = .slice none (n+s.size) 0:=by rw [hn]
  rw [e1] at h2 h4 ⊢;exact h _ _ _ h2 h3 h4
 ·exact h _ _ _ h2 h3 h4
theorem step_append_M_string {ops:Array Oper} {o:Oper} {a:Act} {K:Act→World→Prop} {Q:Exit→Act→World→Prop} {E:Prop} (hgd:o.guard=none) (sl x:Operand) (t u:TypeId)
  (ho:o.op = .call { callee:=.builtin .append,args:=#[sl,x],argTypes:=#[t,u] })
  (base:Nat) (e:TypeId) (i:TypeInfo) (ht:P.underlying t=some (.slice e)) (hu:P.underlying u=some .string) (hi:P.info? e=some i) (hz:i.zero=some (.int .u8 0))
  (hsize:i.size=1) (hby:i.bytes=1)
  (v:Value) (n:Nat) (xs:List Value) (hs:a.eval sl=v) (hown:OwnM w base e 1 v n xs) (s:ByteArray) (hx:a.eval x = .string s)
  (h63:n+s.size≤maxLen) (hbytes:n+s.size≤140737488355328) (hbase:base≤w.heap.size)
  (h:∀ A' cap' w',OwnM w' base e 1 (.slice A' (n+s.size) cap') (n+s.size) (xs++strCells s)→w.grownBy w' v.ownBlock →
   (Value.ownBlock (.slice A' (n+s.size) cap')=v.ownBlock∨Value.ownBlock (.slice A' (n+s.size) cap')=none∨∃ g,Value.ownBlock (.slice A' (n+s.size) cap')=some g∧w.heap.size≤g)→K (a.put o.dst (.slice A' (n+s.size) cap')) w') :
  if Region.wanted o (yielded ops a.tmps)=true then Oper.wp P o a w K Q else E:=by
 have hw:Region.wanted o (yielded ops a.tmps)=true:=by simp [Region.wanted,hgd]
 rw [if_pos hw];exact wp_append_M_string sl x t u ho base e i ht hu hi hz hsize hby v n xs hs hown s hx h63 hbytes hbase h
theorem wpList_push_M {ops:Array Oper} {rest:List Oper} {o:Oper} {a:Act} {Q:Exit→Act→World→Prop} (hgd:o.guard=none) (s x:Operand) (t:TypeId)
  (ho:o.op = .call { callee:=.builtin .append,args:=#[s,x],argTypes:=#[t,t] })
  (base:Nat) (e:TypeId) (i:TypeInfo) (z:Value) (bytes:Nat) (ht:P.underlying t=some (.slice e)) (hi:P.info? e=some i) (hz:i.zero=some z)
  (hsize:i.size=1) (hby:i.bytes=bytes) (hzs:z.cells.size=1)
  (v:Value) (n:Nat) (xs:List Value) (hs:a.eval s=v) (u:Value) (te:TypeId) (hown:OwnM w base e 1 v n xs)
  (hx:a.eval x = .slice (some ⟨w.heap.size,0,none⟩) 1 1) (h1:u.oneCell'=true)
  (h63:n+1≤maxLen) (hbytes:(n+1)*bytes≤140737488355328) (hbase:base≤w.heap.size)
  (h:∀ g' cap' w',OwnM w' base e 1 (.slice (some ⟨g',0,none⟩) (n+1) cap') (n+1) (xs++[u])→(w.alloc (.cells #[u] te)).grownBy w' v.ownBlock →
   (some g'=v.ownBlock∨g'=w.heap.size+1)→wpList P ops Q rest (a.put o.dst (.slice (some ⟨g',0,none⟩) (n+1) cap')) w') :
  wpList P ops Q (o::rest) a (w.alloc (.cells #[u] te)):=by
 refine wpList_plain hgd fun K hK=>?_
 obtain ⟨v',w',hr,h2,h3,h4⟩:=run_append_M (P:=P) (w.alloc (.cells #[u] te)) base t o.type e i z 1 bytes ht hi hz hsize hby hzs (by decide) v n xs (hown.alloc _) ⟨w.heap.size,0,none⟩ 1 1 [u] rfl (cell_one_new _ _ _)
  (by intro y hy;simp at hy;subst hy;exact h1) h63 hbytes (by simp;omega)
 unfold Oper.wp execOp;simp only [ho,resolve,invoke,builtin,Sem.run_bind,Sem.run_pure,Result.andThen_ok,List.map_toArray,List.map_cons,List.map_nil,hs,hx,hr]
 rcases h2.2 with ⟨_,hn⟩ | ⟨g,cap,cur,fz,rfl,_⟩
 ·omega
 ·refine hK _ _ (h _ _ _ h2 h3 ?_)
  rcases h4 with h4 | h4
  ·exact .inl h4
  ·right;simpa [Value.ownBlock] using h4
end
section
variable {P : Program} {w : World}
theorem run_str_zero (w:World) (p:Option Addr) (c:Nat) (src dst e:TypeId) (hs:P.underlying src=some (.slice e)) (he:P.underlying e=some (.int .u8)) (hd:P.underlying dst=some .string) :
  (convert src dst (.slice p 0 c)).run P w = .ok (S []) w:=by
 rw [run_convert_bytes_string w src dst e p 0 c hs he hd];cases p with
 | none=>rw [←run_convert_bytes_string w src dst e none 0 c hs he hd];exact run_convert_nil_bytes w src dst e c hs he hd
 | some a =>
  have hl:=run_loadCells_list (P:=P) w a [] (fun j v hj=>by simp at hj);exact run_bytesToString w a 0 c [] hl
theorem run_str_cut {base e:Nat} {A:Option Addr} {n cap k:Nat} {l:List UInt8} (h:OwnM w base e 1 (.slice A n cap) n (l.map B)) (src dst:TypeId)
  (hs:P.underlying src=some (.slice e)) (he:P.underlying e=some (.int .u8)) (hd:P.underlying dst=some .string) :
  (convert src dst (.slice (Option.map (fun x=>x.add k) A) (n-k) (cap-k))).run P w = .ok (S (l.drop k)) w:=by
 have hn:l.length=n:=by have:=h.1;simpa using this
 by_cases hk:n≤k
 ·rw [show n-k=0 from by omega,List.drop_of_length_le (by omega)];exact run_str_zero w _ _ src dst e hs he hd
 ·rcases h.2 with ⟨hv,h0⟩ | ⟨g,cap',cur,fz,hv,_⟩
  ·omega
  ·injection hv with hA _ hc
   subst hA hc;have hlen:(l.drop k).length=n-k:=by rw [List.length_drop,hn]
   rw [←hlen];refine run_convert_bytes_back w src dst e _ _ (l.drop k) hs he hd ?_
   intro j hj
   have hkj:(l.map B)[k+j]? = some (B (l.drop k)[j]):=by
    rw [List.getElem?_map,←List.getElem?_drop,List.getElem?_eq_getElem hj];rfl
   have:=h.cells (g:=g) rfl (k+j) _ hkj;rw [←this]
   congr 1
   unfold Addr.add
   by_cases hk0:k=0 <;> by_cases hj0:j=0 <;> simp [hk0,hj0]
end
theorem strCells_list (l:List UInt8):strCells ⟨l.toArray⟩=l.map B:=by simp [strCells]
end Go.Proofs.YtjpgoeimclipjaaGreat
namespace Go.Proofs.YtjpgoeimclipjaaGreat
open Go.RowKit Go.Lib Pl
abbrev filV (t:Fil):Value:=.agg #[S t.name,I t.dict,I t.size,I t.sum,S t.block]
def filCells (t:Fil):List Value:=[S t.name,I t.dict,I t.size,I t.sum,S t.block]
def filsAt (w:World) (Bd:Nat) (A:Option Addr) (n:Nat) (l:List Fil):Prop :=
 l.length=n∧(0<n→∃ b off,A=some ⟨b,off,none⟩∧b<Bd∧∀ i t,l[i]? = some t →
  w.cell? ⟨b,off+i*5,none⟩=some (S t.name)∧w.cell? ⟨b,off+i*5+1,none⟩=some (I t.dict)∧w.cell? ⟨b,off+i*5+2,none⟩=some (I t.size)∧w.cell? ⟨b,off+i*5+3,none⟩=some (I t.sum)∧w.cell? ⟨b,off+i*5+4,none⟩=some (S t.block))
theorem filsAt.keep {w w':World} {Bd n:Nat} {A:Option Addr} {l:List Fil} (h:filsAt w Bd A n l) (hk:∀ p:Addr,p.block<Bd→w'.cell? p=w.cell? p):filsAt w' Bd A n l :=
 ⟨h.1,fun hn=>by
  obtain ⟨b,off,e,hb,hc⟩:=h.2 hn;refine ⟨b,off,e,hb,fun i t hi=>?_⟩;obtain ⟨h0,h1,h2,h3,h4⟩:=hc i t hi;exact ⟨(hk _ hb).trans h0,(hk _ hb).trans h1,(hk _ hb).trans h2,(hk _ hb).trans h3,(hk _ hb).trans h4⟩⟩
theorem filsAt.below {w w':World} {Bd n:Nat} {A:Option Addr} {l:List Fil} (h:filsAt w Bd A n l) (hb:Below Bd w w'):filsAt w' Bd A n l:=h.keep fun _ hp=>hb.cell hp
theorem filsAt.up {w w':World} {n:Nat} {A:Option Addr} {l:List Fil} (h:filsAt w w.heap.size A n l) (hb:Below w.heap.size w w'):filsAt w' w'.heap.size A n l:=by
 have h1:=h.below hb;exact ⟨h1.1,fun hn=>by obtain ⟨b,off,e,hlt,hc⟩:=h1.2 hn;exact ⟨b,off,e,Nat.lt_of_lt_of_le hlt hb.size,hc⟩⟩
theorem filsAt.at_ {w:World} {Bd n k:Nat} {A:Option Addr} {l:List Fil} (h:filsAt w Bd A n l) (hk:k<n):∃ b off t,A=some ⟨b,off,none⟩∧b<Bd∧l[k]? = some t ∧
  w.cell? ⟨b,off+k*5,none⟩=some (S t.name)∧w.cell? ⟨b,off+k*5+1,none⟩=some (I t.dict)∧w.cell? ⟨b,off+k*5+2,none⟩=some (I t.size)∧w.cell? ⟨b,off+k*5+3,none⟩=some (I t.sum)∧w.cell? ⟨b,off+k*5+4,none⟩=some (S t.block):=by
 obtain ⟨b,off,e,hb,hc⟩:=h.2 (by omega);have hl:k<l.length:=by have:=h.1;omega
 exact ⟨b,off,l[k],e,hb,List.getElem?_eq_getElem hl,hc k _ (List.getElem?_eq_getElem hl)⟩
theorem filsAt.nil (w:World) (Bd:Nat) (A:Option Addr):filsAt w Bd A 0 []:=⟨rfl,fun h=>absurd h (by omega)⟩
def filsCells (l:List Fil):List Value:=l.flatMap filCells
theorem filsCells_len (l:List Fil):(filsCells l).length=l.length*5:=by
 induction l with
 | nil=>rfl
 | cons t l ih=>simp [filsCells,filCells] at ih ⊢;omega
theorem filsCells_snoc (l:List Fil) (t:Fil):filsCells (l++[t])=filsCells l++filCells t:=by simp [filsCells]
theorem filsCells_app (l m:List Fil):filsCells (l++m)=filsCells l++filsCells m:=by simp [filsCells]
theorem filsCells_get:∀ (l:List Fil) (i:Nat) (t:Fil),l[i]? = some t→(filsCells l)[i*5]? = some (S t.name)∧(filsCells l)[i*5+1]? = some (I t.dict)∧(filsCells l)[i*5+2]? = some (I t.size)∧(filsCells l)[i*5+3]? = some (I t.sum)∧(filsCells l)[i*5+4]? = some (S t.block)
 | [],i,t,h=>by simp at h
 | u::l,0,t,h=>by simp at h;subst h;simp [filsCells,filCells]
 | u::l,i+1,t,h=>by
  have h':l[i]? = some t:=by simpa using h
  obtain ⟨a0,a1,a2,a3,a4⟩:=filsCells_get l i t h';have e:filsCells (u::l)=filCells u++filsCells l:=by simp [filsCells]
  have hl:(filCells u).length=5:=rfl;rw [e];refine ⟨?_,?_,?_,?_,?_⟩
  ·rw [List.getElem?_append_right (by omega),hl,show (i+1)*5-5=i*5 from by omega];exact a0
  ·rw [List.getElem?_append_right (by omega),hl,show (i+1)*5+1-5=i*5+1 from by omega];exact a1
  ·rw [List.getElem?_append_right (by omega),hl,show (i+1)*5+2-5=i*5+2 from by omega];exact a2
  ·rw [List.getElem?_append_right (by omega),hl,show (i+1)*5+3-5=i*5+3 from by omega];exact a3
  ·rw [List.getElem?_append_right (by omega),hl,show (i+1)*5+4-5=i*5+4 from by omega];exact a4
theorem info_fil:(Tryz.prog.info? 61).map (fun i=>(i.zero,i.size,i.bytes))=some (some (.agg #[.string ByteArray.empty,.int .i64 0,.int .i64 0,.int .i64 0,.string ByteArray.empty]),5,56):=by kernel_rfl
theorem filsAt_of_own {w:World} {base n:Nat} {v:Value} {l:List Fil} (h:w.ownsRow base 61 5 v n (filsCells l)):∃ A cap,v = .slice A n cap∧filsAt w w.heap.size A n l∧l.length=n:=by
 have hn:l.length=n:=by have:=h.1;rw [filsCells_len] at this;omega
 rcases h.2 with ⟨rfl,h0⟩ | ⟨g,cap,cur,rfl,hb,hg,_⟩
 ·subst h0;exact ⟨_,_,rfl,⟨hn,fun h=>absurd h (by omega)⟩,hn⟩
 ·refine ⟨_,_,rfl,⟨hn,fun _=>⟨g,0,rfl,(Array.getElem?_eq_some_iff.1 hg).1,fun i t hi=>?_⟩⟩,hn⟩;obtain ⟨a0,a1,a2,a3,a4⟩:=filsCells_get l i t hi;have hc:=h.cells (g:=g) rfl;have e:∀ j,(⟨g,0,none⟩:Addr).add j=⟨g,0+j,none⟩:=fun j=>by unfold Addr.add;split <;> simp_all
  have h0:=hc _ _ a0;have h1:=hc _ _ a1;have h2:=hc _ _ a2;have h3:=hc _ _ a3;have h4:=hc _ _ a4;rw [e] at h0;rw [e] at h1;rw [e] at h2;rw [e] at h3;rw [e] at h4;exact ⟨h0,by rw [←h1,Nat.add_assoc],by rw [←h2,Nat.add_assoc],by rw [←h3,Nat.add_assoc],by rw [←h4,Nat.add_assoc]⟩
theorem fil_one (t:Fil):∀ y∈filCells t,y.oneCell'=true:=by
 intro y hy;simp [filCells] at hy
 rcases hy with rfl | rfl | rfl | rfl | rfl <;> rfl
end Go.Proofs.YtjpgoeimclipjaaGreat
namespace Go.Proofs.YtjpgoeimclipjaaGreat
open Go.RowKit Go.Lib Pl
structure Keeps (bad:Obj→Bool) (w w':World):Prop where
 size:w.heap.size≤w'.heap.size
 block:∀ (k:Nat) (o:Obj),w.heap[k]? = some o→bad o=false→w'.heap[k]? = some o
section
variable {bad : Obj → Bool} {a b c : World}
theorem Keeps.refl (bad:Obj→Bool) (w:World):Keeps bad w w:=⟨Nat.le_refl _,fun _ _ h _=>h⟩
theorem Keeps.trans (h:Keeps bad a b) (k:Keeps bad b c):Keeps bad a c:=⟨Nat.le_trans h.size k.size,fun i o hi ho=>k.block i o (h.block i o hi ho) ho⟩
theorem Keeps.drewN (h:Keeps bad a b) (n:Nat):Keeps bad a (b.drewN n):=⟨h.size,h.block⟩
theorem Keeps.alloc (h:Keeps bad a b) (o:Obj):Keeps bad a (b.alloc o) :=
 ⟨Nat.le_trans h.size (by simp),fun i o' hi ho=>by
  have h1:=h.block i o' hi ho;rw [Below.heap_alloc b o i (by rcases Nat.lt_or_ge i b.heap.size with h2 | h2;exact h2;rw [Array.getElem?_eq_none h2] at h1;cases h1)];exact h1⟩
theorem Keeps.grown {row:Option Nat} (h:Keeps bad a b) (hg:b.grownBy c row) (hr:∀ g,row=some g→∃ o,b.heap[g]? = some o∧bad o=true):Keeps bad a c :=
 ⟨Nat.le_trans h.size hg.size,fun i o hi ho=>by
  have h1:=h.block i o hi ho
  have h2:i<b.heap.size:=by
   rcases Nat.lt_or_ge i b.heap.size with h2 | h2
   ·exact h2
   ·rw [Array.getElem?_eq_none h2] at h1;cases h1
  rw [hg.block i h2 (fun e=>?_)]
  ·exact h1
  ·obtain ⟨o2,h3,h4⟩:=hr i e.symm;rw [h1] at h3;injection h3 with h3;subst h3;rw [ho] at h4;cases h4⟩
theorem Keeps.setCell (h:Keeps bad a b) {p:Addr} (u:Value) {o:Obj} (hp:b.heap[p.block]? = some o) (hb:bad o=true):Keeps bad a (b.setCell p u) :=
 ⟨by have h1:=h.size;simpa [World.setCell] using h1,fun i o' hi ho=>by
  have h1:=h.block i o' hi ho;rw [Below.heap_setCell b p u i (fun e=>by subst e;rw [hp] at h1;injection h1 with h1;subst h1;rw [ho] at hb;cases hb)];exact h1⟩
theorem Keeps.of_below (h:Below a.heap.size a b):Keeps bad a b :=
 ⟨h.size,fun i o hi _=>by
  have h2:i<a.heap.size:=by
   rcases Nat.lt_or_ge i a.heap.size with h2 | h2
   ·exact h2
   ·rw [Array.getElem?_eq_none h2] at hi;cases hi
  rw [h.block i h2];exact hi⟩
theorem Keeps.own {base:Nat} {e:TypeId} {size n:Nat} {v:Value} {xs:List Value} (h:Keeps bad a b) (ho:OwnM a base e size v n xs) (hb:∀ cs fz,bad (.cells cs e fz)=false):OwnM b base e size v n xs:=by
 refine ⟨ho.1,?_⟩
 rcases ho.2 with hn | ⟨g,cap,cur,fz,hv,hbg,hgg,rest⟩
 ·exact .inl hn
 ·exact .inr ⟨g,cap,cur,fz,hv,hbg,h.block g _ hgg (hb _ _),rest⟩
theorem Keeps.ownsRow {base:Nat} {e:TypeId} {size n:Nat} {v:Value} {xs:List Value} (h:Keeps bad a b) (ho:a.ownsRow base e size v n xs) (hb:∀ cs fz,bad (.cells cs e fz)=false):b.ownsRow base e size v n xs:=by
 refine ⟨ho.1,?_⟩
 rcases ho.2 with hn | ⟨g,cap,cur,hv,hbg,hgg,rest⟩
 ·exact .inl hn
 ·exact .inr ⟨g,cap,cur,hv,hbg,h.block g _ hgg (hb _ _),rest⟩
end
def badMk:Obj→Bool
 | .cells _ t _=>t == 5 || t == 225
 | _=>false
def Mk (w:World) (base M d:Nat) (lit:Bool) (s:Bytes):Prop :=
 base≤M∧∃ A cap,w.heap[M]? = some (.cells #[.slice A s.length cap,.int .i64 d,.bool lit] 225 (0,0))∧OwnM w base 5 1 (.slice A s.length cap) s.length (s.map B)
theorem set_row {w:World} {g:Nat} {cs:Array Value} {t:TypeId} {fz:Nat×Nat} (h:w.heap[g]? = some (.cells cs t fz)) (i:Nat) (u:Value) :
  (w.setCell ⟨g,i,none⟩ u).heap[g]? = some (.cells (cs.setIfInBounds i u) t fz):=by
 simp [World.setCell,Array.getElem?_modify,h]
theorem size_setCell (w:World) (p:Addr) (u:Value):(w.setCell p u).heap.size=w.heap.size:=by simp [World.setCell]
theorem mk_far {w:World} {base M n:Nat} {cs:Array Value} {fz:Nat×Nat} {v:Value} {xs:List Value} (hblk:w.heap[M]? = some (.cells cs 225 fz)) (hown:OwnM w base 5 1 v n xs):v.ownBlock≠some M:=by
 rcases hown.2 with ⟨rfl,_⟩ | ⟨g,cap,cur,fz',rfl,_,hg,_⟩
 ·simp [Value.ownBlock]
 ·intro e;have:g=M:=by simpa [Value.ownBlock] using e
  subst this;rw [hblk] at hg;injection hg with hg
  injection hg with _ h2
  exact absurd h2 (by decide)
theorem mk_after {w W w1:World} {base M n:Nat} {cs:Array Value} {fz:Nat×Nat} {v:Value} {xs:List Value} (hblk:w.heap[M]? = some (.cells cs 225 fz)) (hown:OwnM w base 5 1 v n xs)
  (hW:Below w.heap.size w W) (hg:W.grownBy w1 v.ownBlock):w1.heap[M]? = some (.cells cs 225 fz):=by
 have hlt:M<w.heap.size:=(Array.getElem?_eq_some_iff.1 hblk).1;exact (hg.block M (Nat.lt_of_lt_of_le hlt hW.size) (fun e=>mk_far hblk hown e.symm)).trans ((hW.block M hlt).trans hblk)
theorem below_drewN_alloc (w:World) (k:Nat) (o:Obj):Below w.heap.size w ((w.drewN k).alloc o):=(_root_.Go.below_drewN (Below.refl _ _) k).alloc (Nat.le_refl _) o
theorem mk_end {w W w1 w2:World} {base M d:Nat} {lit lit2:Bool} {A A1:Option Addr} {cap cap1 n1:Nat} {s s1:Bytes}
  (hbM:base≤M) (hblk:w.heap[M]? = some (.cells #[.slice A s.length cap,.int .i64 d,.bool lit] 225 (0,0))) (hown:OwnM w base 5 1 (.slice A s.length cap) s.length (s.map B))
  (hW:Below w.heap.size w W) (hown1:OwnM w1 base 5 1 (.slice A1 n1 cap1) n1 (s1.map B)) (hg:W.grownBy w1 (Value.ownBlock (.slice A s.length cap)))
  (h2:w2.heap[M]? = some (.cells #[.slice A1 n1 cap1,.int .i64 d,.bool lit2] 225 (0,0))) (h3:∀ k,k≠M→w2.heap[k]? = w1.heap[k]?) (h4:w2.heap.size=w1.heap.size)
  (h5:w2.os=w1.os) (h6:w2.tape=w1.tape) (h7:w2.output=w1.output) :
  Mk w2 base M d lit2 s1∧Below base w w2∧Keeps badMk w w2:=by
 have hn:n1=s1.length:=by have:=hown1.1;simp at this;omega
 subst hn;have hMlt:M<w.heap.size:=(Array.getElem?_eq_some_iff.1 hblk).1
 have hm1:w1.heap[M]? = some (.cells #[.slice A s.length cap,.int .i64 d,.bool lit] 225 (0,0)) :=
  (hg.block M (Nat.lt_of_lt_of_le hMlt hW.size) (fun e=>mk_far hblk hown e.symm)).trans ((hW.block M hMlt).trans hblk)
 have hfar1:=mk_far hm1 hown1;refine ⟨⟨hbM,A1,cap1,h2,hown1.kept fun k hk=>h3 k (fun e=>hfar1 (by rw [hk,e]))⟩,⟨?_,?_,?_,?_,?_⟩,⟨?_,?_⟩⟩
 ·rw [h5,hg.os,hW.os]
 ·rw [h6,hg.tape,hW.tape]
 ·rw [h7,hg.output,hW.output]
 ·rw [h4];exact Nat.le_trans hW.size hg.size
 ·intro k hk;rw [h3 k (by omega),hg.block k (Nat.lt_of_lt_of_le (by omega) hW.size) (fun e=>by have:=(hown.lt k e.symm).1;omega),hW.block k (by omega)]
 ·rw [h4];exact Nat.le_trans hW.size hg.size
 ·intro k o ho hbad;have hk:k<w.heap.size:=(Array.getElem?_eq_some_iff.1 ho).1
  have hne:k≠M:=fun e=>by
   subst e;rw [hblk] at ho;injection ho with ho;subst ho;simp [badMk] at hbad
  have hnr:some k≠Value.ownBlock (.slice A s.length cap):=fun e=>by
   rcases hown.2 with ⟨hv,_⟩ | ⟨g,cap',cur,fz,hv,_,hgg,_⟩
   ·rw [hv] at e;simp [Value.ownBlock] at e
   ·rw [hv] at e;have:k=g:=by simpa [Value.ownBlock] using e
    subst this;rw [hgg] at ho;injection ho with ho;subst ho;simp [badMk] at hbad
  rw [h3 k hne,hg.block k (Nat.lt_of_lt_of_le hk hW.size) hnr,hW.block k hk];exact ho
theorem Mk.alloc {w:World} {base M d:Nat} {lit:Bool} {s:Bytes} (h:Mk w base M d lit s) (o:Obj):Mk (w.alloc o) base M d lit s:=by
 obtain ⟨h1,A,cap,h2,h3⟩:=h;exact ⟨h1,A,cap,(Below.heap_alloc w o M (Array.getElem?_eq_some_iff.1 h2).1).trans h2,h3.alloc o⟩
theorem Mk.made (w:World) (base:Nat) (dict:Bytes) (hb:base≤w.heap.size) (hd:dict.length≤9223372036854775807) :
  Mk ((w.drew.alloc (.cells (bytesRow ⟨dict.toArray⟩ (grownCap w dict.length 0 5)) 5 ((bytesRow ⟨dict.toArray⟩ (grownCap w dict.length 0 5)).size,(bytesRow ⟨dict.toArray⟩ (grownCap w dict.length 0 5)).size+1))).alloc
   (.cells #[.slice (some ⟨w.heap.size,0,none⟩) dict.length (grownCap w dict.length 0 5),.int .i64 dict.length,.bool false] 225)) base (w.heap.size+1) dict.length false dict:=by
 have h:=OwnM.bytes w 5 ⟨dict.toArray⟩ base hb (by unfold maxLen;exact hd);rw [strCells_list] at h;refine ⟨by omega,_,_,?_,h.alloc _⟩
 have:=heap_alloc_new (w.drew.alloc (.cells (bytesRow ⟨dict.toArray⟩ (grownCap w dict.length 0 5)) 5 ((bytesRow ⟨dict.toArray⟩ (grownCap w dict.length 0 5)).size,(bytesRow ⟨dict.toArray⟩ (grownCap w dict.length 0 5)).size+1)))
  (.cells #[.slice (some ⟨w.heap.size,0,none⟩) dict.length (grownCap w dict.length 0 5),.int .i64 dict.length,.bool false] 225)
 have e:(w.drew.alloc (.cells (bytesRow ⟨dict.toArray⟩ (grownCap w dict.length 0 5)) 5 ((bytesRow ⟨dict.toArray⟩ (grownCap w dict.length 0 5)).size,(bytesRow ⟨dict.toArray⟩ (grownCap w dict.length 0 5)).size+1))).heap.size=w.heap.size+1:=by
  simp [World.alloc,World.drew,-World.alloc_eq,-World.drew_eq]
 rw [e] at this;exact this
abbrev TokV (t:Tok):Value:=.agg #[S t.lit,I t.far,I t.len]
end Go.Proofs.YtjpgoeimclipjaaGreat
namespace Go.Proofs
open Go.Shelf
def Tryz.lays169_ren:Go.Shelf.Ren:=⟨fun | 169=>58 | n=>n,fun | 70=>76 | 9=>9 | 0=>0 | 72=>79 | 37=>77 | 127=>129 | 3=>3 | 5=>5 | n=>n,fun | n=>n⟩
theorem Tryz.lays169:Go.Proofs.Lays.n169 Tryz.prog Tryz.lays169_ren:={
 mixed:=by kernel_rfl
 f169:=Tryz.func58.trans (congrArg some (by kernel_rfl))
 t0:=Tryz.underlying0
 a0:=Tryz.isAgg0
 z0:=Tryz.sizeOf0
 v0:=Tryz.zeroValue0
 t3:=Tryz.underlying3
 a3:=Tryz.isAgg3
 z3:=Tryz.sizeOf3
 v3:=Tryz.zeroValue3
 t9:=Tryz.underlying9
 a9:=Tryz.isAgg9
 z9:=Tryz.sizeOf9
 v9:=Tryz.zeroValue9
 t37:=Tryz.underlying77
 a37:=Tryz.isAgg77
 z37:=Tryz.sizeOf77
 v37:=Tryz.zeroValue77
 t70:=Tryz.underlying76
 a70:=Tryz.isAgg76
 z70:=Tryz.sizeOf76
 v70:=Tryz.zeroValue76
 t72:=Tryz.underlying79
 a72:=Tryz.isAgg79
 z72:=Tryz.sizeOf79
 v72:=Tryz.zeroValue79
 t127:=Tryz.underlying129
 a127:=Tryz.isAgg129
 z127:=Tryz.sizeOf129
 v127:=Tryz.zeroValue129 }
theorem Tryz.Builder_Extra_169:Builder.Extra Tryz.prog Tryz.lays169_ren:={
 sizeBuilder:=by kernel_rfl
 liesBuilder:=by kernel_rfl
 t5:=Tryz.underlying5
 a5:=Tryz.isAgg5
 z5:=Tryz.sizeOf5
 v5:=Tryz.zeroValue5
 infoByte:=by kernel_rfl
 cellsByte:=by kernel_rfl
 sizeByte:=by kernel_rfl
 neB5:=by decide }
open Go.RowKit in
theorem Tryz.Builder_String_any (B b:Nat) (l:List UInt8) (w:World) (h:Lib.IsBuilder 79 5 B b (Lib.byteCells l) w) (hBw:B≤w.heap.size) :
  Calls Tryz.prog 58 #[.pointer (some ⟨b,0,none⟩)] w fun e w'=>e = .returned (.string ⟨l.toArray⟩)∧Below B w w':=Any.Builder_String_any Tryz.lays169 Tryz.Builder_Extra_169 B b l w h hBw
def Tryz.lays156_ren:Go.Shelf.Ren:=⟨fun | 156=>90 | 165=>122 | 166=>54 | 169=>58 | 240=>99 | 241=>149 | 276=>125 | 277=>168 | n=>n,fun | 31=>30 | 9=>9 | 3=>3 | 4=>4 | 0=>0 | 20=>20 | 72=>79 | 76=>84 | 70=>76 | 37=>77 | 75=>83 | 127=>129 | 164=>166 | 5=>5 | 80=>89 | n=>n,fun | n=>n⟩
theorem Tryz.lays156:Go.Proofs.Lays.n156 Tryz.prog Tryz.lays156_ren:={
 mixed:=by kernel_rfl
 f156:=Tryz.func90.trans (congrArg some (by kernel_rfl))
 f165:=Tryz.func122.trans (congrArg some (by kernel_rfl))
 f166:=Tryz.func54.trans (congrArg some (by kernel_rfl))
 f169:=Tryz.func58.trans (congrArg some (by kernel_rfl))
 f240:=Tryz.func99.trans (congrArg some (by kernel_rfl))
 f241:=Tryz.func149.trans (congrArg some (by kernel_rfl))
 f276:=Tryz.func125.trans (congrArg some (by kernel_rfl))
 f277:=Tryz.func168.trans (congrArg some (by kernel_rfl))
 t0:=Tryz.underlying0
 a0:=Tryz.isAgg0
 z0:=Tryz.sizeOf0
 v0:=Tryz.zeroValue0
 t3:=Tryz.underlying3
 a3:=Tryz.isAgg3
 z3:=Tryz.sizeOf3
 v3:=Tryz.zeroValue3
 t4:=Tryz.underlying4
 a4:=Tryz.isAgg4
 z4:=Tryz.sizeOf4
 v4:=Tryz.zeroValue4
 t9:=Tryz.underlying9
 a9:=Tryz.isAgg9
 z9:=Tryz.sizeOf9
 v9:=Tryz.zeroValue9
 t20:=Tryz.underlying20
 a20:=Tryz.isAgg20
 z20:=Tryz.sizeOf20
 v20:=Tryz.zeroValue20
 t31:=Tryz.underlying30
 a31:=Tryz.isAgg30
 z31:=Tryz.sizeOf30
 v31:=Tryz.zeroValue30
 t37:=Tryz.underlying77
 a37:=Tryz.isAgg77
 z37:=Tryz.sizeOf77
 v37:=Tryz.zeroValue77
 t70:=Tryz.underlying76
 a70:=Tryz.isAgg76
 z70:=Tryz.sizeOf76
 v70:=Tryz.zeroValue76
 t72:=Tryz.underlying79
 a72:=Tryz.isAgg79
 z72:=Tryz.sizeOf79
 v72:=Tryz.zeroValue79
 t75:=Tryz.underlying83
 a75:=Tryz.isAgg83
 z75:=Tryz.sizeOf83
 v75:=Tryz.zeroValue83
 t76:=Tryz.underlying84
 a76:=Tryz.isAgg84
 z76:=Tryz.sizeOf84
 v76:=Tryz.zeroValue84
 t127:=Tryz.underlying129
 a127:=Tryz.isAgg129
 z127:=Tryz.sizeOf129
 v127:=Tryz.zeroValue129
 t164:=Tryz.underlying166
 a164:=Tryz.isAgg166
 z164:=Tryz.sizeOf166
 v164:=Tryz.zeroValue166 }
theorem Tryz.Builder_Extra_156:Builder.Extra Tryz.prog Tryz.lays156_ren:={
 sizeBuilder:=by kernel_rfl
 liesBuilder:=by kernel_rfl
 t5:=Tryz.underlying5
 a5:=Tryz.isAgg5
 z5:=Tryz.sizeOf5
 v5:=Tryz.zeroValue5
 infoByte:=by kernel_rfl
 cellsByte:=by kernel_rfl
 sizeByte:=by kernel_rfl
 neB5:=by decide }
open Go.RowKit in
theorem Tryz.strings_Join_none (a:Option Addr) (c:Nat) (sep:ByteArray) (w:World) :
  Calls Tryz.prog 90 #[.slice a 0 c,.string sep] w fun e w'=>e = .returned (.string ⟨#[]⟩)∧w'=w:=Any.strings_Join_none Tryz.lays156 Tryz.Builder_Extra_156 a c sep w
open Go.RowKit in
theorem Tryz.strings_Join (bk o c:Nat) (xs:List ByteArray) (sep:ByteArray) (w:World) (hcells:∀ (j:Nat) x,xs[j]? = some x→w.cell? ⟨bk,o+j,none⟩=some (.string x)) (hbk:bk<w.heap.size) (hN:xs.length≤140737488355328) (hcap:xs.length≤c) (hlen:(Lib.join (xs.map (·.data.toList)) sep.data.toList).length≤140737488355328) :
  Calls Tryz.prog 90 #[.slice (some ⟨bk,o,none⟩) xs.length c,.string sep] w fun e w'=>e = .returned (.string ⟨(Lib.join (xs.map (·.data.toList)) sep.data.toList).toArray⟩)∧Below w.heap.size w w':=Any.strings_Join Tryz.lays156 Tryz.Builder_Extra_156 bk o c xs sep w hcells hbk hN hcap hlen
def Tryz.lays122_ren:Go.Shelf.Ren:=⟨fun | 122=>147 | 215=>166 | n=>n,fun | 3=>3 | 4=>4 | n=>n,fun | n=>n⟩
theorem Tryz.lays122:Go.Proofs.Lays.n122 Tryz.prog Tryz.lays122_ren:={
 mixed:=by kernel_rfl
 f122:=Tryz.func147.trans (congrArg some (by kernel_rfl))
 f215:=Tryz.func166.trans (congrArg some (by kernel_rfl))
 t3:=Tryz.underlying3
 a3:=Tryz.isAgg3
 z3:=Tryz.sizeOf3
 v3:=Tryz.zeroValue3
 t4:=Tryz.underlying4
 a4:=Tryz.isAgg4
 z4:=Tryz.sizeOf4
 v4:=Tryz.zeroValue4 }
open Go.RowKit in
theorem Tryz.cmp_Compare_int (x y:Int) (w:World) :
  Calls Tryz.prog 147 #[.int .i64 x,.int .i64 y] w fun e w'=>e = .returned (.int .i64 (Lib.compareInt x y))∧w'=w:=Any.cmp_Compare_int Tryz.lays122 x y w
def Tryz.lays144_ren:Go.Shelf.Ren:=⟨fun | 144=>121 | 143=>148 | 219=>167 | 217=>192 | 225=>193 | 224=>194 | 267=>195 | 266=>210 | 314=>211 | n=>n,fun | 9=>9 | 4=>4 | 3=>3 | 5=>5 | 46=>159 | 146=>253 | 51=>235 | n=>n,fun | 1=>0 | n=>n⟩
theorem Tryz.lays144:Go.Proofs.Lays.n144 Tryz.prog Tryz.lays144_ren:={
 mixed:=by kernel_rfl
 f143:=Tryz.func148.trans (congrArg some (by kernel_rfl))
 f144:=Tryz.func121.trans (congrArg some (by kernel_rfl))
 f217:=Tryz.func192.trans (congrArg some (by kernel_rfl))
 f219:=Tryz.func167.trans (congrArg some (by kernel_rfl))
 f224:=Tryz.func194.trans (congrArg some (by kernel_rfl))
 f225:=Tryz.func193.trans (congrArg some (by kernel_rfl))
 f266:=Tryz.func210.trans (congrArg some (by kernel_rfl))
 f267:=Tryz.func195.trans (congrArg some (by kernel_rfl))
 f314:=Tryz.func211.trans (congrArg some (by kernel_rfl))
 t3:=Tryz.underlying3
 a3:=Tryz.isAgg3
 z3:=Tryz.sizeOf3
 v3:=Tryz.zeroValue3
 t4:=Tryz.underlying4
 a4:=Tryz.isAgg4
 z4:=Tryz.sizeOf4
 v4:=Tryz.zeroValue4
 t5:=Tryz.underlying5
 a5:=Tryz.isAgg5
 z5:=Tryz.sizeOf5
 v5:=Tryz.zeroValue5
 t9:=Tryz.underlying9
 a9:=Tryz.isAgg9
 z9:=Tryz.sizeOf9
 v9:=Tryz.zeroValue9
 t46:=Tryz.underlying159
 a46:=Tryz.isAgg159
 z46:=Tryz.sizeOf159
 v46:=Tryz.zeroValue159
 t51:=Tryz.underlying235
 a51:=Tryz.isAgg235
 z51:=Tryz.sizeOf235
 v51:=Tryz.zeroValue235
 t146:=Tryz.underlying253
 a146:=Tryz.isAgg253
 z146:=Tryz.sizeOf253
 v146:=Tryz.zeroValue253
 g1:=by kernel_rfl }
open Go.RowKit Go.Lib in
theorem Tryz.strings_Contains (s sub:ByteArray) (m:Int) (w:World) (hs:s.size<4294967281) (hm:w.cell? ⟨0,0,none⟩=some (.int .i64 m)) :
  Calls Tryz.prog 121 #[.string s,.string sub] w fun e w'=>e = .returned (.bool (Lib.contains s.data.toList sub.data.toList))∧w'=w:=Any.strings_Contains Tryz.lays144 s sub m w hs hm
def Tryz.lays189_ren:Go.Shelf.Ren:=⟨fun | 189=>174 | 125=>165 | 257=>200 | 128=>190 | 129=>191 | 294=>220 | 295=>221 | 296=>222 | 297=>223 | 298=>224 | 299=>225 | 216=>226 | 300=>227 | 301=>228 | 328=>234 | 329=>206 | 330=>207 | 331=>235 | 332=>236 | 215=>166 | 343=>240 | n=>n,fun | 28=>24 | 3=>3 | 46=>159 | 0=>0 | 51=>235 | 53=>237 | 4=>4 | 183=>229 | 182=>228 | 131=>106 | 5=>5 | 9=>9 | 218=>248 | 222=>160 | 228=>267 | 229=>192 | n=>n,fun | n=>n⟩
theorem Tryz.lays189:Go.Proofs.Lays.n189 Tryz.prog Tryz.lays189_ren:={
 mixed:=by kernel_rfl
 f125:=Tryz.func165.trans (congrArg some (by kernel_rfl))
 f128:=Tryz.func190.trans (congrArg some (by kernel_rfl))
 f129:=Tryz.func191.trans (congrArg some (by kernel_rfl))
 f189:=Tryz.func174.trans (congrArg some (by kernel_rfl))
 f215:=Tryz.func166.trans (congrArg some (by kernel_rfl))
 f216:=Tryz.func226.trans (congrArg some (by kernel_rfl))
 f257:=Tryz.func200.trans (congrArg some (by kernel_rfl))
 f294:=Tryz.func220.trans (congrArg some (by kernel_rfl))
 f295:=Tryz.func221.trans (congrArg some (by kernel_rfl))
 f296:=Tryz.func222.trans (congrArg some (by kernel_rfl))
 f297:=Tryz.func223.trans (congrArg some (by kernel_rfl))
 f298:=Tryz.func224.trans (congrArg some (by kernel_rfl))
 f299:=Tryz.func225.trans (congrArg some (by kernel_rfl))
 f300:=Tryz.func227.trans (congrArg some (by kernel_rfl))
 f301:=Tryz.func228.trans (congrArg some (by kernel_rfl))
 f328:=Tryz.func234.trans (congrArg some (by kernel_rfl))
 f329:=Tryz.func206.trans (congrArg some (by kernel_rfl))
 f330:=Tryz.func207.trans (congrArg some (by kernel_rfl))
 f331:=Tryz.func235.trans (congrArg some (by kernel_rfl))
 f332:=Tryz.func236.trans (congrArg some (by kernel_rfl))
 f343:=Tryz.func240.trans (congrArg some (by kernel_rfl))
 t0:=Tryz.underlying0
 a0:=Tryz.isAgg0
 z0:=Tryz.sizeOf0
 v0:=Tryz.zeroValue0
 t3:=Tryz.underlying3
 a3:=Tryz.isAgg3
 z3:=Tryz.sizeOf3
 v3:=Tryz.zeroValue3
 t4:=Tryz.underlying4
 a4:=Tryz.isAgg4
 z4:=Tryz.sizeOf4
 v4:=Tryz.zeroValue4
 t5:=Tryz.underlying5
 a5:=Tryz.isAgg5
 z5:=Tryz.sizeOf5
 v5:=Tryz.zeroValue5
 t9:=Tryz.underlying9
 a9:=Tryz.isAgg9
 z9:=Tryz.sizeOf9
 v9:=Tryz.zeroValue9
 t28:=Tryz.underlying24
 a28:=Tryz.isAgg24
 z28:=Tryz.sizeOf24
 v28:=Tryz.zeroValue24
 t46:=Tryz.underlying159
 a46:=Tryz.isAgg159
 z46:=Tryz.sizeOf159
 v46:=Tryz.zeroValue159
 t51:=Tryz.underlying235
 a51:=Tryz.isAgg235
 z51:=Tryz.sizeOf235
 v51:=Tryz.zeroValue235
 t53:=Tryz.underlying237
 a53:=Tryz.isAgg237
 z53:=Tryz.sizeOf237
 v53:=Tryz.zeroValue237
 t131:=Tryz.underlying106
 a131:=Tryz.isAgg106
 z131:=Tryz.sizeOf106
 v131:=Tryz.zeroValue106
 t182:=Tryz.underlying228
 a182:=Tryz.isAgg228
 z182:=Tryz.sizeOf228
 v182:=Tryz.zeroValue228
 t183:=Tryz.underlying229
 a183:=Tryz.isAgg229
 z183:=Tryz.sizeOf229
 v183:=Tryz.zeroValue229
 t218:=Tryz.underlying248
 a218:=Tryz.isAgg248
 z218:=Tryz.sizeOf248
 v218:=Tryz.zeroValue248
 t222:=Tryz.underlying160
 a222:=Tryz.isAgg160
 z222:=Tryz.sizeOf160
 v222:=Tryz.zeroValue160
 t228:=Tryz.underlying267
 a228:=Tryz.isAgg267
 z228:=Tryz.sizeOf267
 v228:=Tryz.zeroValue267
 t229:=Tryz.underlying192
 a229:=Tryz.isAgg192
 z229:=Tryz.sizeOf192
 v229:=Tryz.zeroValue192 }
open Go.Sort Go.RowKit in
theorem Tryz.slices_Sort_int (blk off cap:Nat) (zs:List Int) (w:World) (hH:Holds (Value.int .i64) w blk off zs.toArray) (hblk:blk<w.heap.size) (hsz:zs.length<4611686018427387904) :
  Calls Tryz.prog 174 #[.slice (some ⟨blk,off,none⟩) zs.length cap] w fun e w' =>
   e = .returned (.tuple #[])∧∃ n os,w'=grow (putRow (Value.int .i64) (Sort.ahead w n) blk off (zs.mergeSort fun x y=>decide (x≤y)).toArray) os:=Any.slices_Sort_int Tryz.lays189 blk off cap zs w hH hblk hsz
open Go.RowKit Go.Lib in
open Go.RowKit Go.Lib in
open Go.RowKit Go.Lib in
def Tryz.lays113_ren:Go.Shelf.Ren:=⟨fun | 113=>197 | n=>n,fun | 28=>24 | 3=>3 | 4=>4 | 9=>9 | 20=>20 | 0=>0 | n=>n,fun | n=>n⟩
theorem Tryz.lays113:Go.Proofs.Lays.n113 Tryz.prog Tryz.lays113_ren:={
 mixed:=by kernel_rfl
 f113:=Tryz.func197.trans (congrArg some (by kernel_rfl))
 t0:=Tryz.underlying0
 a0:=Tryz.isAgg0
 z0:=Tryz.sizeOf0
 v0:=Tryz.zeroValue0
 t3:=Tryz.underlying3
 a3:=Tryz.isAgg3
 z3:=Tryz.sizeOf3
 v3:=Tryz.zeroValue3
 t4:=Tryz.underlying4
 a4:=Tryz.isAgg4
 z4:=Tryz.sizeOf4
 v4:=Tryz.zeroValue4
 t9:=Tryz.underlying9
 a9:=Tryz.isAgg9
 z9:=Tryz.sizeOf9
 v9:=Tryz.zeroValue9
 t20:=Tryz.underlying20
 a20:=Tryz.isAgg20
 z20:=Tryz.sizeOf20
 v20:=Tryz.zeroValue20
 t28:=Tryz.underlying24
 a28:=Tryz.isAgg24
 z28:=Tryz.sizeOf24
 v28:=Tryz.zeroValue24 }
open Go.Lib in
theorem Tryz.slices_Max_int (b off n c:Nat) (zs:List Int) (w:World) (hn:0<n) (hz:n≤zs.length) (hbig:n≤9223372036854775807) (hc:∀ j,j<zs.length→w.cell? ⟨b,off+j,none⟩=some (.int .i64 (zs.getD j 0))) :
  Calls Tryz.prog 197 #[.slice (some ⟨b,off,none⟩) n c] w fun e w'=>e = .returned (.int .i64 (Lib.maxOf (zs.take n)))∧w'=w:=Any.slices_Max_int Tryz.lays113 b off n c zs w hn hz hbig hc
def Tryz.lays114_ren:Go.Shelf.Ren:=⟨fun | 114=>196 | n=>n,fun | 28=>24 | 3=>3 | 4=>4 | 9=>9 | 20=>20 | 0=>0 | n=>n,fun | n=>n⟩
theorem Tryz.lays114:Go.Proofs.Lays.n114 Tryz.prog Tryz.lays114_ren:={
 mixed:=by kernel_rfl
 f114:=Tryz.func196.trans (congrArg some (by kernel_rfl))
 t0:=Tryz.underlying0
 a0:=Tryz.isAgg0
 z0:=Tryz.sizeOf0
 v0:=Tryz.zeroValue0
 t3:=Tryz.underlying3
 a3:=Tryz.isAgg3
 z3:=Tryz.sizeOf3
 v3:=Tryz.zeroValue3
 t4:=Tryz.underlying4
 a4:=Tryz.isAgg4
 z4:=Tryz.sizeOf4
 v4:=Tryz.zeroValue4
 t9:=Tryz.underlying9
 a9:=Tryz.isAgg9
 z9:=Tryz.sizeOf9
 v9:=Tryz.zeroValue9
 t20:=Tryz.underlying20
 a20:=Tryz.isAgg20
 z20:=Tryz.sizeOf20
 v20:=Tryz.zeroValue20
 t28:=Tryz.underlying24
 a28:=Tryz.isAgg24
 z28:=Tryz.sizeOf24
 v28:=Tryz.zeroValue24 }
open Go.Lib in
theorem Tryz.slices_Min_int (b off n c:Nat) (zs:List Int) (w:World) (hn:0<n) (hz:n≤zs.length) (hbig:n≤9223372036854775807) (hc:∀ j,j<zs.length→w.cell? ⟨b,off+j,none⟩=some (.int .i64 (zs.getD j 0))) :
  Calls Tryz.prog 196 #[.slice (some ⟨b,off,none⟩) n c] w fun e w'=>e = .returned (.int .i64 (Lib.minOf (zs.take n)))∧w'=w:=Any.slices_Min_int Tryz.lays114 b off n c zs w hn hz hbig hc
def Tryz.laysNm216_ren:Go.Shelf.Ren:=⟨fun | 16=>105 | n=>n,fun | 24=>30 | 9=>9 | 4=>4 | n=>n,fun | n=>n⟩
theorem Tryz.laysNm216:Go.Proofs.Lays2.n16 Tryz.prog Tryz.laysNm216_ren:={
 mixed:=by kernel_rfl
 f16:=Tryz.func105.trans (congrArg some (by kernel_rfl))
 t4:=Tryz.underlying4
 a4:=Tryz.isAgg4
 z4:=Tryz.sizeOf4
 v4:=Tryz.zeroValue4
 t9:=Tryz.underlying9
 a9:=Tryz.isAgg9
 z9:=Tryz.sizeOf9
 v9:=Tryz.zeroValue9
 t24:=Tryz.underlying30
 a24:=Tryz.isAgg30
 z24:=Tryz.sizeOf30
 v24:=Tryz.zeroValue30
 i9:=by kernel_rfl }
open Go.RowKit Go.Lib in
theorem Tryz.slices_Clone_string (b off n c:Nat) (zs:List ByteArray) (w:World) (hz:n≤zs.length) (hbig:n*16≤140737488355328) (hc:∀ j,j<zs.length→w.cell? ⟨b,off+j,none⟩=some (.string (zs.getD j ByteArray.empty))) :
  Calls Tryz.prog 105 #[.slice (some ⟨b,off,none⟩) n c] w fun e w'=>∃ v',e = .returned v'∧w'.ownsRow w.heap.size 9 1 v' n ((zs.take n).map (Value.string))∧v'≠.slice none 0 0∧Below w.heap.size w w':=Any.slices_Clone_string Tryz.laysNm216 b off n c zs w hz hbig hc
open Go.RowKit Go.Lib in
theorem Tryz.slices_Clone_string_nil (n c:Nat) (w:World) :
  Calls Tryz.prog 105 #[.slice none n c] w fun e w'=>e = .returned (.slice none 0 0)∧w'=w:=Any.slices_Clone_string_nil Tryz.laysNm216 n c w
open Go.RowKit Go.Lib in
theorem Tryz.slices_Clone_string_zero (a:Addr) (c:Nat) (w:World) :
  Calls Tryz.prog 105 #[.slice (some a) 0 c] w fun e w'=>∃ v',e = .returned v'∧w'.ownsRow w.heap.size 9 1 v' 0 []∧v'≠.slice none 0 0∧Below w.heap.size w w':=Any.slices_Clone_string_zero Tryz.laysNm216 a c w
end Go.Proofs
