/- Parts of the proofs. -/
import Derived.Test.YtjpgoeimclipjaaGreatRows
import Derived.Below
import Derived.ChangeSame
import Derived.ProofKit
import Derived.OpenShut
import Derived.ShutString
import Derived.SizedLaws
namespace Go.Proofs.YtjpgoeimclipjaaGreat
open Go.RowKit Go.WideShapes Go.ChangeShapes Go.ChangeAt
theorem Tryz.own:ownKnob Tryz.prog.godebug=none:=by kernel_rfl
theorem Tryz.laidOut:laidOutB Tryz.prog=true:=by kernel_rfl
section
variable {H : Type} {enc : TypeId × Value → H} {P : Program}
theorem post_of_below {f:Func} {s:ChangeSpec} {apart fresh handsOn again:Bool} {W W':World} {args:Array Value} {v:Value} {ds gs:List (DataW H)} {before pa pv:List MemPlace}
  (hW:DataW.Whole enc P f.params.toList s.vars apart W args.toList ds gs before)
  (hres:∀ (b:Nat) (sp:Nat→Bool) (hd:Bool),DataW.TrodAll enc P W' b sp hd f.resultTypes.toList (v.resultList f.resultTypes.size) (s.fn H (ds++gs)).results [])
  (hargs:∀ sp:Nat→Bool,(∀ p∈before,sp p.block=true)→DataW.TrodAll enc P W' 0 sp true f.params.toList args.toList (s.fn H (ds++gs)).args pa)
  (hvars:∀ sp:Nat→Bool,(∀ p∈before,sp p.block=true)→DataW.TrodVars enc P W' sp s.vars (s.fn H (ds++gs)).vars pv)
  (hps:before=pa++pv) (hb:Below W.heap.size W W')
  (hok:∀ (j:Nat) (t:TypeId) (r:Value),f.resultTypes[j]? = some t→(v.resultList f.resultTypes.size)[j]? = some r→Value.okWide P W' .any 0 t r) :
  s.post enc P f apart fresh handsOn again W args v W':=by
 have hlt:∀ p∈before,p.block<W.heap.size:=fun p hp=>hW.lt p hp;have hold:∀ p∈before,(fun b=>decide (b<W.heap.size)) p.block=true:=fun p hp=>by simpa using hlt p hp
 refine ⟨ds,gs,before,[],pa,pv,hW,hres _ _ _,hargs _ hold,hvars _ hold,World.keptBut_mono (fun p hp=>⟨hp,?_⟩) (hb.frame (·∈before)),fun _=>?_⟩
 ·rw [hps,List.mem_append] at hp;exact Or.inr hp
 ·obtain ⟨_,_,_,_,_,hz,hn⟩:=hW;refine ⟨hok,_,_,([]++pa)++pv,⟨[]++pa,pv,trodAll_append (hargs _ (fun _ _=>rfl)) (hres _ _ _),hvars _ (fun _ _=>rfl),rfl,?_,?_⟩,?_⟩
  ·intro b off hp;have hin:MemPlace.cell b off∈before:=by rw [hps];simpa using hp
   rw [hb.frozen (hlt _ hin)];exact hz b off hin
  ·intro ha;have:=hn ha;rw [hps] at this;simpa using this
  ·intro p hp _;rw [hps];simpa using hp
end
end Go.Proofs.YtjpgoeimclipjaaGreat
namespace Go.Proofs.YtjpgoeimclipjaaGreat
namespace Pl
abbrev Bytes:=List UInt8
def slice (w:Bytes) (a b:Nat):Bytes:=(w.take b).drop a
theorem slice_len (w:Bytes) (a b:Nat):(slice w a b).length=min b w.length-a:=by simp [slice]
theorem slice_end (w:Bytes) (a:Nat):slice w a w.length=w.drop a:=by simp [slice]
theorem slice_head (w:Bytes) (b:Nat):slice w 0 b=w.take b:=by simp [slice]
def nbF:Nat→Nat→Bytes
 | 0,n=>[UInt8.ofNat n]
 | f+1,n=>if n<128 then [UInt8.ofNat n] else UInt8.ofNat (128+n % 128)::nbF f (n / 128)
def nb (n:Nat):Bytes:=nbF n n
theorem nbF_more:∀ (f g n:Nat),n≤f→n≤g→nbF f n=nbF g n
 | 0,0,_,_,_=>rfl
 | 0,g+1,n,h,_=>by
  have:n=0:=by omega
  subst this;simp [nbF]
 | f+1,0,n,_,h=>by
  have:n=0:=by omega
  subst this;simp [nbF]
 | f+1,g+1,n,hf,hg=>by
  unfold nbF
  by_cases h:n<128
  ·simp [h]
  ·simp only [h,if_false];rw [nbF_more f g (n / 128) (by omega) (by omega)]
theorem nb_small {n:Nat} (h:n<128):nb n=[UInt8.ofNat n]:=by
 unfold nb;cases n with
 | zero=>rfl
 | succ k=>unfold nbF;simp [h]
theorem nb_big {n:Nat} (h:128≤n):nb n=UInt8.ofNat (128+n % 128)::nb (n / 128):=by
 unfold nb;obtain ⟨k,rfl⟩:∃ k,n=k+1:=⟨n-1,by omega⟩
 rw [nbF,if_neg (by omega)];rw [nbF_more k ((k+1) / 128) _ (by omega) (Nat.le_refl _)]
theorem nb_ne (n:Nat):nb n≠[]:=by
 by_cases h:n<128
 ·rw [nb_small h];simp
 ·rw [nb_big (by omega)];simp
theorem nb_len (k:Nat):∀ n,n<128 ^ (k+1)→(nb n).length≤k+1:=by
 induction k with
 | zero=>intro n h;rw [nb_small (by simpa using h)];simp
 | succ k ih =>
  intro n h
  by_cases h1:n<128
  ·rw [nb_small h1];simp
  ·rw [nb_big (by omega)];have:=ih (n / 128) (by rw [Nat.div_lt_iff_lt_mul (by omega)];rw [←Nat.pow_succ];exact h);simp;omega
theorem nb_pos (n:Nat):1≤(nb n).length:=by
 have:=nb_ne n;have h:(nb n).length≠0:=by simpa using this
 omega
def maxNum:Nat:=2147483647
def takeF:Nat→Nat→Nat→Bytes→Option (Nat×Bytes)
 | 0,_,_,_=>none
 | _+1,_,_,[]=>none
 | f+1,i,n,c::rest =>
  if 128≤c.toNat then takeF f (i+1) (n+(c.toNat % 128)*128 ^ i) rest
  else if (0<i∧c.toNat=0)∨maxNum<n+(c.toNat % 128)*128 ^ i then none
  else some (n+(c.toNat % 128)*128 ^ i,rest)
def take (s:Bytes):Option (Nat×Bytes):=takeF 5 0 0 s
theorem takeF_nb (f:Nat):∀ (i acc n:Nat) (rest:Bytes),n<128 ^ (f+1)→acc+n*128 ^ i≤maxNum→(0<i→0<n) →
  takeF (f+1) i acc (nb n++rest)=some (acc+n*128 ^ i,rest):=by
 have small:∀ (f i acc n:Nat) (rest:Bytes),n<128→acc+n*128 ^ i≤maxNum→(0<i→0<n) →
   takeF (f+1) i acc (nb n++rest)=some (acc+n*128 ^ i,rest):=by
  intro f i acc n rest h1 hm hi;rw [nb_small h1];have e:(UInt8.ofNat n).toNat=n:=by simp [UInt8.toNat_ofNat'];omega
  have e2:n % 128=n:=Nat.mod_eq_of_lt h1;simp only [List.cons_append,List.nil_append,takeF,e,e2];rw [if_neg (by omega),if_neg];rintro (⟨h2,h3⟩ | h2)
  ·have:=hi h2;omega
  ·omega
 induction f with
 | zero=>intro i acc n rest h hm hi;exact small 0 i acc n rest (by simpa using h) hm hi
 | succ f ih =>
  intro i acc n rest h hm hi
  by_cases h1:n<128
  ·exact small _ i acc n rest h1 hm hi
  ·rw [nb_big (by omega)];have e:(UInt8.ofNat (128+n % 128)).toNat=128+n % 128:=by simp [UInt8.toNat_ofNat'];omega
   have e2:(128+n % 128) % 128=n % 128:=by omega
   have hp:0<128 ^ i:=Nat.pow_pos (by omega);rw [List.cons_append,takeF];simp only [e,e2];rw [if_pos (by omega)]
   have key:acc+n % 128*128 ^ i+n / 128*128 ^ (i+1)=acc+n*128 ^ i:=by
    have:=Nat.mod_add_div n 128;rw [Nat.pow_succ]
    calc
     acc+n % 128*128 ^ i+n / 128*(128 ^ i*128)=acc+(n % 128+128*(n / 128))*128 ^ i:=by
       rw [Nat.add_mul,Nat.mul_comm 128 (n / 128),Nat.mul_assoc,Nat.mul_comm 128 (128 ^ i)];omega
     _=_:=by rw [this]
   rw [ih (i+1) _ (n / 128) rest (by rw [Nat.div_lt_iff_lt_mul (by omega),←Nat.pow_succ];exact h) (by omega) (by omega),key]
theorem take_nb {n:Nat} (h:n≤maxNum) (rest:Bytes):take (nb n++rest)=some (n,rest):=by
 unfold maxNum at h;have:=takeF_nb 4 0 0 n rest (by omega) (by unfold maxNum;omega) (by omega);simpa [take] using this
theorem takeF_some:∀ (f i acc:Nat) (s:Bytes) (k:Nat) (rest:Bytes),takeF f i acc s=some (k,rest) →
  ∃ n,k=acc+n*128 ^ i∧s=nb n++rest∧k≤maxNum∧(0<i→0<n)
 | 0,_,_,_,_,_,h=>by simp [takeF] at h
 | f+1,_,_,[],_,_,h=>by simp [takeF] at h
 | f+1,i,acc,c::t,k,rest,h=>by
  have hc:=c.toNat_lt
  by_cases h1:128≤c.toNat
  ·rw [takeF,if_pos h1] at h;obtain ⟨n,hk,hs,hm,hn⟩:=takeF_some f (i+1) _ t k rest h;have hn:=hn (by omega);refine ⟨c.toNat % 128+128*n,?_,?_,hm,by omega⟩
   ·rw [hk,Nat.add_mul,Nat.pow_succ,Nat.mul_comm 128 n,Nat.mul_assoc,Nat.mul_comm 128 (128 ^ i)];omega
   ·rw [nb_big (by omega)];have e1:(c.toNat % 128+128*n) % 128=c.toNat % 128:=by omega
    have e2:(c.toNat % 128+128*n) / 128=n:=by omega
    rw [e1,e2,hs]
    have:UInt8.ofNat (128+c.toNat % 128)=c:=by
     apply UInt8.toNat_inj.1;simp [UInt8.toNat_ofNat'];omega
    rw [this];rfl
  ·rw [takeF,if_neg h1] at h
   by_cases h2:(0<i∧c.toNat=0)∨maxNum<acc+c.toNat % 128*128 ^ i
   ·rw [if_pos h2] at h;simp at h
   ·rw [if_neg h2] at h;simp only [Option.some.injEq,Prod.mk.injEq] at h;obtain ⟨rfl,rfl⟩:=h;have e:c.toNat % 128=c.toNat:=by omega
    refine ⟨c.toNat,by rw [e],?_,by omega,by omega⟩;rw [nb_small (by omega)];have:UInt8.ofNat c.toNat=c:=by apply UInt8.toNat_inj.1;simp
    rw [this];rfl
theorem take_some {s:Bytes} {k:Nat} {rest:Bytes} (h:take s=some (k,rest)):s=nb k++rest∧k≤maxNum:=by
 obtain ⟨n,hk,hs,hm,_⟩:=takeF_some 5 0 0 s k rest h;simp at hk;subst hk;exact ⟨hs,hm⟩
def Canon (l:Bytes) (k acc:Nat):Prop:=∀ n,0<n∨k=0→nb (acc+n*128 ^ k)=l.take k++nb n
theorem canon_zero (l:Bytes):Canon l 0 0:=by intro n _;simp
theorem canon_step {l:Bytes} {k acc:Nat} {c:UInt8} {t:Bytes} (h:Canon l k acc) (hd:l.drop k=c::t) (hc:128≤c.toNat):Canon l (k+1) (acc+c.toNat % 128*128 ^ k):=by
 intro n hn;have hn:0<n:=by omega
 have hcl:=c.toNat_lt
 have e:acc+c.toNat % 128*128 ^ k+n*128 ^ (k+1)=acc+(c.toNat % 128+128*n)*128 ^ k:=by
  rw [Nat.pow_succ,Nat.add_mul,Nat.mul_comm 128 n,Nat.mul_assoc,Nat.mul_comm 128 (128 ^ k)];omega
 rw [e,h _ (.inl (by omega)),nb_big (by omega)];have e1:(c.toNat % 128+128*n) % 128=c.toNat % 128:=by omega
 have e2:(c.toNat % 128+128*n) / 128=n:=by omega
 have e3:UInt8.ofNat (128+c.toNat % 128)=c:=by
  apply UInt8.toNat_inj.1;simp [UInt8.toNat_ofNat'];omega
 have hlk:l[k]? = some c:=by
  have:=congrArg (fun z:Bytes=>z[0]?) hd;simpa using this
 rw [e1,e2,e3,List.take_add_one,hlk];simp
theorem canon_end {l:Bytes} {k acc:Nat} {c:UInt8} {t:Bytes} (h:Canon l k acc) (hd:l.drop k=c::t) (hc:c.toNat<128) (ha:acc<128 ^ k) :
  (nb (acc+c.toNat % 128*128 ^ k)=l.take (k+1))↔¬ (0<k∧c.toNat=0):=by
 have hlk:l[k]? = some c:=by
  have:=congrArg (fun z:Bytes=>z[0]?) hd;simpa using this
 have hkl:k<l.length:=by
  rcases Nat.lt_or_ge k l.length with h1 | h1
  ·exact h1
  ·rw [List.drop_of_length_le h1] at hd;cases hd
 have e:c.toNat % 128=c.toNat:=by omega
 rw [e];constructor
 ·rintro h1 ⟨h2,h3⟩;rw [h3,Nat.zero_mul,Nat.add_zero] at h1;have h4:=congrArg List.length h1;obtain ⟨j,rfl⟩:∃ j,k=j+1:=⟨k-1,by omega⟩
  have h5:=nb_len j acc ha;simp at h4;omega
 ·intro h1;rw [h _ (by omega),nb_small hc,List.take_add_one,hlk];have:UInt8.ofNat c.toNat=c:=by apply UInt8.toNat_inj.1;simp
  simp [this]
def sumF:Nat→Bytes→Nat
 | _,[]=>0
 | i,c::t=>(i+1)*c.toNat+sumF (i+1) t
def sumOf (t:Bytes):Nat:=sumF 0 t % 65536
end Pl
end Go.Proofs.YtjpgoeimclipjaaGreat
namespace Go.Proofs.YtjpgoeimclipjaaGreat
namespace Pl
structure Tok where
 lit:Bytes
 far:Int
 len:Int
deriving DecidableEq
def maxDict:Nat:=256
def copyB:Nat→Nat→Bytes→Bytes
 | 0,_,s=>s
 | n+1,far,s=>copyB n far (s++[s.getD (s.length-far) 0])
theorem copyB_len:∀ (n far:Nat) (s:Bytes),(copyB n far s).length=s.length+n
 | 0,_,_=>rfl
 | n+1,far,s=>by rw [copyB,copyB_len];simp;omega
theorem copyB_snoc:∀ (k far:Nat) (s:Bytes),copyB (k+1) far s=copyB k far s++[(copyB k far s).getD ((copyB k far s).length-far) 0]
 | 0,_,_=>rfl
 | k+1,far,s=>by rw [copyB,copyB_snoc k far,copyB]
def tokE (d:Nat) (s:Bytes) (lit:Bool) (t:Tok):Nat :=
 if t.lit≠[] then
  if t.far≠0∨t.len≠0∨lit=true then 1 else if 512<t.lit.length+(s.length-d) then 2 else 0
 else if t.len<3∨64<t.len∨t.far<1∨(s.length:Int)<t.far then 1
 else if 512<t.len+((s.length-d:Nat):Int) then 2 else 0
def tokS (s:Bytes) (t:Tok):Bytes:=if t.lit≠[] then s++t.lit else copyB t.len.toNat t.far.toNat s
def isLit (t:Tok):Bool:=!t.lit.isEmpty
def playF (d:Nat):Bytes→Bool→List Tok→Bytes×Nat
 | s,_,[]=>(s.drop d,0)
 | s,b,t::l=>if tokE d s b t≠0 then ([],tokE d s b t) else playF d (tokS s t) (isLit t) l
def play (dict:Bytes) (l:List Tok):Bytes×Nat :=
 if maxDict<dict.length then ([],2) else playF dict.length dict false l
def comeF (w:Bytes) (at' far:Nat):Nat→Nat→Nat
 | 0,n=>n
 | f+1,n=>if at'+n<w.length∧w.getD (at'+n) 0=w.getD (at'+n-far) 0 then comeF w at' far f (n+1) else n
def come (w:Bytes) (at' far:Nat):Nat:=comeF w at' far 64 0
def bestF (w:Bytes) (at':Nat):Nat→Nat×Nat
 | 0=>(0,0)
 | f+1=>if 3≤come w at' (f+1)∧(bestF w at' f).2<come w at' (f+1) then (f+1,come w at' (f+1)) else bestF w at' f
def best (w:Bytes) (at':Nat):Nat×Nat:=bestF w at' at'
def bestR (w:Bytes) (at':Nat):Nat→Nat×Nat
 | 0=>(0,0)
 | f+1=>if (bestR w at' f).2<come w at' (f+1) then (f+1,come w at' (f+1)) else bestR w at' f
theorem bestR_bestF (w:Bytes) (at':Nat):∀ f,bestF w at' f=if (bestR w at' f).2<3 then (0,0) else bestR w at' f
 | 0=>by simp [bestF,bestR]
 | f+1=>by
  rw [bestF,bestR,bestR_bestF w at' f];generalize come w at' (f+1)=c;obtain ⟨x,y⟩:=bestR w at' f
  by_cases h1:y<3 <;> by_cases h2:3≤c
  ·have h3:y<c:=by omega
   have h4:0<c:=by omega
   have h5:¬ c<3:=by omega
   simp [h1,h2,h3,h4,h5]
  ·by_cases h3:y<c <;> simp [h1,h2,h3] <;> omega
  ·by_cases h3:y<c
   ·have h5:¬ c<3:=by omega
    simp [h1,h2,h3,h5]
   ·simp [h1,h3]
  ·have h3:¬ y<c:=by omega
   simp [h1,h3]
theorem comeF_le (w:Bytes) (p far:Nat) (hp:p≤w.length):∀ f n,p+n≤w.length→n≤comeF w p far f n∧comeF w p far f n≤n+f∧p+comeF w p far f n≤w.length
 | 0,n,h=>⟨Nat.le_refl _,Nat.le_refl _,h⟩
 | f+1,n,h=>by
  rw [comeF]
  by_cases h1:p+n<w.length∧w.getD (p+n) 0=w.getD (p+n-far) 0
  ·rw [if_pos h1];obtain ⟨a,b,c⟩:=comeF_le w p far hp f (n+1) (by omega);exact ⟨by omega,by omega,c⟩
  ·rw [if_neg h1];exact ⟨Nat.le_refl _,by omega,h⟩
theorem come_le (w:Bytes) (p far:Nat) (hp:p≤w.length):come w p far≤64∧p+come w p far≤w.length:=by
 obtain ⟨_,b,c⟩:=comeF_le w p far hp 64 0 (by omega);exact ⟨by unfold come;omega,c⟩
theorem bestR_le (w:Bytes) (p:Nat) (hp:p≤w.length):∀ f,(bestR w p f).2≤64∧p+(bestR w p f).2≤w.length∧(bestR w p f).1≤f
 | 0=>by simp [bestR];omega
 | f+1=>by
  obtain ⟨a,b,c⟩:=bestR_le w p hp f;rw [bestR]
  by_cases h:(bestR w p f).2<come w p (f+1)
  ·rw [if_pos h];obtain ⟨d,e⟩:=come_le w p (f+1) hp;exact ⟨d,e,Nat.le_refl _⟩
  ·rw [if_neg h];exact ⟨a,b,by omega⟩
theorem best_eq (w:Bytes) (p:Nat):best w p=if (bestR w p p).2<3 then (0,0) else bestR w p p:=bestR_bestF w p p
def litTok (b:Bytes):Tok:=⟨b,0,0⟩
def copyTok (far size:Nat):Tok:=⟨[],far,size⟩
def flush (w:Bytes) (a b:Nat):List Tok:=if a<b then [litTok (slice w a b)] else []
def parseF (w:Bytes):Nat→Nat→Nat→List Tok
 | 0,at',a=>flush w a at'
 | f+1,at',a =>
  if at'<w.length then
   if (best w at').2=0 then parseF w f (at'+1) a
   else flush w a at'++copyTok (best w at').1 (best w at').2::parseF w f (at'+(best w at').2) (at'+(best w at').2)
  else flush w a at'
def parse (dict text:Bytes):List Tok:=parseF (dict++text) text.length dict.length dict.length
def tokB (t:Tok):Bytes:=if t.lit≠[] then nb (2*t.lit.length)++t.lit else nb (2*t.len.toNat+1)++nb t.far.toNat
def toksB:List Tok→Bytes
 | []=>[]
 | t::l=>tokB t++toksB l
def write (dict:Bytes) (l:List Tok):Bytes×Nat:=if (play dict l).2≠0 then ([],(play dict l).2) else (toksB l,0)
def tokFrom (s:Bytes):Option (Tok×Bytes) :=
 match take s with
 | none=>none
 | some (n,rest) =>
  if n % 2=0 then
   if rest.length<n / 2 then none else some (⟨rest.take (n / 2),0,0⟩,rest.drop (n / 2))
  else match take rest with
   | none=>none
   | some (f,rest)=>some (⟨[],f,(n / 2:Nat)⟩,rest)
def readF (d:Nat):Nat→Bytes→Bool→Bytes→Option (List Tok)
 | _,_,_,[]=>some []
 | 0,_,_,_::_=>none
 | f+1,m,b,c::s' =>
  match tokFrom (c::s') with
  | none=>none
  | some (t,rest)=>if tokE d m b t≠0 then none else (readF d f (tokS m t) (isLit t) rest).map (t::·)
def read (dict s:Bytes):Option (List Tok):=readF dict.length s.length dict false s
end Pl
end Go.Proofs.YtjpgoeimclipjaaGreat
namespace Go.Proofs.YtjpgoeimclipjaaGreat
namespace Pl
theorem takeF_len:∀ (f i n:Nat) (s:Bytes) (k:Nat) (r:Bytes),takeF f i n s=some (k,r)→r.length<s.length
 | 0,_,_,_,_,_,h=>by simp [takeF] at h
 | f+1,_,_,[],_,_,h=>by simp [takeF] at h
 | f+1,i,n,c::t,k,r,h=>by
  rw [takeF] at h
  split at h
  ·have:=takeF_len f _ _ t k r h;simp;omega
  ·split at h
   ·simp at h
   ·simp only [Option.some.injEq,Prod.mk.injEq] at h;obtain ⟨_,rfl⟩:=h;simp
theorem take_len {s:Bytes} {k:Nat} {r:Bytes} (h:take s=some (k,r)):r.length<s.length:=takeF_len 5 0 0 s k r h
theorem tokFrom_len {s r:Bytes} {t:Tok} (h:tokFrom s=some (t,r)):r.length<s.length:=by
 unfold tokFrom at h;cases hk:take s with
 | none=>rw [hk] at h;simp at h
 | some p =>
  obtain ⟨n,q⟩:=p;have h1:=take_len hk;rw [hk] at h;simp only at h
  by_cases h2:n % 2=0
  ·rw [if_pos h2] at h
   by_cases h3:q.length<n / 2
   ·rw [if_pos h3] at h;simp at h
   ·rw [if_neg h3] at h;simp only [Option.some.injEq,Prod.mk.injEq] at h;obtain ⟨_,rfl⟩:=h;simp;omega
  ·rw [if_neg h2] at h;cases hf:take q with
   | none=>rw [hf] at h;simp at h
   | some p2 =>
    obtain ⟨f,q2⟩:=p2;have h3:=take_len hf;rw [hf] at h;simp only [Option.some.injEq,Prod.mk.injEq] at h;obtain ⟨_,rfl⟩:=h;omega
def toksF:Nat→Bytes→Option (List Tok)
 | _,[]=>some []
 | 0,_::_=>none
 | f+1,c::s' =>
  match tokFrom (c::s') with
  | none=>none
  | some (t,rest)=>(toksF f rest).map (t::·)
def toksOf (s:Bytes):Option (List Tok):=toksF s.length s
theorem toksF_fuel:∀ (f g:Nat) (s:Bytes),s.length≤f→s.length≤g→toksF f s=toksF g s
 | f,g,[],_,_=>by cases f <;> cases g <;> rfl
 | 0,_,_::_,h,_=>by simp at h
 | _,0,_::_,_,h=>by simp at h
 | f+1,g+1,c::s',hf,hg=>by
  rw [toksF,toksF];cases h:tokFrom (c::s') with
  | none=>rfl
  | some p =>
   obtain ⟨t,r⟩:=p;have:=tokFrom_len h;simp at this hf hg;simp only;rw [toksF_fuel f g r (by omega) (by omega)]
theorem readF_fuel (d:Nat):∀ (f g:Nat) (m:Bytes) (b:Bool) (s:Bytes),s.length≤f→s.length≤g→readF d f m b s=readF d g m b s
 | f,g,_,_,[],_,_=>by cases f <;> cases g <;> rfl
 | 0,_,_,_,_::_,h,_=>by simp at h
 | _,0,_,_,_::_,_,h=>by simp at h
 | f+1,g+1,m,b,c::s',hf,hg=>by
  rw [readF,readF];cases h:tokFrom (c::s') with
  | none=>rfl
  | some p =>
   obtain ⟨t,r⟩:=p;have:=tokFrom_len h;simp at this hf hg;simp only;rw [readF_fuel d f g _ _ r (by omega) (by omega)]
theorem toksOf_nil:toksOf []=some []:=rfl
theorem toksOf_none {s:Bytes} (hs:s≠[]) (h:tokFrom s=none):toksOf s=none:=by
 cases s with
 | nil=>exact absurd rfl hs
 | cons c s=>unfold toksOf;rw [List.length_cons,toksF,h]
theorem toksOf_some {s r:Bytes} {t:Tok} (hs:s≠[]) (h:tokFrom s=some (t,r)):toksOf s=(toksOf r).map (t::·):=by
 cases s with
 | nil=>exact absurd rfl hs
 | cons c s =>
  have:=tokFrom_len h;simp at this;unfold toksOf;rw [List.length_cons,toksF,h];simp only;rw [toksF_fuel s.length r.length r (by omega) (Nat.le_refl _)]
def readR (d:Nat) (m:Bytes) (b:Bool) (s:Bytes):Option (List Tok):=readF d s.length m b s
theorem readR_nil (d:Nat) (m:Bytes) (b:Bool):readR d m b []=some []:=rfl
theorem readR_none {d:Nat} {m:Bytes} {b:Bool} {s:Bytes} (hs:s≠[]) (h:tokFrom s=none):readR d m b s=none:=by
 cases s with
 | nil=>exact absurd rfl hs
 | cons c s=>unfold readR;rw [List.length_cons,readF,h]
theorem readR_bad {d:Nat} {m:Bytes} {b:Bool} {s r:Bytes} {t:Tok} (hs:s≠[]) (h:tokFrom s=some (t,r)) (he:tokE d m b t≠0):readR d m b s=none:=by
 cases s with
 | nil=>exact absurd rfl hs
 | cons c s=>unfold readR;rw [List.length_cons,readF,h];simp only;rw [if_pos he]
theorem readR_some {d:Nat} {m:Bytes} {b:Bool} {s r:Bytes} {t:Tok} (hs:s≠[]) (h:tokFrom s=some (t,r)) (he:tokE d m b t=0) :
  readR d m b s=(readR d (tokS m t) (isLit t) r).map (t::·):=by
 cases s with
 | nil=>exact absurd rfl hs
 | cons c s =>
  have:=tokFrom_len h;simp at this;unfold readR;rw [List.length_cons,readF,h];simp only;rw [if_neg (by omega)];rw [readF_fuel d s.length r.length _ _ r (by omega) (Nat.le_refl _)]
theorem tokS_grow {d:Nat} {s:Bytes} {b:Bool} {t:Tok} (h:tokE d s b t=0) (hd:d≤s.length):s.length<(tokS s t).length∧(tokS s t).length-d≤512:=by
 unfold tokE at h;unfold tokS
 by_cases h1:t.lit≠[]
 ·rw [if_pos h1] at h ⊢;have hl:0<t.lit.length:=List.length_pos_iff.2 h1
  split at h
  ·omega
  ·split at h
   ·omega
   ·simp;omega
 ·rw [if_neg h1] at h ⊢;rw [copyB_len]
  split at h
  ·omega
  ·split at h
   ·omega
   ·omega
theorem playF_room (d:Nat):∀ (l:List Tok) (s:Bytes) (b:Bool),(playF d s b l).2=0→d≤s.length→s.length-d≤512→l.length+(s.length-d)≤512
 | [],_,_,_,_,h=>by simpa using h
 | t::l,s,b,h,hd,hr=>by
  rw [playF] at h
  by_cases he:tokE d s b t≠0
  ·rw [if_pos he] at h;exact absurd h he
  ·rw [if_neg he] at h;obtain ⟨h1,h2⟩:=tokS_grow (Decidable.not_not.1 he) hd;have:=playF_room d l _ _ h (by omega) h2;simp;omega
theorem play_room {dict:Bytes} {l:List Tok} (h:(play dict l).2=0):l.length≤512:=by
 unfold play at h
 by_cases hd:maxDict<dict.length
 ·rw [if_pos hd] at h;simp at h
 ·rw [if_neg hd] at h;have:=playF_room dict.length l dict false h (Nat.le_refl _) (by omega);omega
theorem playF_each (d:Nat):∀ (l:List Tok) (s:Bytes) (b:Bool),(playF d s b l).2=0→d≤s.length→s.length-d≤512→∀ t∈l,t.lit.length≤512∧0≤t.len∧t.len≤64∧0≤t.far∧t.far≤(d+512:Nat)
 | [],_,_,_,_,_=>by simp
 | t::l,s,b,h,hd,hr=>by
  rw [playF] at h
  by_cases he:tokE d s b t≠0
  ·rw [if_pos he] at h;exact absurd h he
  ·rw [if_neg he] at h;have he:tokE d s b t=0:=Decidable.not_not.1 he;obtain ⟨h1,h2⟩:=tokS_grow he hd;intro u hu
   rcases List.mem_cons.1 hu with rfl | hu
   ·unfold tokE at he
    by_cases h3:u.lit≠[]
    ·rw [if_pos h3] at he
     split at he
     ·omega
     ·split at he
      ·omega
      ·rename_i h4 h5
       simp only [not_or,Decidable.not_not] at h4;exact ⟨by omega,by omega,by omega,by omega,by omega⟩
    ·rw [if_neg h3] at he;simp only [ne_eq,Decidable.not_not] at h3;rw [h3]
     split at he
     ·omega
     ·split at he
      ·omega
      ·exact ⟨by simp,by omega,by omega,by omega,by omega⟩
   ·exact playF_each d l _ _ h (by omega) h2 u hu
theorem play_each {dict:Bytes} {l:List Tok} (h:(play dict l).2=0):∀ t∈l,t.lit.length≤512∧0≤t.len∧t.len≤64∧0≤t.far∧t.far≤1000:=by
 unfold play at h
 by_cases hd:maxDict<dict.length
 ·rw [if_pos hd] at h;simp at h
 ·rw [if_neg hd] at h;intro t ht;have:=playF_each dict.length l dict false h (Nat.le_refl _) (by omega) t ht;unfold maxDict at hd;omega
theorem readF_eq (d:Nat):∀ (f:Nat) (m:Bytes) (b:Bool) (s:Bytes),s.length≤f →
  readF d f m b s=match toksF f s with | none=>none | some l=>if (playF d m b l).2=0 then some l else none
 | f,m,b,[],_=>by cases f <;> simp [readF,toksF,playF]
 | 0,_,_,_::_,h=>by simp at h
 | f+1,m,b,c::s',hf=>by
  rw [readF,toksF];cases h:tokFrom (c::s') with
  | none=>rfl
  | some p =>
   obtain ⟨t,r⟩:=p;have:=tokFrom_len h;simp at this hf;simp only;rw [readF_eq d f _ _ r (by omega)];cases toksF f r with
   | none=>simp
   | some l =>
    simp only [Option.map_some];rw [playF]
    by_cases he:tokE d m b t≠0
    ·rw [if_pos he,if_pos he,if_neg he]
    ·rw [if_neg he,if_neg he]
     by_cases h0:(playF d (tokS m t) (isLit t) l).2=0
     ·rw [if_pos h0,if_pos h0];rfl
     ·rw [if_neg h0,if_neg h0];rfl
theorem read_eq {dict:Bytes} (hd:dict.length≤256) (s:Bytes):read dict s=match toksOf s with | none=>none | some l=>if (play dict l).2=0 then some l else none:=by
 unfold read toksOf;rw [readF_eq dict.length s.length dict false s (Nat.le_refl _)];cases toksF s.length s with
 | none=>rfl
 | some l =>
  have e:play dict l=playF dict.length dict false l:=by unfold play;exact if_neg (by unfold maxDict;omega)
  simp only;rw [e]
theorem read_none {dict s:Bytes} (hd:dict.length≤256) (h:toksOf s=none):read dict s=none:=by rw [read_eq hd,h]
theorem read_bad {dict s:Bytes} {l:List Tok} (hd:dict.length≤256) (h:toksOf s=some l) (hp:(play dict l).2≠0):read dict s=none:=by rw [read_eq hd,h];exact if_neg hp
theorem read_good {dict s:Bytes} {l:List Tok} (hd:dict.length≤256) (h:toksOf s=some l) (hp:(play dict l).2=0):read dict s=some l:=by rw [read_eq hd,h];exact if_pos hp
theorem read_many {dict s r:Bytes} {l:List Tok} (hd:dict.length≤256) (h:toksOf s=(toksOf r).map (l++·)) (hl:512<l.length):read dict s=none:=by
 cases hr:toksOf r with
 | none=>rw [hr] at h;exact read_none hd h
 | some k =>
  rw [hr] at h;refine read_bad hd h fun hp=>?_;have:=play_room hp;simp at this;omega
theorem tokFrom_tokB {d:Nat} {s:Bytes} {b:Bool} {t:Tok} (h:tokE d s b t=0) (hs:s.length≤1000) (rest:Bytes):tokFrom (tokB t++rest)=some (t,rest):=by
 unfold tokE at h;unfold tokB tokFrom
 by_cases h1:t.lit≠[]
 ·rw [if_pos h1] at h ⊢
  split at h
  ·omega
  ·split at h
   ·omega
   ·rename_i h2 h3
    rw [List.append_assoc,take_nb (by unfold maxNum;omega)];have e1:2*t.lit.length % 2=0:=by omega
    have e2:2*t.lit.length / 2=t.lit.length:=by omega
    simp only [e1,e2,if_true];rw [if_neg (by simp)];obtain ⟨lit,far,len⟩:=t;simp at h2 ⊢;exact ⟨h2.1.symm,h2.2.1.symm⟩
 ·rw [if_neg h1] at h ⊢
  split at h
  ·omega
  ·split at h
   ·omega
   ·rename_i h2 h3
    obtain ⟨lit,far,len⟩:=t;simp only [ne_eq,Decidable.not_not] at h1;subst h1;simp only [not_or,Int.not_lt] at h2;rw [List.append_assoc,take_nb (by unfold maxNum;omega)];have e1:(2*len.toNat+1) % 2=1:=by omega
    have e2:(2*len.toNat+1) / 2=len.toNat:=by omega
    simp only [e1,e2];rw [if_neg (by omega),take_nb (by unfold maxNum;omega)];simp only [Option.some.injEq,Prod.mk.injEq,and_true]
    congr 1 <;> omega
theorem tokB_ne (t:Tok) (h:tokB t=[]):False:=by
 unfold tokB at h
 split at h <;> (have:=congrArg List.length h;simp at this;have h2:=nb_pos (2*t.lit.length);have h3:=nb_pos (2*t.len.toNat+1);first | (simp at h2;simp_all;done) | simp_all)
theorem toksOf_toksB (d:Nat):∀ (l:List Tok) (s:Bytes) (b:Bool),(playF d s b l).2=0→d≤s.length→s.length-d≤512→d≤256→toksOf (toksB l)=some l
 | [],_,_,_,_,_,_=>rfl
 | t::l,s,b,h,hd,hr,hd2=>by
  rw [playF] at h
  by_cases he:tokE d s b t≠0
  ·rw [if_pos he] at h;exact absurd h he
  ·rw [if_neg he] at h;have he:tokE d s b t=0:=by omega
   obtain ⟨h1,h2⟩:=tokS_grow he hd;rw [toksB,toksOf_some (fun e=>tokB_ne t (List.append_eq_nil_iff.1 e).1) (tokFrom_tokB he (by omega) (toksB l)),toksOf_toksB d l _ _ h (by omega) h2 hd2];rfl
theorem read_write {dict:Bytes} {l:List Tok} (h:(write dict l).2=0):read dict (write dict l).1=some l:=by
 unfold write at h ⊢
 by_cases hp:(play dict l).2≠0
 ·rw [if_pos hp] at h;exact absurd h hp
 ·rw [if_neg hp];have hp:(play dict l).2=0:=by omega
  have hd:dict.length≤256:=by
   by_cases hd:dict.length≤256
   ·exact hd
   ·unfold play at hp;rw [if_pos (by unfold maxDict;omega)] at hp;simp at hp
  refine read_good hd (toksOf_toksB dict.length l dict false ?_ (Nat.le_refl _) (by omega) hd) hp;unfold play at hp;rwa [if_neg (by unfold maxDict;omega)] at hp
theorem tokB_tokFrom {d:Nat} {m:Bytes} {b:Bool} {s r:Bytes} {t:Tok} (h:tokFrom s=some (t,r)) (he:tokE d m b t=0):s=tokB t++r:=by
 unfold tokFrom at h;cases hk:take s with
 | none=>rw [hk] at h;simp at h
 | some p =>
  obtain ⟨n,q⟩:=p;obtain ⟨hs,_⟩:=take_some hk;rw [hk] at h;simp only at h
  by_cases h2:n % 2=0
  ·rw [if_pos h2] at h
   by_cases h3:q.length<n / 2
   ·rw [if_pos h3] at h;simp at h
   ·rw [if_neg h3] at h;simp only [Option.some.injEq,Prod.mk.injEq] at h;obtain ⟨rfl,rfl⟩:=h
    have hne:q.take (n / 2)≠[]:=by
     intro e;unfold tokE at he;simp only [e] at he;simp at he
    have hl:(q.take (n / 2)).length=n / 2:=by simp;omega
    unfold tokB;rw [if_pos hne];simp only [hl];rw [show 2*(n / 2)=n from by omega,List.append_assoc,List.take_append_drop];exact hs
  ·rw [if_neg h2] at h;cases hf:take q with
   | none=>rw [hf] at h;simp at h
   | some p2 =>
    obtain ⟨f,q2⟩:=p2;obtain ⟨hq,_⟩:=take_some hf;rw [hf] at h;simp only [Option.some.injEq,Prod.mk.injEq] at h;obtain ⟨rfl,rfl⟩:=h;unfold tokB;rw [if_neg (by simp)];simp only [Int.toNat_natCast];rw [show 2*(n / 2)+1=n from by omega,List.append_assoc,←hq];exact hs
theorem readF_back (d:Nat):∀ (f:Nat) (m:Bytes) (b:Bool) (s:Bytes) (l:List Tok),readF d f m b s=some l→s=toksB l
 | f,m,b,[],l,h=>by cases f <;> (simp [readF] at h;subst h;rfl)
 | 0,_,_,_::_,_,h=>by simp [readF] at h
 | f+1,m,b,c::s',l,h=>by
  rw [readF] at h;cases hk:tokFrom (c::s') with
  | none=>rw [hk] at h;simp at h
  | some p =>
   obtain ⟨t,r⟩:=p;rw [hk] at h;simp only at h
   by_cases he:tokE d m b t≠0
   ·rw [if_pos he] at h;simp at h
   ·rw [if_neg he] at h;cases hr:readF d f (tokS m t) (isLit t) r with
    | none=>rw [hr] at h;simp at h
    | some k =>
     rw [hr] at h;simp at h;subst h;rw [tokB_tokFrom hk (Decidable.not_not.1 he),toksB,readF_back d f _ _ _ _ hr]
theorem write_read {dict s:Bytes} {l:List Tok} (hd:dict.length≤256) (h:read dict s=some l):write dict l=(s,0):=by
 have hb:s=toksB l:=by unfold read at h;exact readF_back _ _ _ _ _ _ h
 have hp:(play dict l).2=0:=by
  rw [read_eq hd] at h;cases hk:toksOf s with
  | none=>rw [hk] at h;simp at h
  | some k =>
   rw [hk] at h;simp only at h
   by_cases h0:(play dict k).2=0
   ·rw [if_pos h0] at h;simp at h;subst h;exact h0
   ·rw [if_neg h0] at h;simp at h
 unfold write;rw [if_neg (by omega),hb]
end Pl
end Go.Proofs.YtjpgoeimclipjaaGreat
namespace Go.Proofs.YtjpgoeimclipjaaGreat
namespace Pl
theorem comeF_same (w:Bytes) (p far:Nat):∀ f n i,n≤i→i<comeF w p far f n→w.getD (p+i) 0=w.getD (p+i-far) 0
 | 0,n,i,h1,h2=>by rw [comeF] at h2;omega
 | f+1,n,i,h1,h2=>by
  rw [comeF] at h2
  by_cases h:p+n<w.length∧w.getD (p+n) 0=w.getD (p+n-far) 0
  ·rw [if_pos h] at h2
   by_cases e:i=n
   ·rw [e];exact h.2
   ·exact comeF_same w p far f (n+1) i (by omega) h2
  ·rw [if_neg h] at h2;omega
theorem bestF_is (w:Bytes) (p:Nat):∀ f,(bestF w p f).2≠0→3≤(bestF w p f).2∧1≤(bestF w p f).1∧(bestF w p f).1≤f∧(bestF w p f).2=come w p (bestF w p f).1
 | 0,h=>by simp [bestF] at h
 | f+1,h=>by
  rw [bestF] at h ⊢
  by_cases h1:3≤come w p (f+1)∧(bestF w p f).2<come w p (f+1)
  ·rw [if_pos h1];exact ⟨h1.1,by simp,Nat.le_refl _,rfl⟩
  ·rw [if_neg h1] at h ⊢;obtain ⟨a,b,c,d⟩:=bestF_is w p f h;exact ⟨a,b,by omega,d⟩
theorem take_next {w:Bytes} {k:Nat} (h:k<w.length):w.take (k+1)=w.take k++[w.getD k 0]:=by
 rw [List.take_succ_eq_append_getElem h,List.getD_eq_getElem?_getD,List.getElem?_eq_getElem h];rfl
theorem copyB_come (w:Bytes) (p far:Nat) (h1:1≤far) (h2:far≤p) (hp:p≤w.length):∀ n,n≤come w p far→copyB n far (w.take p)=w.take (p+n)
 | 0,_=>rfl
 | n+1,h=>by
  have hl:=(come_le w p far hp).2;have ih:=copyB_come w p far h1 h2 hp n (by omega);have hs:w.getD (p+n) 0=w.getD (p+n-far) 0:=comeF_same w p far 64 0 n (by omega) (by unfold come at h;omega);rw [copyB_snoc,ih,←Nat.add_assoc,take_next (by omega),hs]
  congr 2
  rw [List.length_take,Nat.min_eq_left (by omega),List.getD_eq_getElem?_getD,List.getD_eq_getElem?_getD,List.getElem?_take,if_pos (by omega)]
theorem take_slice {w:Bytes} {a b:Nat} (h:a≤b):w.take a++slice w a b=w.take b:=by
 unfold slice;have:w.take a=(w.take b).take a:=by rw [List.take_take,Nat.min_eq_left h]
 rw [this,List.take_append_drop]
theorem flush_play {d:Nat} {w:Bytes} {a p:Nat} (ha:d≤a) (hap:a≤p) (hp:p≤w.length) (hw:w.length-d≤512) (l:List Tok) :
  ∃ b,playF d (w.take a) false (flush w a p++l)=playF d (w.take p) b l:=by
 unfold flush
 by_cases h:a<p
 ·rw [if_pos h];refine ⟨true,?_⟩;have hl:(slice w a p).length=p-a:=by rw [slice_len,Nat.min_eq_left hp]
  have hne:slice w a p≠[]:=by intro e;rw [e] at hl;simp at hl;omega
  have he:tokE d (w.take a) false (litTok (slice w a p))=0:=by
   unfold tokE litTok;simp only;rw [if_pos hne,if_neg (by simp),if_neg (by rw [hl,List.length_take];omega)]
  have hi:isLit (litTok (slice w a p))=true:=by
   unfold isLit litTok;simp [hne]
  have ht:tokS (w.take a) (litTok (slice w a p))=w.take p:=by
   unfold tokS litTok;simp only;rw [if_pos hne,take_slice hap]
  rw [List.cons_append,List.nil_append,playF,if_neg (by omega),hi,ht]
 ·rw [if_neg h];obtain rfl:a=p:=by omega
  exact ⟨false,rfl⟩
theorem parseF_play (d:Nat) (w:Bytes) (hw:w.length-d≤512):∀ (f p a:Nat),d≤a→a≤p→p≤w.length→w.length≤p+f →
  playF d (w.take a) false (parseF w f p a)=(w.drop d,0):=by
 have fin:∀ p a:Nat,d≤a→a≤p→p=w.length→playF d (w.take a) false (flush w a p)=(w.drop d,0):=by
  intro p a ha hap hp;obtain ⟨b,hb⟩:=flush_play ha hap (by omega) hw [];rw [List.append_nil] at hb;rw [hb,playF,hp,List.take_length]
 intro f
 induction f with
 | zero=>intro p a ha hap hp hf;rw [parseF];exact fin p a ha hap (by omega)
 | succ f ih =>
  intro p a ha hap hp hf;rw [parseF]
  by_cases h:p<w.length
  ·rw [if_pos h]
   by_cases h2:(best w p).2=0
   ·rw [if_pos h2];exact ih (p+1) a ha (by omega) (by omega) (by omega)
   ·rw [if_neg h2];obtain ⟨b3,b1,bp,bc⟩:=bestF_is w p p h2;have hc:=come_le w p (best w p).1 hp;have bc:(best w p).2=come w p (best w p).1:=bc;have b3:3≤(best w p).2:=b3;have b1:1≤(best w p).1:=b1;have bp:(best w p).1≤p:=bp;obtain ⟨b,hb⟩:=flush_play ha hap hp hw (copyTok (best w p).1 (best w p).2::parseF w f (p+(best w p).2) (p+(best w p).2));rw [hb,playF];have hlen:(w.take p).length=p:=by rw [List.length_take];omega
    have he:tokE d (w.take p) b (copyTok (best w p).1 (best w p).2)=0:=by
     unfold tokE copyTok;simp only;rw [if_neg (by simp),if_neg (by rw [hlen];omega),if_neg (by rw [hlen];omega)]
    have ht:tokS (w.take p) (copyTok (best w p).1 (best w p).2)=w.take (p+(best w p).2):=by
     unfold tokS copyTok;simp only [Int.toNat_natCast];rw [if_neg (by simp)];exact copyB_come w p _ b1 bp hp _ (by omega)
    have hi:isLit (copyTok (best w p).1 (best w p).2)=false:=rfl;rw [if_neg (by omega),ht,hi];exact ih _ _ (by omega) (Nat.le_refl _) (by omega) (by omega)
  ·rw [if_neg h];exact fin p a ha hap (by omega)
theorem play_parse {dict text:Bytes} (hd:dict.length≤256) (ht:text.length≤512):play dict (parse dict text)=(text,0):=by
 unfold play parse;rw [if_neg (by unfold maxDict;omega)];have h:=parseF_play dict.length (dict++text) (by simp;omega) text.length dict.length dict.length (Nat.le_refl _) (Nat.le_refl _) (by simp) (by simp);rw [List.take_left' rfl] at h;rw [h,List.drop_left' rfl]
end Pl
end Go.Proofs.YtjpgoeimclipjaaGreat
namespace Go.Proofs.YtjpgoeimclipjaaGreat
namespace Pl
def pw (m:Nat):Nat:=2 ^ (15-m)
theorem pw_pos (m:Nat):0<pw m:=Nat.pow_pos (by omega)
theorem pw_le (m:Nat):pw m≤32768:=by
 have:2 ^ (15-m)≤2 ^ 15:=Nat.pow_le_pow_right (by omega) (by omega);exact this
def badL (x:Int):Bool:=decide (x<0∨15<x)
def kr1 (x:Int):Nat:=if 0<x then pw x.toNat else 0
def kr:List Int→Nat
 | []=>0
 | x::l=>kr1 x+kr l
theorem kr1_le (x:Int):kr1 x≤32768:=by unfold kr1;split;exact pw_le _;omega
theorem kr_le:∀ l:List Int,kr l≤32768*l.length
 | []=>by simp [kr]
 | x::l=>by
  have:=kr1_le x;have:=kr_le l;rw [kr,List.length_cons];omega
theorem kr_app (a b:List Int):kr (a++b)=kr a+kr b:=by
 induction a with
 | nil=>simp [kr]
 | cons x a ih=>rw [List.cons_append,kr,kr,ih];omega
theorem kr_take {l:List Int} {k:Nat} {x:Int} (h:l[k]? = some x):kr (l.take (k+1))=kr (l.take k)+kr1 x:=by
 rw [List.take_add_one,h,kr_app];simp [kr]
theorem bad_take {l:List Int} {k:Nat} {x:Int} (h:l[k]? = some x):(l.take (k+1)).any badL=((l.take k).any badL || badL x):=by
 rw [List.take_add_one,h,List.any_append];simp
theorem bad_of_take {l:List Int} {k:Nat} (h:(l.take k).any badL=true):l.any badL=true:=by
 rw [List.any_eq_true] at h ⊢;obtain ⟨x,hx,hb⟩:=h;exact ⟨x,List.mem_of_mem_take hx,hb⟩
def checkE (l:List Int):Nat:=if l.any badL=true then 3 else if kr l=0∨32768<kr l then 1 else 0
theorem checkE_bad {l:List Int} (h:l.any badL=true):checkE l=3:=by unfold checkE;rw [if_pos h]
theorem checkE_form {l:List Int} (h:l.any badL=false) (h2:kr l=0∨32768<kr l):checkE l=1:=by unfold checkE;rw [h,if_neg (by simp),if_pos h2]
theorem checkE_ok {l:List Int} (h:l.any badL=false) (h2:¬ (kr l=0∨32768<kr l)):checkE l=0:=by unfold checkE;rw [h,if_neg (by simp),if_neg h2]
theorem checkE_zero {l:List Int} (h:checkE l=0):(∀ x∈l,0≤x∧x≤15)∧0<kr l∧kr l≤32768:=by
 unfold checkE at h
 by_cases h1:l.any badL=true
 ·rw [if_pos h1] at h;omega
 ·rw [if_neg h1] at h
  by_cases h2:kr l=0∨32768<kr l
  ·rw [if_pos h2] at h;omega
  ·refine ⟨fun x hx=>?_,by omega,by omega⟩;have h1:l.any badL=false:=by simpa using h1
   rw [List.any_eq_false] at h1;have:=h1 x hx;simp only [badL,decide_eq_true_eq] at this;omega
def badC (x:Int):Bool:=decide (x<0∨2048<x)
def fineB (c:List Int):Bool:=!c.any badC
theorem fine_all {c:List Int} (h:fineB c=true):∀ x∈c,0≤x∧x≤2048:=by
 intro x hx;unfold fineB at h;have h:c.any badC=false:=by simpa using h
 rw [List.any_eq_false] at h;have:=h x hx;simp only [badC,decide_eq_true_eq] at this;omega
theorem fine_of_all {c:List Int} (h:∀ x∈c,0≤x∧x≤2048):fineB c=true:=by
 unfold fineB;rw [Bool.not_eq_true',List.any_eq_false];intro x hx;have:=h x hx;simp only [badC,decide_eq_true_eq];omega
def lackL:List Int→List Int→Bool
 | x::l,c::cs=>decide (0<c∧x=0) || lackL l cs
 | _,_=>false
end Pl
end Go.Proofs.YtjpgoeimclipjaaGreat
namespace Go.Proofs.YtjpgoeimclipjaaGreat
namespace Pl
def bt:Nat→Nat→List Bool
 | _,0=>[]
 | n,s+1=>bt (n / 2) s++[decide (n % 2=1)]
theorem bt_len:∀ (s n:Nat),(bt n s).length=s
 | 0,_=>rfl
 | s+1,n=>by rw [bt,List.length_append,bt_len];rfl
def bvT (b:Bool):Nat:=if b then 1 else 0
def val (l:List Bool):Nat:=l.foldl (fun a b=>2*a+bvT b) 0
theorem val_nil:val []=0:=rfl
theorem val_snoc (l:List Bool) (b:Bool):val (l++[b])=2*val l+bvT b:=by unfold val;rw [List.foldl_append];rfl
theorem bvT_le (b:Bool):bvT b≤1:=by cases b <;> decide
theorem list_snoc_ind {α:Type} {p:List α→Prop} (h0:p []) (h1:∀ l a,p l→p (l++[a])) (l:List α):p l:=by
 have:∀ n (l:List α),l.length=n→p l:=by
  intro n
  induction n with
  | zero=>intro l hl;rw [List.length_eq_zero_iff.1 hl];exact h0
  | succ n ih =>
   intro l hl;have hne:l≠[]:=by intro e;rw [e] at hl;simp at hl
   rw [←List.dropLast_concat_getLast hne];exact h1 _ _ (ih _ (by simp;omega))
 exact this _ _ rfl
theorem val_lt (l:List Bool):val l<2 ^ l.length:=by
 induction l using list_snoc_ind with
 | h0=>decide
 | h1 l b ih =>
  have:=bvT_le b;rw [val_snoc,List.length_append,List.length_singleton,Nat.pow_succ];omega
theorem val_app (a b:List Bool):val (a++b)=val a*2 ^ b.length+val b:=by
 induction b using list_snoc_ind with
 | h0=>simp [val_nil]
 | h1 l x ih =>
  rw [←List.append_assoc,val_snoc,val_snoc,ih,List.length_append,List.length_singleton,Nat.pow_succ,←Nat.mul_assoc];omega
theorem val_bt:∀ (s n:Nat),val (bt n s)=n % 2 ^ s
 | 0,n=>by simp [bt,val_nil,Nat.mod_one]
 | s+1,n=>by
  rw [bt,val_snoc,val_bt,Nat.pow_succ,Nat.mul_comm (2 ^ s) 2,Nat.mod_mul]
  have:bvT (decide (n % 2=1))=n % 2:=by
   rcases Nat.mod_two_eq_zero_or_one n with h | h <;> rw [h] <;> rfl
  omega
theorem bt_val (l:List Bool):bt (val l) l.length=l:=by
 induction l using list_snoc_ind with
 | h0=>rfl
 | h1 l b ih =>
  rw [val_snoc,List.length_append,List.length_singleton,bt];have hb:=bvT_le b;rw [show (2*val l+bvT b) / 2=val l from by omega,ih]
  congr 2
  cases b
  ·simp [bvT]
  ·simp [bvT]
def sumN (f:Nat→Nat):Nat→Nat
 | 0=>0
 | n+1=>sumN f n+f n
theorem sumN_le {f g:Nat→Nat} : ∀ n,(∀ j,j<n→f j≤g j)→sumN f n≤sumN g n
 | 0,_=>Nat.le_refl _
 | n+1,h=>Nat.add_le_add (sumN_le n fun j hj=>h j (by omega)) (h n (by omega))
theorem sumN_congr {f g:Nat→Nat} : ∀ n,(∀ j,j<n→f j=g j)→sumN f n=sumN g n
 | 0,_=>rfl
 | n+1,h=>by rw [sumN,sumN,sumN_congr n fun j hj=>h j (by omega),h n (by omega)]
theorem sumN_zero {f:Nat→Nat} : ∀ n,(∀ j,j<n→f j=0)→sumN f n=0
 | 0,_=>rfl
 | n+1,h=>by rw [sumN,sumN_zero n fun j hj=>h j (by omega),h n (by omega)]
theorem sumN_add (f g:Nat→Nat):∀ n,sumN (fun j=>f j+g j) n=sumN f n+sumN g n
 | 0=>rfl
 | n+1=>by rw [sumN,sumN,sumN,sumN_add f g n];omega
theorem sumN_one {f:Nat→Nat} {i:Nat} : ∀ n,i<n→(∀ j,j<n→j≠i→f j=0)→sumN f n=f i
 | 0,h,_=>absurd h (by omega)
 | n+1,h,hz=>by
  rw [sumN]
  by_cases e:i=n
  ·subst e;rw [sumN_zero i fun j hj=>hz j (by omega) (by omega)];omega
  ·rw [sumN_one n (by omega) (fun j hj hne=>hz j (by omega) hne),hz n (by omega) (by omega)];omega
theorem sumN_dvd {d:Nat} {f:Nat→Nat} : ∀ n,(∀ j,j<n→d ∣ f j)→d ∣ sumN f n
 | 0,_=>Nat.dvd_zero d
 | n+1,h=>Nat.dvd_add (sumN_dvd n fun j hj=>h j (by omega)) (h n (by omega))
def ln (l:List Int) (i:Nat):Nat:=(l.getD i 0).toNat
def early (l:List Int) (s i j:Nat):Bool:=decide (0<ln l j) && (decide (ln l j<s) || (decide (ln l j=s) && decide (j<i)))
theorem early_iff (l:List Int) (s i j:Nat):early l s i j=true↔0<ln l j∧(ln l j<s∨(ln l j=s∧j<i)):=by unfold early;simp
def preS (l:List Int) (s i:Nat):Nat:=sumN (fun j=>if early l s i j=true then pw (ln l j) else 0) 16
theorem early_congr {l:List Int} {s i s' i' j:Nat} (h:(0<ln l j∧(ln l j<s∨(ln l j=s∧j<i)))↔(0<ln l j∧(ln l j<s'∨(ln l j=s'∧j<i')))):early l s i j=early l s' i' j:=by
 rw [←early_iff,←early_iff] at h;cases h1:early l s i j <;> cases h2:early l s' i' j <;> simp_all
theorem preS_zero (l:List Int):preS l 1 0=0:=by
 refine sumN_zero _ fun j _=>?_;rw [if_neg];rw [early_iff];omega
theorem early_skip {l:List Int} {s i:Nat} (h:ln l i≠s) (j:Nat):early l s (i+1) j=early l s i j :=
 early_congr ⟨fun ⟨a,b⟩=>⟨a,by rcases b with b | ⟨b,c⟩;exact .inl b;refine .inr ⟨b,?_⟩;by_cases e:j=i;subst e;exact absurd b h;omega⟩,fun ⟨a,b⟩=>⟨a,by omega⟩⟩
theorem preS_skip {l:List Int} {s i:Nat} (h:ln l i≠s):preS l s (i+1)=preS l s i:=by
 refine sumN_congr _ fun j _=>?_;simp only [early_skip h j]
theorem early_hit {l:List Int} {s i:Nat} (h:ln l i=s) (hs:0<s) (j:Nat):early l s (i+1) j=(early l s i j || decide (j=i)):=by
 have h1:=early_iff l s (i+1) j;have h2:=early_iff l s i j
 by_cases e:j=i
 ·subst e;simp only [decide_true,Bool.or_true];rw [h1];omega
 ·simp only [e,decide_false,Bool.or_false];exact early_congr ⟨fun ⟨a,b⟩=>⟨a,by omega⟩,fun ⟨a,b⟩=>⟨a,by omega⟩⟩
theorem early_self (l:List Int) (i:Nat):early l (ln l i) i i=false:=by
 have:=early_iff l (ln l i) i i;cases h:early l (ln l i) i i with
 | false=>rfl
 | true=>have:=this.1 h;omega
theorem preS_hit {l:List Int} {s i:Nat} (h:ln l i=s) (hs:0<s) (hi:i<16):preS l s (i+1)=preS l s i+pw s:=by
 have e:∀ j,j<16→(if early l s (i+1) j=true then pw (ln l j) else 0)=(if early l s i j=true then pw (ln l j) else 0)+(if j=i then pw s else 0):=by
  intro j _;rw [early_hit h hs]
  by_cases e:j=i
  ·subst e;have:=early_self l j;rw [h] at this;simp [this,h]
  ·simp [e]
 unfold preS;rw [sumN_congr 16 e,sumN_add]
 congr 1
 rw [sumN_one (i:=i) 16 hi (fun j _ hne=>by simp [hne])];simp
theorem preS_row (l:List Int) (s:Nat):preS l (s+1) 0=preS l s 16:=by
 refine sumN_congr _ fun j hj=>?_;rw [early_congr (s':=s) (i':=16) ⟨fun ⟨a,b⟩=>⟨a,by omega⟩,fun ⟨a,b⟩=>⟨a,by omega⟩⟩]
theorem early_row {l:List Int} {s j:Nat} (hj:j<16):early l (s+1) 0 j=early l s 16 j :=
 early_congr ⟨fun ⟨a,b⟩=>⟨a,by omega⟩,fun ⟨a,b⟩=>⟨a,by omega⟩⟩
def krS (l:List Int):Nat:=sumN (fun j=>if 0<ln l j then pw (ln l j) else 0) 16
theorem kr_sum:∀ (l:List Int),(∀ x∈l,0≤x)→kr l=sumN (fun j=>if 0<ln l j then pw (ln l j) else 0) l.length:=by
 intro l
 induction l using list_snoc_ind with
 | h0=>intro _;rfl
 | h1 l x ih =>
  intro h;have hx:=h x (by simp);rw [kr_app,ih fun y hy=>h y (by simp [hy]),List.length_append,List.length_singleton,sumN];have e1:ln (l++[x]) l.length=x.toNat:=by simp [ln]
  have e2:∀ j,j<l.length→ln (l++[x]) j=ln l j:=fun j hj=>by unfold ln;rw [List.getD_eq_getElem?_getD,List.getD_eq_getElem?_getD,List.getElem?_append_left hj]
  have e3:sumN (fun j=>if 0<ln (l++[x]) j then pw (ln (l++[x]) j) else 0) l.length=sumN (fun j=>if 0<ln l j then pw (ln l j) else 0) l.length:=sumN_congr _ fun j hj=>by simp only [e2 j hj]
  rw [e3,e1]
  congr 1
  simp only [kr,kr1,Nat.add_zero]
  by_cases hp:0<x
  ·rw [if_pos hp,if_pos (by omega)]
  ·rw [if_neg hp,if_neg (by omega)]
theorem kr_krS {l:List Int} (hl:l.length=16) (h:∀ x∈l,0≤x):kr l=krS l:=by rw [kr_sum l h,hl];rfl
theorem preS_le (l:List Int) (s i:Nat):preS l s i≤krS l :=
 sumN_le _ fun j _=>by
  by_cases h:early l s i j=true
  ·rw [if_pos h,if_pos ((early_iff l s i j).1 h).1];exact Nat.le_refl _
  ·rw [if_neg h];omega
theorem pw_dvd {a b:Nat} (h:a≤b):pw b ∣ pw a:=Nat.pow_dvd_pow 2 (by omega)
theorem preS_dvd {l:List Int} {s i:Nat} : pw s ∣ preS l s i :=
 sumN_dvd _ fun j _=>by
  by_cases h:early l s i j=true
  ·rw [if_pos h];have:=(early_iff l s i j).1 h;exact pw_dvd (by omega)
  ·rw [if_neg h];exact Nat.dvd_zero _
theorem preS_mono {l:List Int} {s i s' i':Nat} (h:s<s'∨(s=s'∧i≤i')):preS l s i≤preS l s' i' :=
 sumN_le _ fun j _=>by
  by_cases h1:early l s i j=true
  ·have:=(early_iff l s i j).1 h1;rw [if_pos h1,if_pos ((early_iff l s' i' j).2 (by omega))];exact Nat.le_refl _
  ·rw [if_neg h1];omega
def wv (l:List Int) (i:Nat):Nat:=preS l (ln l i) i / pw (ln l i)
def wordB (l:List Int) (i:Nat):List Bool:=bt (wv l i) (ln l i)
structure Right (l:List Int):Prop where
 len:l.length=16
 one:∀ i,ln l i≤15
 sum:krS l≤32768
 some:0<krS l
 nn:∀ x∈l,0≤x
theorem right_of {l:List Int} (hl:l.length=16) (h:checkE l=0):Right l:=by
 obtain ⟨h1,h2,h3⟩:=checkE_zero h;rw [kr_krS hl fun x hx=>(h1 x hx).1] at h2 h3;refine ⟨hl,fun i=>?_,h3,h2,fun x hx=>(h1 x hx).1⟩;unfold ln
 by_cases hi:i<l.length
 ·rw [List.getD_eq_getElem?_getD,List.getElem?_eq_getElem hi];have:=h1 _ (List.getElem_mem hi);simp;omega
 ·rw [List.getD_eq_getElem?_getD,List.getElem?_eq_none (by omega)];decide
theorem wv_mul (l:List Int) (i:Nat):wv l i*pw (ln l i)=preS l (ln l i) i:=Nat.div_mul_cancel preS_dvd
theorem pw_mul {m:Nat} (h:m≤15):2 ^ m*pw m=32768:=by
 unfold pw;rw [←Nat.pow_add,show m+(15-m)=15 from by omega]
theorem preS_room {l:List Int} (h:Right l) {i:Nat} (hi:i<16) (hp:0<ln l i):preS l (ln l i) i+pw (ln l i)≤32768:=by
 rw [←preS_hit rfl hp hi];exact Nat.le_trans (preS_le _ _ _) h.sum
theorem wv_lt {l:List Int} (h:Right l) {i:Nat} (hi:i<16) (hp:0<ln l i):wv l i<2 ^ ln l i:=by
 have h1:=preS_room h hi hp;rw [←wv_mul,←pw_mul (h.one i)] at h1;have h2:=pw_pos (ln l i);have:(wv l i+1)*pw (ln l i)≤2 ^ ln l i*pw (ln l i):=by rw [Nat.add_mul];omega
 exact Nat.le_of_mul_le_mul_right this h2
theorem wordB_len (l:List Int) (i:Nat):(wordB l i).length=ln l i:=bt_len _ _
theorem wordB_val {l:List Int} (h:Right l) {i:Nat} (hi:i<16) (hp:0<ln l i):val (wordB l i)=wv l i:=by
 unfold wordB;rw [val_bt,Nat.mod_eq_of_lt (wv_lt h hi hp)]
theorem pw_split {a b:Nat} (h:a≤b) (hb:b≤15):pw a=2 ^ (b-a)*pw b:=by
 unfold pw;rw [←Nat.pow_add]
 congr 1;omega
theorem word_free {l:List Int} (h:Right l) {i j:Nat} (hi:i<16) (hj:j<16) (pi:0<ln l i) (pj:0<ln l j) (hp:wordB l i <+: wordB l j):i=j:=by
 obtain ⟨t,ht⟩:=hp
 have hl:ln l i+t.length=ln l j:=by
  have:=congrArg List.length ht;rw [List.length_append,wordB_len,wordB_len] at this;exact this
 have hv:=congrArg val ht;rw [val_app,wordB_val h hi pi,wordB_val h hj pj] at hv;have htl:=val_lt t;have hpj:=pw_pos (ln l j);have hsp:=pw_split (show ln l i≤ln l j by omega) (h.one j);rw [show ln l j-ln l i=t.length from by omega] at hsp
 -- the numbers,in the same room
 have hJ:=wv_mul l j;have hI:=wv_mul l i;rw [←hv,Nat.add_mul,Nat.mul_assoc,←hsp,hI] at hJ;have hlt:val t*pw (ln l j)<pw (ln l i):=by rw [hsp];exact Nat.mul_lt_mul_of_pos_right htl hpj
 by_cases e:i=j
 ·exact e
 ·exfalso
  by_cases hlex:ln l i<ln l j∨(ln l i=ln l j∧i<j)
  ·have:=preS_mono (l:=l) (s:=ln l i) (i:=i+1) (s':=ln l j) (i':=j) (by omega);rw [preS_hit rfl pi hi] at this;omega
  ·have he:ln l j=ln l i:=by omega
   have hji:j<i:=by omega
   have:=preS_mono (l:=l) (s:=ln l j) (i:=j+1) (s':=ln l i) (i':=i) (by omega);rw [preS_hit rfl pj hj] at this;have hpp:=pw_pos (ln l j);omega
end Pl
end Go.Proofs.YtjpgoeimclipjaaGreat
namespace Go.Proofs.YtjpgoeimclipjaaGreat
namespace Pl
abbrev Tr:=Nat×List Nat
def hd (t:Tr):Nat:=t.2.headD 16
def keyLt (a b:Tr):Bool:=decide (a.1<b.1) || (decide (a.1=b.1) && decide (hd a<hd b))
theorem keyLt_iff (a b:Tr):keyLt a b=true↔a.1<b.1∨(a.1=b.1∧hd a<hd b):=by unfold keyLt;simp
def insT (x:Tr):List Tr→List Tr
 | []=>[x]
 | y::l=>if keyLt x y=true then x::y::l else y::insT x l
def sortT:List Tr→List Tr
 | []=>[]
 | x::l=>insT x (sortT l)
theorem insT_perm (x:Tr):∀ l,(insT x l).Perm (x::l)
 | []=>List.Perm.refl _
 | y::l=>by
  unfold insT
  split
  ·exact List.Perm.refl _
  ·exact ((insT_perm x l).cons y).trans (List.Perm.swap x y l)
theorem sortT_perm:∀ l,(sortT l).Perm l
 | []=>List.Perm.refl _
 | x::l=>(insT_perm x _).trans ((sortT_perm l).cons x)
def Srt (l:List Tr):Prop:=l.Pairwise fun a b=>keyLt a b=true
def KD (l:List Tr):Prop:=l.Pairwise fun a b=>hd a≠hd b
theorem KD.perm {l l':List Tr} (h:KD l) (hp:l.Perm l'):KD l':=(hp.pairwise_iff (fun h=>Ne.symm h)).1 h
theorem insT_srt (x:Tr):∀ l,Srt l→(∀ y∈l,hd x≠hd y)→Srt (insT x l)
 | [],_,_=>by simp [insT,Srt]
 | y::l,h,hx=>by
  have h:=List.pairwise_cons.1 h;unfold insT
  by_cases e:keyLt x y=true
  ·rw [if_pos e];refine List.pairwise_cons.2 ⟨fun z hz=>?_,List.pairwise_cons.2 h⟩
   rcases List.mem_cons.1 hz with rfl | hz
   ·exact e
   ·have h1:=h.1 z hz;rw [keyLt_iff] at h1 e ⊢;omega
  ·rw [if_neg e];refine List.pairwise_cons.2 ⟨fun z hz=>?_,insT_srt x l h.2 fun z hz=>hx z (by simp [hz])⟩
   rcases List.mem_cons.1 ((insT_perm x l).mem_iff.1 hz) with rfl | hz
   ·have h1:=hx y (by simp);rw [keyLt_iff] at e ⊢;omega
   ·exact h.1 z hz
theorem sortT_srt:∀ l,KD l→Srt (sortT l)
 | [],_=>List.Pairwise.nil
 | x::l,h=>by
  have h:=List.pairwise_cons.1 h;exact insT_srt x _ (sortT_srt l h.2) fun y hy=>h.1 y ((sortT_perm l).mem_iff.1 hy)
theorem srt_unique:∀ (c d:List Tr),Srt c→Srt d→c.Perm d→c=d
 | [],d,_,_,h=>(List.nil_perm.1 h).symm
 | x::c,[],_,_,h=>absurd (List.perm_nil.1 h) (by simp)
 | x::c,y::d,h1,h2,h=>by
  have a1:=List.pairwise_cons.1 h1;have a2:=List.pairwise_cons.1 h2
  have e:x=y:=by
   rcases List.mem_cons.1 (h.mem_iff.1 (by simp:x∈x::c)) with e | hx
   ·exact e
   ·rcases List.mem_cons.1 (h.mem_iff.2 (by simp:y∈y::d)) with e | hy
    ·exact e.symm
    ·have b1:=a1.1 y hy;have b2:=a2.1 x hx;rw [keyLt_iff] at b1 b2;omega
  subst e;rw [srt_unique c d a1.2 a2.2 (List.Perm.cons_inv h)]
theorem sortT_eq {l l':List Tr} (h:KD l) (hp:l.Perm l'):sortT l=sortT l' :=
 srt_unique _ _ (sortT_srt l h) (sortT_srt l' (h.perm hp)) ((sortT_perm l).trans (hp.trans (sortT_perm l').symm))
theorem sortT_of_srt {l p:List Tr} (h:KD l) (hp:p.Perm l) (hs:Srt p):sortT l=p :=
 srt_unique _ _ (sortT_srt l h) hs ((sortT_perm l).trans hp.symm)
def mg (a b:List Nat):List Nat:=(List.range 16).filter fun i=>decide (i∈a∨i∈b)
def mgT (a b:Tr):Tr:=(a.1+b.1,mg a.2 b.2)
theorem mem_mg {a b:List Nat} (ha:∀ i∈a,i<16) (hb:∀ i∈b,i<16) (i:Nat):i∈mg a b↔i∈a∨i∈b:=by
 unfold mg;rw [List.mem_filter,List.mem_range,decide_eq_true_eq];constructor
 ·exact fun h=>h.2
 ·intro h;refine ⟨?_,h⟩
  rcases h with h | h
  ·exact ha i h
  ·exact hb i h
theorem asc_unique:∀ (c d:List Nat),c.Pairwise (· < ·)→d.Pairwise (· < ·)→(∀ i,i∈c↔i∈d)→c=d
 | [],[],_,_,_=>rfl
 | [],y::d,_,_,h=>absurd ((h y).2 (by simp)) (by simp)
 | x::c,[],_,_,h=>absurd ((h x).1 (by simp)) (by simp)
 | x::c,y::d,h1,h2,h=>by
  have a1:=List.pairwise_cons.1 h1;have a2:=List.pairwise_cons.1 h2
  have e:x=y:=by
   rcases List.mem_cons.1 ((h x).1 (by simp)) with e | hx
   ·exact e
   ·rcases List.mem_cons.1 ((h y).2 (by simp)) with e | hy
    ·exact e.symm
    ·have b1:=a1.1 y hy;have b2:=a2.1 x hx;omega
  subst e
  congr 1
  refine asc_unique c d a1.2 a2.2 fun i=>?_;have hi:=h i;simp only [List.mem_cons] at hi;constructor
  ·intro hc;have hne:i≠x:=fun e=>by have:=a1.1 i hc;omega
   exact (hi.1 (.inr hc)).resolve_left hne
  ·intro hc;have hne:i≠x:=fun e=>by have:=a2.1 i hc;omega
   exact (hi.2 (.inr hc)).resolve_left hne
theorem mg_asc (a b:List Nat):(mg a b).Pairwise (· < ·):=List.Pairwise.filter _ List.pairwise_lt_range
structure VT (t:Tr):Prop where
 ne:t.2≠[]
 asc:t.2.Pairwise (· < ·)
 lt:∀ i∈t.2,i<16
def Dis (a b:Tr):Prop:=∀ i∈a.2,i∉b.2
theorem Dis.symm {a b:Tr} (h:Dis a b):Dis b a:=fun i hi hj=>h i hj hi
structure Forest (l:List Tr):Prop where
 vt:∀ t∈l,VT t
 dis:l.Pairwise Dis
theorem Forest.perm {l l':List Tr} (h:Forest l) (hp:l.Perm l'):Forest l' :=
 ⟨fun t ht=>h.vt t (hp.mem_iff.2 ht),(hp.pairwise_iff Dis.symm).1 h.dis⟩
theorem hd_mem {t:Tr} (h:VT t):hd t∈t.2:=by
 unfold hd;cases e:t.2 with
 | nil=>exact absurd e h.ne
 | cons x l=>simp
theorem Forest.kd {l:List Tr} (h:Forest l):KD l:=by
 refine List.Pairwise.imp_of_mem ?_ h.dis;intro a b ha hb hd1 e;exact hd1 (hd a) (hd_mem (h.vt a ha)) (e ▸ hd_mem (h.vt b hb))
theorem vt_mg {a b:Tr} (ha:VT a) (hb:VT b):VT (mgT a b):=by
 refine ⟨?_,mg_asc _ _,?_⟩
 ·intro e;have:=(mem_mg ha.lt hb.lt (hd a)).2 (.inl (hd_mem ha));rw [show mg a.2 b.2=[] from e] at this;simp at this
 ·intro i hi
  rcases (mem_mg ha.lt hb.lt i).1 hi with h | h
  ·exact ha.lt i h
  ·exact hb.lt i h
theorem Forest.step {a b:Tr} {r:List Tr} (h:Forest (a::b::r)):Forest (r++[mgT a b]):=by
 have va:=h.vt a (by simp);have vb:=h.vt b (by simp);have d1:=List.pairwise_cons.1 h.dis;have d2:=List.pairwise_cons.1 d1.2;refine ⟨fun t ht=>?_,?_⟩
 ·rcases List.mem_append.1 ht with ht | ht
  ·exact h.vt t (by simp [ht])
  ·have:t=mgT a b:=by simpa using ht
   subst this;exact vt_mg va vb
 ·refine List.pairwise_append.2 ⟨d2.2,by simp,fun x hx y hy=>?_⟩;have:y=mgT a b:=by simpa using hy
  subst this;intro i hi hm
  rcases (mem_mg va.lt vb.lt i).1 hm with e | e
  ·exact d1.1 x (by simp [hx]) i e hi
  ·exact d2.1 x hx i e hi
def build:Nat→List Tr→Nat→Nat
 | 0,_,_=>0
 | f+1,l,i=>match sortT l with
  | a::b::r=>(if i∈mg a.2 b.2 then 1 else 0)+build f (r++[mgT a b]) i
  | _=>0
def costS:Nat→List Tr→Nat
 | 0,_=>0
 | f+1,l=>match sortT l with
  | a::b::r=>a.1+b.1+costS f (r++[mgT a b])
  | _=>0
theorem build_perm {f:Nat} {l l':List Tr} (h:Forest l) (hp:l.Perm l') (i:Nat):build f l i=build f l' i:=by
 cases f with
 | zero=>rfl
 | succ f=>unfold build;rw [sortT_eq h.kd hp]
theorem build_step {f:Nat} {l r:List Tr} {a b:Tr} (h:sortT l=a::b::r) (i:Nat):build (f+1) l i=(if i∈mg a.2 b.2 then 1 else 0)+build f (r++[mgT a b]) i:=by
 rw [build,h]
theorem build_short {l:List Tr} (h:l.length≤1) (f i:Nat):build f l i=0:=by
 cases f with
 | zero=>rfl
 | succ f =>
  rw [build]
  match l,h with
  | [],_=>rfl
  | [x],_=>rfl
theorem costS_short {l:List Tr} (h:l.length≤1) (f:Nat):costS f l=0:=by
 cases f with
 | zero=>rfl
 | succ f =>
  rw [costS]
  match l,h with
  | [],_=>rfl
  | [x],_=>rfl
theorem sort_two {l:List Tr} (h:2≤l.length):∃ a b r,sortT l=a::b::r∧(a::b::r).Perm l∧r.length+2=l.length:=by
 have hp:=sortT_perm l
 match e:sortT l with
 | []=>rw [e] at hp;have:=hp.length_eq;simp at this;omega
 | [x]=>rw [e] at hp;have:=hp.length_eq;simp at this;omega
 | a::b::r=>rw [e] at hp;exact ⟨a,b,r,rfl,hp,by have:=hp.length_eq;simpa using this⟩
theorem pw_half {m:Nat} (h:m+1≤15):pw m=2*pw (m+1):=by
 unfold pw;rw [show 15-m=(15-(m+1))+1 from by omega,Nat.pow_succ];omega
def krD (d:List (Tr×Nat)):Nat:=(d.map fun x=>pw x.2).sum
def coD (d:List (Tr×Nat)):Nat:=(d.map fun x=>x.1.1*x.2).sum
theorem built:∀ (f:Nat) (l:List Tr),Forest l→1≤l.length→l.length≤f+1→l.length≤16 →
  ∃ d:List (Tr×Nat),(d.map Prod.fst).Perm l∧(∀ x∈d,∀ i∈x.1.2,build f l i=x.2)∧(∀ i,(∀ t∈l,i∉t.2)→build f l i=0)∧krD d=32768∧(∀ x∈d,x.2+1≤l.length)∧coD d=costS f l
 | f,l,hF,h1,hf,h16=>by
  by_cases h2:l.length=1
  ·match l,h2 with
   | [t],_ =>
    refine ⟨[(t,0)],List.Perm.refl _,fun x hx i _=>?_,fun i _=>build_short (by simp) _ _,by simp [krD];rfl,fun x hx=>?_,?_⟩
    ·have:x=(t,0):=by simpa using hx
     subst this;exact build_short (by simp) _ _
    ·have:x=(t,0):=by simpa using hx
     subst this;simp
    ·rw [costS_short (by simp)];simp [coD]
  ·obtain ⟨a,b,r,hs,hp,hl⟩:=sort_two (show 2≤l.length by omega);obtain ⟨g,rfl⟩:∃ g,f=g+1:=⟨f-1,by omega⟩
   have hFp:=hF.perm hp.symm;have va:=hFp.vt a (by simp);have vb:=hFp.vt b (by simp);have d1:=List.pairwise_cons.1 hFp.dis;have d2:=List.pairwise_cons.1 d1.2;obtain ⟨d,e1,e2,e3,e4,e5,e6⟩:=built g (r++[mgT a b]) hFp.step (by simp) (by simp;omega) (by simp;omega);have hm:mgT a b∈d.map Prod.fst:=e1.mem_iff.2 (by simp);obtain ⟨x,hx,hxa⟩:=List.mem_map.1 hm;obtain ⟨s,t,rfl⟩:=List.append_of_mem hx
   have e7:((s++t).map Prod.fst).Perm r:=by
    have h1:((s++x::t).map Prod.fst).Perm (mgT a b::(s++t).map Prod.fst):=by
     rw [←hxa];exact (List.perm_middle (a:=x) (l₁:=s) (l₂:=t)).map _
    have h3:(r++[mgT a b]).Perm (mgT a b::r):=List.perm_append_comm;exact List.Perm.cons_inv (h1.symm.trans (e1.trans h3))
   have hlen:(r++[mgT a b]).length=r.length+1:=by simp
   have hx5:=e5 x hx;rw [hlen] at hx5;refine ⟨(a,x.2+1)::(b,x.2+1)::(s++t),?_,?_,?_,?_,?_,?_⟩
   ·rw [List.map_cons,List.map_cons];exact ((e7.cons b).cons a).trans hp
   ·intro y hy i hi;rw [build_step hs]
    rcases List.mem_cons.1 hy with rfl | hy
    ·have hi2:=(mem_mg va.lt vb.lt i).2 (.inl hi);rw [if_pos hi2,e2 x hx i (by rw [hxa];exact hi2)];simp only;omega
    ·rcases List.mem_cons.1 hy with rfl | hy
     ·have hi2:=(mem_mg va.lt vb.lt i).2 (.inr hi);rw [if_pos hi2,e2 x hx i (by rw [hxa];exact hi2)];simp only;omega
     ·have hyr:y.1∈r:=e7.mem_iff.1 (List.mem_map.2 ⟨y,hy,rfl⟩)
      have hn:i∉mg a.2 b.2:=by
       intro h
       rcases (mem_mg va.lt vb.lt i).1 h with h | h
       ·exact d1.1 y.1 (by simp [hyr]) i h hi
       ·exact d2.1 y.1 hyr i h hi
      have hyd:y∈s++x::t:=by
       rcases List.mem_append.1 hy with h | h
       ·exact List.mem_append.2 (.inl h)
       ·exact List.mem_append.2 (.inr (by simp [h]))
      rw [if_neg hn,e2 y hyd i hi];omega
   ·intro i hi;have ha:=hi a (hp.mem_iff.1 (by simp));have hb:=hi b (hp.mem_iff.1 (by simp))
    have hn:i∉mg a.2 b.2:=by
     intro h
     rcases (mem_mg va.lt vb.lt i).1 h with h | h
     ·exact ha h
     ·exact hb h
    rw [build_step hs,if_neg hn,e3 i fun t ht=>?_]
    rcases List.mem_append.1 ht with ht | ht
    ·exact hi t (hp.mem_iff.1 (by simp [ht]))
    ·have:t=mgT a b:=by simpa using ht
     subst this;exact hn
   ·unfold krD at e4 ⊢;rw [List.map_append,List.map_cons,List.sum_append,List.sum_cons] at e4;rw [List.map_cons,List.map_cons,List.sum_cons,List.sum_cons,List.map_append,List.sum_append];have:=pw_half (m:=x.2) (by omega);simp only at this ⊢;omega
   ·intro y hy
    rcases List.mem_cons.1 hy with rfl | hy
    ·simp only;omega
    ·rcases List.mem_cons.1 hy with rfl | hy
     ·simp only;omega
     ·have:=e5 y (by rcases List.mem_append.1 hy with h | h;exact List.mem_append.2 (.inl h);exact List.mem_append.2 (.inr (by simp [h])));rw [hlen] at this;omega
   ·unfold coD at e6 ⊢;rw [List.map_append,List.map_cons,List.sum_append,List.sum_cons] at e6;rw [List.map_cons,List.map_cons,List.sum_cons,List.sum_cons,List.map_append,List.sum_append,costS,hs];have hxw:x.1.1=a.1+b.1:=by rw [hxa];rfl
    rw [hxw] at e6;simp only [Nat.mul_add,Nat.add_mul,Nat.mul_one] at e6 ⊢;omega
def front:Nat×Nat→List (Nat×Nat)→(Nat×Nat)×List (Nat×Nat)
 | p,[]=>(p,[])
 | p,q::r=>((front (min p.1 q.1,max p.2 q.2) r).1,(max p.1 q.1,min p.2 q.2)::(front (min p.1 q.1,max p.2 q.2) r).2)
def krP (d:List (Nat×Nat)):Nat:=(d.map fun x=>pw x.2).sum
def coP (d:List (Nat×Nat)):Nat:=(d.map fun x=>x.1*x.2).sum
theorem krP_cons (x:Nat×Nat) (d:List (Nat×Nat)):krP (x::d)=pw x.2+krP d:=by simp [krP]
theorem coP_cons (x:Nat×Nat) (d:List (Nat×Nat)):coP (x::d)=x.1*x.2+coP d:=by simp [coP]
theorem swap_cost (a b x y:Nat):min a b*max x y+max a b*min x y≤a*x+b*y:=by
 rcases Nat.le_total a b with h | h <;> rcases Nat.le_total x y with k | k
 ·rw [Nat.min_eq_left h,Nat.max_eq_right h,Nat.max_eq_right k,Nat.min_eq_left k];obtain ⟨u,rfl⟩:=Nat.exists_eq_add_of_le h;obtain ⟨v,rfl⟩:=Nat.exists_eq_add_of_le k;simp only [Nat.mul_add,Nat.add_mul];omega
 ·rw [Nat.min_eq_left h,Nat.max_eq_right h,Nat.max_eq_left k,Nat.min_eq_right k];omega
 ·rw [Nat.min_eq_right h,Nat.max_eq_left h,Nat.max_eq_right k,Nat.min_eq_left k];omega
 ·rw [Nat.min_eq_right h,Nat.max_eq_left h,Nat.max_eq_left k,Nat.min_eq_right k];obtain ⟨u,rfl⟩:=Nat.exists_eq_add_of_le h;obtain ⟨v,rfl⟩:=Nat.exists_eq_add_of_le k;simp only [Nat.mul_add,Nat.add_mul];omega
theorem minmax_perm (a b:Nat) (l:List Nat):(min a b::max a b::l).Perm (a::b::l):=by
 rcases Nat.le_total a b with h | h
 ·rw [Nat.min_eq_left h,Nat.max_eq_right h]
 ·rw [Nat.min_eq_right h,Nat.max_eq_left h];exact List.Perm.swap _ _ _
theorem front_spec:∀ (r:List (Nat×Nat)) (p:Nat×Nat),
  coP ((front p r).1::(front p r).2)≤coP (p::r)∧krP ((front p r).1::(front p r).2)=krP (p::r) ∧
  (((front p r).1::(front p r).2).map Prod.fst).Perm ((p::r).map Prod.fst) ∧
  ((front p r).1.1≤p.1∧∀ q∈(front p r).2,(front p r).1.1≤q.1) ∧
  (p.2≤(front p r).1.2∧∀ q∈(front p r).2,q.2≤(front p r).1.2) ∧
  (∀ m,(∀ q∈p::r,q.2≤m)→∀ q∈(front p r).1::(front p r).2,q.2≤m)∧(front p r).2.length=r.length
 | [],p=>by
  refine ⟨Nat.le_refl _,rfl,List.Perm.refl _,⟨Nat.le_refl _,by simp [front]⟩,⟨Nat.le_refl _,by simp [front]⟩,fun m h=>h,rfl⟩
 | q::r,p=>by
  obtain ⟨h1,h2,h3,h4,h5,h6,h7⟩:=front_spec r (min p.1 q.1,max p.2 q.2);obtain ⟨t,ht⟩:∃ t,t=front (min p.1 q.1,max p.2 q.2) r:=⟨_,rfl⟩
  rw [←ht] at h1 h2 h3 h4 h5 h6 h7;rw [front,←ht];simp only at h4 h5 ⊢;rw [coP_cons,coP_cons] at h1;rw [krP_cons,krP_cons] at h2;simp only at h1 h2;have sw:=swap_cost p.1 q.1 p.2 q.2;refine ⟨?_,?_,?_,⟨by omega,?_⟩,⟨by omega,?_⟩,?_,by simp [h7]⟩
  ·rw [coP_cons,coP_cons,coP_cons,coP_cons];simp only;omega
  ·rw [krP_cons,krP_cons,krP_cons,krP_cons];simp only
   rcases Nat.le_total p.2 q.2 with k | k
   ·rw [Nat.max_eq_right k] at h2;rw [Nat.min_eq_left k];omega
   ·rw [Nat.max_eq_left k] at h2;rw [Nat.min_eq_right k];omega
  ·simp only [List.map_cons] at h3 ⊢;have s1:(t.1.1::max p.1 q.1::t.2.map Prod.fst).Perm (max p.1 q.1::t.1.1::t.2.map Prod.fst):=List.Perm.swap _ _ _;have s2:=h3.cons (max p.1 q.1);have s3:(max p.1 q.1::min p.1 q.1::r.map Prod.fst).Perm (min p.1 q.1::max p.1 q.1::r.map Prod.fst):=List.Perm.swap _ _ _;exact s1.trans (s2.trans (s3.trans (minmax_perm _ _ _)))
  ·intro z hz
   rcases List.mem_cons.1 hz with rfl | hz
   ·simp only;omega
   ·exact h4.2 z hz
  ·intro z hz
   rcases List.mem_cons.1 hz with rfl | hz
   ·simp only;omega
   ·exact h5.2 z hz
  ·intro m hm z hz;have hp:=hm p (by simp);have hq:=hm q (by simp)
   have h8:=h6 m (fun y hy=>by
    rcases List.mem_cons.1 hy with rfl | hy
    ·simp only;omega
    ·exact hm y (by simp [hy]))
   rcases List.mem_cons.1 hz with rfl | hz
   ·exact h8 _ (by simp)
   ·rcases List.mem_cons.1 hz with rfl | hz
    ·simp only;omega
    ·exact h8 z (by simp [hz])
theorem krP_dvd {m:Nat} : ∀ (d:List (Nat×Nat)),(∀ x∈d,x.2≤m)→pw m ∣ krP d
 | [],_=>Nat.dvd_zero _
 | x::d,h=>by
  rw [krP_cons];exact Nat.dvd_add (pw_dvd (h x (by simp))) (krP_dvd d fun y hy=>h y (by simp [hy]))
theorem least_eq {a a':Nat} {r r':List Nat} (h:(a'::r').Perm (a::r)) (h1:∀ x∈r,a≤x) (h2:∀ x∈r',a'≤x):a'=a∧r'.Perm r:=by
 have e:a'=a:=by
  rcases List.mem_cons.1 (h.mem_iff.1 (by simp:a'∈a'::r')) with e | h3
  ·exact e
  ·rcases List.mem_cons.1 (h.mem_iff.2 (by simp:a∈a::r)) with e | h4
   ·exact e.symm
   ·have:=h1 _ h3;have:=h2 _ h4;omega
 subst e;exact ⟨rfl,List.Perm.cons_inv h⟩
theorem bestCode:∀ (f:Nat) (l:List Tr),Forest l→l.length≤f+1→l.length≤16→∀ d:List (Nat×Nat),(d.map Prod.fst).Perm (l.map Prod.fst)→krP d≤32768→(∀ x∈d,x.2≤15)→costS f l≤coP d
 | f,l,hF,hf,h16,d,hd,hk,h15=>by
  by_cases h2:l.length≤1
  ·rw [costS_short h2];omega
  ·obtain ⟨a,b,r,hs,hp,hl⟩:=sort_two (show 2≤l.length by omega);obtain ⟨g,rfl⟩:∃ g,f=g+1:=⟨f-1,by omega⟩
   have hFp:=hF.perm hp.symm;have hsr:Srt (a::b::r):=hs ▸ sortT_srt l hF.kd;have s1:=List.pairwise_cons.1 hsr;have s2:=List.pairwise_cons.1 s1.2
   have l1:∀ x∈b.1::r.map Prod.fst,a.1≤x:=by
    intro x hx;rw [←List.map_cons (f:=Prod.fst)] at hx;obtain ⟨y,hy,rfl⟩:=List.mem_map.1 hx;have:=(keyLt_iff _ _).1 (s1.1 y hy);omega
   have l2:∀ x∈r.map Prod.fst,b.1≤x:=by
    intro x hx;obtain ⟨y,hy,rfl⟩:=List.mem_map.1 hx;have:=(keyLt_iff _ _).1 (s2.1 y hy);omega
   have hd2:(d.map Prod.fst).Perm (a.1::b.1::r.map Prod.fst):=hd.trans (hp.map Prod.fst).symm;have hdl:d.length=r.length+2:=by have:=hd2.length_eq;simpa using this
   match d,hdl,hd2,hk,h15 with
   | p::q::rest,hdl,hd2,hk,h15 =>
    obtain ⟨c1,k1,p1,m1,x1,b1,n1⟩:=front_spec (q::rest) p;obtain ⟨u,hu⟩:∃ u,u=front p (q::rest):=⟨_,rfl⟩
    rw [←hu] at c1 k1 p1 m1 x1 b1 n1;obtain ⟨⟨ua,uL⟩,uR⟩:=u;simp only at c1 k1 p1 m1 x1 b1 n1
    match uR,n1,c1,k1,p1,m1,x1,b1 with
    | q2::rest2,n1,c1,k1,p1,m1,x1,b1 =>
     obtain ⟨c2,k2,p2,m2,x2,b2,n2⟩:=front_spec rest2 q2;obtain ⟨v,hv⟩:∃ v,v=front q2 rest2:=⟨_,rfl⟩
     rw [←hv] at c2 k2 p2 m2 x2 b2 n2;obtain ⟨⟨vb,vL⟩,vR⟩:=v;simp only at c2 k2 p2 m2 x2 b2 n2
     -- the weights are the least ones
     have hpu:=(p1.trans hd2)
     simp only [List.map_cons] at hpu
     obtain ⟨eua,hpr⟩:=least_eq hpu l1 (by
      intro x hx;rw [←List.map_cons (f:=Prod.fst)] at hx;obtain ⟨y,hy,rfl⟩:=List.mem_map.1 hx;exact m1.2 y hy)
     have hpv:=p2.trans (by simpa using hpr);simp only [List.map_cons] at hpv
     obtain ⟨evb,hpr2⟩:=least_eq hpv l2 (by
      intro x hx;obtain ⟨y,hy,rfl⟩:=List.mem_map.1 hx;exact m2.2 y hy)
     subst eua;subst evb
     -- the room
     have hb15:=b1 15 h15;have hvL:vL≤uL:=b2 uL x1.2 (b.1,vL) (by simp);have huL:uL≤15:=hb15 (a.1,uL) (by simp);rw [krP_cons] at k1;rw [krP_cons] at k2;simp only at k1 k2;have hpu1:=pw_pos uL;have hdv:pw vL ∣ pw vL+krP vR:=Nat.dvd_add (Nat.dvd_refl _) (krP_dvd vR fun z hz=>x2.2 z hz)
     have hd15:pw vL ∣ 32768:=by
      have:=pw_dvd (a:=0) (b:=vL) (by omega);exact this
     have hroom:pw vL+(pw vL+krP vR)≤32768:=by
      obtain ⟨m,hm⟩:=hdv;obtain ⟨n,hn⟩:=hd15;have hlt:pw vL*m<pw vL*n:=by omega
      have hmn:m<n:=Nat.lt_of_mul_lt_mul_left hlt;have:pw vL*(m+1)≤pw vL*n:=Nat.mul_le_mul_left _ hmn;rw [Nat.mul_add] at this;omega
     have hv1:1≤vL:=by
      rcases Nat.eq_zero_or_pos vL with e | e
      ·subst e;have:pw 0=32768:=rfl;omega
      ·exact e
     have hpw:=pw_half (m:=vL-1) (by omega);rw [show vL-1+1=vL from by omega] at hpw
     have hdn:(((a.1+b.1,vL-1)::vR).map Prod.fst).Perm ((r++[mgT a b]).map Prod.fst):=by
      rw [List.map_append,List.map_cons,List.map_cons,List.map_nil];have h3:(r.map Prod.fst++[(mgT a b).1]).Perm ((mgT a b).1::r.map Prod.fst):=List.perm_append_comm;exact (hpr2.cons _).trans h3.symm
     have ih:=bestCode g (r++[mgT a b]) hFp.step (by simp;omega) (by simp;omega) _ hdn (by rw [krP_cons];simp only;omega) (by
      intro z hz
      rcases List.mem_cons.1 hz with rfl | hz
      ·simp only;omega
      ·have:=x2.2 z hz;omega)
     rw [costS,hs];rw [coP_cons] at ih c1 c2;simp only at ih c1 c2 ⊢;have hle:a.1*vL≤a.1*uL:=Nat.mul_le_mul_left _ hvL
     have e1:(a.1+b.1)*vL=a.1+b.1+(a.1+b.1)*(vL-1):=by
      conv=>lhs;rw [show vL=(vL-1)+1 from by omega]
      rw [Nat.mul_add];omega
     rw [Nat.add_mul] at e1;omega
end Pl
end Go.Proofs.YtjpgoeimclipjaaGreat
namespace Go.Proofs.YtjpgoeimclipjaaGreat
namespace Pl
def cn (c:List Int) (i:Nat):Nat:=(c.getD i 0).toNat
def trOf (c:List Int) (i:Nat):Option Tr:=if 0<c.getD i 0 then some (cn c i,[i]) else none
def startF (c:List Int):Nat→List Tr
 | 0=>[]
 | k+1=>startF c k++(trOf c k).toList
theorem startF_pos {c:List Int} {k:Nat} (h:0<c.getD k 0):startF c (k+1)=startF c k++[(cn c k,[k])]:=by rw [startF,trOf,if_pos h];rfl
theorem startF_zero {c:List Int} {k:Nat} (h:¬ 0<c.getD k 0):startF c (k+1)=startF c k:=by rw [startF,trOf,if_neg h];simp
theorem mem_startF {c:List Int} {t:Tr} : ∀ {k:Nat},t∈startF c k↔∃ i,i<k∧0<c.getD i 0∧t=(cn c i,[i])
 | 0=>by simp [startF]
 | k+1=>by
  by_cases h:0<c.getD k 0
  ·rw [startF_pos h,List.mem_append,mem_startF,List.mem_singleton];constructor
   ·rintro (⟨i,h1,h2,h3⟩ | h3)
    ·exact ⟨i,by omega,h2,h3⟩
    ·exact ⟨k,by omega,h,h3⟩
   ·rintro ⟨i,h1,h2,h3⟩
    by_cases e:i=k
    ·subst e;exact .inr h3
    ·exact .inl ⟨i,by omega,h2,h3⟩
  ·rw [startF_zero h,mem_startF];constructor
   ·rintro ⟨i,h1,h2,h3⟩;exact ⟨i,by omega,h2,h3⟩
   ·rintro ⟨i,h1,h2,h3⟩
    by_cases e:i=k
    ·subst e;exact absurd h2 h
    ·exact ⟨i,by omega,h2,h3⟩
theorem startF_len (c:List Int):∀ k,(startF c k).length≤k
 | 0=>Nat.le_refl _
 | k+1=>by
  have:=startF_len c k
  by_cases h:0<c.getD k 0
  ·rw [startF_pos h,List.length_append];simp;omega
  ·rw [startF_zero h];omega
theorem startF_forest (c:List Int):∀ k,k≤16→Forest (startF c k)
 | 0,_=>⟨by simp [startF],List.Pairwise.nil⟩
 | k+1,hk=>by
  have ih:=startF_forest c k (by omega)
  by_cases h:0<c.getD k 0
  ·rw [startF_pos h];refine ⟨fun t ht=>?_,List.pairwise_append.2 ⟨ih.dis,by simp,fun x hx y hy=>?_⟩⟩
   ·rcases List.mem_append.1 ht with ht | ht
    ·exact ih.vt t ht
    ·have:t=(cn c k,[k]):=by simpa using ht
     subst this
     exact ⟨by simp,by simp,fun i hi=>by
       have:i=k:=by simpa using hi
       omega⟩
   ·have hy:y=(cn c k,[k]):=by simpa using hy
    subst hy;obtain ⟨i,h1,_,rfl⟩:=mem_startF.1 hx;intro j hj hj2;have e1:j=i:=by simpa using hj
    have e2:j=k:=by simpa using hj2
    omega
  ·rw [startF_zero h];exact ih
theorem sum_startF (c:List Int) (g:Tr→Nat) (q:Nat→Nat) (hg:∀ i,g (cn c i,[i])=q i):∀ k,((startF c k).map g).sum=sumN (fun j=>if 0<c.getD j 0 then q j else 0) k
 | 0=>rfl
 | k+1=>by
  rw [sumN,←sum_startF c g q hg k]
  by_cases h:0<c.getD k 0
  ·rw [startF_pos h,if_pos h,List.map_append,List.sum_append];simp [hg]
  ·rw [startF_zero h,if_neg h];rfl
def fulF (c:List Int):List Tr:=startF c 16
def buildE (c:List Int):Nat:=if fineB c=false then 3 else if (fulF c).length=0 then 5 else 0
def lenAt (c:List Int) (i:Nat):Nat:=if (fulF c).length=1 then (if 0<c.getD i 0 then 1 else 0) else build ((fulF c).length-1) (fulF c) i
def lensOf (c:List Int):List Int:=if buildE c≠0 then List.replicate 16 0 else (List.range 16).map fun i=>(lenAt c i:Int)
theorem lensOf_len (c:List Int):(lensOf c).length=16:=by unfold lensOf;split <;> simp
theorem lensOf_get {c:List Int} (h:buildE c=0) {i:Nat} (hi:i<16):(lensOf c).getD i 0=(lenAt c i:Int):=by
 unfold lensOf;rw [if_neg (by omega),List.getD_eq_getElem?_getD,List.getElem?_map,List.getElem?_range hi];rfl
theorem fulF_len (c:List Int):(fulF c).length≤16:=startF_len c 16
theorem buildE_zero {c:List Int} (h:buildE c=0):fineB c=true∧1≤(fulF c).length:=by
 unfold buildE at h;cases hf:fineB c with
 | false=>rw [hf,if_pos rfl] at h;omega
 | true =>
  rw [hf,if_neg (by simp)] at h
  by_cases h2:(fulF c).length=0
  ·rw [if_pos h2] at h;omega
  ·exact ⟨rfl,by omega⟩
theorem one_alone {c:List Int} (h:(fulF c).length=1):∃ i,i<16∧∀ j,j<16→(0<c.getD j 0↔j=i):=by
 match e:fulF c,h with
 | [t],_ =>
  have ht:t∈startF c 16:=by show t∈fulF c;rw [e];simp
  obtain ⟨i,h1,h2,h3⟩:=mem_startF.1 ht;refine ⟨i,h1,fun j hj=>⟨fun hp=>?_,fun e=>e ▸ h2⟩⟩;have hj2:(cn c j,[j])∈fulF c:=mem_startF.2 ⟨j,hj,hp,rfl⟩;rw [e,List.mem_singleton,h3] at hj2;have:=(Prod.ext_iff.1 hj2).2;simpa using this
theorem sum_map_le {α:Type} (f:α→Nat):∀ {l:List α} {x:α},x∈l→f x≤(l.map f).sum
 | y::l,x,h=>by
  rw [List.map_cons,List.sum_cons]
  rcases List.mem_cons.1 h with rfl | h
  ·omega
  ·have:=sum_map_le f h;omega
theorem krD_two {d:List (Tr×Nat)} (h:krD d=32768) (h2:2≤d.length):∀ x∈d,1≤x.2:=by
 intro x hx
 rcases Nat.eq_zero_or_pos x.2 with e | e
 ·exfalso
  obtain ⟨s,t,rfl⟩:=List.append_of_mem hx;unfold krD at h;rw [List.map_append,List.map_cons,List.sum_append,List.sum_cons,e] at h;have h0:pw 0=32768:=rfl
  have hne:∃ y,y∈s++t:=by
   match s,t,h2 with
   | y::s,t,_=>exact ⟨y,by simp⟩
   | [],y::t,_=>exact ⟨y,by simp⟩
   | [],[],h2=>simp at h2
  obtain ⟨y,hy⟩:=hne;have hp:=pw_pos y.2
  rcases List.mem_append.1 hy with hy | hy
  ·have:=sum_map_le (fun x:Tr×Nat=>pw x.2) hy;omega
  ·have:=sum_map_le (fun x:Tr×Nat=>pw x.2) hy;omega
 ·exact e
structure Code2 (c:List Int):Prop where
 used:∀ j,j<16→0<c.getD j 0→1≤lenAt c j∧lenAt c j≤15
 not:∀ j,j<16→¬ 0<c.getD j 0→lenAt c j=0
 room:0<sumN (fun j=>if 0<c.getD j 0 then pw (lenAt c j) else 0) 16∧sumN (fun j=>if 0<c.getD j 0 then pw (lenAt c j) else 0) 16≤32768
 least:∀ r:Nat→Nat,(∀ j,j<16→0<c.getD j 0→1≤r j∧r j≤15)→sumN (fun j=>if 0<c.getD j 0 then pw (r j) else 0) 16≤32768→sumN (fun j=>if 0<c.getD j 0 then cn c j*lenAt c j else 0) 16≤sumN (fun j=>if 0<c.getD j 0 then cn c j*r j else 0) 16
theorem code2 {c:List Int} (h:buildE c=0):Code2 c:=by
 obtain ⟨_,h1⟩:=buildE_zero h
 by_cases h2:(fulF c).length=1
 ·obtain ⟨i,hi,hall⟩:=one_alone h2;have hl:∀ j,j<16→lenAt c j=if 0<c.getD j 0 then 1 else 0:=fun j _=>by unfold lenAt;rw [if_pos h2]
  refine ⟨fun j hj hp=>?_,fun j hj hp=>?_,?_,fun r hr _=>?_⟩
  ·rw [hl j hj,if_pos hp];omega
  ·rw [hl j hj,if_neg hp]
  ·rw [sumN_one (i:=i) 16 hi (fun j hj hne=>by rw [if_neg (fun hp=>hne ((hall j hj).1 hp))])];have:=pw_pos (lenAt c i);have:=pw_le (lenAt c i);rw [if_pos ((hall i hi).2 rfl)];omega
  ·refine sumN_le 16 fun j hj=>?_
   by_cases hp:0<c.getD j 0
   ·rw [if_pos hp,if_pos hp,hl j hj,if_pos hp];exact Nat.mul_le_mul_left _ (hr j hj hp).1
   ·rw [if_neg hp,if_neg hp];exact Nat.le_refl _
 ·have hlen:=fulF_len c;have hF:Forest (fulF c):=startF_forest c 16 (Nat.le_refl _);have hl:∀ j,lenAt c j=build ((fulF c).length-1) (fulF c) j:=fun j=>by unfold lenAt;rw [if_neg h2]
  obtain ⟨d,e1,e2,e3,e4,e5,e6⟩:=built ((fulF c).length-1) (fulF c) hF h1 (by omega) hlen;have hdl:d.length=(fulF c).length:=by have:=e1.length_eq;simpa using this
  have hd1:=krD_two e4 (by omega)
  have hone:∀ x∈d,x.2=lenAt c (hd x.1):=by
   intro x hx;have hx1:x.1∈startF c 16:=e1.mem_iff.1 (List.mem_map.2 ⟨x,hx,rfl⟩);obtain ⟨i,_,_,hxi⟩:=mem_startF.1 hx1;rw [hl,←e2 x hx (hd x.1) (by rw [hxi];simp [hd])]
  have hof:∀ j,j<16→0<c.getD j 0→∃ x∈d,x.2=lenAt c j:=by
   intro j hj hp;have:(cn c j,[j])∈d.map Prod.fst:=e1.mem_iff.2 (mem_startF.2 ⟨j,hj,hp,rfl⟩);obtain ⟨x,hx,hxe⟩:=List.mem_map.1 this;exact ⟨x,hx,by rw [hone x hx,hxe];rfl⟩
  have hkr:krD d=sumN (fun j=>if 0<c.getD j 0 then pw (lenAt c j) else 0) 16:=by
   rw [←sum_startF c (fun t=>pw (lenAt c (hd t))) (fun j=>pw (lenAt c j)) (fun i=>rfl) 16];unfold krD
   have s1:d.map (fun x=>pw x.2)=(d.map Prod.fst).map fun t=>pw (lenAt c (hd t)):=by
    rw [List.map_map];exact List.map_congr_left fun x hx=>by simp only [Function.comp];rw [←hone x hx]
   rw [s1];exact (e1.map _).sum_nat
  have hco:coD d=sumN (fun j=>if 0<c.getD j 0 then cn c j*lenAt c j else 0) 16:=by
   rw [←sum_startF c (fun t=>t.1*lenAt c (hd t)) (fun j=>cn c j*lenAt c j) (fun i=>rfl) 16];unfold coD
   have s1:d.map (fun x=>x.1.1*x.2)=(d.map Prod.fst).map fun t=>t.1*lenAt c (hd t):=by
    rw [List.map_map];exact List.map_congr_left fun x hx=>by simp only [Function.comp];rw [←hone x hx]
   rw [s1];exact (e1.map _).sum_nat
  refine ⟨fun j hj hp=>?_,fun j hj hp=>?_,?_,fun r hr hk=>?_⟩
  ·obtain ⟨x,hx,hxe⟩:=hof j hj hp;have:=e5 x hx;have:=hd1 x hx;omega
  ·rw [hl];refine e3 j fun t ht=>?_;obtain ⟨i,_,h2,rfl⟩:=mem_startF.1 ht;intro hm;have:j=i:=by simpa using hm
   subst this;exact hp h2
  ·rw [←hkr,e4];omega
  ·rw [←hco,e6];have hP:=bestCode ((fulF c).length-1) (fulF c) hF (by omega) hlen ((fulF c).map fun t=>(t.1,r (hd t))) (by rw [List.map_map];exact List.Perm.refl _) ?_ ?_
   ·refine Nat.le_trans hP (Nat.le_of_eq ?_);rw [←sum_startF c (fun t=>t.1*r (hd t)) (fun j=>cn c j*r j) (fun i=>rfl) 16];unfold coP;rw [List.map_map];rfl
   ·refine Nat.le_trans (Nat.le_of_eq ?_) hk;rw [←sum_startF c (fun t=>pw (r (hd t))) (fun j=>pw (r j)) (fun i=>rfl) 16];unfold krP;rw [List.map_map];rfl
   ·intro x hx;obtain ⟨t,ht,rfl⟩:=List.mem_map.1 hx;obtain ⟨i,hi,hp,rfl⟩:=mem_startF.1 ht;exact (hr i hi hp).2
theorem lack_iff {l c:List Int} : ∀ (_hl:l.length=c.length),(lackL l c=false↔∀ j,j<l.length→¬ (0<c.getD j 0∧l.getD j 0=0)):=by
 induction l generalizing c with
 | nil=>intro _;simp [lackL]
 | cons x l ih =>
  intro hl;cases c with
  | nil=>simp at hl
  | cons y c =>
   have hl2:l.length=c.length:=by simpa using hl
   rw [lackL,Bool.or_eq_false_iff,ih hl2,decide_eq_false_iff_not];constructor
   ·rintro ⟨h1,h2⟩ j hj;cases j with
    | zero=>simpa using h1
    | succ j=>simpa using h2 j (by simpa using hj)
   ·intro h;exact ⟨by simpa using h 0 (by simp),fun j hj=>by simpa using h (j+1) (by simpa using hj)⟩
theorem getD_mem {l:List Int} {j:Nat} (h:j<l.length):l.getD j 0∈l:=by rw [List.getD_eq_getElem?_getD,List.getElem?_eq_getElem h];simp
theorem lens_right {c:List Int} (h:buildE c=0):checkE (lensOf c)=0:=by
 have hc2:=code2 h;have hl16:=lensOf_len c
 have hb:∀ j,j<16→lenAt c j≤15:=fun j hj=>by
  by_cases hp:0<c.getD j 0
  ·exact (hc2.used j hj hp).2
  ·rw [hc2.not j hj hp];omega
 have hnn:∀ x∈lensOf c,0≤x∧x≤15:=by
  intro x hx;obtain ⟨j,hj,rfl⟩:=List.mem_iff_getElem.1 hx;have e:(lensOf c)[j]=(lensOf c).getD j 0:=by rw [List.getD_eq_getElem?_getD,List.getElem?_eq_getElem hj];rfl
  have hj2:j<16:=by omega
  rw [e,lensOf_get h hj2];have:=hb j hj2;omega
 have hkr:kr (lensOf c)=sumN (fun j=>if 0<c.getD j 0 then pw (lenAt c j) else 0) 16:=by
  rw [kr_krS hl16 fun x hx=>(hnn x hx).1];refine sumN_congr 16 fun j hj=>?_;have e:ln (lensOf c) j=lenAt c j:=by unfold ln;rw [lensOf_get h hj];simp
  rw [e]
  by_cases hp:0<c.getD j 0
  ·rw [if_pos hp,if_pos (show 0<lenAt c j from (hc2.used j hj hp).1)]
  ·rw [if_neg hp,if_neg (by rw [hc2.not j hj hp];omega)]
 refine checkE_ok ?_ ?_
 ·rw [List.any_eq_false];intro x hx;have:=hnn x hx;simp only [badL,decide_eq_true_eq];omega
 ·rw [hkr];have:=hc2.room;omega
theorem lens_has {c:List Int} (hc:c.length=16) (h:buildE c=0):lackL (lensOf c) c=false:=by
 have hl16:=lensOf_len c;rw [lack_iff (by omega)];intro j hj;rw [lensOf_get h (by omega)];rintro ⟨h1,h2⟩;have:=((code2 h).used j (by omega) h1).1;omega
end Pl
end Go.Proofs.YtjpgoeimclipjaaGreat
namespace Go.Proofs.YtjpgoeimclipjaaGreat
namespace Pl
theorem step_all {l r:List Tr} {a b:Tr} (hF:Forest l) (hp:(a::b::r).Perm l) (hs:∃ r',sortT l=a::b::r'∧r'.Perm r) :
  Forest (r++[mgT a b])∧((r++[mgT a b]).map Prod.fst).sum=(l.map Prod.fst).sum∧∀ f i,build (f+1) l i=(if i∈mg a.2 b.2 then 1 else 0)+build f (r++[mgT a b]) i:=by
 have hF2:=hF.perm hp.symm;refine ⟨hF2.step,?_,fun f i=>?_⟩
 ·have h:=(hp.map Prod.fst).sum_nat;rw [←h];simp [mgT];omega
 ·obtain ⟨r',h1,h2⟩:=hs;rw [build_step h1]
  congr 1
  refine build_perm ?_ (h2.append_right _) i;exact hF2.step.perm (h2.symm.append_right _)
def Lf (f:Nat→Int):List Int:=(List.range 16).map f
theorem Lf_len (f:Nat→Int):(Lf f).length=16:=by simp [Lf]
theorem Lf_get (f:Nat→Int) {i:Nat} (h:i<16):(Lf f)[i]? = some (f i):=by unfold Lf;rw [List.getElem?_map,List.getElem?_range h];rfl
theorem Lf_zero:Lf (fun _=>0)=List.replicate 16 0:=by decide
theorem Lf_congr {f g:Nat→Int} (h:∀ i,i<16→f i=g i):Lf f=Lf g:=by
 unfold Lf;exact List.map_congr_left fun i hi=>h i (List.mem_range.1 hi)
theorem Lf_set (f:Nat→Int) (i:Nat) (v:Int):(Lf f).set i v=Lf fun j=>if j=i then v else f j:=by
 apply List.ext_getElem?;intro j;rw [List.getElem?_set]
 by_cases hj:j<16
 ·rw [Lf_get _ hj,Lf_get _ hj,Lf_len]
  by_cases e:i=j
  ·subst e;simp [hj]
  ·rw [if_neg e,if_neg (fun h=>e h.symm)]
 ·have h1:(Lf f)[j]? = none:=List.getElem?_eq_none (by rw [Lf_len];omega);have h2:(Lf fun j=>if j=i then v else f j)[j]? = none:=List.getElem?_eq_none (by rw [Lf_len];omega);rw [h1,h2,Lf_len]
  by_cases e:i=j
  ·subst e;simp [hj]
  ·rw [if_neg e]
theorem lensOf_Lf {c:List Int} (h:buildE c=0):lensOf c=Lf fun i=>(lenAt c i:Int):=by unfold lensOf Lf;rw [if_neg (by omega)]
theorem lensOf_err {c:List Int} (h:buildE c≠0):lensOf c=Lf fun _=>0:=by unfold lensOf;rw [if_pos h,Lf_zero]
theorem buildE_bad {c:List Int} (h:fineB c=false):buildE c=3:=by unfold buildE;rw [if_pos h]
theorem buildE_none {c:List Int} (h:fineB c=true) (h2:(fulF c).length=0):buildE c=5:=by unfold buildE;rw [h,if_neg (by simp),if_pos h2]
theorem buildE_ok {c:List Int} (h:fineB c=true) (h2:(fulF c).length≠0):buildE c=0:=by unfold buildE;rw [h,if_neg (by simp),if_neg h2]
theorem lens_one {c:List Int} (h:fineB c=true) {t:Tr} (h1:fulF c=[t]):lensOf c=Lf fun j=>if j=hd t then 1 else 0:=by
 have hl:(fulF c).length=1:=by rw [h1];rfl
 rw [lensOf_Lf (buildE_ok h (by omega))];refine Lf_congr fun j hj=>?_;unfold lenAt;rw [if_pos hl];have ht:t∈startF c 16:=by show t∈fulF c;rw [h1];simp
 obtain ⟨i,hi1,hi2,hi3⟩:=mem_startF.1 ht;have hh:hd t=i:=by rw [hi3];rfl
 obtain ⟨i',h3,h4⟩:=one_alone hl;have hii:i=i':=(h4 i hi1).1 hi2;rw [hh]
 by_cases hp:0<c.getD j 0
 ·have:=(h4 j hj).1 hp;rw [if_pos hp,if_pos (by omega)];rfl
 ·rw [if_neg hp,if_neg (fun e=>hp (by rw [e];exact hi2))];rfl
theorem lens_many {c:List Int} (h:fineB c=true) (h2:2≤(fulF c).length):lensOf c=Lf fun i=>(build ((fulF c).length-1) (fulF c) i:Int):=by
 rw [lensOf_Lf (buildE_ok h (by omega))];refine Lf_congr fun j hj=>?_;unfold lenAt;rw [if_neg (by omega)]
theorem sum_full {c:List Int} (h:fineB c=true) (hc:c.length=16):((fulF c).map Prod.fst).sum≤32768:=by
 unfold fulF;rw [sum_startF c Prod.fst (cn c) (fun i=>rfl) 16]
 have hb:∀ j,j<16→cn c j≤2048:=fun j hj=>by
  have:=(fine_all h _ (getD_mem (l:=c) (j:=j) (by omega))).2;unfold cn;omega
 have:∀ k,k≤16→sumN (fun j=>if 0<c.getD j 0 then cn c j else 0) k≤2048*k:=by
  intro k
  induction k with
  | zero=>intro _;simp [sumN]
  | succ k ih =>
   intro hk;rw [sumN];have:=ih (by omega);have:=hb k (by omega)
   split <;> omega
 exact Nat.le_trans (this 16 (by omega)) (by omega)
def mgI (a b:Tr) (i:Nat):Tr:=(a.1+b.1,(mg a.2 b.2).filter fun j=>decide (j<i))
theorem mgI_all (a b:Tr):mgI a b 16=mgT a b:=by
 unfold mgI mgT
 congr 1
 rw [List.filter_eq_self];intro j hj;unfold mg at hj;have:=(List.mem_filter.1 hj).1;simpa using this
end Pl
end Go.Proofs.YtjpgoeimclipjaaGreat
namespace Go.Proofs.YtjpgoeimclipjaaGreat
namespace Pl
def zeros (n:Nat):List Bool:=List.replicate n false
theorem zeros_len (n:Nat):(zeros n).length=n:=List.length_replicate
theorem zeros_add (a b:Nat):zeros a++zeros b=zeros (a+b):=List.replicate_append_replicate
theorem val_zeros (n:Nat):val (zeros n)=0:=by
 induction n with
 | zero=>rfl
 | succ n ih =>
  have:zeros (n+1)=zeros n++[false]:=by rw [←zeros_add];rfl
  rw [this,val_snoc,ih];rfl
def unpackB (b:Bytes):List Bool:=b.flatMap fun c=>bt c.toNat 8
theorem unpackB_cons (c:UInt8) (b:Bytes):unpackB (c::b)=bt c.toNat 8++unpackB b:=by simp [unpackB]
theorem unpackB_len (b:Bytes):(unpackB b).length=8*b.length:=by
 induction b with
 | nil=>rfl
 | cons c b ih=>rw [unpackB_cons,List.length_append,bt_len,ih,List.length_cons];omega
theorem unpackB_app (a b:Bytes):unpackB (a++b)=unpackB a++unpackB b:=by simp [unpackB]
def byteOfB (x:List Bool):UInt8:=UInt8.ofNat (val x*2 ^ (8-x.length))
theorem byteOfB_nat {x:List Bool} (h:x.length≤8):(byteOfB x).toNat=val x*2 ^ (8-x.length):=by
 have h1:=val_lt x;have h2:val x*2 ^ (8-x.length)<2 ^ x.length*2 ^ (8-x.length):=Nat.mul_lt_mul_of_pos_right h1 (Nat.pow_pos (by omega));rw [←Nat.pow_add,show x.length+(8-x.length)=8 from by omega] at h2;show (UInt8.ofNat _).toNat=_;rw [UInt8.toNat_ofNat'];exact Nat.mod_eq_of_lt (by simpa using h2)
theorem bt_byteOfB {x:List Bool} (h:x.length≤8):bt (byteOfB x).toNat 8=x++zeros (8-x.length):=by
 rw [byteOfB_nat h];have h1:val (x++zeros (8-x.length))=val x*2 ^ (8-x.length):=by rw [val_app,val_zeros,zeros_len];omega
 have h2:=bt_val (x++zeros (8-x.length));rw [h1,List.length_append,zeros_len,show x.length+(8-x.length)=8 from by omega] at h2;exact h2
theorem byteOfB_bt (c:UInt8):byteOfB (bt c.toNat 8)=c:=by
 have:=c.toNat_lt;apply UInt8.toNat_inj.1;rw [byteOfB_nat (by rw [bt_len];omega),val_bt,bt_len];simp
def packN:Nat→List Bool→Bytes
 | 0,_=>[]
 | n+1,x=>byteOfB (x.take 8)::packN n (x.drop 8)
def packB (x:List Bool):Bytes:=packN ((x.length+7) / 8) x
theorem packN_len (n:Nat) (x:List Bool):(packN n x).length=n:=by
 induction n generalizing x with
 | zero=>rfl
 | succ n ih=>rw [packN,List.length_cons,ih]
theorem unpack_packN:∀ (n:Nat) (x:List Bool),x.length≤8*n→unpackB (packN n x)=x++zeros (8*n-x.length)
 | 0,x,h=>by
  have:x=[]:=List.length_eq_zero_iff.1 (by omega);subst this;rfl
 | n+1,x,h=>by
  rw [packN,unpackB_cons,bt_byteOfB (by rw [List.length_take];omega),unpack_packN n _ (by rw [List.length_drop];omega),List.length_take,List.length_drop]
  by_cases h8:8≤x.length
  ·rw [show 8-min 8 x.length=0 from by omega,show 8*n-(x.length-8)=8*(n+1)-x.length from by omega];rw [show zeros 0=[] from rfl,List.append_nil,←List.append_assoc,List.take_append_drop]
  ·rw [List.take_of_length_le (by omega),List.drop_eq_nil_of_le (by omega),List.nil_append,List.append_assoc,zeros_add]
   congr 2;omega
theorem packN_unpack (b:Bytes):packN b.length (unpackB b)=b:=by
 induction b with
 | nil=>rfl
 | cons c b ih =>
  rw [List.length_cons,packN,unpackB_cons];have h8:=bt_len 8 c.toNat;rw [List.take_append_of_le_length (by omega),List.take_of_length_le (by omega),byteOfB_bt,List.drop_append_of_le_length (by omega),List.drop_eq_nil_of_le (by omega),List.nil_append,ih]
theorem unpackB_inj {a b:Bytes} (h:unpackB a=unpackB b):a=b:=by
 have hl:=congrArg List.length h;rw [unpackB_len,unpackB_len] at hl;rw [←packN_unpack a,←packN_unpack b,h,show a.length=b.length from by omega]
theorem packB_len (x:List Bool):(packB x).length=(x.length+7) / 8:=packN_len _ _
theorem unpack_packB (x:List Bool):unpackB (packB x)=x++zeros (8*((x.length+7) / 8)-x.length):=unpack_packN _ _ (by omega)
theorem pack_iff (x rest:List Bool) (b:Bytes) (h:unpackB b=x++rest):packB x=b↔rest.length<8∧rest=zeros rest.length:=by
 constructor
 ·intro e;have h2:=unpack_packB x;rw [e,h] at h2;have h3:=List.append_cancel_left h2;rw [h3,zeros_len];exact ⟨by omega,rfl⟩
 ·rintro ⟨h1,h2⟩;apply unpackB_inj;rw [unpack_packB,h];have hl:=congrArg List.length h;rw [unpackB_len,List.length_append] at hl;rw [h2]
  congr 2;omega
theorem packN_snoc:∀ (n:Nat) (x:List Bool),packN (n+1) x=packN n x++[byteOfB ((x.drop (8*n)).take 8)]
 | 0,x=>by simp [packN]
 | n+1,x=>by
  rw [packN,packN_snoc n (x.drop 8),packN,List.cons_append,List.drop_drop,show 8+8*n=8*(n+1) from by omega]
theorem packN_pad (x:List Bool) (n:Nat) (h:x.length≤8*n):packN n (x++zeros (8*n-x.length))=packN n x:=by
 apply unpackB_inj;rw [unpack_packN _ _ (by rw [List.length_append,zeros_len];omega),unpack_packN _ _ h,List.length_append,zeros_len,show 8*n-(x.length+(8*n-x.length))=0 from by omega];simp [zeros]
def nibs (s:Bytes):List Nat:=s.flatMap fun c=>[c.toNat / 16,c.toNat % 16]
theorem nibs_cons (c:UInt8) (s:Bytes):nibs (c::s)=c.toNat / 16::c.toNat % 16::nibs s:=by simp [nibs]
theorem nibs_len (s:Bytes):(nibs s).length=2*s.length:=by
 induction s with
 | nil=>rfl
 | cons c s ih=>rw [nibs_cons,List.length_cons,List.length_cons,ih,List.length_cons];omega
theorem nibs_lt (s:Bytes):∀ k∈nibs s,k<16:=by
 induction s with
 | nil=>intro k hk;simp [nibs] at hk
 | cons c s ih =>
  intro k hk;have:=c.toNat_lt;rw [nibs_cons,List.mem_cons,List.mem_cons] at hk
  rcases hk with rfl | rfl | hk
  ·omega
  ·omega
  ·exact ih k hk
theorem nibs_app (a b:Bytes):nibs (a++b)=nibs a++nibs b:=by simp [nibs]
def half:List Nat→Bytes
 | []=>[]
 | [a]=>[UInt8.ofNat (16*a)]
 | a::b::r=>UInt8.ofNat (16*a+b)::half r
theorem half_nibs (s:Bytes):half (nibs s)=s:=by
 induction s with
 | nil=>rfl
 | cons c s ih =>
  rw [nibs_cons,half,ih,Nat.div_add_mod]
  congr 1
  exact UInt8.ofNat_toNat
theorem nibs_half:∀ (ks:List Nat),ks.length % 2=0→(∀ k∈ks,k<16)→nibs (half ks)=ks
 | [],_,_=>rfl
 | [_],h,_=>by simp at h
 | a::b::r,h,hk=>by
  have ha:=hk a (by simp);have hb:=hk b (by simp);have e:(UInt8.ofNat (16*a+b)).toNat=16*a+b:=by rw [UInt8.toNat_ofNat'];exact Nat.mod_eq_of_lt (by simp;omega)
  rw [half,nibs_cons,e,nibs_half r (by simp at h;omega) (fun k hk'=>hk k (by simp [hk']))]
  congr 1
  ·omega
  ·congr 1;omega
theorem half_app:∀ (a b:List Nat),a.length % 2=0→half (a++b)=half a++half b
 | [],_,_=>rfl
 | [_],_,h=>by simp at h
 | x::y::r,b,h=>by
  rw [List.cons_append,List.cons_append,half,half,List.cons_append,half_app r b (by simp at h;omega)]
theorem half_len:∀ (ks:List Nat),(half ks).length=(ks.length+1) / 2
 | []=>rfl
 | [_]=>by simp [half]
 | a::b::r=>by rw [half,List.length_cons,half_len r,List.length_cons,List.length_cons];omega
def encK (l:List Int) (ks:List Nat):List Bool:=ks.flatMap (wordB l)
theorem encK_app (l:List Int) (a b:List Nat):encK l (a++b)=encK l a++encK l b:=by simp [encK]
theorem encK_cons (l:List Int) (a:Nat) (b:List Nat):encK l (a::b)=wordB l a++encK l b:=by simp [encK]
theorem encK_len {l:List Int} (h:Right l) (ks:List Nat):(encK l ks).length≤15*ks.length:=by
 induction ks with
 | nil=>simp [encK]
 | cons a ks ih =>
  have:=h.one a;rw [encK_cons,List.length_append,wordB_len,List.length_cons];omega
def lacks (l:List Int) (ks:List Nat):Bool:=ks.any fun k=>decide (ln l k=0)
def writeE (l:List Int) (s:Bytes):Nat:=if checkE l≠0 then checkE l else if 1024<s.length then 2 else if lacks l (nibs s)=true then 5 else 0
def writeS (l:List Int) (s:Bytes):Bytes:=if writeE l s=0 then packB (encK l (nibs s)) else []
def hitB (l:List Int) (b:List Bool) (i:Nat):Bool:=decide (0<ln l i) && (wordB l i).isPrefixOf b
def frontP (l:List Int) (b:List Bool):Option Nat:=(List.range 16).find? (hitB l b)
theorem hit_iff (l:List Int) (b:List Bool) (i:Nat):hitB l b i=true↔0<ln l i∧wordB l i <+: b:=by
 unfold hitB;rw [Bool.and_eq_true,decide_eq_true_eq,List.isPrefixOf_iff_prefix]
theorem front_some {l:List Int} {b:List Bool} {i:Nat} (h:frontP l b=some i):i<16∧0<ln l i∧wordB l i <+: b:=by
 unfold frontP at h;rw [List.find?_range_eq_some] at h;have:=(hit_iff l b i).1 h.1;exact ⟨by simpa using h.2.1,this.1,this.2⟩
theorem front_hit {l:List Int} (hr:Right l) {b:List Bool} {i:Nat} (hi:i<16) (h0:0<ln l i) (hp:wordB l i <+: b):frontP l b=some i:=by
 unfold frontP;rw [List.find?_range_eq_some];refine ⟨(hit_iff _ _ _).2 ⟨h0,hp⟩,by simpa using hi,fun j hj=>?_⟩;rw [Bool.not_eq_true'];cases hq:hitB l b j with
 | false=>rfl
 | true =>
  exfalso
  obtain ⟨h1,h2⟩:=(hit_iff _ _ _).1 hq
  rcases Nat.le_total (ln l i) (ln l j) with hle | hle
  ·have:=word_free hr hi (by omega) h0 h1 (List.prefix_of_prefix_length_le hp h2 (by rw [wordB_len,wordB_len];exact hle));omega
  ·have:=word_free hr (by omega) hi h1 h0 (List.prefix_of_prefix_length_le h2 hp (by rw [wordB_len,wordB_len];exact hle));omega
def decN (l:List Int):Nat→List Bool→Option (List Nat×List Bool)
 | 0,b=>some ([],b)
 | k+1,b=>match frontP l b with
  | none=>none
  | some i=>match decN l k (b.drop (ln l i)) with
   | none=>none
   | some (ks,r)=>some (i::ks,r)
theorem dec_some {l:List Int} : ∀ (k:Nat) (b:List Bool) (ks:List Nat) (r:List Bool),decN l k b=some (ks,r)→ks.length=k∧b=encK l ks++r∧∀ i∈ks,i<16∧0<ln l i
 | 0,b,ks,r,h=>by
  rw [decN] at h;injection h with h;injection h with h1 h2
  subst h1;subst h2;exact ⟨rfl,rfl,by simp⟩
 | k+1,b,ks,r,h=>by
  rw [decN] at h;cases hf:frontP l b with
  | none=>rw [hf] at h;cases h
  | some i =>
   rw [hf] at h;simp only at h;cases hd:decN l k (b.drop (ln l i)) with
   | none=>rw [hd] at h;cases h
   | some q =>
    obtain ⟨ks',r'⟩:=q;rw [hd] at h;simp only at h;injection h with h;injection h with h1 h2
    subst h1;subst h2;obtain ⟨e1,e2,e3⟩:=dec_some k _ _ _ hd;obtain ⟨h1,h2,h3⟩:=front_some hf;refine ⟨by rw [List.length_cons,e1],?_,?_⟩
    ·obtain ⟨t,ht⟩:=h3;have h4:b.drop (ln l i)=t:=by rw [←ht,List.drop_append_of_le_length (by rw [wordB_len];omega),List.drop_eq_nil_of_le (by rw [wordB_len];omega),List.nil_append]
     rw [encK_cons,List.append_assoc,←e2,h4,ht]
    ·intro j hj
     rcases List.mem_cons.1 hj with rfl | hj
     ·exact ⟨h1,h2⟩
     ·exact e3 j hj
theorem dec_enc {l:List Int} (hr:Right l) (r:List Bool):∀ (ks:List Nat),(∀ i∈ks,i<16∧0<ln l i)→decN l ks.length (encK l ks++r)=some (ks,r)
 | [],_=>rfl
 | i::ks,h=>by
  obtain ⟨h1,h2⟩:=h i (by simp);rw [List.length_cons,decN,encK_cons,List.append_assoc,front_hit hr h1 h2 ⟨_,rfl⟩];simp only;rw [List.drop_append_of_le_length (by rw [wordB_len];omega),List.drop_eq_nil_of_le (by rw [wordB_len];omega),List.nil_append,dec_enc hr r ks fun j hj=>h j (by simp [hj])]
def goodRest (r:List Bool):Bool:=decide (r.length<8) && r.all (fun b=>!b)
theorem goodRest_iff (r:List Bool):goodRest r=true↔r.length<8∧r=zeros r.length:=by
 unfold goodRest;rw [Bool.and_eq_true,decide_eq_true_eq,List.all_eq_true];refine and_congr_right fun _=>⟨fun h=>List.eq_replicate_iff.2 ⟨rfl,fun b hb=>by simpa using h b hb⟩,fun h b hb=>?_⟩
 rw [h] at hb;simp [zeros] at hb;rw [hb.2];rfl
def readE (l:List Int) (b:Bytes) (n:Int):Nat :=
 if checkE l≠0 then checkE l else if n<0∨1024<n then 3 else
 match decN l (2*n.toNat) (unpackB b) with
 | none=>1
 | some (_,r)=>if goodRest r=true then 0 else 1
def readS (l:List Int) (b:Bytes) (n:Int):Bytes :=
 if readE l b n≠0 then [] else
 match decN l (2*n.toNat) (unpackB b) with
 | none=>[]
 | some (ks,_)=>half ks
structure DecAt (l:List Int) (U:List Bool) (N i:Nat) (ks:List Nat) (R:List Bool):Prop where
 len:ks.length=i
 le:i≤N
 rest:decN l N U=(match decN l (N-i) R with
  | none=>none
  | some (a,r)=>some (ks++a,r))
 fine:∀ k∈ks,k<16∧0<ln l k
 short:R.length≤U.length
theorem DecAt.start (l:List Int) (U:List Bool) (N:Nat):DecAt l U N 0 [] U:=by
 refine ⟨rfl,by omega,?_,by simp,Nat.le_refl _⟩;rw [Nat.sub_zero];cases decN l N U <;> rfl
theorem DecAt.step {l:List Int} {U R:List Bool} {N i k:Nat} {ks:List Nat} (h:DecAt l U N i ks R) (hi:i<N) (hf:frontP l R=some k):DecAt l U N (i+1) (ks++[k]) (R.drop (ln l k)):=by
 obtain ⟨h1,h2,h3⟩:=front_some hf;refine ⟨by rw [List.length_append,h.len];rfl,by omega,?_,?_,?_⟩
 ·rw [h.rest,show N-i=(N-(i+1))+1 from by omega,decN,hf];simp only;cases decN l (N-(i+1)) (R.drop (ln l k)) with
  | none=>rfl
  | some q=>obtain ⟨a,r⟩:=q;simp
 ·intro j hj
  rcases List.mem_append.1 hj with hj | hj
  ·exact h.fine j hj
  ·have:j=k:=by simpa using hj
   subst this;exact ⟨h1,h2⟩
 ·have:=h.short;rw [List.length_drop];omega
theorem DecAt.none {l:List Int} {U R:List Bool} {N i:Nat} {ks:List Nat} (h:DecAt l U N i ks R) (hi:i<N) (hf:frontP l R=none):decN l N U=none:=by
 rw [h.rest,show N-i=(N-(i+1))+1 from by omega,decN,hf]
theorem DecAt.done {l:List Int} {U R:List Bool} {N:Nat} {ks:List Nat} (h:DecAt l U N N ks R):decN l N U=some (ks,R):=by
 rw [h.rest,Nat.sub_self,decN];simp
theorem half_odd {ks:List Nat} (h:ks.length % 2=1) (hk:∀ k∈ks,k<16) (b:Nat) :
  ∃ (h0:Bytes) (a:Nat),a<16∧half ks=h0++[UInt8.ofNat (16*a)]∧half (ks++[b])=h0++[UInt8.ofNat (16*a+b)]∧h0.length=ks.length / 2:=by
 have hne:ks≠[]:=by intro e;rw [e] at h;simp at h
 obtain ⟨k0,a,rfl⟩:∃ k0 a,ks=k0++[a]:=⟨ks.dropLast,ks.getLast hne,(List.dropLast_concat_getLast hne).symm⟩
 have h2:k0.length % 2=0:=by rw [List.length_append,List.length_singleton] at h;omega
 refine ⟨half k0,a,hk a (by simp),half_app k0 [a] h2,?_,?_⟩
 ·rw [List.append_assoc,half_app k0 _ h2];rfl
 ·rw [half_len,List.length_append,List.length_singleton]
theorem half_even {ks:List Nat} (h:ks.length % 2=0) (b:Nat):half (ks++[b])=half ks++[UInt8.ofNat (16*b)]:=half_app ks [b] h
theorem readE_code {l:List Int} {b:Bytes} {n:Int} (h:checkE l≠0):readE l b n=checkE l∧readS l b n=[]:=by
 have:readE l b n=checkE l:=by unfold readE;rw [if_pos h]
 exact ⟨this,by unfold readS;rw [if_pos (by omega)]⟩
theorem readE_range {l:List Int} {b:Bytes} {n:Int} (h:checkE l=0) (h2:n<0∨1024<n):readE l b n=3∧readS l b n=[]:=by
 have:readE l b n=3:=by unfold readE;rw [if_neg (by omega),if_pos h2]
 exact ⟨this,by unfold readS;rw [if_pos (by omega)]⟩
theorem readE_none {l:List Int} {b:Bytes} {n:Int} (h:checkE l=0) (h2:¬ (n<0∨1024<n)) (h3:decN l (2*n.toNat) (unpackB b)=none):readE l b n=1∧readS l b n=[]:=by
 have:readE l b n=1:=by unfold readE;rw [if_neg (by omega),if_neg h2,h3]
 exact ⟨this,by unfold readS;rw [if_pos (by omega)]⟩
theorem readE_left {l:List Int} {b:Bytes} {n:Int} {ks:List Nat} {r:List Bool} (h:checkE l=0) (h2:¬ (n<0∨1024<n)) (h3:decN l (2*n.toNat) (unpackB b)=some (ks,r)) (h4:goodRest r=false):readE l b n=1∧readS l b n=[]:=by
 have:readE l b n=1:=by unfold readE;rw [if_neg (by omega),if_neg h2,h3];simp only [h4];rfl
 exact ⟨this,by unfold readS;rw [if_pos (by omega)]⟩
theorem readE_ok {l:List Int} {b:Bytes} {n:Int} {ks:List Nat} {r:List Bool} (h:checkE l=0) (h2:¬ (n<0∨1024<n)) (h3:decN l (2*n.toNat) (unpackB b)=some (ks,r)) (h4:goodRest r=true):readE l b n=0∧readS l b n=half ks:=by
 have:readE l b n=0:=by unfold readE;rw [if_neg (by omega),if_neg h2,h3];simp only [h4];rfl
 exact ⟨this,by unfold readS;rw [if_neg (by omega),h3]⟩
theorem dec_long {l:List Int} (hr:Right l) {b:Bytes} {n:Nat} (h:4*n<b.length) {ks:List Nat} {r:List Bool} (hd:decN l (2*n) (unpackB b)=some (ks,r)):goodRest r=false:=by
 obtain ⟨h1,h2,h3⟩:=dec_some _ _ _ _ hd;have hl:=congrArg List.length h2;rw [unpackB_len,List.length_append] at hl;have:=encK_len hr ks;cases hg:goodRest r with
 | false=>rfl
 | true =>
  have:=((goodRest_iff r).1 hg).1;omega
theorem lacks_false {l:List Int} {ks:List Nat} (h:∀ i∈ks,i<16∧0<ln l i):lacks l ks=false:=by
 unfold lacks;rw [List.any_eq_false];intro k hk;have:=(h k hk).2;simp;omega
theorem write_dec {l:List Int} (hc:checkE l=0) {b:Bytes} {n:Nat} (hn:n≤1024) {ks:List Nat} {r:List Bool} (hd:decN l (2*n) (unpackB b)=some (ks,r)) :
  writeE l (half ks)=0∧(writeS l (half ks)=b↔goodRest r=true)∧(half ks).length=n:=by
 obtain ⟨h1,h2,h3⟩:=dec_some _ _ _ _ hd;have hl:(half ks).length=n:=by rw [half_len];omega
 have hnb:nibs (half ks)=ks:=nibs_half ks (by omega) fun k hk=>(h3 k hk).1
 have hw:writeE l (half ks)=0:=by
  unfold writeE;rw [if_neg (by omega),if_neg (by omega),hnb,lacks_false h3];rfl
 refine ⟨hw,?_,hl⟩;unfold writeS;rw [if_pos hw,hnb,goodRest_iff];exact pack_iff _ _ _ h2
end Pl
end Go.Proofs.YtjpgoeimclipjaaGreat
namespace Go.Proofs.YtjpgoeimclipjaaGreat
namespace Pl
theorem writeE_parts {l:List Int} {s:Bytes} (h:writeE l s=0):checkE l=0∧s.length≤1024∧lacks l (nibs s)=false:=by
 unfold writeE at h
 by_cases h1:checkE l=0
 ·rw [if_neg (by omega)] at h
  by_cases h2:1024<s.length
  ·rw [if_pos h2] at h;cases h
  ·rw [if_neg h2] at h;cases h3:lacks l (nibs s) with
   | true=>rw [h3] at h;simp at h
   | false=>exact ⟨h1,by omega,rfl⟩
 ·rw [if_pos h1] at h;exact absurd h h1
theorem code_read_write {l:List Int} (hr:Right l) {s:Bytes} (h:writeE l s=0):readE l (writeS l s) (s.length:Int)=0∧readS l (writeS l s) (s.length:Int)=s:=by
 obtain ⟨h1,h2,h3⟩:=writeE_parts h
 have hk:∀ i∈nibs s,i<16∧0<ln l i:=fun i hi=>by
  refine ⟨nibs_lt s i hi,?_⟩;unfold lacks at h3;have:=List.any_eq_false.1 h3 i hi;simp at this;omega
 have hu:unpackB (writeS l s)=encK l (nibs s)++zeros (8*(((encK l (nibs s)).length+7) / 8)-(encK l (nibs s)).length):=by
  unfold writeS;rw [if_pos h];exact unpack_packB _
 have hd:=dec_enc hr (zeros (8*(((encK l (nibs s)).length+7) / 8)-(encK l (nibs s)).length)) (nibs s) hk;rw [←hu,nibs_len] at hd
 have hg:goodRest (zeros (8*(((encK l (nibs s)).length+7) / 8)-(encK l (nibs s)).length))=true:=by
  rw [goodRest_iff,zeros_len];exact ⟨by omega,rfl⟩
 obtain ⟨e1,e2⟩:=readE_ok (l:=l) (b:=writeS l s) (n:=(s.length:Int)) h1 (by omega) (by rw [Int.toNat_natCast];exact hd) hg;exact ⟨e1,by rw [e2,half_nibs]⟩
theorem code_write_read {l:List Int} {b:Bytes} {n:Int} (h:readE l b n=0):writeE l (readS l b n)=0∧writeS l (readS l b n)=b∧((readS l b n).length:Int)=n:=by
 have h1:checkE l=0:=by
  by_cases e:checkE l=0
  ·exact e
  ·have:=(readE_code (b:=b) (n:=n) e).1;omega
 have h2:¬ (n<0∨1024<n):=fun e=>by have:=(readE_range (b:=b) h1 e).1;omega
 cases hd:decN l (2*n.toNat) (unpackB b) with
 | none=>have:=(readE_none h1 h2 hd).1;omega
 | some q =>
  obtain ⟨ks,r⟩:=q;cases hg:goodRest r with
  | false=>have:=(readE_left h1 h2 hd hg).1;omega
  | true =>
   obtain ⟨e1,e2⟩:=readE_ok h1 h2 hd hg;obtain ⟨w1,w2,w3⟩:=write_dec h1 (n:=n.toNat) (by omega) hd;rw [e2];exact ⟨w1,w2.2 hg,by omega⟩
end Pl
end Go.Proofs.YtjpgoeimclipjaaGreat
namespace Go.Proofs.YtjpgoeimclipjaaGreat
namespace Pl
theorem val_hi (X:List Bool) {p:Nat} (h:p≤X.length):val X / 2 ^ p=val (X.take (X.length-p)):=by
 have e:X=X.take (X.length-p)++X.drop (X.length-p):=(List.take_append_drop _ _).symm;have hl:(X.drop (X.length-p)).length=p:=by rw [List.length_drop];omega
 have hv:=val_app (X.take (X.length-p)) (X.drop (X.length-p));rw [←e,hl] at hv;have hlt:=val_lt (X.drop (X.length-p));rw [hl] at hlt;rw [hv,Nat.mul_comm,Nat.mul_add_div (Nat.pow_pos (by omega)),Nat.div_eq_of_lt hlt];omega
theorem val_lo (X:List Bool) {p:Nat} (h:p≤X.length):val X % 2 ^ p=val (X.drop (X.length-p)):=by
 have e:X=X.take (X.length-p)++X.drop (X.length-p):=(List.take_append_drop _ _).symm;have hl:(X.drop (X.length-p)).length=p:=by rw [List.length_drop];omega
 have hv:=val_app (X.take (X.length-p)) (X.drop (X.length-p));rw [←e,hl] at hv;have hlt:=val_lt (X.drop (X.length-p));rw [hl] at hlt;rw [hv,Nat.mul_comm,Nat.mul_add_mod,Nat.mod_eq_of_lt hlt]
theorem val_mid (X:List Bool) {a p:Nat} (h:a+8+p=X.length):val X / 2 ^ p % 256=val ((X.drop a).take 8):=by
 rw [val_hi X (by omega)];have h2:=val_lo (X.take (X.length-p)) (p:=8) (by rw [List.length_take];omega);rw [show (256:Nat)=2 ^ 8 from rfl,h2,List.length_take,show min (X.length-p) X.length-8=a from by omega]
 congr 1
 rw [List.drop_take]
 congr 1;omega
structure Wait (X:List Bool) (n0:Nat) (out:Bytes) (h left:Nat):Prop where
 le:n0≤out.length
 len:8*out.length+left=X.length
 pk:out=packN out.length X
 va:h=Pl.val (X.drop (8*n0))
theorem Wait.step {X:List Bool} {n0:Nat} {out:Bytes} {h left:Nat} (w:Wait X n0 out h left) (h8:8≤left) (b:UInt8) (hb:b.toNat=h / 2 ^ (left-8) % 256):Wait X n0 (out++[b]) h (left-8):=by
 obtain ⟨w1,w2,w3,w4⟩:=w;refine ⟨by simp;omega,by simp;omega,?_,w4⟩;have e:val (X.drop (8*n0)) / 2 ^ (left-8) % 256=val (((X.drop (8*n0)).drop (8*(out.length-n0))).take 8):=val_mid _ (by rw [List.length_drop];omega);rw [List.drop_drop,show 8*n0+8*(out.length-n0)=8*out.length from by omega,←w4,←hb] at e;rw [List.length_append,List.length_singleton,packN_snoc,←w3]
 congr 2
 have hl:((X.drop (8*out.length)).take 8).length=8:=by rw [List.length_take,List.length_drop];omega
 apply UInt8.toNat_inj.1;rw [byteOfB_nat (by omega),hl,e];simp
theorem Wait.cut {X:List Bool} {n0:Nat} {out:Bytes} {h left:Nat} (w:Wait X n0 out h left):Wait X out.length out (h % 2 ^ left) left:=by
 obtain ⟨w1,w2,w3,w4⟩:=w;refine ⟨Nat.le_refl _,w2,w3,?_⟩;rw [w4,val_lo _ (by rw [List.length_drop];omega),List.length_drop,List.drop_drop]
 congr 2;omega
theorem Wait.more {X:List Bool} {out:Bytes} {h left:Nat} (w:Wait X out.length out h left) (y:List Bool):Wait (X++y) out.length out (h*2 ^ y.length+val y) (left+y.length):=by
 obtain ⟨w1,w2,w3,w4⟩:=w;refine ⟨Nat.le_refl _,by rw [List.length_append];omega,?_,?_⟩
 ·have h1:(X++y).take (8*out.length)=X.take (8*out.length):=List.take_append_of_le_length (by omega)
  have key:∀ n (A B:List Bool),A.take (8*n)=B.take (8*n)→packN n A=packN n B:=by
   intro n
   induction n with
   | zero=>intro A B _;rfl
   | succ n ih =>
    intro A B hAB;rw [packN,packN]
    have h8:A.take 8=B.take 8:=by
     have:=congrArg (List.take 8) hAB
     rwa [List.take_take,List.take_take,Nat.min_eq_left (by omega)] at this
    have hd:(A.drop 8).take (8*n)=(B.drop 8).take (8*n):=by
     have:=congrArg (List.drop 8) hAB
     rwa [List.drop_take,List.drop_take,show 8*(n+1)-8=8*n from by omega] at this
    rw [h8,ih _ _ hd]
  rw [key _ _ _ h1];exact w3
 ·rw [w4,List.drop_append_of_le_length (by omega),val_app]
theorem Wait.lt {X:List Bool} {n0:Nat} {out:Bytes} {h left:Nat} (w:Wait X n0 out h left):h<2 ^ (8*(out.length-n0)+left):=by
 have:=val_lt (X.drop (8*n0));rw [←w.va,List.length_drop] at this;have e:X.length-8*n0=8*(out.length-n0)+left:=by have:=w.le;have:=w.len;omega
 rwa [e] at this
theorem Wait.done {X:List Bool} {out:Bytes} {h:Nat} (w:Wait X out.length out h 0):out=packB X:=by
 have h1:=w.len;have h2:=w.pk;unfold packB;rw [show (X.length+7) / 8=out.length from by omega];exact h2
theorem Wait.last {X:List Bool} {out:Bytes} {h left:Nat} (w:Wait X out.length out h left) (h0:0<left) (h8:left<8) (b:UInt8) (hb:b.toNat=h*2 ^ (8-left)):out++[b]=packB X:=by
 have h1:=w.len;have h2:=w.pk;have h3:=w.va;unfold packB;rw [show (X.length+7) / 8=out.length+1 from by omega,packN_snoc,←h2]
 congr 2
 have hl:(X.drop (8*out.length)).length=left:=by rw [List.length_drop];omega
 rw [List.take_of_length_le (by omega)];apply UInt8.toNat_inj.1;rw [byteOfB_nat (by omega),hl,hb,h3]
theorem nibs_get:∀ {s:Bytes} {q:Nat} {c:UInt8},s[q]? = some c→(nibs s)[2*q]? = some (c.toNat / 16)∧(nibs s)[2*q+1]? = some (c.toNat % 16)
 | [],q,c,h=>by simp at h
 | d::s,0,c,h=>by simp at h;subst h;simp [nibs_cons]
 | d::s,q+1,c,h=>by
  have:=nibs_get (s:=s) (q:=q) (c:=c) (by simpa using h);rw [nibs_cons,show 2*(q+1)=2*q+1+1 from by omega];simpa using this
structure WSt (l:List Int) (s:Bytes) (i:Nat) (out:Bytes) (h left:Nat):Prop where
 wait:Wait (encK l ((nibs s).take i)) out.length out h left
 lt:left<8
 has:lacks l ((nibs s).take i)=false
theorem WSt.start (l:List Int) (s:Bytes):WSt l s 0 [] 0 0:=⟨⟨Nat.le_refl _,rfl,rfl,rfl⟩,by omega,rfl⟩
theorem encK_snoc {l:List Int} {ks:List Nat} {i k:Nat} (h:ks[i]? = some k):encK l (ks.take (i+1))=encK l (ks.take i)++wordB l k:=by
 rw [List.take_add_one,h,encK_app];simp [encK]
theorem lacks_snoc {l:List Int} {ks:List Nat} {i k:Nat} (h:ks[i]? = some k):lacks l (ks.take (i+1))=(lacks l (ks.take i) || decide (ln l k=0)):=by
 rw [List.take_add_one,h];simp [lacks]
theorem lacks_of_take {l:List Int} {ks:List Nat} {i:Nat} (h:lacks l (ks.take i)=true):lacks l ks=true:=by
 unfold lacks at h ⊢;rw [List.any_eq_true] at h ⊢;obtain ⟨x,hx,hb⟩:=h;exact ⟨x,List.mem_of_mem_take hx,hb⟩
theorem WSt.next {l:List Int} {s:Bytes} {i k:Nat} {out:Bytes} {h left:Nat} (hr:Right l) (w:WSt l s i out h left) (hk:(nibs s)[i]? = some k) (hk16:k<16) (h0:0<ln l k) :
  Wait (encK l ((nibs s).take (i+1))) out.length out (h*2 ^ ln l k+wv l k) (left+ln l k)∧lacks l ((nibs s).take (i+1))=false∧h<128:=by
 have h1:=w.wait.more (wordB l k);rw [wordB_len,wordB_val hr hk16 h0,←encK_snoc hk] at h1;refine ⟨h1,?_,?_⟩
 ·rw [lacks_snoc hk,w.has];simp;omega
 ·have h2:=w.wait.lt;have h3:=w.lt;have h4:2 ^ (8*(out.length-out.length)+left)≤2 ^ 7:=Nat.pow_le_pow_right (by omega) (by omega);omega
end Pl
end Go.Proofs.YtjpgoeimclipjaaGreat
