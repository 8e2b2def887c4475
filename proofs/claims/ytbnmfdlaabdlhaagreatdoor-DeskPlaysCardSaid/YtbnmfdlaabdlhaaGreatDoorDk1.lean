/- Parts of the proofs. -/
import Derived.Test.YtbnmfdlaabdlhaaGreatDoorRows
import Derived.Below
import Derived.ChangeSame
import Derived.ProofKit
import Derived.OpenShut
import Derived.ShutString
import Derived.SizedLaws
import Derived.Test.YtbnmfdlaabdlhaaGreatDoorProg
import Derived.WalkKit
import Derived.WalkSpells
import Derived.WalkLawsBesides
import Derived.Lib.Hide
import Derived.Deep.Draws
import Derived.Laws.OwnMore
import Derived.Laws.IdiomStrings
import Derived.Lib.BufferRead
import Derived.Maps.AppendAt
import Derived.Laws.BitsAllLaws
import Derived.Laws.BitsLemmas
import Derived.Lib.AppendStr
import Derived.Lib.FrozenHead
import Derived.Shelf.Strings.Builder1
import Derived.Shelf.Strings.Builder2
import Derived.Shelf.Strings.OnBuilder
import Derived.Shelf.Small.Bits
import Derived.Shelf.Small.Strs
import Derived.Shelf.Small.Wraps
import Derived.Shelf.Strings.BuilderF
import Derived.Shelf.Strings.BuilderK
import Derived.Shelf.Utf8.RuneCount
import Derived.Shelf.Strings.Builder2Cap
import Derived.Shelf.Strconv.Atoi
import Derived.Shelf.Strconv.Itoa0
import Derived.Shelf.Strconv.Itoa1
import Derived.Shelf.LaysM
import Derived.Shelf.Strconv.Itoa2
import Derived.Shelf.Strconv.Itoa3
import Derived.Shelf.Strconv.AtoiErrFast
import Derived.Shelf.Strconv.ParseIntEmpty
import Derived.Shelf.Strconv.AtoiFail
import Derived.Shelf.Strconv.Clone
import Derived.Shelf.Strconv.SyntaxError
import Derived.Shelf.LaysC
import Derived.Shelf.Strconv.ToError
import Derived.Shelf.Strconv.AtoiErr
import Derived.Shelf.Strconv.ErrVar
import Derived.Shelf.Strconv.Lower
import Derived.Shelf.Strconv.ParseUint10
import Derived.Shelf.Strconv.ParseUint10Empty
import Derived.Shelf.Strconv.ParseUint10Any
import Derived.Shelf.Strconv.ParseInt10
import Derived.Shelf.Strconv.AtoiLong
import Derived.Shelf.Strconv.AtoiInnerAll
import Derived.Shelf.Strconv.RangeError
import Derived.Shelf.Strconv.ToErrorRange
import Derived.Shelf.Strconv.AtoiAll
import Derived.Shelf.Strconv.ErrVarAll
import Derived.Shelf.Strconv.ParseUintEmpty
import Derived.Shelf.Strconv.ParseUint10b64
import Derived.Shelf.Strconv.ParseUint10b32
import Derived.Shelf.Strconv.ParseUint10b16
import Derived.Shelf.Strconv.ParseUint10b8
import Derived.Shelf.Strings.Search1
import Derived.Shelf.Strings.Search2
import Derived.Shelf.Strings.Search3
import Derived.Shelf.Strings.Cut
import Derived.Shelf.Strings.Count
import Derived.Shelf.Strings.Shaped
import Derived.Shelf.Sort.Plain
import Derived.Ground.GgwProg
import Derived.Shelf.Strings.Prefix
import Derived.Shelf.Strings.Split
import Derived.Shelf.Strings.RuneCount
import Derived.Shelf.Strings.BuilderCap
import Derived.Shelf.Slices.Turned
import Derived.Ground.Names2Prog
import Derived.Shelf.Slices.Clone
import Derived.Shelf.Slices.SearchI
import Derived.Shelf.Slices.In.SortNone
import Derived.Ground.SlgnProg
import Derived.Shelf.SlicesE.Clone
import Derived.Ground.SlsfProg
import Derived.Shelf.SlSortCmp.Insertion
import Derived.Shelf.SlSortCmp.Insertion1
import Derived.Shelf.SlSortCmp.NoneTotal
import Derived.Lib.IndexMore
import Derived.RegionTactic
import Derived.Deep.QuietTactic
import Derived.BigQuiet
import Derived.Deep.RegionWith
set_option maxHeartbeats 16000000
set_option maxRecDepth 100000
namespace Go.Proofs.YtbnmfdlaabdlhaaGreatDoor
theorem zE{α:Type _}{x:Array α}{i:Nat}{b:α}(h:x[i]? = some b):∃h:i<x.size,x[i]=b:=Array.getElem?_eq_some_iff.1 h
theorem zG{α:Type _}{l:List α}{i:Nat}(h:i<l.length):l[i]? = some l[i]:=List.getElem?_eq_getElem h
theorem zB{α:Type _}[BEq α][LawfulBEq α]{a b:α}:(a==b)=false<->a≠b:=beq_eq_false_iff_ne
theorem zL{α:Type _}{a b:List α}:(a++b).length=a.length+b.length:=List.length_append
open Go.RowKit in theorem zD{B:Nat}{a w:World}(h:Below B a w)(k:Nat):Below B a (w.drewN k):=_root_.Go.below_drewN h k
end Go.Proofs.YtbnmfdlaabdlhaaGreatDoor
namespace Go.Proofs.YtbnmfdlaabdlhaaGreatDoor
section
open Go.RowKit Go.WideShapes Go.ChangeShapes Go.ChangeAt
theorem Tryz.own:ownKnob Tryz.prog.godebug=none:=by kernel_rfl
section
variable {H : Type} {enc : TypeId × Value -> H} {P : Program}
theorem post_of_below{f:Func}{s:ChangeSpec}{apart fresh handsOn again:Bool}{W W':World}{args:Array Value}{v:Value}{ds gs:List (DataW H)}{before pa pv:List MemPlace}
  (hW:DataW.Whole enc P f.params.toList s.vars apart W args.toList ds gs before)
  (hres:∀(b:Nat) (sp:Nat->Bool) (hd:Bool),DataW.TrodAll enc P W' b sp hd f.resultTypes.toList (v.resultList f.resultTypes.size) (s.fn H (ds++gs)).results [])
  (hargs:∀sp:Nat->Bool,(∀p∈before,sp p.block=true)->DataW.TrodAll enc P W' 0 sp true f.params.toList args.toList (s.fn H (ds++gs)).args pa)
  (hvars:∀sp:Nat->Bool,(∀p∈before,sp p.block=true)->DataW.TrodVars enc P W' sp s.vars (s.fn H (ds++gs)).vars pv)
  (hps:before=pa++pv) (hb:Below W.heap.size W W')
  (hok:∀(j:Nat) (t:TypeId) (r:Value),f.resultTypes[j]?=some t->(v.resultList f.resultTypes.size)[j]?=some r->Value.okWide P W' .any 0 t r) :
  s.post enc P f apart fresh handsOn again W args v W':=by
 have hlt:∀p∈before,p.block<W.heap.size:=fun p hp=>hW.lt p hp;have hold:∀p∈before,(fun b=>decide (b<W.heap.size)) p.block=true:=fun p hp=>by simpa using hlt p hp
 refine⟨ds,gs,before,[],pa,pv,hW,hres _ _ _,hargs _ hold,hvars _ hold,World.keptBut_mono (fun p hp=>⟨hp,?_⟩) (hb.frame (·∈before)),fun _=>?_⟩
 ·rw[hps,List.mem_append]at hp;exact Or.inr hp
 ·obtain⟨_,_,_,_,_,hz,hn⟩:=hW;refine⟨hok,_,_,([]++pa)++pv,⟨[]++pa,pv,trodAll_append (hargs _ (fun _ _=>rfl)) (hres _ _ _),hvars _ (fun _ _=>rfl),rfl,?_,?_⟩,?_⟩
  ·intro b off hp;have hin:MemPlace.cell b off∈before:=by rw[hps];simpa using hp
   rw[hb.frozen (hlt _ hin)];exact hz b off hin
  ·intro ha;have:=hn ha;rw[hps]at this;simpa using this
  ·intro p hp _;rw[hps];simpa using hp
end
end
section
namespace Pl
abbrev qa:=List UInt8
def slice(w:qa)(a b:Nat):qa:=(w.take b).drop a
theorem qbU(w:qa)(a b:Nat):(slice w a b).length=min b w.length-a:=by simp[slice]
theorem qcc(w:qa)(a:Nat):slice w a w.length=w.drop a:=by simp[slice]
theorem qeU(w:qa)(b:Nat):slice w 0 b=w.take b:=by simp[slice]
def nbF:Nat->Nat->qa
 | 0,n=>[UInt8.ofNat n]
 | f+1,n=>if n<128 then [UInt8.ofNat n]else UInt8.ofNat (128+n % 128)::nbF f (n / 128)
def nb(n:Nat):qa:=nbF n n
theorem qoE:∀(f g n:Nat),n<=f->n<=g->nbF f n=nbF g n
 | 0,0,_,_,_=>rfl
 | 0,g+1,n,h,_=>by
  have:n=0:=by omega
  subst this;simp[nbF]
 | f+1,0,n,_,h=>by
  have:n=0:=by omega
  subst this;simp[nbF]
 | f+1,g+1,n,hf,hg=>by
  unfold nbF
  by_cases h:n<128
  ·simp[h]
  ·simp only[h,if_false];rw[qoE f g (n / 128) (by omega) (by omega)]
theorem qdJ{n:Nat}(h:n<128):nb n=[UInt8.ofNat n]:=by
 unfold nb;cases n with
 | zero=>rfl
 | succ k=>unfold nbF;simp[h]
theorem qgr{n:Nat}(h:128<=n):nb n=UInt8.ofNat (128+n % 128)::nb (n / 128):=by
 unfold nb;obtain⟨k,rfl⟩:∃k,n=k+1:=⟨n-1,by omega⟩
 rw[nbF,if_neg (by omega)];rw[qoE k ((k+1) / 128) _ (by omega) (Nat.le_refl _)]
theorem qwC(n:Nat):nb n≠[]:=by
 by_cases h:n<128
 ·rw[qdJ h];simp
 ·rw[qgr (by omega)];simp
theorem qb1(k:Nat):∀n,n<128 ^ (k+1)->(nb n).length<=k+1:=by
 induction k with
 | zero=>intro n h;rw[qdJ (by simpa using h)];simp
 | succ k ih =>
  intro n h
  by_cases h1:n<128
  ·rw[qdJ h1];simp
  ·rw[qgr (by omega)];have:=ih (n / 128) (by rw[Nat.div_lt_iff_lt_mul (by omega)];rw[<-Nat.pow_succ];exact h);simp;omega
theorem qoD(n:Nat):1<=(nb n).length:=by
 have:=qwC n;have h:(nb n).length≠0:=by simpa using this
 omega
def qap:Nat:=2147483647
def qb5:Nat->Nat->Nat->qa->Option (Nat×qa)
 | 0,_,_,_=>none
 | _+1,_,_,[]=>none
 | f+1,i,n,c::rest =>
  if 128<=c.toNat then qb5 f (i+1) (n+(c.toNat % 128)*128 ^ i) rest
  else if (0<i/\c.toNat=0)\/qap<n+(c.toNat % 128)*128 ^ i then none
  else some (n+(c.toNat % 128)*128 ^ i,rest)
def take(s:qa):Option (Nat×qa):=qb5 5 0 0 s
theorem qtV(f:Nat):∀(i acc n:Nat) (rest:qa),n<128 ^ (f+1)->acc+n*128 ^ i<=qap->(0<i->0<n) ->
  qb5 (f+1) i acc (nb n++rest)=some (acc+n*128 ^ i,rest):=by
 have small:∀(f i acc n:Nat) (rest:qa),n<128->acc+n*128 ^ i<=qap->(0<i->0<n) ->
   qb5 (f+1) i acc (nb n++rest)=some (acc+n*128 ^ i,rest):=by
  intro f i acc n rest h1 hm hi;rw[qdJ h1];have e:(UInt8.ofNat n).toNat=n:=by simp[UInt8.toNat_ofNat'];omega
  have e2:n % 128=n:=Nat.mod_eq_of_lt h1;simp only[List.cons_append,List.nil_append,qb5,e,e2];rw[if_neg (by omega),if_neg];rintro (⟨h2,h3⟩|h2)
  ·have:=hi h2;omega
  ·omega
 induction f with
 | zero=>intro i acc n rest h hm hi;exact small 0 i acc n rest (by simpa using h) hm hi
 | succ f ih =>
  intro i acc n rest h hm hi
  by_cases h1:n<128
  ·exact small _ i acc n rest h1 hm hi
  ·rw[qgr (by omega)];have e:(UInt8.ofNat (128+n % 128)).toNat=128+n % 128:=by simp[UInt8.toNat_ofNat'];omega
   have e2:(128+n % 128) % 128=n % 128:=by omega
   have hp:0<128 ^ i:=Nat.pow_pos (by omega);rw[List.cons_append,qb5];simp only[e,e2];rw[if_pos (by omega)]
   have key:acc+n % 128*128 ^ i+n / 128*128 ^ (i+1)=acc+n*128 ^ i:=by
    have:=Nat.mod_add_div n 128;rw[Nat.pow_succ]
    calc
     acc+n % 128*128 ^ i+n / 128*(128 ^ i*128)=acc+(n % 128+128*(n / 128))*128 ^ i:=by
       rw[Nat.add_mul,Nat.mul_comm 128 (n / 128),Nat.mul_assoc,Nat.mul_comm 128 (128 ^ i)];omega
     _=_:=by rw[this]
   rw[ih (i+1) _ (n / 128) rest (by rw[Nat.div_lt_iff_lt_mul (by omega),<-Nat.pow_succ];exact h) (by omega) (by omega),key]
theorem qdj{n:Nat}(h:n<=qap)(rest:qa):take (nb n++rest)=some (n,rest):=by
 unfold qap at h;have:=qtV 4 0 0 n rest (by omega) (by unfold qap;omega) (by omega);simpa[take]using this
theorem qkW:∀(f i acc:Nat) (s:qa) (k:Nat) (rest:qa),qb5 f i acc s=some (k,rest) ->
  ∃n,k=acc+n*128 ^ i/\s=nb n++rest/\k<=qap/\(0<i->0<n)
 | 0,_,_,_,_,_,h=>by simp[qb5]at h
 | f+1,_,_,[],_,_,h=>by simp[qb5]at h
 | f+1,i,acc,c::t,k,rest,h=>by
  have hc:=c.toNat_lt
  by_cases h1:128<=c.toNat
  ·rw[qb5,if_pos h1]at h;obtain⟨n,hk,hs,hm,hn⟩:=qkW f (i+1) _ t k rest h;have hn:=hn (by omega);refine⟨c.toNat % 128+128*n,?_,?_,hm,by omega⟩
   ·rw[hk,Nat.add_mul,Nat.pow_succ,Nat.mul_comm 128 n,Nat.mul_assoc,Nat.mul_comm 128 (128 ^ i)];omega
   ·rw[qgr (by omega)];have e1:(c.toNat % 128+128*n) % 128=c.toNat % 128:=by omega
    have e2:(c.toNat % 128+128*n) / 128=n:=by omega
    rw[e1,e2,hs]
    have:UInt8.ofNat (128+c.toNat % 128)=c:=by
     apply UInt8.toNat_inj.1;simp[UInt8.toNat_ofNat'];omega
    rw[this];rfl
  ·rw[qb5,if_neg h1]at h
   by_cases h2:(0<i/\c.toNat=0)\/qap<acc+c.toNat % 128*128 ^ i
   ·rw[if_pos h2]at h;simp at h
   ·rw[if_neg h2]at h;simp only[Option.some.injEq,Prod.mk.injEq]at h;obtain⟨rfl,rfl⟩:=h;have e:c.toNat % 128=c.toNat:=by omega
    refine⟨c.toNat,by rw[e],?_,by omega,by omega⟩;rw[qdJ (by omega)];have:UInt8.ofNat c.toNat=c:=by apply UInt8.toNat_inj.1;simp
    rw[this];rfl
theorem qaI{s:qa}{k:Nat}{rest:qa}(h:take s=some (k,rest)):s=nb k++rest/\k<=qap:=by
 obtain⟨n,hk,hs,hm,_⟩:=qkW 5 0 0 s k rest h;simp at hk;subst hk;exact⟨hs,hm⟩
def qlU(l:qa)(k acc:Nat):Prop:=∀n,0<n\/k=0->nb (acc+n*128 ^ k)=l.take k++nb n
theorem qrU(l:qa):qlU l 0 0:=by intro n _;simp
theorem qrV{l:qa}{k acc:Nat}{c:UInt8}{t:qa}(h:qlU l k acc)(hd:l.drop k=c::t)(hc:128<=c.toNat):qlU l (k+1) (acc+c.toNat % 128*128 ^ k):=by
 intro n hn;have hn:0<n:=by omega
 have hcl:=c.toNat_lt
 have e:acc+c.toNat % 128*128 ^ k+n*128 ^ (k+1)=acc+(c.toNat % 128+128*n)*128 ^ k:=by
  rw[Nat.pow_succ,Nat.add_mul,Nat.mul_comm 128 n,Nat.mul_assoc,Nat.mul_comm 128 (128 ^ k)];omega
 rw[e,h _ (.inl (by omega)),qgr (by omega)];have e1:(c.toNat % 128+128*n) % 128=c.toNat % 128:=by omega
 have e2:(c.toNat % 128+128*n) / 128=n:=by omega
 have e3:UInt8.ofNat (128+c.toNat % 128)=c:=by
  apply UInt8.toNat_inj.1;simp[UInt8.toNat_ofNat'];omega
 have hlk:l[k]?=some c:=by
  have:=congrArg (fun z:qa=>z[0]?) hd;simpa using this
 rw[e1,e2,e3,List.take_add_one,hlk];simp
theorem qtA{l:qa}{k acc:Nat}{c:UInt8}{t:qa}(h:qlU l k acc)(hd:l.drop k=c::t)(hc:c.toNat<128)(ha:acc<128 ^ k) :
  (nb (acc+c.toNat % 128*128 ^ k)=l.take (k+1))↔¬(0<k/\c.toNat=0):=by
 have hlk:l[k]?=some c:=by
  have:=congrArg (fun z:qa=>z[0]?) hd;simpa using this
 have hkl:k<l.length:=by
  rcases Nat.lt_or_ge k l.length with h1|h1
  ·exact h1
  ·rw[List.drop_of_length_le h1]at hd;cases hd
 have e:c.toNat % 128=c.toNat:=by omega
 rw[e];constructor
 ·rintro h1 ⟨h2,h3⟩;rw[h3,Nat.zero_mul,Nat.add_zero]at h1;have h4:=congrArg List.length h1;obtain⟨j,rfl⟩:∃j,k=j+1:=⟨k-1,by omega⟩
  have h5:=qb1 j acc ha;simp at h4;omega
 ·intro h1;rw[h _ (by omega),qdJ hc,List.take_add_one,hlk];have:UInt8.ofNat c.toNat=c:=by apply UInt8.toNat_inj.1;simp
  simp[this]
def qj8:Nat->qa->Nat
 | _,[]=>0
 | i,c::t=>(i+1)*c.toNat+qj8 (i+1) t
def qaF(t:qa):Nat:=qj8 0 t % 65536
def qQ(t:qa):qa:=nb t.length++t
end Pl
end
section
open Go.RowKit Go.Lib
abbrev S(l:List UInt8):Value:=.string ⟨l.toArray⟩
abbrev I(n:Int):Value:=.int .i64 n
abbrev B(b:UInt8):Value:=.int .u8 b.toNat
theorem acc{P:Program}{f:FuncId}{args:Array Value}{w0 W:World}{v:Value}(h:Calls P f args W fun e w'=>e=.returned v/\Below W.heap.size W w')(hb:Below w0.heap.size w0 W) :
  Calls P f args W fun e w'=>e=.returned v/\Below w0.heap.size w0 w' :=
 h.mono fun _ _ ⟨he,h1⟩=>⟨he,hb.trans (h1.mono hb.size)⟩
theorem zH{p:Prop}(h:p):Hid p:=h
theorem zU{p:Prop}(h:Hid p):p:=h
theorem qdn:(Tryz.prog.info? 5).map (fun i=>(i.zero,i.size,i.bytes))=some (some (.int .u8 0),1,1):=by kernel_rfl
theorem qf(l:List UInt8)(a b:Nat):(⟨l.toArray⟩:ByteArray).extract a b=⟨(Pl.slice l a b).toArray⟩:=by
 apply ByteArray.ext;simp[Pl.slice,ByteArray.data_extract,List.extract_toArray,List.extract_eq_take_drop,List.drop_take]
theorem qe(a b:List UInt8):(⟨a.toArray⟩:ByteArray)++(⟨b.toArray⟩:ByteArray)=⟨(a++b).toArray⟩:=by
 apply ByteArray.ext;simp
theorem qdh{P:Program}{w:World}{ops:Array Oper}{rest:List Oper}{o:Oper}{a:Act}{Q:Exit->Act->World->Prop}(hgd:o.guard=none)(s x:Operand)(t:TypeId)
  (ho:o.op=.call { callee:=.builtin .append,args:=#[s,x],argTypes:=#[t,t] })
  (base:Nat) (e:TypeId) (i:TypeInfo) (z:Value) (bytes:Nat) (ht:P.underlying t=some (.slice e)) (hi:P.info? e=some i) (hz:i.zero=some z)
  (hsize:i.size=1) (hby:i.bytes=bytes) (hzs:z.cells.size=1)
  (v:Value) (n:Nat) (xs:List Value) (hs:a.eval s=v) (hown:w.ownsRow base e 1 v n xs) (u:Value) (te:TypeId)
  (hx:a.eval x=.slice (some ⟨w.heap.size,0,none⟩) 1 1) (h1:u.oneCell'=true)
  (h63:n+1<=maxLen) (hbytes:(n+1)*bytes<=140737488355328) (hbase:base<=w.heap.size)
  (h:∀v' w',w'.ownsRow base e 1 v' (n+1) (xs++[u])->Below base w w'->(w.alloc (.cells #[u] te)).grownBy w' v.ownBlock->wpList P ops Q rest (a.put o.dst v') w') :
  wpList P ops Q (o::rest) a (w.alloc (.cells #[u] te)):=by
 refine wpList_append_own _ hgd s x t ho base e i z 1 bytes ht hi hz hsize hby hzs (by decide) v n xs hs (hown.alloc _) ⟨w.heap.size,0,none⟩ 1 1 [u] hx rfl (cell_one_new _ _ _) ?_ h63 hbytes ?_ ?_
 ·intro y hy;simp at hy;subst hy;exact h1
 ·simp;omega
 ·intro v' w' hown' hg _;refine h v' w' hown' ?_ hg;exact ((Below.refl _ _).alloc hbase _).grown hg (by simp;omega) (fun k hk=>(hown.lt k hk).1)
theorem qdl{P:Program}{w:World}{base e:Nat}{v:Value}{n:Nat}{l:List UInt8}(h:w.ownsRow base e 1 v n (l.map B))(src dst:TypeId)
  (hs:P.underlying src=some (.slice e)) (he:P.underlying e=some (.int .u8)) (hd:P.underlying dst=some .string) :
  (convert src dst v).run P w=.ok (S l) w:=by
 have hn:l.length=n:=by have:=h.1;simpa using this
 rcases h.2 with⟨rfl,h0⟩|⟨g,cap,cur,rfl,_⟩
 ·subst h0;have:l=[]:=List.eq_nil_of_length_eq_zero hn;subst this;exact run_convert_nil_bytes w src dst e 0 hs he hd
 ·subst hn;refine run_convert_bytes_back w src dst e _ cap l hs he hd ?_
  intro j hj;refine h.cells (g:=g) rfl j _ ?_;simp[hj]
theorem qgo{w:World}{base e:Nat}{v:Value}{n:Nat}{l:List UInt8}{x:Int}(b:UInt8)(h:w.ownsRow base e 1 v n (l.map B++[.int .u8 x]))(hb:(b.toNat:Int)=x) :
  w.ownsRow base e 1 v n ((l++[b]).map B):=by
 subst hb;simpa using h
theorem qjl(k:Nat)(h:k<256):∃b:UInt8,b=UInt8.ofNat k/\(b.toNat:Int)=k:=⟨_,rfl,by simp[UInt8.toNat_ofNat'];omega⟩
theorem ofNat_toNat{k:Nat}(h:k<256):((UInt8.ofNat k).toNat:Int)=k:=by
 simp[UInt8.toNat_ofNat'];omega
theorem qiB{P:Program}(w:World)(g:Nat){x:Int}(b:UInt8)(hx:(b.toNat:Int)=x)(hc:w.cell? ⟨g,0,none⟩=some (.int .u8 x))(src dst e:TypeId)
  (hs:P.underlying src=some (.slice e)) (he:P.underlying e=some (.int .u8)) (hd:P.underlying dst=some .string) :
  (convert src dst (.slice (some ⟨g,0,none⟩) 1 1)).run P w=.ok (S [b]) w:=by
 subst hx;refine run_convert_bytes_back w src dst e _ 1 [b] hs he hd ?_
 intro j hj;have hj0:j=0:=by simp at hj;omega
 subst hj0;simpa[Addr.add]using hc
theorem qbZ{P:Program}(w:World){x:Int}(b:UInt8)(hx:(b.toNat:Int)=x)(t src dst e:TypeId)
  (hs:P.underlying src=some (.slice e)) (he:P.underlying e=some (.int .u8)) (hd:P.underlying dst=some .string) :
  (convert src dst (.slice (some ⟨w.heap.size,0,none⟩) 1 1)).run P (w.alloc (.cells #[.int .u8 x] t))=.ok (S [b]) (w.alloc (.cells #[.int .u8 x] t)) :=
 qiB _ _ b hx (by simp) src dst e hs he hd
theorem qfj{P:Program}(w:World){x:Int}(b:UInt8)(hx:(b.toNat:Int)=x)(t src dst e:TypeId)
  (hs:P.underlying src=some (.slice e)) (he:P.underlying e=some (.int .u8)) (hd:P.underlying dst=some .string) :
  (convert src dst (.slice (some ⟨w.heap.size,0,none⟩) 1 1)).run P (w.alloc (.cells #[.int .u8 x] t)).drew=.ok (S [b]) (w.alloc (.cells #[.int .u8 x] t)).drew :=
 qiB _ _ b hx (by show (w.alloc (.cells #[.int .u8 x] t)).cell? _=_;simp) src dst e hs he hd
theorem qeV{P:Program}{w w':World}{t:TypeId}{x:Int}(b:UInt8)(hx:(b.toNat:Int)=x)(hb:Below (w.alloc (.cells #[.int .u8 x] t)).drew.heap.size (w.alloc (.cells #[.int .u8 x] t)).drew w')(src dst e:TypeId)
  (hs:P.underlying src=some (.slice e)) (he:P.underlying e=some (.int .u8)) (hd:P.underlying dst=some .string) :
  (convert src dst (.slice (some ⟨w.heap.size,0,none⟩) 1 1)).run P w'=.ok (S [b]) w' :=
 qiB _ _ b hx (cell_later hb (by show (w.alloc (.cells #[.int .u8 x] t)).cell? _=_;simp)) src dst e hs he hd
theorem qwB(x:Int)(h0:0<=x)(h1:x<256):bits .or .u8 x 128=128+x % 128:=by
 have h:∀y:Fin 256,bits .or .u8 (y.val:Int) 128=128+(y.val:Int) % 128:=by decide +kernel
 have:=h ⟨x.toNat,by omega⟩;have e:((x.toNat:Nat):Int)=x:=by omega
 rw[e]at this;exact this
theorem qwm(c:UInt8):bits .and .u8 (c.toNat:Int) 127=((c.toNat % 128:Nat):Int):=by
 have h:∀y:Fin 256,bits .and .u8 (y.val:Int) 127=((y.val % 128:Nat):Int):=by decide +kernel
 exact h ⟨c.toNat,c.toNat_lt⟩
theorem qgG(a:Nat)(ha:a<9223372036854775808):(BitVec.ofInt 64 (a:Int)).toNat=a:=by
 rw[BitVec.ofInt_natCast,BitVec.toNat_ofNat];exact Nat.mod_eq_of_lt (by omega)
theorem qpW(a b:Nat)(ha:a<9223372036854775808)(hb:b<9223372036854775808):bits .and .i64 (a:Int) (b:Int)=((a &&& b:Nat):Int):=by
 have hx:a &&& b<2 ^ 63:=Nat.and_lt_two_pow _ (by omega);show IntKind.i64.wrap ((BitVec.ofInt 64 (a:Int) &&& BitVec.ofInt 64 (b:Int)).toNat:Int)=_;rw[BitVec.toNat_and,qgG a ha,qgG b hb,IntKind.wrap_i64];omega
theorem qhA(a b:Nat)(ha:a<9223372036854775808)(hb:b<9223372036854775808):bits .or .i64 (a:Int) (b:Int)=((a ||| b:Nat):Int):=by
 have hx:a ||| b<2 ^ 63:=Nat.or_lt_two_pow (by omega) (by omega);show IntKind.i64.wrap ((BitVec.ofInt 64 (a:Int) ||| BitVec.ofInt 64 (b:Int)).toNat:Int)=_;rw[BitVec.toNat_or,qgG a ha,qgG b hb,IntKind.wrap_i64];omega
theorem or7(acc x k:Nat)(ha:acc<128 ^ k)(hx:x<128)(hk:k<5):bits .or .i64 (acc:Int) (wrap64 ((x:Int)*2 ^ (7*k)))=((acc+x*128 ^ k:Nat):Int):=by
 have e:(2:Int) ^ (7*k)=((128 ^ k:Nat):Int):=by
  have:(128:Nat) ^ k=2 ^ (7*k):=by rw[Nat.pow_mul]
  rw[this];norm_cast
 have hp:(128:Nat) ^ k<=128 ^ 4:=Nat.pow_le_pow_right (by omega) (by omega);have hm:x*128 ^ k<=127*128 ^ 4:=Nat.mul_le_mul (by omega) hp;rw[e,<-Int.natCast_mul];have hw:wrap64 ((x*128 ^ k:Nat):Int)=((x*128 ^ k:Nat):Int):=IntWalk.wrap64_in _ ⟨by omega,by omega⟩;rw[hw,qhA _ _ (by omega) (by omega)]
 congr 1
 have e2:x*128 ^ k=x <<< (7*k):=by
  rw[Nat.shiftLeft_eq];congr 1;rw[Nat.pow_mul]
 rw[e2,Nat.or_comm,<-Nat.shiftLeft_add_eq_or_of_lt (by rw[Nat.pow_mul];exact ha)];omega
def qlT(fz:Nat×Nat)(n:Nat):Prop:=fz.2<=fz.1\/n<=fz.1
def OwnM(w:World)(base:Nat)(e:TypeId)(size:Nat)(v:Value)(n:Nat)(xs:List Value):Prop :=
 xs.length=n*size /\
 ((v=.slice none 0 0/\n=0) \/
  ∃g cap cur fz,v=.slice (some ⟨g,0,none⟩) n cap/\base<=g/\w.heap[g]?=some (.cells cur e fz)/\qlT fz cur.size/\n<=cap/\cap<=maxLen/\cur.size=cap*size/\cur.toList.take (n*size)=xs)
section
variable {w : World} {base : Nat} {e : TypeId} {size : Nat} {v : Value} {n : Nat} {xs : List Value}
theorem OwnM.of(h:w.ownsRow base e size v n xs):OwnM w base e size v n xs:=by
 refine⟨h.1,?_⟩
 rcases h.2 with hn|⟨g,cap,cur,hv,hb,hg,rest⟩
 ·exact .inl hn
 ·exact .inr ⟨g,cap,cur,(0,0),hv,hb,hg,.inl (Nat.le_refl _),rest⟩
theorem OwnM.lt(h:OwnM w base e size v n xs):∀k,v.ownBlock=some k->base<=k/\k<w.heap.size:=by
 intro k hk
 rcases h.2 with⟨rfl,_⟩|⟨g,cap,cur,fz,rfl,hb,hg,_⟩
 ·simp[Value.ownBlock]at hk
 ·simp[Value.ownBlock]at hk;subst hk;exact⟨hb,(zE hg).1⟩
theorem OwnM.kept{w':World}(h:OwnM w base e size v n xs)(hg:∀k,v.ownBlock=some k->w'.heap[k]?=w.heap[k]?):OwnM w' base e size v n xs:=by
 refine⟨h.1,?_⟩
 rcases h.2 with hn|⟨g,cap,cur,fz,rfl,hb,hgg,rest⟩
 ·exact .inl hn
 ·exact .inr ⟨g,cap,cur,fz,rfl,hb,(hg g rfl).trans hgg,rest⟩
theorem OwnM.alloc(h:OwnM w base e size v n xs)(o:Obj):OwnM (w.alloc o) base e size v n xs :=
 h.kept fun k hk=>Below.heap_alloc w o k (h.lt k hk).2
theorem OwnM.drew(h:OwnM w base e size v n xs):OwnM w.drew base e size v n xs:=h
theorem OwnM.drewN(h:OwnM w base e size v n xs)(k:Nat):OwnM (w.drewN k) base e size v n xs:=h
theorem OwnM.mono{b:Nat}(h:OwnM w base e size v n xs)(hb:b<=base):OwnM w b e size v n xs:=by
 refine⟨h.1,?_⟩
 rcases h.2 with hn|⟨g,cap,cur,fz,hv,hb',rest⟩
 ·exact .inl hn
 ·exact .inr ⟨g,cap,cur,fz,hv,Nat.le_trans hb hb',rest⟩
theorem OwnM.setCell(h:OwnM w base e size v n xs){p:Addr}(hp:v.ownBlock≠some p.block)(u:Value):OwnM (w.setCell p u) base e size v n xs :=
 h.kept fun k hk=>Below.heap_setCell w p u k (fun e=>hp (by rw[hk,e]))
theorem OwnM.cells(h:OwnM w base e size v n xs){g:Nat}(hg:v.ownBlock=some g):∀j u,xs[j]?=some u->w.cell? ((⟨g,0,none⟩:Addr).add j)=some u:=by
 intro j u hu
 rcases h.2 with⟨rfl,_⟩|⟨g',cap,cur,fz,rfl,_,hgg,_,_,_,_,htake⟩
 ·simp[Value.ownBlock]at hg
 ·simp[Value.ownBlock]at hg;subst hg;have hadd:(⟨g',0,none⟩:Addr).add j=⟨g',j,none⟩:=by unfold Addr.add;split <;> simp_all
  rw[hadd,cell_of_row w g' j cur e fz hgg];rw[<-htake,List.getElem?_take]at hu
  split at hu
  ·simpa using hu
  ·cases hu
theorem OwnM.at_(h:OwnM w base e 1 v n xs){k:Nat}(hk:k<n):∃g cap u,v=.slice (some ⟨g,0,none⟩) n cap/\base<=g/\xs[k]?=some u/\w.cell? ⟨g,k,none⟩=some u:=by
 have hx:k<xs.length:=by have:=h.1;omega
 rcases h.2 with⟨_,rfl⟩|⟨g,cap,cur,fz,hv,hb,_⟩
 ·omega
 ·have hc:=h.cells (g:=g) (by rw[hv];rfl) k _ (zG hx);have hadd:(⟨g,0,none⟩:Addr).add k=⟨g,k,none⟩:=by unfold Addr.add;split <;> simp_all
  rw[hadd]at hc;exact⟨g,cap,_,hv,hb,zG hx,hc⟩
end
theorem OwnM.bytes(w:World)(e:TypeId)(s:ByteArray)(base:Nat)(hb:base<=w.heap.size)(hs:s.size<=maxLen) :
  OwnM (w.drew.alloc (.cells (bytesRow s (grownCap w s.size 0 e)) e ((bytesRow s (grownCap w s.size 0 e)).size,(bytesRow s (grownCap w s.size 0 e)).size+1))) base e 1
   (.slice (some ⟨w.heap.size,0,none⟩) s.size (grownCap w s.size 0 e)) s.size (strCells s):=by
 have hge:=grownCap_ge w s.size 0 e;refine⟨by rw[strCells_length];omega,.inr ⟨w.heap.size,_,_,_,rfl,hb,heap_alloc_new w.drew _,.inr (Nat.le_refl _),hge,grownCap_le_maxLen w _ _ e hs,?_,?_⟩⟩
 ·have hz:s.data.size=s.size:=rfl;simp[bytesRow,hz];omega
 ·have hz:s.data.size=s.size:=rfl;simp only[bytesRow,Array.toList_append,Nat.mul_one];rw[List.take_append_of_le_length (by simp[hz])];rw[List.take_of_length_le (by simp[hz])];simp[strCells]
theorem qdE(P:Program)(g o:Nat)(t:TypeId)(fz:Nat×Nat):∀(vs:List Value) (i:Nat) (cur:Array Value) (w:World),w.heap[g]?=some (.cells cur t fz)->qlT fz cur.size->o+i+vs.length<=cur.size->(∀v∈vs,v.oneCell'=true) ->
  (storeCells ⟨g,o,none⟩ vs i).run P w=.ok () (w.setRow g (cur.toList.take (o+i)++vs++cur.toList.drop (o+i+vs.length)).toArray)
 | [],i,cur,w,hg,_,_,_=>by
  simp only[storeCells,List.append_nil,List.length_nil,Nat.add_zero,List.take_append_drop,Array.toArray_toList];rw[setRow_self w g cur t fz hg];rfl
 | v::rest,i,cur,w,hg,hfz,hl,h1=>by
  have hi:o+i<cur.size:=by simp at hl;omega
  have hadd:(⟨g,o,none⟩:Addr).add i=⟨g,o+i,none⟩:=by unfold Addr.add;split <;> simp_all
  have hcell:w.cell? ⟨g,o+i,none⟩=some cur[o+i]:=by simp[World.cell?,hg,hi]
  have hfro:w.frozen? ⟨g,o+i,none⟩=false:=by
   obtain⟨lo,hi'⟩:=fz;simp only[World.frozen?,hg,Bool.and_eq_false_iff,decide_eq_false_iff_not];unfold qlT at hfz;simp only at hfz;omega
  have hst:(store ((⟨g,o,none⟩:Addr).add i) v).run P w=.ok () (w.setRow g (cur.setIfInBounds (o+i) v)):=by
   rw[hadd,run_store P w _ v _ (h1 v (by simp)),hcell];simp[hfro,setCell_eq_setRow w g (o+i) cur t fz v hg]
  have ih:=qdE P g o t fz rest (i+1) (cur.setIfInBounds (o+i) v) (w.setRow g (cur.setIfInBounds (o+i) v)) (setRow_heap w g cur _ t _ hg) (by simpa using hfz) (by simp at hl ⊢;omega) (fun x hx=>h1 x (by simp[hx]));simp only[storeCells,Sem.run_bind,hst,Result.andThen_ok,ih,setRow_setRow]
  congr 3
  have e:=list_seg_step cur.toList (o+i) v rest (by simp at hl ⊢;omega);simpa[Array.toList_setIfInBounds,Nat.add_assoc]using e
section
variable {P : Program} (w : World)
theorem qkb(t ty e:TypeId)(i:TypeInfo)(ht:P.underlying t=some (.slice e))(hi:P.info? e=some i)
  (g sLen sCap:Nat) (cur:Array Value) (fz:Nat×Nat) (hg:w.heap[g]?=some (.cells cur e fz)) (hfz:qlT fz cur.size)
  (a:Addr) (m c:Nat) (news:List Value) (hl:news.length=m*i.size) (hnews:∀j u,news[j]?=some u->w.cell? (a.add j)=some u) (h1:∀u∈news,u.oneCell'=true)
  (hroom:sLen+m<=sCap) (hfit:sLen*i.size+news.length<=cur.size) :
  (Builtin.append_ #[t,t] ty #[.slice (some ⟨g,0,none⟩) sLen sCap,.slice (some a) m c]).run P w =
   .ok (.slice (some ⟨g,0,none⟩) (sLen+m) sCap) (w.setRow g (cur.toList.take (sLen*i.size)++news++cur.toList.drop (sLen*i.size+news.length)).toArray):=by
 have hf:=run_firstCells_some (P:=P) w i.size m a m c news hl hnews;have hst:=qdE P g (sLen*i.size) e fz news 0 cur w hg hfz (by simpa using hfit) h1;simp only[Nat.add_zero]at hst;simp[Builtin.append_,run_underlying ht,sizeOf,typeInfo,hi,Builtin.lenOf,hroom,hf,Addr.add_lit,hst]
theorem qgy(t u ty e:TypeId)(i:TypeInfo)(ht:P.underlying t=some (.slice e))(hu:P.underlying u=some .string)(hi:P.info? e=some i)(hs1:i.size=1)
  (g sLen sCap:Nat) (cur:Array Value) (fz:Nat×Nat) (hg:w.heap[g]?=some (.cells cur e fz)) (hfz:qlT fz cur.size) (s:ByteArray)
  (hroom:sLen+s.size<=sCap) (hfit:sLen+s.size<=cur.size) :
  (Builtin.append_ #[t,u] ty #[.slice (some ⟨g,0,none⟩) sLen sCap,.string s]).run P w =
   .ok (.slice (some ⟨g,0,none⟩) (sLen+s.size) sCap) (w.setRow g (cur.toList.take sLen++strCells s++cur.toList.drop (sLen+s.size)).toArray):=by
 have hf:=run_firstCells_string (P:=P) w 1 s;have hst:=qdE P g sLen e fz (strCells s) 0 cur w hg hfz (by simpa[strCells_length]using hfit) (strCells_oneCell s);simp only[Nat.add_zero,strCells_length]at hst;simp[Builtin.append_,run_underlying ht,run_underlying hu,sizeOf,typeInfo,hi,hs1,Builtin.lenOf,hroom,hf,Addr.add_lit,hst]
theorem qoq(base:Nat)(t ty e:TypeId)(i:TypeInfo)(z:Value)(size bytes:Nat)(ht:P.underlying t=some (.slice e))(hi:P.info? e=some i)(hz:i.zero=some z)
  (hsize:i.size=size) (hby:i.bytes=bytes) (hzs:z.cells.size=size) (hsz:0<size)
  (v:Value) (n:Nat) (xs:List Value) (hown:OwnM w base e size v n xs)
  (a:Addr) (m c:Nat) (news:List Value) (hl:news.length=m*size) (hnews:∀j u,news[j]?=some u->w.cell? (a.add j)=some u) (h1:∀u∈news,u.oneCell'=true)
  (h63:n+m<=maxLen) (hbytes:(n+m)*bytes<=140737488355328) (hbase:base<=w.heap.size) :
  ∃v' w',(Builtin.append_ #[t,t] ty #[v,.slice (some a) m c]).run P w=.ok v' w'/\OwnM w' base e size v' (n+m) (xs++news)/\w.grownBy w' v.ownBlock /\
   (v'.ownBlock=v.ownBlock\/v'.ownBlock=some w.heap.size):=by
 rcases hown.2 with⟨rfl,rfl⟩|⟨g,cap,cur,fz,rfl,hbg,hg,hfz,hnc,hcm,hcs,htake⟩
 ·obtain⟨v',w',hr,h2,h3,_,h5⟩:=run_append_own_at (P:=P) w base t ty e i z size bytes ht hi hz hsize hby hzs hsz (.slice none 0 0) 0 xs ⟨hown.1,.inl ⟨rfl,rfl⟩⟩ a m c news hl hnews h1 h63 hbytes hbase;exact⟨v',w',hr,OwnM.of h2,h3,h5⟩
 ·subst hsize;subst hby;have hsmall:n+m<=9223372036854775807:=by simp only[maxLen]at h63;omega
  have hlen:(xs++news).length=(n+m)*i.size:=by rw[zL,hown.1,hl,Nat.add_mul]
  by_cases hroom:n+m<=cap
  ·have hfit:n*i.size+news.length<=cur.size:=by rw[hl,hcs,<-Nat.add_mul];exact Nat.mul_le_mul_right _ hroom
   have hr:=qkb (P:=P) w t ty e i ht hi g n cap cur fz hg hfz a m c news hl hnews h1 hroom hfit
   have hcs2:(cur.toList.take (n*i.size)++news++cur.toList.drop (n*i.size+news.length)).toArray.size=cur.size:=by
    simp only[List.size_toArray,zL,List.length_take,List.length_drop,Array.length_toList];omega
   refine⟨_,_,hr,⟨hlen,.inr ⟨g,cap,_,fz,rfl,hbg,setRow_heap w g cur _ e _ hg,by rw[hcs2];exact hfz,hroom,hcm,by rw[hcs2];exact hcs,?_⟩⟩,⟨rfl,rfl,rfl,by simp,fun k _ hk=>setRow_other w g k _ (fun e=>hk (by simp[Value.ownBlock,e]))⟩,.inl rfl⟩;rw[htake,<-hlen];exact List.take_left
  ·have holds:∀j u,xs[j]?=some u->w.cell? ((⟨g,0,none⟩:Addr).add j)=some u:=hown.cells (g:=g) rfl;have hr:=run_append_grow (P:=P) w t ty e i z ht hi hz ⟨g,0,none⟩ n cap xs hown.1 holds a m c news hl hnews (by omega) (by omega) (growslice_fits (by omega) hbytes);have hge:=grownCap_ge w (n+m) cap e;have hcm2:grownCap w (n+m) cap e<=maxLen:=grownCap_le_maxLen w (n+m) cap e h63;refine⟨_,_,hr,⟨hlen,.inr ⟨w.heap.size,_,_,(0,0),rfl,hbase,heap_alloc_new w.drew _,.inl (Nat.le_refl _),hge,hcm2,?_,?_⟩⟩,⟨rfl,rfl,rfl,by simp,fun k hk _=>Below.heap_alloc w.drew _ k hk⟩,.inr rfl⟩
   ·simp only[Array.size_append,List.size_toArray,size_zeroCells,hzs,hown.1,hl,<-Nat.add_mul]
    congr 1
    omega
   ·simp only[Array.toList_append,List.append_assoc];rw[<-List.append_assoc,<-hlen];exact List.take_left
theorem qil(base:Nat)(t u ty e:TypeId)(i:TypeInfo)(ht:P.underlying t=some (.slice e))(hu:P.underlying u=some .string)(hi:P.info? e=some i)(hz:i.zero=some (.int .u8 0))
  (hsize:i.size=1) (hby:i.bytes=1)
  (v:Value) (n:Nat) (xs:List Value) (hown:OwnM w base e 1 v n xs) (s:ByteArray)
  (h63:n+s.size<=maxLen) (hbytes:n+s.size<=140737488355328) (hbase:base<=w.heap.size) :
  ∃v' w',(Builtin.append_ #[t,u] ty #[v,.string s]).run P w=.ok v' w'/\OwnM w' base e 1 v' (n+s.size) (xs++strCells s)/\w.grownBy w' v.ownBlock /\
   (v'.ownBlock=v.ownBlock\/v'.ownBlock=none\/∃g,v'.ownBlock=some g/\w.heap.size<=g):=by
 rcases hown.2 with⟨rfl,rfl⟩|⟨g,cap,cur,fz,rfl,hbg,hg,hfz,hnc,hcm,hcs,htake⟩
 ·obtain⟨v',w',h1,h2,h3,_⟩:=run_append_own_string (P:=P) w w.heap.size t u ty e i ht hu hi hz hsize hby (.slice none 0 0) 0 xs ⟨hown.1,.inl ⟨rfl,rfl⟩⟩ s h63 hbytes (Nat.le_refl _);refine⟨v',w',h1,(OwnM.of h2).mono hbase,h3,.inr ?_⟩;cases hv:v'.ownBlock with
  | none=>exact .inl rfl
  | some g=>exact .inr ⟨g,rfl,(h2.lt g hv).1⟩
 ·have hsmall:n+s.size<=9223372036854775807:=by simp only[maxLen]at h63;omega
  have hxl:xs.length=n:=by simpa using hown.1
  have hlen:(xs++strCells s).length=(n+s.size)*1:=by rw[zL,hxl,strCells_length,Nat.mul_one]
  by_cases hroom:n+s.size<=cap
  ·have hcs':cur.size=cap:=by simpa using hcs
   have hr:=qgy (P:=P) w t u ty e i ht hu hi hsize g n cap cur fz hg hfz s hroom (by omega)
   have hcs2:(cur.toList.take n++strCells s++cur.toList.drop (n+s.size)).toArray.size=cur.size:=by
    simp only[List.size_toArray,zL,List.length_take,List.length_drop,Array.length_toList,strCells_length];omega
   refine⟨_,_,hr,⟨hlen,.inr ⟨g,cap,_,fz,rfl,hbg,setRow_heap w g cur _ e _ hg,by rw[hcs2];exact hfz,hroom,hcm,by rw[hcs2];exact hcs,?_⟩⟩,⟨rfl,rfl,rfl,by simp,fun k _ hk=>setRow_other w g k _ (fun e=>hk (by simp[Value.ownBlock,e]))⟩,.inl rfl⟩;have ht':cur.toList.take n=xs:=by simpa using htake
   rw[ht',<-hlen];exact List.take_left
  ·have holds:∀j u,xs[j]?=some u->w.cell? ((⟨g,0,none⟩:Addr).add j)=some u:=hown.cells (g:=g) rfl;have hr:=run_append_grow_string (P:=P) w t u ty e i (.int .u8 0) ht hu hi hz ⟨g,0,none⟩ n cap xs (by rw[hsize];simpa using hxl) holds s (by omega) (by omega) (by rw[hby];exact growslice_fits (by omega) (by omega));have hge:=grownCap_ge w (n+s.size) cap e;have hcm2:grownCap w (n+s.size) cap e<=maxLen:=grownCap_le_maxLen w (n+s.size) cap e h63;refine⟨_,_,hr,⟨hlen,.inr ⟨w.heap.size,_,_,(0,0),rfl,hbase,heap_alloc_new w.drew _,.inl (Nat.le_refl _),hge,hcm2,?_,?_⟩⟩,⟨rfl,rfl,rfl,by simp,fun k hk _=>Below.heap_alloc w.drew _ k hk⟩,.inr (.inr ⟨_,rfl,Nat.le_refl _⟩)⟩
   ·have hz1:(Value.int IntKind.u8 0).cells.size=1:=rfl;simp only[Array.size_append,List.size_toArray,size_zeroCells,hz1,hxl,strCells_length];omega
   ·simp only[Array.toList_append,List.append_assoc];rw[<-List.append_assoc,<-hlen];exact List.take_left
end
section
variable {P : Program} {w : World}
theorem qin{o:Oper}{a:Act}{K:Act->World->Prop}{Q:Exit->Act->World->Prop}(sl x:Operand)(t u:TypeId)
  (ho:o.op=.call { callee:=.builtin .append,args:=#[sl,x],argTypes:=#[t,u] })
  (base:Nat) (e:TypeId) (i:TypeInfo) (ht:P.underlying t=some (.slice e)) (hu:P.underlying u=some .string) (hi:P.info? e=some i) (hz:i.zero=some (.int .u8 0))
  (hsize:i.size=1) (hby:i.bytes=1)
  (v:Value) (n:Nat) (xs:List Value) (hs:a.eval sl=v) (hown:OwnM w base e 1 v n xs) (s:ByteArray) (hx:a.eval x=.string s)
  (h63:n+s.size<=maxLen) (hbytes:n+s.size<=140737488355328) (hbase:base<=w.heap.size)
  (h:∀A' cap' w',OwnM w' base e 1 (.slice A' (n+s.size) cap') (n+s.size) (xs++strCells s)->w.grownBy w' v.ownBlock ->
   (Value.ownBlock (.slice A' (n+s.size) cap')=v.ownBlock\/Value.ownBlock (.slice A' (n+s.size) cap')=none\/∃g,Value.ownBlock (.slice A' (n+s.size) cap')=some g/\w.heap.size<=g)->K (a.put o.dst (.slice A' (n+s.size) cap')) w'):o.wp P a w K Q:=by
 obtain⟨v',w',hr,h2,h3,h4⟩:=qil (P:=P) w base t u o.type e i ht hu hi hz hsize hby v n xs hown s h63 hbytes hbase;unfold Oper.wp execOp;simp only[ho,resolve,invoke,builtin,Sem.run_bind,Sem.run_pure,Result.andThen_ok,List.map_toArray,List.map_cons,List.map_nil,hs,hx,hr]
 rcases h2.2 with⟨rfl,hn⟩|⟨g,cap,cur,fz,rfl,_⟩
 ·have e1:Value.slice none 0 0=.slice none (n+s.size) 0:=by rw[hn]
  rw[e1]at h2 h4 ⊢;exact h _ _ _ h2 h3 h4
 ·exact h _ _ _ h2 h3 h4
theorem qhf{ops:Array Oper}{o:Oper}{a:Act}{K:Act->World->Prop}{Q:Exit->Act->World->Prop}{E:Prop}(hgd:o.guard=none)(sl x:Operand)(t u:TypeId)
  (ho:o.op=.call { callee:=.builtin .append,args:=#[sl,x],argTypes:=#[t,u] })
  (base:Nat) (e:TypeId) (i:TypeInfo) (ht:P.underlying t=some (.slice e)) (hu:P.underlying u=some .string) (hi:P.info? e=some i) (hz:i.zero=some (.int .u8 0))
  (hsize:i.size=1) (hby:i.bytes=1)
  (v:Value) (n:Nat) (xs:List Value) (hs:a.eval sl=v) (hown:OwnM w base e 1 v n xs) (s:ByteArray) (hx:a.eval x=.string s)
  (h63:n+s.size<=maxLen) (hbytes:n+s.size<=140737488355328) (hbase:base<=w.heap.size)
  (h:∀A' cap' w',OwnM w' base e 1 (.slice A' (n+s.size) cap') (n+s.size) (xs++strCells s)->w.grownBy w' v.ownBlock ->
   (Value.ownBlock (.slice A' (n+s.size) cap')=v.ownBlock\/Value.ownBlock (.slice A' (n+s.size) cap')=none\/∃g,Value.ownBlock (.slice A' (n+s.size) cap')=some g/\w.heap.size<=g)->K (a.put o.dst (.slice A' (n+s.size) cap')) w') :
  if Region.wanted o (yielded ops a.tmps)=true then Oper.wp P o a w K Q else E:=by
 have hw:Region.wanted o (yielded ops a.tmps)=true:=by simp[Region.wanted,hgd]
 rw[if_pos hw];exact qin sl x t u ho base e i ht hu hi hz hsize hby v n xs hs hown s hx h63 hbytes hbase h
theorem qni{ops:Array Oper}{rest:List Oper}{o:Oper}{a:Act}{Q:Exit->Act->World->Prop}(hgd:o.guard=none)(s x:Operand)(t:TypeId)
  (ho:o.op=.call { callee:=.builtin .append,args:=#[s,x],argTypes:=#[t,t] })
  (base:Nat) (e:TypeId) (i:TypeInfo) (z:Value) (bytes:Nat) (ht:P.underlying t=some (.slice e)) (hi:P.info? e=some i) (hz:i.zero=some z)
  (hsize:i.size=1) (hby:i.bytes=bytes) (hzs:z.cells.size=1)
  (v:Value) (n:Nat) (xs:List Value) (hs:a.eval s=v) (u:Value) (te:TypeId) (hown:OwnM w base e 1 v n xs)
  (hx:a.eval x=.slice (some ⟨w.heap.size,0,none⟩) 1 1) (h1:u.oneCell'=true)
  (h63:n+1<=maxLen) (hbytes:(n+1)*bytes<=140737488355328) (hbase:base<=w.heap.size)
  (h:∀g' cap' w',OwnM w' base e 1 (.slice (some ⟨g',0,none⟩) (n+1) cap') (n+1) (xs++[u])->(w.alloc (.cells #[u] te)).grownBy w' v.ownBlock ->
   (some g'=v.ownBlock\/g'=w.heap.size+1)->wpList P ops Q rest (a.put o.dst (.slice (some ⟨g',0,none⟩) (n+1) cap')) w') :
  wpList P ops Q (o::rest) a (w.alloc (.cells #[u] te)):=by
 refine wpList_plain hgd fun K hK=>?_
 obtain⟨v',w',hr,h2,h3,h4⟩:=qoq (P:=P) (w.alloc (.cells #[u] te)) base t o.type e i z 1 bytes ht hi hz hsize hby hzs (by decide) v n xs (hown.alloc _) ⟨w.heap.size,0,none⟩ 1 1 [u] rfl (cell_one_new _ _ _)
  (by intro y hy;simp at hy;subst hy;exact h1) h63 hbytes (by simp;omega)
 unfold Oper.wp execOp;simp only[ho,resolve,invoke,builtin,Sem.run_bind,Sem.run_pure,Result.andThen_ok,List.map_toArray,List.map_cons,List.map_nil,hs,hx,hr]
 rcases h2.2 with⟨_,hn⟩|⟨g,cap,cur,fz,rfl,_⟩
 ·omega
 ·refine hK _ _ (h _ _ _ h2 h3 ?_)
  rcases h4 with h4|h4
  ·exact .inl h4
  ·right;simpa[Value.ownBlock]using h4
end
section
variable {P : Program} {w : World}
theorem qiA(w:World)(p:Option Addr)(c:Nat)(src dst e:TypeId)(hs:P.underlying src=some (.slice e))(he:P.underlying e=some (.int .u8))(hd:P.underlying dst=some .string) :
  (convert src dst (.slice p 0 c)).run P w=.ok (S []) w:=by
 rw[run_convert_bytes_string w src dst e p 0 c hs he hd];cases p with
 | none=>rw[<-run_convert_bytes_string w src dst e none 0 c hs he hd];exact run_convert_nil_bytes w src dst e c hs he hd
 | some a =>
  have hl:=run_loadCells_list (P:=P) w a [] (fun j v hj=>by simp at hj);exact run_bytesToString w a 0 c [] hl
theorem qpB{base e:Nat}{A:Option Addr}{n cap k:Nat}{l:List UInt8}(h:OwnM w base e 1 (.slice A n cap) n (l.map B))(src dst:TypeId)
  (hs:P.underlying src=some (.slice e)) (he:P.underlying e=some (.int .u8)) (hd:P.underlying dst=some .string) :
  (convert src dst (.slice (Option.map (fun x=>x.add k) A) (n-k) (cap-k))).run P w=.ok (S (l.drop k)) w:=by
 have hn:l.length=n:=by have:=h.1;simpa using this
 by_cases hk:n<=k
 ·rw[show n-k=0 from by omega,List.drop_of_length_le (by omega)];exact qiA w _ _ src dst e hs he hd
 ·rcases h.2 with⟨hv,h0⟩|⟨g,cap',cur,fz,hv,_⟩
  ·omega
  ·injection hv with hA _ hc
   subst hA hc;have hlen:(l.drop k).length=n-k:=by rw[List.length_drop,hn]
   rw[<-hlen];refine run_convert_bytes_back w src dst e _ _ (l.drop k) hs he hd ?_
   intro j hj
   have hkj:(l.map B)[k+j]?=some (B (l.drop k)[j]):=by
    rw[List.getElem?_map,<-List.getElem?_drop,zG hj];rfl
   have:=h.cells (g:=g) rfl (k+j) _ hkj;rw[<-this]
   congr 1
   unfold Addr.add
   by_cases hk0:k=0 <;> by_cases hj0:j=0 <;> simp[hk0,hj0]
end
theorem qh7(l:List UInt8):strCells ⟨l.toArray⟩=l.map B:=by simp[strCells]
end
section
namespace Pl
structure Tok where
 lit:qa
 far:Int
 len:Int
deriving DecidableEq
def qbY:Nat:=256
def qcP:Nat->Nat->qa->qa
 | 0,_,s=>s
 | n+1,far,s=>qcP n far (s++[s.getD (s.length-far) 0])
theorem qeK:∀(n far:Nat) (s:qa),(qcP n far s).length=s.length+n
 | 0,_,_=>rfl
 | n+1,far,s=>by rw[qcP,qeK];simp;omega
theorem qf3:∀(k far:Nat) (s:qa),qcP (k+1) far s=qcP k far s++[(qcP k far s).getD ((qcP k far s).length-far) 0]
 | 0,_,_=>rfl
 | k+1,far,s=>by rw[qcP,qf3 k far,qcP]
def qw(d:Nat)(s:qa)(lit:Bool)(t:Tok):Nat :=
 if t.lit≠[]then
  if t.far≠0\/t.len≠0\/lit=true then 1 else if 512<t.lit.length+(s.length-d)then 2 else 0
 else if t.len<3\/64<t.len\/t.far<1\/(s.length:Int)<t.far then 1
 else if 512<t.len+((s.length-d:Nat):Int)then 2 else 0
def qbj(s:qa)(t:Tok):qa:=if t.lit≠[]then s++t.lit else qcP t.len.toNat t.far.toNat s
def qcO(t:Tok):Bool:=!t.lit.isEmpty
def qY(d:Nat):qa->Bool->List Tok->qa×Nat
 | s,_,[]=>(s.drop d,0)
 | s,b,t::l=>if qw d s b t≠0 then ([],qw d s b t)else qY d (qbj s t) (qcO t) l
def qF(dict:qa)(l:List Tok):qa×Nat :=
 if qbY<dict.length then ([],2)else qY dict.length dict false l
def qbF(w:qa)(at' far:Nat):Nat->Nat->Nat
 | 0,n=>n
 | f+1,n=>if at'+n<w.length/\w.getD (at'+n) 0=w.getD (at'+n-far) 0 then qbF w at' far f (n+1)else n
def qa4(w:qa)(at' far:Nat):Nat:=qbF w at' far 64 0
def qbT(w:qa)(at':Nat):Nat->Nat×Nat
 | 0=>(0,0)
 | f+1=>if 3<=qa4 w at' (f+1)/\(qbT w at' f).2<qa4 w at' (f+1)then (f+1,qa4 w at' (f+1))else qbT w at' f
def best(w:qa)(at':Nat):Nat×Nat:=qbT w at' at'
def qbD(w:qa)(at':Nat):Nat->Nat×Nat
 | 0=>(0,0)
 | f+1=>if (qbD w at' f).2<qa4 w at' (f+1)then (f+1,qa4 w at' (f+1))else qbD w at' f
theorem qjY(w:qa)(at':Nat):∀f,qbT w at' f=if (qbD w at' f).2<3 then (0,0)else qbD w at' f
 | 0=>by simp[qbT,qbD]
 | f+1=>by
  rw[qbT,qbD,qjY w at' f];generalize qa4 w at' (f+1)=c;obtain⟨x,y⟩:=qbD w at' f
  by_cases h1:y<3 <;> by_cases h2:3<=c
  ·have h3:y<c:=by omega
   have h4:0<c:=by omega
   have h5:¬c<3:=by omega
   simp[h1,h2,h3,h4,h5]
  ·by_cases h3:y<c <;> simp[h1,h2,h3] <;> omega
  ·by_cases h3:y<c
   ·have h5:¬c<3:=by omega
    simp[h1,h2,h3,h5]
   ·simp[h1,h3]
  ·have h3:¬y<c:=by omega
   simp[h1,h3]
theorem qkG(w:qa)(p far:Nat)(hp:p<=w.length):∀f n,p+n<=w.length->n<=qbF w p far f n/\qbF w p far f n<=n+f/\p+qbF w p far f n<=w.length
 | 0,n,h=>⟨Nat.le_refl _,Nat.le_refl _,h⟩
 | f+1,n,h=>by
  rw[qbF]
  by_cases h1:p+n<w.length/\w.getD (p+n) 0=w.getD (p+n-far) 0
  ·rw[if_pos h1];obtain⟨a,b,c⟩:=qkG w p far hp f (n+1) (by omega);exact⟨by omega,by omega,c⟩
  ·rw[if_neg h1];exact⟨Nat.le_refl _,by omega,h⟩
theorem qf8(w:qa)(p far:Nat)(hp:p<=w.length):qa4 w p far<=64/\p+qa4 w p far<=w.length:=by
 obtain⟨_,b,c⟩:=qkG w p far hp 64 0 (by omega);exact⟨by unfold qa4;omega,c⟩
theorem qhU(w:qa)(p:Nat)(hp:p<=w.length):∀f,(qbD w p f).2<=64/\p+(qbD w p f).2<=w.length/\(qbD w p f).1<=f
 | 0=>by simp[qbD];omega
 | f+1=>by
  obtain⟨a,b,c⟩:=qhU w p hp f;rw[qbD]
  by_cases h:(qbD w p f).2<qa4 w p (f+1)
  ·rw[if_pos h];obtain⟨d,e⟩:=qf8 w p (f+1) hp;exact⟨d,e,Nat.le_refl _⟩
  ·rw[if_neg h];exact⟨a,b,by omega⟩
theorem qqE(w:qa)(p:Nat):best w p=if (qbD w p p).2<3 then (0,0)else qbD w p p:=qjY w p p
def qei(b:qa):Tok:=⟨b,0,0⟩
def qdo(far size:Nat):Tok:=⟨[],far,size⟩
def qb9(w:qa)(a b:Nat):List Tok:=if a<b then [qei (slice w a b)]else []
def qbv(w:qa):Nat->Nat->Nat->List Tok
 | 0,at',a=>qb9 w a at'
 | f+1,at',a =>
  if at'<w.length then
   if (best w at').2=0 then qbv w f (at'+1) a
   else qb9 w a at'++qdo (best w at').1 (best w at').2::qbv w f (at'+(best w at').2) (at'+(best w at').2)
  else qb9 w a at'
def qbd(dict text:qa):List Tok:=qbv (dict++text) text.length dict.length dict.length
def qdq(t:Tok):qa:=if t.lit≠[]then nb (2*t.lit.length)++t.lit else nb (2*t.len.toNat+1)++nb t.far.toNat
def qad:List Tok->qa
 | []=>[]
 | t::l=>qdq t++qad l
def write(dict:qa)(l:List Tok):qa×Nat:=if (qF dict l).2≠0 then ([],(qF dict l).2)else (qad l,0)
def qZ(s:qa):Option (Tok×qa) :=
 match take s with
 | none=>none
 | some (n,rest) =>
  if n % 2=0 then
   if rest.length<n / 2 then none else some (⟨rest.take (n / 2),0,0⟩,rest.drop (n / 2))
  else match take rest with
   | none=>none
   | some (f,rest)=>some (⟨[],f,(n / 2:Nat)⟩,rest)
def qcq(d:Nat):Nat->qa->Bool->qa->Option (List Tok)
 | _,_,_,[]=>some []
 | 0,_,_,_::_=>none
 | f+1,m,b,c::s' =>
  match qZ (c::s')with
  | none=>none
  | some (t,rest)=>if qw d m b t≠0 then none else (qcq d f (qbj m t) (qcO t) rest).map (t::·)
def read(dict s:qa):Option (List Tok):=qcq dict.length s.length dict false s
end Pl
end
section
open Go.RowKit Go.Lib Pl
structure Keeps(bad:Obj->Bool)(w w':World):Prop where
 size:w.heap.size<=w'.heap.size
 block:∀(k:Nat) (o:Obj),w.heap[k]?=some o->bad o=false->w'.heap[k]?=some o
section
variable {bad : Obj -> Bool} {a b c : World}
theorem Keeps.refl(bad:Obj->Bool)(w:World):Keeps bad w w:=⟨Nat.le_refl _,fun _ _ h _=>h⟩
theorem Keeps.trans(h:Keeps bad a b)(k:Keeps bad b c):Keeps bad a c:=⟨Nat.le_trans h.size k.size,fun i o hi ho=>k.block i o (h.block i o hi ho) ho⟩
theorem Keeps.drewN(h:Keeps bad a b)(n:Nat):Keeps bad a (b.drewN n):=⟨h.size,h.block⟩
theorem Keeps.alloc(h:Keeps bad a b)(o:Obj):Keeps bad a (b.alloc o) :=
 ⟨Nat.le_trans h.size (by simp),fun i o' hi ho=>by
  have h1:=h.block i o' hi ho;rw[Below.heap_alloc b o i (by rcases Nat.lt_or_ge i b.heap.size with h2|h2;exact h2;rw[Array.getElem?_eq_none h2]at h1;cases h1)];exact h1⟩
theorem Keeps.grown{row:Option Nat}(h:Keeps bad a b)(hg:b.grownBy c row)(hr:∀g,row=some g->∃o,b.heap[g]?=some o/\bad o=true):Keeps bad a c :=
 ⟨Nat.le_trans h.size hg.size,fun i o hi ho=>by
  have h1:=h.block i o hi ho
  have h2:i<b.heap.size:=by
   rcases Nat.lt_or_ge i b.heap.size with h2|h2
   ·exact h2
   ·rw[Array.getElem?_eq_none h2]at h1;cases h1
  rw[hg.block i h2 (fun e=>?_)]
  ·exact h1
  ·obtain⟨o2,h3,h4⟩:=hr i e.symm;rw[h1]at h3;injection h3 with h3;subst h3;rw[ho]at h4;cases h4⟩
theorem Keeps.setCell(h:Keeps bad a b){p:Addr}(u:Value){o:Obj}(hp:b.heap[p.block]?=some o)(hb:bad o=true):Keeps bad a (b.setCell p u) :=
 ⟨by have h1:=h.size;simpa[World.setCell]using h1,fun i o' hi ho=>by
  have h1:=h.block i o' hi ho;rw[Below.heap_setCell b p u i (fun e=>by subst e;rw[hp]at h1;injection h1 with h1;subst h1;rw[ho]at hb;cases hb)];exact h1⟩
theorem Keeps.of_below(h:Below a.heap.size a b):Keeps bad a b :=
 ⟨h.size,fun i o hi _=>by
  have h2:i<a.heap.size:=by
   rcases Nat.lt_or_ge i a.heap.size with h2|h2
   ·exact h2
   ·rw[Array.getElem?_eq_none h2]at hi;cases hi
  rw[h.block i h2];exact hi⟩
theorem Keeps.own{base:Nat}{e:TypeId}{size n:Nat}{v:Value}{xs:List Value}(h:Keeps bad a b)(ho:OwnM a base e size v n xs)(hb:∀cs fz,bad (.cells cs e fz)=false):OwnM b base e size v n xs:=by
 refine⟨ho.1,?_⟩
 rcases ho.2 with hn|⟨g,cap,cur,fz,hv,hbg,hgg,rest⟩
 ·exact .inl hn
 ·exact .inr ⟨g,cap,cur,fz,hv,hbg,h.block g _ hgg (hb _ _),rest⟩
theorem Keeps.ownsRow{base:Nat}{e:TypeId}{size n:Nat}{v:Value}{xs:List Value}(h:Keeps bad a b)(ho:a.ownsRow base e size v n xs)(hb:∀cs fz,bad (.cells cs e fz)=false):b.ownsRow base e size v n xs:=by
 refine⟨ho.1,?_⟩
 rcases ho.2 with hn|⟨g,cap,cur,hv,hbg,hgg,rest⟩
 ·exact .inl hn
 ·exact .inr ⟨g,cap,cur,hv,hbg,h.block g _ hgg (hb _ _),rest⟩
end
def qcQ:Obj->Bool
 | .cells _ t _=>t == 5 || t == 227
 | _=>false
def Mk(w:World)(base M d:Nat)(lit:Bool)(s:qa):Prop :=
 base<=M/\∃A cap,w.heap[M]?=some (.cells #[.slice A s.length cap,.int .i64 d,.bool lit] 227 (0,0))/\OwnM w base 5 1 (.slice A s.length cap) s.length (s.map B)
theorem qd0{w:World}{g:Nat}{cs:Array Value}{t:TypeId}{fz:Nat×Nat}(h:w.heap[g]?=some (.cells cs t fz))(i:Nat)(u:Value) :
  (w.setCell ⟨g,i,none⟩ u).heap[g]?=some (.cells (cs.setIfInBounds i u) t fz):=by
 simp[World.setCell,Array.getElem?_modify,h]
theorem qcj(w:World)(p:Addr)(u:Value):(w.setCell p u).heap.size=w.heap.size:=by simp[World.setCell]
theorem qiK{w:World}{base M n:Nat}{cs:Array Value}{fz:Nat×Nat}{v:Value}{xs:List Value}(hblk:w.heap[M]?=some (.cells cs 227 fz))(hown:OwnM w base 5 1 v n xs):v.ownBlock≠some M:=by
 rcases hown.2 with⟨rfl,_⟩|⟨g,cap,cur,fz',rfl,_,hg,_⟩
 ·simp[Value.ownBlock]
 ·intro e;have:g=M:=by simpa[Value.ownBlock]using e
  subst this;rw[hblk]at hg;injection hg with hg
  injection hg with _ h2
  exact absurd h2 (by decide)
theorem qut{w W w1:World}{base M n:Nat}{cs:Array Value}{fz:Nat×Nat}{v:Value}{xs:List Value}(hblk:w.heap[M]?=some (.cells cs 227 fz))(hown:OwnM w base 5 1 v n xs)
  (hW:Below w.heap.size w W) (hg:W.grownBy w1 v.ownBlock):w1.heap[M]?=some (.cells cs 227 fz):=by
 have hlt:M<w.heap.size:=(zE hblk).1;exact (hg.block M (Nat.lt_of_lt_of_le hlt hW.size) (fun e=>qiK hblk hown e.symm)).trans ((hW.block M hlt).trans hblk)
theorem qfR(w:World)(k:Nat)(o:Obj):Below w.heap.size w ((w.drewN k).alloc o):=(zD (Below.refl _ _) k).alloc (Nat.le_refl _) o
theorem qs7{w W w1 w2:World}{base M d:Nat}{lit lit2:Bool}{A A1:Option Addr}{cap cap1 n1:Nat}{s s1:qa}
  (hbM:base<=M) (hblk:w.heap[M]?=some (.cells #[.slice A s.length cap,.int .i64 d,.bool lit] 227 (0,0))) (hown:OwnM w base 5 1 (.slice A s.length cap) s.length (s.map B))
  (hW:Below w.heap.size w W) (hown1:OwnM w1 base 5 1 (.slice A1 n1 cap1) n1 (s1.map B)) (hg:W.grownBy w1 (Value.ownBlock (.slice A s.length cap)))
  (h2:w2.heap[M]?=some (.cells #[.slice A1 n1 cap1,.int .i64 d,.bool lit2] 227 (0,0))) (h3:∀k,k≠M->w2.heap[k]?=w1.heap[k]?) (h4:w2.heap.size=w1.heap.size)
  (h5:w2.os=w1.os) (h6:w2.tape=w1.tape) (h7:w2.output=w1.output) :
  Mk w2 base M d lit2 s1/\Below base w w2/\Keeps qcQ w w2:=by
 have hn:n1=s1.length:=by have:=hown1.1;simp at this;omega
 subst hn;have hMlt:M<w.heap.size:=(zE hblk).1
 have hm1:w1.heap[M]?=some (.cells #[.slice A s.length cap,.int .i64 d,.bool lit] 227 (0,0)) :=
  (hg.block M (Nat.lt_of_lt_of_le hMlt hW.size) (fun e=>qiK hblk hown e.symm)).trans ((hW.block M hMlt).trans hblk)
 have hfar1:=qiK hm1 hown1;refine⟨⟨hbM,A1,cap1,h2,hown1.kept fun k hk=>h3 k (fun e=>hfar1 (by rw[hk,e]))⟩,⟨?_,?_,?_,?_,?_⟩,⟨?_,?_⟩⟩
 ·rw[h5,hg.os,hW.os]
 ·rw[h6,hg.tape,hW.tape]
 ·rw[h7,hg.output,hW.output]
 ·rw[h4];exact Nat.le_trans hW.size hg.size
 ·intro k hk;rw[h3 k (by omega),hg.block k (Nat.lt_of_lt_of_le (by omega) hW.size) (fun e=>by have:=(hown.lt k e.symm).1;omega),hW.block k (by omega)]
 ·rw[h4];exact Nat.le_trans hW.size hg.size
 ·intro k o ho hbad;have hk:k<w.heap.size:=(zE ho).1
  have hne:k≠M:=fun e=>by
   subst e;rw[hblk]at ho;injection ho with ho;subst ho;simp[qcQ]at hbad
  have hnr:some k≠Value.ownBlock (.slice A s.length cap):=fun e=>by
   rcases hown.2 with⟨hv,_⟩|⟨g,cap',cur,fz,hv,_,hgg,_⟩
   ·rw[hv]at e;simp[Value.ownBlock]at e
   ·rw[hv]at e;have:k=g:=by simpa[Value.ownBlock]using e
    subst this;rw[hgg]at ho;injection ho with ho;subst ho;simp[qcQ]at hbad
  rw[h3 k hne,hg.block k (Nat.lt_of_lt_of_le hk hW.size) hnr,hW.block k hk];exact ho
theorem Mk.alloc{w:World}{base M d:Nat}{lit:Bool}{s:qa}(h:Mk w base M d lit s)(o:Obj):Mk (w.alloc o) base M d lit s:=by
 obtain⟨h1,A,cap,h2,h3⟩:=h;exact⟨h1,A,cap,(Below.heap_alloc w o M (zE h2).1).trans h2,h3.alloc o⟩
theorem Mk.made(w:World)(base:Nat)(dict:qa)(hb:base<=w.heap.size)(hd:dict.length<=9223372036854775807) :
  Mk ((w.drew.alloc (.cells (bytesRow ⟨dict.toArray⟩ (grownCap w dict.length 0 5)) 5 ((bytesRow ⟨dict.toArray⟩ (grownCap w dict.length 0 5)).size,(bytesRow ⟨dict.toArray⟩ (grownCap w dict.length 0 5)).size+1))).alloc
   (.cells #[.slice (some ⟨w.heap.size,0,none⟩) dict.length (grownCap w dict.length 0 5),.int .i64 dict.length,.bool false] 227)) base (w.heap.size+1) dict.length false dict:=by
 have h:=OwnM.bytes w 5 ⟨dict.toArray⟩ base hb (by unfold maxLen;exact hd);rw[qh7]at h;refine⟨by omega,_,_,?_,h.alloc _⟩
 have:=heap_alloc_new (w.drew.alloc (.cells (bytesRow ⟨dict.toArray⟩ (grownCap w dict.length 0 5)) 5 ((bytesRow ⟨dict.toArray⟩ (grownCap w dict.length 0 5)).size,(bytesRow ⟨dict.toArray⟩ (grownCap w dict.length 0 5)).size+1)))
  (.cells #[.slice (some ⟨w.heap.size,0,none⟩) dict.length (grownCap w dict.length 0 5),.int .i64 dict.length,.bool false] 227)
 have e:(w.drew.alloc (.cells (bytesRow ⟨dict.toArray⟩ (grownCap w dict.length 0 5)) 5 ((bytesRow ⟨dict.toArray⟩ (grownCap w dict.length 0 5)).size,(bytesRow ⟨dict.toArray⟩ (grownCap w dict.length 0 5)).size+1))).heap.size=w.heap.size+1:=by
  simp[World.alloc,World.drew,-World.alloc_eq,-World.drew_eq]
 rw[e]at this;exact this
abbrev qwK(t:Tok):Value:=.agg #[S t.lit,I t.far,I t.len]
end
end Go.Proofs.YtbnmfdlaabdlhaaGreatDoor
namespace Go.Proofs
open Go.Shelf
def Tryz.lays169_ren:Go.Shelf.Ren:=⟨fun|169=>13|n=>n,fun|70=>36|9=>9|0=>0|72=>39|37=>37|127=>70|3=>3|5=>5|n=>n,fun|n=>n⟩
theorem Tryz.lays169:Go.Proofs.Lays.n169 Tryz.prog Tryz.lays169_ren:={
 mixed:=by kernel_rfl
 f169:=Tryz.func13.trans (congrArg some (by kernel_rfl))
 t0:=Tryz.underlying0
 a0:=Tryz.isAgg0
 z0:=Tryz.sizeOf0
 v0:=Tryz.zeroValue0
 t3:=Tryz.underlying3
 a3:=Tryz.isAgg3
 z3:=Tryz.sizeOf3
 v3:=Tryz.zeroValue3
 t9:=Tryz.underlying9
 a9:=Tryz.isAgg9
 z9:=Tryz.sizeOf9
 v9:=Tryz.zeroValue9
 t37:=Tryz.underlying37
 a37:=Tryz.isAgg37
 z37:=Tryz.sizeOf37
 v37:=Tryz.zeroValue37
 t70:=Tryz.underlying36
 a70:=Tryz.isAgg36
 z70:=Tryz.sizeOf36
 v70:=Tryz.zeroValue36
 t72:=Tryz.underlying39
 a72:=Tryz.isAgg39
 z72:=Tryz.sizeOf39
 v72:=Tryz.zeroValue39
 t127:=Tryz.underlying70
 a127:=Tryz.isAgg70
 z127:=Tryz.sizeOf70
 v127:=Tryz.zeroValue70 }
theorem Tryz.Builder_Extra_169:Builder.Extra Tryz.prog Tryz.lays169_ren:={
 sizeBuilder:=by kernel_rfl
 liesBuilder:=by kernel_rfl
 t5:=Tryz.underlying5
 a5:=Tryz.isAgg5
 z5:=Tryz.sizeOf5
 v5:=Tryz.zeroValue5
 infoByte:=by kernel_rfl
 cellsByte:=by kernel_rfl
 sizeByte:=by kernel_rfl
 neB5:=by decide }
open Go.RowKit in
theorem Tryz.Builder_String_any(B b:Nat)(l:List UInt8)(w:World)(h:Lib.IsBuilder 39 5 B b (Lib.byteCells l) w)(hBw:B<=w.heap.size) :
  Calls Tryz.prog 13 #[.pointer (some ⟨b,0,none⟩)] w fun e w'=>e=.returned (.string ⟨l.toArray⟩)/\Below B w w':=Any.Builder_String_any Tryz.lays169 Tryz.Builder_Extra_169 B b l w h hBw
def Tryz.lays156_ren:Go.Shelf.Ren:=⟨fun|156=>80|165=>125|166=>10|169=>13|240=>21|241=>158|276=>48|277=>188|n=>n,fun|31=>30|9=>9|3=>3|4=>4|0=>0|20=>20|72=>39|76=>45|70=>36|37=>37|75=>44|127=>70|164=>79|5=>5|80=>49|n=>n,fun|n=>n⟩
theorem Tryz.lays156:Go.Proofs.Lays.n156 Tryz.prog Tryz.lays156_ren:={
 mixed:=by kernel_rfl
 f156:=Tryz.func80.trans (congrArg some (by kernel_rfl))
 f165:=Tryz.func125.trans (congrArg some (by kernel_rfl))
 f166:=Tryz.func10.trans (congrArg some (by kernel_rfl))
 f169:=Tryz.func13.trans (congrArg some (by kernel_rfl))
 f240:=Tryz.func21.trans (congrArg some (by kernel_rfl))
 f241:=Tryz.func158.trans (congrArg some (by kernel_rfl))
 f276:=Tryz.func48.trans (congrArg some (by kernel_rfl))
 f277:=Tryz.func188.trans (congrArg some (by kernel_rfl))
 t0:=Tryz.underlying0
 a0:=Tryz.isAgg0
 z0:=Tryz.sizeOf0
 v0:=Tryz.zeroValue0
 t3:=Tryz.underlying3
 a3:=Tryz.isAgg3
 z3:=Tryz.sizeOf3
 v3:=Tryz.zeroValue3
 t4:=Tryz.underlying4
 a4:=Tryz.isAgg4
 z4:=Tryz.sizeOf4
 v4:=Tryz.zeroValue4
 t9:=Tryz.underlying9
 a9:=Tryz.isAgg9
 z9:=Tryz.sizeOf9
 v9:=Tryz.zeroValue9
 t20:=Tryz.underlying20
 a20:=Tryz.isAgg20
 z20:=Tryz.sizeOf20
 v20:=Tryz.zeroValue20
 t31:=Tryz.underlying30
 a31:=Tryz.isAgg30
 z31:=Tryz.sizeOf30
 v31:=Tryz.zeroValue30
 t37:=Tryz.underlying37
 a37:=Tryz.isAgg37
 z37:=Tryz.sizeOf37
 v37:=Tryz.zeroValue37
 t70:=Tryz.underlying36
 a70:=Tryz.isAgg36
 z70:=Tryz.sizeOf36
 v70:=Tryz.zeroValue36
 t72:=Tryz.underlying39
 a72:=Tryz.isAgg39
 z72:=Tryz.sizeOf39
 v72:=Tryz.zeroValue39
 t75:=Tryz.underlying44
 a75:=Tryz.isAgg44
 z75:=Tryz.sizeOf44
 v75:=Tryz.zeroValue44
 t76:=Tryz.underlying45
 a76:=Tryz.isAgg45
 z76:=Tryz.sizeOf45
 v76:=Tryz.zeroValue45
 t127:=Tryz.underlying70
 a127:=Tryz.isAgg70
 z127:=Tryz.sizeOf70
 v127:=Tryz.zeroValue70
 t164:=Tryz.underlying79
 a164:=Tryz.isAgg79
 z164:=Tryz.sizeOf79
 v164:=Tryz.zeroValue79 }
theorem Tryz.Builder_Extra_156:Builder.Extra Tryz.prog Tryz.lays156_ren:={
 sizeBuilder:=by kernel_rfl
 liesBuilder:=by kernel_rfl
 t5:=Tryz.underlying5
 a5:=Tryz.isAgg5
 z5:=Tryz.sizeOf5
 v5:=Tryz.zeroValue5
 infoByte:=by kernel_rfl
 cellsByte:=by kernel_rfl
 sizeByte:=by kernel_rfl
 neB5:=by decide }
open Go.RowKit in
theorem Tryz.strings_Join_none(a:Option Addr)(c:Nat)(sep:ByteArray)(w:World) :
  Calls Tryz.prog 80 #[.slice a 0 c,.string sep] w fun e w'=>e=.returned (.string ⟨#[]⟩)/\w'=w:=Any.strings_Join_none Tryz.lays156 Tryz.Builder_Extra_156 a c sep w
open Go.RowKit in
theorem Tryz.strings_Join(bk o c:Nat)(xs:List ByteArray)(sep:ByteArray)(w:World)(hcells:∀(j:Nat) x,xs[j]?=some x->w.cell? ⟨bk,o+j,none⟩=some (.string x))(hbk:bk<w.heap.size)(hN:xs.length<=140737488355328)(hcap:xs.length<=c)(hlen:(Lib.join (xs.map (·.data.toList)) sep.data.toList).length<=140737488355328) :
  Calls Tryz.prog 80 #[.slice (some ⟨bk,o,none⟩) xs.length c,.string sep] w fun e w'=>e=.returned (.string ⟨(Lib.join (xs.map (·.data.toList)) sep.data.toList).toArray⟩)/\Below w.heap.size w w':=Any.strings_Join Tryz.lays156 Tryz.Builder_Extra_156 bk o c xs sep w hcells hbk hN hcap hlen
def Tryz.lays137_ren:Go.Shelf.Ren:=⟨fun|137=>20|217=>47|266=>78|n=>n,fun|9=>9|5=>5|3=>3|n=>n,fun|n=>n⟩
theorem Tryz.lays137:Go.Proofs.Lays.n137 Tryz.prog Tryz.lays137_ren:={
 mixed:=by kernel_rfl
 f137:=Tryz.func20.trans (congrArg some (by kernel_rfl))
 f217:=Tryz.func47.trans (congrArg some (by kernel_rfl))
 f266:=Tryz.func78.trans (congrArg some (by kernel_rfl))
 t3:=Tryz.underlying3
 a3:=Tryz.isAgg3
 z3:=Tryz.sizeOf3
 v3:=Tryz.zeroValue3
 t5:=Tryz.underlying5
 a5:=Tryz.isAgg5
 z5:=Tryz.sizeOf5
 v5:=Tryz.zeroValue5
 t9:=Tryz.underlying9
 a9:=Tryz.isAgg9
 z9:=Tryz.sizeOf9
 v9:=Tryz.zeroValue9 }
open Go.RowKit in
theorem Tryz.strings_IndexByte(s:ByteArray)(c:Int)(w:World) :
  Calls Tryz.prog 20 #[.string s,.int .u8 c] w fun e w'=>e=.returned (.int .i64 (Lib.indexByte s.data.toList c.toNat.toUInt8))/\w'=w:=Any.strings_IndexByte Tryz.lays137 s c w
def Tryz.lays103_ren:Go.Shelf.Ren:=⟨fun|103=>85|210=>127|206=>159|n=>n,fun|9=>9|4=>4|24=>85|3=>3|n=>n,fun|n=>n⟩
theorem Tryz.lays103:Go.Proofs.Lays.n103 Tryz.prog Tryz.lays103_ren:={
 mixed:=by kernel_rfl
 f103:=Tryz.func85.trans (congrArg some (by kernel_rfl))
 f206:=Tryz.func159.trans (congrArg some (by kernel_rfl))
 f210:=Tryz.func127.trans (congrArg some (by kernel_rfl))
 t3:=Tryz.underlying3
 a3:=Tryz.isAgg3
 z3:=Tryz.sizeOf3
 v3:=Tryz.zeroValue3
 t4:=Tryz.underlying4
 a4:=Tryz.isAgg4
 z4:=Tryz.sizeOf4
 v4:=Tryz.zeroValue4
 t9:=Tryz.underlying9
 a9:=Tryz.isAgg9
 z9:=Tryz.sizeOf9
 v9:=Tryz.zeroValue9
 t24:=Tryz.underlying85
 a24:=Tryz.isAgg85
 z24:=Tryz.sizeOf85
 v24:=Tryz.zeroValue85 }
open Go.RowKit in
theorem Tryz.strings_CutPrefix(s p:ByteArray)(w:World) :
  Calls Tryz.prog 85 #[.string s,.string p] w fun e w'=>e=.returned (.tuple #[.string ⟨(Lib.trimPrefix s.data.toList p.data.toList).toArray⟩,.bool (Lib.hasPrefix s.data.toList p.data.toList)])/\w'=w:=Any.strings_CutPrefix Tryz.lays103 s p w
def Tryz.lays122_ren:Go.Shelf.Ren:=⟨fun|122=>146|215=>176|n=>n,fun|3=>3|4=>4|n=>n,fun|n=>n⟩
theorem Tryz.lays122:Go.Proofs.Lays.n122 Tryz.prog Tryz.lays122_ren:={
 mixed:=by kernel_rfl
 f122:=Tryz.func146.trans (congrArg some (by kernel_rfl))
 f215:=Tryz.func176.trans (congrArg some (by kernel_rfl))
 t3:=Tryz.underlying3
 a3:=Tryz.isAgg3
 z3:=Tryz.sizeOf3
 v3:=Tryz.zeroValue3
 t4:=Tryz.underlying4
 a4:=Tryz.isAgg4
 z4:=Tryz.sizeOf4
 v4:=Tryz.zeroValue4 }
open Go.RowKit in
theorem Tryz.cmp_Compare_int(x y:Int)(w:World) :
  Calls Tryz.prog 146 #[.int .i64 x,.int .i64 y] w fun e w'=>e=.returned (.int .i64 (Lib.compareInt x y))/\w'=w:=Any.cmp_Compare_int Tryz.lays122 x y w
def Tryz.laysM171_ren:Go.Shelf.Ren:=⟨fun|171=>23|243=>49|246=>79|283=>121|284=>122|285=>123|286=>124|129=>154|317=>153|318=>155|319=>156|320=>157|337=>186|338=>187|n=>n,fun|3=>3|9=>9|2=>2|4=>4|171=>138|0=>0|53=>139|37=>37|5=>5|173=>142|212=>176|51=>135|20=>20|213=>177|46=>98|232=>238|233=>239|n=>n,fun|17=>1|18=>4|19=>5|n=>n⟩
theorem Tryz.laysM171:Go.Proofs.LaysM.n171 Tryz.prog Tryz.laysM171_ren:={
 mixed:=by kernel_rfl
 f129:=Tryz.func154.trans (congrArg some (by kernel_rfl))
 f171:=Tryz.func23.trans (congrArg some (by kernel_rfl))
 f243:=Tryz.func49.trans (congrArg some (by kernel_rfl))
 f246:=Tryz.func79.trans (congrArg some (by kernel_rfl))
 f283:=Tryz.func121.trans (congrArg some (by kernel_rfl))
 f284:=Tryz.func122.trans (congrArg some (by kernel_rfl))
 f285:=Tryz.func123.trans (congrArg some (by kernel_rfl))
 f286:=Tryz.func124.trans (congrArg some (by kernel_rfl))
 f317:=Tryz.func153.trans (congrArg some (by kernel_rfl))
 f318:=Tryz.func155.trans (congrArg some (by kernel_rfl))
 f319:=Tryz.func156.trans (congrArg some (by kernel_rfl))
 f320:=Tryz.func157.trans (congrArg some (by kernel_rfl))
 f337:=Tryz.func186.trans (congrArg some (by kernel_rfl))
 f338:=Tryz.func187.trans (congrArg some (by kernel_rfl))
 t0:=Tryz.underlying0
 a0:=Tryz.isAgg0
 z0:=Tryz.sizeOf0
 v0:=Tryz.zeroValue0
 t2:=Tryz.underlying2
 a2:=Tryz.isAgg2
 z2:=Tryz.sizeOf2
 v2:=Tryz.zeroValue2
 t3:=Tryz.underlying3
 a3:=Tryz.isAgg3
 z3:=Tryz.sizeOf3
 v3:=Tryz.zeroValue3
 t4:=Tryz.underlying4
 a4:=Tryz.isAgg4
 z4:=Tryz.sizeOf4
 v4:=Tryz.zeroValue4
 t5:=Tryz.underlying5
 a5:=Tryz.isAgg5
 z5:=Tryz.sizeOf5
 v5:=Tryz.zeroValue5
 t9:=Tryz.underlying9
 a9:=Tryz.isAgg9
 z9:=Tryz.sizeOf9
 v9:=Tryz.zeroValue9
 t20:=Tryz.underlying20
 a20:=Tryz.isAgg20
 z20:=Tryz.sizeOf20
 v20:=Tryz.zeroValue20
 t37:=Tryz.underlying37
 a37:=Tryz.isAgg37
 z37:=Tryz.sizeOf37
 v37:=Tryz.zeroValue37
 t46:=Tryz.underlying98
 a46:=Tryz.isAgg98
 z46:=Tryz.sizeOf98
 v46:=Tryz.zeroValue98
 t51:=Tryz.underlying135
 a51:=Tryz.isAgg135
 z51:=Tryz.sizeOf135
 v51:=Tryz.zeroValue135
 t53:=Tryz.underlying139
 a53:=Tryz.isAgg139
 z53:=Tryz.sizeOf139
 v53:=Tryz.zeroValue139
 t171:=Tryz.underlying138
 a171:=Tryz.isAgg138
 z171:=Tryz.sizeOf138
 v171:=Tryz.zeroValue138
 t173:=Tryz.underlying142
 a173:=Tryz.isAgg142
 z173:=Tryz.sizeOf142
 v173:=Tryz.zeroValue142
 t212:=Tryz.underlying176
 a212:=Tryz.isAgg176
 z212:=Tryz.sizeOf176
 v212:=Tryz.zeroValue176
 t213:=Tryz.underlying177
 a213:=Tryz.isAgg177
 z213:=Tryz.sizeOf177
 t232:=Tryz.underlying238
 a232:=Tryz.isAgg238
 z232:=Tryz.sizeOf238
 v232:=Tryz.zeroValue238
 t233:=Tryz.underlying239
 a233:=Tryz.isAgg239
 z233:=Tryz.sizeOf239
 v233:=Tryz.zeroValue239
 g17:=by kernel_rfl
 g18:=by kernel_rfl
 g19:=by kernel_rfl
 i0:=by kernel_rfl
 i2:=by kernel_rfl
 i3:=by kernel_rfl
 i4:=by kernel_rfl
 i5:=by kernel_rfl
 i9:=by kernel_rfl
 i20:=by kernel_rfl
 i37:=by kernel_rfl
 i46:=by kernel_rfl
 i51:=by kernel_rfl
 i53:=by kernel_rfl
 i171:=by kernel_rfl
 i173:=by kernel_rfl
 i212:=by kernel_rfl
 i232:=by kernel_rfl
 i233:=by kernel_rfl
 m17:=by kernel_rfl
 m18:=by kernel_rfl
 m19:=by kernel_rfl }
open Go.RowKit Go.Sort Go.Lib in
theorem Tryz.strconv_Itoa(n:Int)(h0 : -9223372036854775808<=n)(h1:n<=9223372036854775807)(w:World)(htab:Lib.TabIs Tryz.prog w "internal/strconv.uint64pow10" .u64 Lib.pow10Tab) :
  Calls Tryz.prog 23 #[.int .i64 n] w fun e w'=>e=.returned (.string ⟨(Lib.itoa n).toArray⟩)/\∃k os,w'=grow (w.drewN k) os:=Any.strconv_Itoa Tryz.laysM171 n h0 h1 w htab
def Tryz.laysC172_ren:Go.Shelf.Ren:=⟨fun|172=>63|244=>104|245=>105|247=>136|279=>137|280=>138|281=>139|282=>140|287=>168|316=>169|171=>23|205=>170|321=>197|322=>198|243=>49|246=>79|283=>121|284=>122|285=>123|286=>124|129=>154|317=>153|318=>155|319=>156|320=>157|337=>186|338=>187|n=>n,fun|9=>9|3=>3|75=>44|76=>45|4=>4|5=>5|167=>157|37=>37|0=>0|85=>158|2=>2|168=>160|53=>139|175=>194|46=>98|210=>197|127=>70|145=>224|143=>222|21=>21|171=>138|173=>142|212=>176|51=>135|20=>20|213=>177|232=>238|233=>239|80=>49|n=>n,fun|15=>2|16=>3|17=>1|18=>4|19=>5|n=>n⟩
theorem Tryz.laysC172:Go.Proofs.LaysC.n172 Tryz.prog Tryz.laysC172_ren:={
 mixed:=by kernel_rfl
 f129:=Tryz.func154.trans (congrArg some (by kernel_rfl))
 f171:=Tryz.func23.trans (congrArg some (by kernel_rfl))
 f172:=Tryz.func63.trans (congrArg some (by kernel_rfl))
 f205:=Tryz.func170.trans (congrArg some (by kernel_rfl))
 f243:=Tryz.func49.trans (congrArg some (by kernel_rfl))
 f244:=Tryz.func104.trans (congrArg some (by kernel_rfl))
 f245:=Tryz.func105.trans (congrArg some (by kernel_rfl))
 f246:=Tryz.func79.trans (congrArg some (by kernel_rfl))
 f247:=Tryz.func136.trans (congrArg some (by kernel_rfl))
 f279:=Tryz.func137.trans (congrArg some (by kernel_rfl))
 f280:=Tryz.func138.trans (congrArg some (by kernel_rfl))
 f281:=Tryz.func139.trans (congrArg some (by kernel_rfl))
 f282:=Tryz.func140.trans (congrArg some (by kernel_rfl))
 f283:=Tryz.func121.trans (congrArg some (by kernel_rfl))
 f284:=Tryz.func122.trans (congrArg some (by kernel_rfl))
 f285:=Tryz.func123.trans (congrArg some (by kernel_rfl))
 f286:=Tryz.func124.trans (congrArg some (by kernel_rfl))
 f287:=Tryz.func168.trans (congrArg some (by kernel_rfl))
 f316:=Tryz.func169.trans (congrArg some (by kernel_rfl))
 f317:=Tryz.func153.trans (congrArg some (by kernel_rfl))
 f318:=Tryz.func155.trans (congrArg some (by kernel_rfl))
 f319:=Tryz.func156.trans (congrArg some (by kernel_rfl))
 f320:=Tryz.func157.trans (congrArg some (by kernel_rfl))
 f321:=Tryz.func197.trans (congrArg some (by kernel_rfl))
 f322:=Tryz.func198.trans (congrArg some (by kernel_rfl))
 f337:=Tryz.func186.trans (congrArg some (by kernel_rfl))
 f338:=Tryz.func187.trans (congrArg some (by kernel_rfl))
 t0:=Tryz.underlying0
 a0:=Tryz.isAgg0
 z0:=Tryz.sizeOf0
 v0:=Tryz.zeroValue0
 t2:=Tryz.underlying2
 a2:=Tryz.isAgg2
 z2:=Tryz.sizeOf2
 v2:=Tryz.zeroValue2
 t3:=Tryz.underlying3
 a3:=Tryz.isAgg3
 z3:=Tryz.sizeOf3
 v3:=Tryz.zeroValue3
 t4:=Tryz.underlying4
 a4:=Tryz.isAgg4
 z4:=Tryz.sizeOf4
 v4:=Tryz.zeroValue4
 t5:=Tryz.underlying5
 a5:=Tryz.isAgg5
 z5:=Tryz.sizeOf5
 v5:=Tryz.zeroValue5
 t9:=Tryz.underlying9
 a9:=Tryz.isAgg9
 z9:=Tryz.sizeOf9
 v9:=Tryz.zeroValue9
 t20:=Tryz.underlying20
 a20:=Tryz.isAgg20
 z20:=Tryz.sizeOf20
 v20:=Tryz.zeroValue20
 t21:=Tryz.underlying21
 a21:=Tryz.isAgg21
 z21:=Tryz.sizeOf21
 v21:=Tryz.zeroValue21
 t37:=Tryz.underlying37
 a37:=Tryz.isAgg37
 z37:=Tryz.sizeOf37
 v37:=Tryz.zeroValue37
 t46:=Tryz.underlying98
 a46:=Tryz.isAgg98
 z46:=Tryz.sizeOf98
 v46:=Tryz.zeroValue98
 t51:=Tryz.underlying135
 a51:=Tryz.isAgg135
 z51:=Tryz.sizeOf135
 v51:=Tryz.zeroValue135
 t53:=Tryz.underlying139
 a53:=Tryz.isAgg139
 z53:=Tryz.sizeOf139
 v53:=Tryz.zeroValue139
 t75:=Tryz.underlying44
 a75:=Tryz.isAgg44
 z75:=Tryz.sizeOf44
 v75:=Tryz.zeroValue44
 t76:=Tryz.underlying45
 a76:=Tryz.isAgg45
 z76:=Tryz.sizeOf45
 v76:=Tryz.zeroValue45
 t85:=Tryz.underlying158
 a85:=Tryz.isAgg158
 z85:=Tryz.sizeOf158
 v85:=Tryz.zeroValue158
 t127:=Tryz.underlying70
 a127:=Tryz.isAgg70
 z127:=Tryz.sizeOf70
 v127:=Tryz.zeroValue70
 t143:=Tryz.underlying222
 a143:=Tryz.isAgg222
 z143:=Tryz.sizeOf222
 v143:=Tryz.zeroValue222
 t145:=Tryz.underlying224
 a145:=Tryz.isAgg224
 z145:=Tryz.sizeOf224
 v145:=Tryz.zeroValue224
 t167:=Tryz.underlying157
 a167:=Tryz.isAgg157
 z167:=Tryz.sizeOf157
 v167:=Tryz.zeroValue157
 t168:=Tryz.underlying160
 a168:=Tryz.isAgg160
 z168:=Tryz.sizeOf160
 v168:=Tryz.zeroValue160
 t171:=Tryz.underlying138
 a171:=Tryz.isAgg138
 z171:=Tryz.sizeOf138
 v171:=Tryz.zeroValue138
 t173:=Tryz.underlying142
 a173:=Tryz.isAgg142
 z173:=Tryz.sizeOf142
 v173:=Tryz.zeroValue142
 t175:=Tryz.underlying194
 a175:=Tryz.isAgg194
 z175:=Tryz.sizeOf194
 v175:=Tryz.zeroValue194
 t210:=Tryz.underlying197
 a210:=Tryz.isAgg197
 z210:=Tryz.sizeOf197
 v210:=Tryz.zeroValue197
 t212:=Tryz.underlying176
 a212:=Tryz.isAgg176
 z212:=Tryz.sizeOf176
 v212:=Tryz.zeroValue176
 t213:=Tryz.underlying177
 a213:=Tryz.isAgg177
 z213:=Tryz.sizeOf177
 t232:=Tryz.underlying238
 a232:=Tryz.isAgg238
 z232:=Tryz.sizeOf238
 v232:=Tryz.zeroValue238
 t233:=Tryz.underlying239
 a233:=Tryz.isAgg239
 z233:=Tryz.sizeOf239
 v233:=Tryz.zeroValue239
 g15:=by kernel_rfl
 g16:=by kernel_rfl
 g17:=by kernel_rfl
 g18:=by kernel_rfl
 g19:=by kernel_rfl
 t80:=Tryz.underlying49
 a80:=Tryz.isAgg49
 z80:=Tryz.sizeOf49
 v80:=Tryz.zeroValue49
 i0:=by kernel_rfl
 i2:=by kernel_rfl
 i3:=by kernel_rfl
 i4:=by kernel_rfl
 i5:=by kernel_rfl
 i9:=by kernel_rfl
 i20:=by kernel_rfl
 i21:=by kernel_rfl
 i37:=by kernel_rfl
 i46:=by kernel_rfl
 i51:=by kernel_rfl
 i53:=by kernel_rfl
 i75:=by kernel_rfl
 i76:=by kernel_rfl
 i80:=by kernel_rfl
 i85:=by kernel_rfl
 i127:=by kernel_rfl
 i143:=by kernel_rfl
 i145:=by kernel_rfl
 i167:=by kernel_rfl
 i168:=by kernel_rfl
 i171:=by kernel_rfl
 i173:=by kernel_rfl
 i175:=by kernel_rfl
 i210:=by kernel_rfl
 i212:=by kernel_rfl
 i232:=by kernel_rfl
 i233:=by kernel_rfl
 m15:=by kernel_rfl
 m16:=by kernel_rfl
 m17:=by kernel_rfl
 m18:=by kernel_rfl
 m19:=by kernel_rfl
 c0:=by kernel_rfl
 c2:=by kernel_rfl
 c3:=by kernel_rfl
 c4:=by kernel_rfl
 c5:=by kernel_rfl
 c9:=by kernel_rfl
 c20:=by kernel_rfl
 c21:=by kernel_rfl
 c37:=by kernel_rfl
 c46:=by kernel_rfl
 c51:=by kernel_rfl
 c53:=by kernel_rfl
 c75:=by kernel_rfl
 c76:=by kernel_rfl
 c80:=by kernel_rfl
 c85:=by kernel_rfl
 c127:=by kernel_rfl
 c143:=by kernel_rfl
 c145:=by kernel_rfl
 c167:=by kernel_rfl
 c168:=by kernel_rfl
 c171:=by kernel_rfl
 c173:=by kernel_rfl
 c175:=by kernel_rfl
 c210:=by kernel_rfl
 c212:=by kernel_rfl
 c213:=by kernel_rfl
 c232:=by kernel_rfl
 c233:=by kernel_rfl }
open Go.RowKit in
theorem Tryz.strconv_Atoi_ok(s:ByteArray)(hmax:s.size<=9223372036854775806)(v:Int)(h:Lib.atoiAll s.data.toList=.ok v)(w:World) :
  Calls Tryz.prog 63 #[.string s] w fun e w'=>e=.returned (.tuple #[.int .i64 v,.nilIface])/\(w'=w\/∃t,w'=Lib.bytesWorld w 5 t):=Any.strconv_Atoi_ok Tryz.laysC172 s hmax v h w
open Go.RowKit in
theorem Tryz.strconv_Atoi_syntax(s:ByteArray)(hlim:s.size<=281474976710656)(h:Lib.atoiAll s.data.toList=Lib.atoiAll [])(ev:Value)(w:World)(hv:w.cell? ⟨2,0,none⟩=some ev)(hev:ev=.nilIface\/∃te pe,ev=.iface te pe) :
  Calls Tryz.prog 63 #[.string s] w fun e w'=>∃N,e=.returned (.tuple #[.int .i64 (0),.iface 160 (.pointer (some ⟨N,0,none⟩))])/\w.heap.size<=N/\w'.heap[N]?=some (.cells #[.string ⟨#[65,116,111,105]⟩,.string s,ev] 197 (0,0))/\Below w.heap.size w w':=Any.strconv_Atoi_syntax Tryz.laysC172 s hlim h ev w hv hev
open Go.RowKit in
theorem Tryz.strconv_Atoi_range(s:ByteArray)(hlim:s.size<=281474976710656)(h:Lib.atoiAll s.data.toList=.range)(ev:Value)(w:World)(hv:w.cell? ⟨3,0,none⟩=some ev)(hev:ev=.nilIface\/∃te pe,ev=.iface te pe) :
  Calls Tryz.prog 63 #[.string s] w fun e w'=>∃N,e=.returned (.tuple #[.int .i64 (Lib.atoiSat s.data.toList),.iface 160 (.pointer (some ⟨N,0,none⟩))])/\w.heap.size<=N/\w'.heap[N]?=some (.cells #[.string ⟨#[65,116,111,105]⟩,.string s,ev] 197 (0,0))/\Below w.heap.size w w':=Any.strconv_Atoi_range Tryz.laysC172 s hlim h ev w hv hev
def Tryz.lays144_ren:Go.Shelf.Ren:=⟨fun|144=>30|143=>17|219=>46|217=>47|225=>75|224=>76|267=>77|266=>78|314=>120|n=>n,fun|9=>9|4=>4|3=>3|5=>5|46=>98|146=>136|51=>135|n=>n,fun|1=>0|n=>n⟩
theorem Tryz.lays144:Go.Proofs.Lays.n144 Tryz.prog Tryz.lays144_ren:={
 mixed:=by kernel_rfl
 f143:=Tryz.func17.trans (congrArg some (by kernel_rfl))
 f144:=Tryz.func30.trans (congrArg some (by kernel_rfl))
 f217:=Tryz.func47.trans (congrArg some (by kernel_rfl))
 f219:=Tryz.func46.trans (congrArg some (by kernel_rfl))
 f224:=Tryz.func76.trans (congrArg some (by kernel_rfl))
 f225:=Tryz.func75.trans (congrArg some (by kernel_rfl))
 f266:=Tryz.func78.trans (congrArg some (by kernel_rfl))
 f267:=Tryz.func77.trans (congrArg some (by kernel_rfl))
 f314:=Tryz.func120.trans (congrArg some (by kernel_rfl))
 t3:=Tryz.underlying3
 a3:=Tryz.isAgg3
 z3:=Tryz.sizeOf3
 v3:=Tryz.zeroValue3
 t4:=Tryz.underlying4
 a4:=Tryz.isAgg4
 z4:=Tryz.sizeOf4
 v4:=Tryz.zeroValue4
 t5:=Tryz.underlying5
 a5:=Tryz.isAgg5
 z5:=Tryz.sizeOf5
 v5:=Tryz.zeroValue5
 t9:=Tryz.underlying9
 a9:=Tryz.isAgg9
 z9:=Tryz.sizeOf9
 v9:=Tryz.zeroValue9
 t46:=Tryz.underlying98
 a46:=Tryz.isAgg98
 z46:=Tryz.sizeOf98
 v46:=Tryz.zeroValue98
 t51:=Tryz.underlying135
 a51:=Tryz.isAgg135
 z51:=Tryz.sizeOf135
 v51:=Tryz.zeroValue135
 t146:=Tryz.underlying136
 a146:=Tryz.isAgg136
 z146:=Tryz.sizeOf136
 v146:=Tryz.zeroValue136
 g1:=by kernel_rfl }
open Go.RowKit Go.Lib in
theorem Tryz.strings_Contains(s sub:ByteArray)(m:Int)(w:World)(hs:s.size<4294967281)(hm:w.cell? ⟨0,0,none⟩=some (.int .i64 m)) :
  Calls Tryz.prog 30 #[.string s,.string sub] w fun e w'=>e=.returned (.bool (Lib.contains s.data.toList sub.data.toList))/\w'=w:=Any.strings_Contains Tryz.lays144 s sub m w hs hm
def Tryz.lays145_ren:Go.Shelf.Ren:=⟨fun|145=>24|220=>50|219=>46|217=>47|225=>75|224=>76|267=>77|266=>78|314=>120|n=>n,fun|9=>9|4=>4|59=>58|3=>3|5=>5|46=>98|146=>136|51=>135|n=>n,fun|1=>0|n=>n⟩
theorem Tryz.lays145:Go.Proofs.Lays.n145 Tryz.prog Tryz.lays145_ren:={
 mixed:=by kernel_rfl
 f145:=Tryz.func24.trans (congrArg some (by kernel_rfl))
 f217:=Tryz.func47.trans (congrArg some (by kernel_rfl))
 f219:=Tryz.func46.trans (congrArg some (by kernel_rfl))
 f220:=Tryz.func50.trans (congrArg some (by kernel_rfl))
 f224:=Tryz.func76.trans (congrArg some (by kernel_rfl))
 f225:=Tryz.func75.trans (congrArg some (by kernel_rfl))
 f266:=Tryz.func78.trans (congrArg some (by kernel_rfl))
 f267:=Tryz.func77.trans (congrArg some (by kernel_rfl))
 f314:=Tryz.func120.trans (congrArg some (by kernel_rfl))
 t3:=Tryz.underlying3
 a3:=Tryz.isAgg3
 z3:=Tryz.sizeOf3
 v3:=Tryz.zeroValue3
 t4:=Tryz.underlying4
 a4:=Tryz.isAgg4
 z4:=Tryz.sizeOf4
 v4:=Tryz.zeroValue4
 t5:=Tryz.underlying5
 a5:=Tryz.isAgg5
 z5:=Tryz.sizeOf5
 v5:=Tryz.zeroValue5
 t9:=Tryz.underlying9
 a9:=Tryz.isAgg9
 z9:=Tryz.sizeOf9
 v9:=Tryz.zeroValue9
 t46:=Tryz.underlying98
 a46:=Tryz.isAgg98
 z46:=Tryz.sizeOf98
 v46:=Tryz.zeroValue98
 t51:=Tryz.underlying135
 a51:=Tryz.isAgg135
 z51:=Tryz.sizeOf135
 v51:=Tryz.zeroValue135
 t59:=Tryz.underlying58
 a59:=Tryz.isAgg58
 z59:=Tryz.sizeOf58
 v59:=Tryz.zeroValue58
 t146:=Tryz.underlying136
 a146:=Tryz.isAgg136
 z146:=Tryz.sizeOf136
 v146:=Tryz.zeroValue136
 g1:=by kernel_rfl }
open Go.RowKit Go.Lib in
theorem Tryz.strings_Cut(s sep:ByteArray)(m:Int)(w:World)(hs:s.size<4294967281)(hm:w.cell? ⟨0,0,none⟩=some (.int .i64 m)) :
  Calls Tryz.prog 24 #[.string s,.string sep] w fun e w'=>e=.returned (.tuple #[.string ⟨(Lib.cut s.data.toList sep.data.toList).1.toArray⟩,.string ⟨(Lib.cut s.data.toList sep.data.toList).2.1.toArray⟩,.bool (Lib.cut s.data.toList sep.data.toList).2.2])/\∃n,w'=w.drewN n:=Any.strings_Cut Tryz.lays145 s sep m w hs hm
def Tryz.lays138_ren:Go.Shelf.Ren:=⟨fun|138=>7|195=>15|218=>16|143=>17|219=>46|217=>47|225=>75|224=>76|267=>77|266=>78|314=>120|n=>n,fun|9=>9|3=>3|4=>4|5=>5|0=>0|46=>98|146=>136|51=>135|n=>n,fun|1=>0|n=>n⟩
theorem Tryz.lays138:Go.Proofs.Lays.n138 Tryz.prog Tryz.lays138_ren:={
 mixed:=by kernel_rfl
 f138:=Tryz.func7.trans (congrArg some (by kernel_rfl))
 f143:=Tryz.func17.trans (congrArg some (by kernel_rfl))
 f195:=Tryz.func15.trans (congrArg some (by kernel_rfl))
 f217:=Tryz.func47.trans (congrArg some (by kernel_rfl))
 f218:=Tryz.func16.trans (congrArg some (by kernel_rfl))
 f219:=Tryz.func46.trans (congrArg some (by kernel_rfl))
 f224:=Tryz.func76.trans (congrArg some (by kernel_rfl))
 f225:=Tryz.func75.trans (congrArg some (by kernel_rfl))
 f266:=Tryz.func78.trans (congrArg some (by kernel_rfl))
 f267:=Tryz.func77.trans (congrArg some (by kernel_rfl))
 f314:=Tryz.func120.trans (congrArg some (by kernel_rfl))
 t0:=Tryz.underlying0
 a0:=Tryz.isAgg0
 z0:=Tryz.sizeOf0
 v0:=Tryz.zeroValue0
 t3:=Tryz.underlying3
 a3:=Tryz.isAgg3
 z3:=Tryz.sizeOf3
 v3:=Tryz.zeroValue3
 t4:=Tryz.underlying4
 a4:=Tryz.isAgg4
 z4:=Tryz.sizeOf4
 v4:=Tryz.zeroValue4
 t5:=Tryz.underlying5
 a5:=Tryz.isAgg5
 z5:=Tryz.sizeOf5
 v5:=Tryz.zeroValue5
 t9:=Tryz.underlying9
 a9:=Tryz.isAgg9
 z9:=Tryz.sizeOf9
 v9:=Tryz.zeroValue9
 t46:=Tryz.underlying98
 a46:=Tryz.isAgg98
 z46:=Tryz.sizeOf98
 v46:=Tryz.zeroValue98
 t51:=Tryz.underlying135
 a51:=Tryz.isAgg135
 z51:=Tryz.sizeOf135
 v51:=Tryz.zeroValue135
 t146:=Tryz.underlying136
 a146:=Tryz.isAgg136
 z146:=Tryz.sizeOf136
 v146:=Tryz.zeroValue136
 g1:=by kernel_rfl }
open Go.RowKit Go.Lib in
theorem Tryz.strings_Count_one(s:ByteArray)(c:UInt8)(w:World) :
  Calls Tryz.prog 7 #[.string s,.string ⟨#[c]⟩] w fun e w'=>e=.returned (.int .i64 (Lib.countByte s.data.toList c))/\w'=w:=Any.strings_Count_one Tryz.lays138 s c w
def Tryz.lays189_ren:Go.Shelf.Ren:=⟨fun|189=>194|125=>175|257=>217|128=>209|129=>154|294=>237|295=>238|296=>239|297=>240|298=>241|299=>242|216=>243|300=>244|301=>245|328=>252|329=>222|330=>223|331=>253|332=>254|215=>176|343=>258|n=>n,fun|28=>145|3=>3|46=>98|0=>0|51=>135|53=>139|4=>4|183=>231|182=>230|131=>91|5=>5|9=>9|218=>247|222=>251|228=>272|229=>187|n=>n,fun|n=>n⟩
theorem Tryz.lays189:Go.Proofs.Lays.n189 Tryz.prog Tryz.lays189_ren:={
 mixed:=by kernel_rfl
 f125:=Tryz.func175.trans (congrArg some (by kernel_rfl))
 f128:=Tryz.func209.trans (congrArg some (by kernel_rfl))
 f129:=Tryz.func154.trans (congrArg some (by kernel_rfl))
 f189:=Tryz.func194.trans (congrArg some (by kernel_rfl))
 f215:=Tryz.func176.trans (congrArg some (by kernel_rfl))
 f216:=Tryz.func243.trans (congrArg some (by kernel_rfl))
 f257:=Tryz.func217.trans (congrArg some (by kernel_rfl))
 f294:=Tryz.func237.trans (congrArg some (by kernel_rfl))
 f295:=Tryz.func238.trans (congrArg some (by kernel_rfl))
 f296:=Tryz.func239.trans (congrArg some (by kernel_rfl))
 f297:=Tryz.func240.trans (congrArg some (by kernel_rfl))
 f298:=Tryz.func241.trans (congrArg some (by kernel_rfl))
 f299:=Tryz.func242.trans (congrArg some (by kernel_rfl))
 f300:=Tryz.func244.trans (congrArg some (by kernel_rfl))
 f301:=Tryz.func245.trans (congrArg some (by kernel_rfl))
 f328:=Tryz.func252.trans (congrArg some (by kernel_rfl))
 f329:=Tryz.func222.trans (congrArg some (by kernel_rfl))
 f330:=Tryz.func223.trans (congrArg some (by kernel_rfl))
 f331:=Tryz.func253.trans (congrArg some (by kernel_rfl))
 f332:=Tryz.func254.trans (congrArg some (by kernel_rfl))
 f343:=Tryz.func258.trans (congrArg some (by kernel_rfl))
 t0:=Tryz.underlying0
 a0:=Tryz.isAgg0
 z0:=Tryz.sizeOf0
 v0:=Tryz.zeroValue0
 t3:=Tryz.underlying3
 a3:=Tryz.isAgg3
 z3:=Tryz.sizeOf3
 v3:=Tryz.zeroValue3
 t4:=Tryz.underlying4
 a4:=Tryz.isAgg4
 z4:=Tryz.sizeOf4
 v4:=Tryz.zeroValue4
 t5:=Tryz.underlying5
 a5:=Tryz.isAgg5
 z5:=Tryz.sizeOf5
 v5:=Tryz.zeroValue5
 t9:=Tryz.underlying9
 a9:=Tryz.isAgg9
 z9:=Tryz.sizeOf9
 v9:=Tryz.zeroValue9
 t28:=Tryz.underlying145
 a28:=Tryz.isAgg145
 z28:=Tryz.sizeOf145
 v28:=Tryz.zeroValue145
 t46:=Tryz.underlying98
 a46:=Tryz.isAgg98
 z46:=Tryz.sizeOf98
 v46:=Tryz.zeroValue98
 t51:=Tryz.underlying135
 a51:=Tryz.isAgg135
 z51:=Tryz.sizeOf135
 v51:=Tryz.zeroValue135
 t53:=Tryz.underlying139
 a53:=Tryz.isAgg139
 z53:=Tryz.sizeOf139
 v53:=Tryz.zeroValue139
 t131:=Tryz.underlying91
 a131:=Tryz.isAgg91
 z131:=Tryz.sizeOf91
 v131:=Tryz.zeroValue91
 t182:=Tryz.underlying230
 a182:=Tryz.isAgg230
 z182:=Tryz.sizeOf230
 v182:=Tryz.zeroValue230
 t183:=Tryz.underlying231
 a183:=Tryz.isAgg231
 z183:=Tryz.sizeOf231
 v183:=Tryz.zeroValue231
 t218:=Tryz.underlying247
 a218:=Tryz.isAgg247
 z218:=Tryz.sizeOf247
 v218:=Tryz.zeroValue247
 t222:=Tryz.underlying251
 a222:=Tryz.isAgg251
 z222:=Tryz.sizeOf251
 v222:=Tryz.zeroValue251
 t228:=Tryz.underlying272
 a228:=Tryz.isAgg272
 z228:=Tryz.sizeOf272
 v228:=Tryz.zeroValue272
 t229:=Tryz.underlying187
 a229:=Tryz.isAgg187
 z229:=Tryz.sizeOf187
 v229:=Tryz.zeroValue187 }
open Go.Sort Go.RowKit in
theorem Tryz.slices_Sort_int(blk off cap:Nat)(zs:List Int)(w:World)(hH:Holds (Value.int .i64) w blk off zs.toArray)(hblk:blk<w.heap.size)(hsz:zs.length<4611686018427387904) :
  Calls Tryz.prog 194 #[.slice (some ⟨blk,off,none⟩) zs.length cap] w fun e w' =>
   e=.returned (.tuple #[])/\∃n os,w'=grow (putRow (Value.int .i64) (Sort.ahead w n) blk off (zs.mergeSort fun x y=>decide (x<=y)).toArray) os:=Any.slices_Sort_int Tryz.lays189 blk off cap zs w hH hblk hsz
def Tryz.lays100_ren:Go.Shelf.Ren:=⟨fun|100=>8|207=>18|n=>n,fun|9=>9|4=>4|3=>3|n=>n,fun|n=>n⟩
theorem Tryz.lays100:Go.Proofs.Lays.n100 Tryz.prog Tryz.lays100_ren:={
 mixed:=by kernel_rfl
 f100:=Tryz.func8.trans (congrArg some (by kernel_rfl))
 f207:=Tryz.func18.trans (congrArg some (by kernel_rfl))
 t3:=Tryz.underlying3
 a3:=Tryz.isAgg3
 z3:=Tryz.sizeOf3
 v3:=Tryz.zeroValue3
 t4:=Tryz.underlying4
 a4:=Tryz.isAgg4
 z4:=Tryz.sizeOf4
 v4:=Tryz.zeroValue4
 t9:=Tryz.underlying9
 a9:=Tryz.isAgg9
 z9:=Tryz.sizeOf9
 v9:=Tryz.zeroValue9 }
open Go.RowKit Go.Lib in
theorem Tryz.strings_HasSuffix(s p:ByteArray)(w:World)(hs:s.size<=9223372036854775807) :
  Calls Tryz.prog 8 #[.string s,.string p] w fun e w'=>e=.returned (.bool (Lib.hasSuffix s.data.toList p.data.toList))/\w'=w:=Any.strings_HasSuffix Tryz.lays100 s p w hs
def Tryz.lays102_ren:Go.Shelf.Ren:=⟨fun|102=>12|209=>36|207=>18|n=>n,fun|9=>9|4=>4|3=>3|n=>n,fun|n=>n⟩
theorem Tryz.lays102:Go.Proofs.Lays.n102 Tryz.prog Tryz.lays102_ren:={
 mixed:=by kernel_rfl
 f102:=Tryz.func12.trans (congrArg some (by kernel_rfl))
 f207:=Tryz.func18.trans (congrArg some (by kernel_rfl))
 f209:=Tryz.func36.trans (congrArg some (by kernel_rfl))
 t3:=Tryz.underlying3
 a3:=Tryz.isAgg3
 z3:=Tryz.sizeOf3
 v3:=Tryz.zeroValue3
 t4:=Tryz.underlying4
 a4:=Tryz.isAgg4
 z4:=Tryz.sizeOf4
 v4:=Tryz.zeroValue4
 t9:=Tryz.underlying9
 a9:=Tryz.isAgg9
 z9:=Tryz.sizeOf9
 v9:=Tryz.zeroValue9 }
open Go.RowKit Go.Lib in
theorem Tryz.strings_TrimSuffix(s p:ByteArray)(w:World)(hs:s.size<=9223372036854775807) :
  Calls Tryz.prog 12 #[.string s,.string p] w fun e w'=>e=.returned (.string ⟨(Lib.trimSuffix s.data.toList p.data.toList).toArray⟩)/\w'=w:=Any.strings_TrimSuffix Tryz.lays102 s p w hs
open Go.RowKit Go.Lib in
open Go.RowKit Go.Lib in
open Go.RowKit Go.Lib in
def Tryz.lays113_ren:Go.Shelf.Ren:=⟨fun|113=>214|n=>n,fun|28=>145|3=>3|4=>4|9=>9|20=>20|0=>0|n=>n,fun|n=>n⟩
theorem Tryz.lays113:Go.Proofs.Lays.n113 Tryz.prog Tryz.lays113_ren:={
 mixed:=by kernel_rfl
 f113:=Tryz.func214.trans (congrArg some (by kernel_rfl))
 t0:=Tryz.underlying0
 a0:=Tryz.isAgg0
 z0:=Tryz.sizeOf0
 v0:=Tryz.zeroValue0
 t3:=Tryz.underlying3
 a3:=Tryz.isAgg3
 z3:=Tryz.sizeOf3
 v3:=Tryz.zeroValue3
 t4:=Tryz.underlying4
 a4:=Tryz.isAgg4
 z4:=Tryz.sizeOf4
 v4:=Tryz.zeroValue4
 t9:=Tryz.underlying9
 a9:=Tryz.isAgg9
 z9:=Tryz.sizeOf9
 v9:=Tryz.zeroValue9
 t20:=Tryz.underlying20
 a20:=Tryz.isAgg20
 z20:=Tryz.sizeOf20
 v20:=Tryz.zeroValue20
 t28:=Tryz.underlying145
 a28:=Tryz.isAgg145
 z28:=Tryz.sizeOf145
 v28:=Tryz.zeroValue145 }
open Go.Lib in
theorem Tryz.slices_Max_int(b off n c:Nat)(zs:List Int)(w:World)(hn:0<n)(hz:n<=zs.length)(hbig:n<=9223372036854775807)(hc:∀j,j<zs.length->w.cell? ⟨b,off+j,none⟩=some (.int .i64 (zs.getD j 0))) :
  Calls Tryz.prog 214 #[.slice (some ⟨b,off,none⟩) n c] w fun e w'=>e=.returned (.int .i64 (Lib.maxOf (zs.take n)))/\w'=w:=Any.slices_Max_int Tryz.lays113 b off n c zs w hn hz hbig hc
def Tryz.lays114_ren:Go.Shelf.Ren:=⟨fun|114=>213|n=>n,fun|28=>145|3=>3|4=>4|9=>9|20=>20|0=>0|n=>n,fun|n=>n⟩
theorem Tryz.lays114:Go.Proofs.Lays.n114 Tryz.prog Tryz.lays114_ren:={
 mixed:=by kernel_rfl
 f114:=Tryz.func213.trans (congrArg some (by kernel_rfl))
 t0:=Tryz.underlying0
 a0:=Tryz.isAgg0
 z0:=Tryz.sizeOf0
 v0:=Tryz.zeroValue0
 t3:=Tryz.underlying3
 a3:=Tryz.isAgg3
 z3:=Tryz.sizeOf3
 v3:=Tryz.zeroValue3
 t4:=Tryz.underlying4
 a4:=Tryz.isAgg4
 z4:=Tryz.sizeOf4
 v4:=Tryz.zeroValue4
 t9:=Tryz.underlying9
 a9:=Tryz.isAgg9
 z9:=Tryz.sizeOf9
 v9:=Tryz.zeroValue9
 t20:=Tryz.underlying20
 a20:=Tryz.isAgg20
 z20:=Tryz.sizeOf20
 v20:=Tryz.zeroValue20
 t28:=Tryz.underlying145
 a28:=Tryz.isAgg145
 z28:=Tryz.sizeOf145
 v28:=Tryz.zeroValue145 }
open Go.Lib in
theorem Tryz.slices_Min_int(b off n c:Nat)(zs:List Int)(w:World)(hn:0<n)(hz:n<=zs.length)(hbig:n<=9223372036854775807)(hc:∀j,j<zs.length->w.cell? ⟨b,off+j,none⟩=some (.int .i64 (zs.getD j 0))) :
  Calls Tryz.prog 213 #[.slice (some ⟨b,off,none⟩) n c] w fun e w'=>e=.returned (.int .i64 (Lib.minOf (zs.take n)))/\w'=w:=Any.slices_Min_int Tryz.lays114 b off n c zs w hn hz hbig hc
def Tryz.laysNm216_ren:Go.Shelf.Ren:=⟨fun|16=>96|n=>n,fun|24=>30|9=>9|4=>4|n=>n,fun|n=>n⟩
theorem Tryz.laysNm216:Go.Proofs.Lays2.n16 Tryz.prog Tryz.laysNm216_ren:={
 mixed:=by kernel_rfl
 f16:=Tryz.func96.trans (congrArg some (by kernel_rfl))
 t4:=Tryz.underlying4
 a4:=Tryz.isAgg4
 z4:=Tryz.sizeOf4
 v4:=Tryz.zeroValue4
 t9:=Tryz.underlying9
 a9:=Tryz.isAgg9
 z9:=Tryz.sizeOf9
 v9:=Tryz.zeroValue9
 t24:=Tryz.underlying30
 a24:=Tryz.isAgg30
 z24:=Tryz.sizeOf30
 v24:=Tryz.zeroValue30
 i9:=by kernel_rfl }
open Go.RowKit Go.Lib in
theorem Tryz.slices_Clone_string(b off n c:Nat)(zs:List ByteArray)(w:World)(hz:n<=zs.length)(hbig:n*16<=140737488355328)(hc:∀j,j<zs.length->w.cell? ⟨b,off+j,none⟩=some (.string (zs.getD j ByteArray.empty))) :
  Calls Tryz.prog 96 #[.slice (some ⟨b,off,none⟩) n c] w fun e w'=>∃v',e=.returned v'/\w'.ownsRow w.heap.size 9 1 v' n ((zs.take n).map (Value.string))/\v'≠.slice none 0 0/\Below w.heap.size w w':=Any.slices_Clone_string Tryz.laysNm216 b off n c zs w hz hbig hc
open Go.RowKit Go.Lib in
theorem Tryz.slices_Clone_string_nil(n c:Nat)(w:World) :
  Calls Tryz.prog 96 #[.slice none n c] w fun e w'=>e=.returned (.slice none 0 0)/\w'=w:=Any.slices_Clone_string_nil Tryz.laysNm216 n c w
open Go.RowKit Go.Lib in
theorem Tryz.slices_Clone_string_zero(a:Addr)(c:Nat)(w:World) :
  Calls Tryz.prog 96 #[.slice (some a) 0 c] w fun e w'=>∃v',e=.returned v'/\w'.ownsRow w.heap.size 9 1 v' 0 []/\v'≠.slice none 0 0/\Below w.heap.size w w':=Any.slices_Clone_string_zero Tryz.laysNm216 a c w
end Go.Proofs
namespace Go.Proofs.YtbnmfdlaabdlhaaGreatDoor
section
namespace Pl
def qK(p:qa):qa->Bool
 | []=>p.isEmpty
 | c::t=>p.isPrefixOf (c::t) || qK p t
theorem qc0(p:qa):∀t:qa,qK p t=true↔∃a b,t=a++p++b
 | []=>by
  simp only[qK,List.isEmpty_iff];constructor
  ·rintro rfl;exact⟨[],[],rfl⟩
  ·rintro⟨a,b,h⟩;have:=congrArg List.length h;simp at this;exact List.eq_nil_of_length_eq_zero (by omega)
 | c::t=>by
  simp only[qK,Bool.or_eq_true,List.isPrefixOf_iff_prefix];rw[qc0 p t];constructor
  ·rintro (⟨b,h⟩|⟨a,b,h⟩)
   ·exact⟨[],b,by simp[h]⟩
   ·exact⟨c::a,b,by simp[h]⟩
  ·rintro⟨a,b,h⟩;cases a with
   | nil=>exact .inl ⟨b,by simpa using h.symm⟩
   | cons d a =>
    simp at h;exact .inr ⟨a,b,by simp[h.2]⟩
theorem qqQ{p t:qa}(x:qa)(h:qK p t=true):qK p (x++t)=true:=by
 obtain⟨a,b,rfl⟩:=(qc0 p t).1 h;exact (qc0 p _).2 ⟨x++a,b,by simp⟩
theorem qpz(p t:qa):qK p (p++t)=true:=(qc0 p _).2 ⟨[],t,by simp⟩
def qft(t:qa)(k:Nat):qa:=slice t k (k+4)
def qu(t:qa):List qa:=(List.range (t.length-3)).map (qft t)
theorem qgF{t:qa}{k:Nat}(h:k<t.length-3):(qft t k).length=4:=by unfold qft;rw[qbU];omega
theorem qgn{t:qa}{k:Nat}(h:k<t.length-3):(qu t)[k]?=some (qft t k):=by unfold qu;rw[List.getElem?_map,List.getElem?_range h];rfl
theorem qgm(t:qa):(qu t).length=t.length-3:=by simp[qu]
theorem qjA{t:qa}{a b:Nat}(h:a<=b):t=t.take a++slice t a b++t.drop b:=by
 unfold slice
 have h1:t.take a++(t.take b).drop a=t.take b:=by
  have:t.take a=(t.take b).take a:=by rw[List.take_take,Nat.min_eq_left h]
  rw[this,List.take_append_drop]
 rw[h1,List.take_append_drop]
theorem qgt{p t:qa}(hp:p.length=4):p∈qu t↔qK p t=true:=by
 rw[qc0];unfold qu;simp only[List.mem_map,List.mem_range];constructor
 ·rintro⟨k,hk,rfl⟩;exact⟨t.take k,t.drop (k+4),qjA (by omega)⟩
 ·rintro⟨a,b,rfl⟩;refine⟨a.length,by simp;omega,?_⟩;unfold qft slice;have:a.length+4=(a++p).length:=by simp[hp]
  rw[this,List.take_left' rfl,List.drop_left' rfl]
theorem qgs{p t:qa}(h:p∈qu t):p.length=4:=by
 unfold qu at h;simp only[List.mem_map,List.mem_range]at h;obtain⟨k,hk,rfl⟩:=h;exact qgF hk
def cnt(l:List qa)(p:qa):Nat:=(l.filter (qK p)).length
def qag(l:List qa):List qa:=l.flatMap qu
theorem qvJ{l:List qa}{p:qa}(hp:p.length=4):0<cnt l p↔p∈qag l:=by
 unfold cnt qag;rw[List.length_pos_iff_exists_mem];simp only[List.mem_filter,List.mem_flatMap];constructor
 ·rintro⟨t,h1,h2⟩;exact⟨t,h1,(qgt hp).2 h2⟩
 ·rintro⟨t,h1,h2⟩;exact⟨t,h1,(qgt hp).1 h2⟩
theorem qo8(l:List qa)(p:qa):cnt l p<=l.length:=List.length_filter_le _ _
theorem qbi{l:List qa}{p:qa}(h:p∈qag l):p.length=4:=by
 unfold qag at h;obtain⟨t,_,ht⟩:=List.mem_flatMap.1 h;exact qgs ht
def qs:qa->qa->Bool
 | _,[]=>false
 | [],_::_=>true
 | a::x,b::y=>a<b || (a == b && qs x y)
theorem qaj:∀a:qa,qs a a=false
 | []=>rfl
 | a::x=>by
  have:¬a<a:=by rw[UInt8.lt_iff_toNat_lt];omega
  simp[qs,qaj x,this]
theorem qcG:∀{a b c:qa},qs a b=true->qs b c=true->qs a c=true
 | _,_,[],_,h2=>by cases ‹qa› <;> simp[qs]at h2
 | _,[],_::_,h1,_=>by cases ‹qa› <;> simp[qs]at h1
 | [],_::_,_::_,_,_=>rfl
 | a::x,b::y,c::z,h1,h2=>by
  simp only[qs,Bool.or_eq_true,decide_eq_true_eq,Bool.and_eq_true,beq_iff_eq]at h1 h2 ⊢;simp only[UInt8.lt_iff_toNat_lt]at h1 h2 ⊢
  rcases h1 with h1|⟨rfl,h1⟩
  ·rcases h2 with h2|⟨rfl,h2⟩
   ·exact .inl (by omega)
   ·exact .inl h1
  ·rcases h2 with h2|⟨rfl,h2⟩
   ·exact .inl h2
   ·exact .inr ⟨rfl,qcG h1 h2⟩
theorem qej:∀{a b:qa},qs a b=false->qs b a=false->a=b
 | [],[],_,_=>rfl
 | [],_::_,h,_=>by simp[qs]at h
 | _::_,[],_,h=>by simp[qs]at h
 | a::x,b::y,h1,h2=>by
  simp only[qs,Bool.or_eq_false_iff,decide_eq_false_iff_not,Bool.and_eq_false_iff]at h1 h2;simp only[UInt8.lt_iff_toNat_lt]at h1 h2;obtain⟨h1,h3⟩:=h1;obtain⟨h2,h4⟩:=h2;have e:a=b:=by apply UInt8.toNat_inj.1;omega
  subst e
  rcases h3 with h3|h3
  ·simp at h3
  ·rcases h4 with h4|h4
   ·simp at h4
   ·rw[qej h3 h4]
def qbp(a b:qa×Nat):Bool:=decide (b.2<a.2) || (a.2 == b.2 && qs a.1 b.1)
theorem qik(a:qa×Nat):qbp a a=false:=by simp[qbp,qaj]
theorem qfe{a b c:qa×Nat}(h1:qbp a b=true)(h2:qbp b c=true):qbp a c=true:=by
 simp only[qbp,Bool.or_eq_true,decide_eq_true_eq,Bool.and_eq_true,beq_iff_eq]at h1 h2 ⊢
 rcases h1 with h1|⟨e1,h1⟩
 ·rcases h2 with h2|⟨e2,h2⟩
  ·exact .inl (by omega)
  ·exact .inl (by omega)
 ·rcases h2 with h2|⟨e2,h2⟩
  ·exact .inl (by omega)
  ·exact .inr ⟨by omega,qcG h1 h2⟩
theorem qi3{a b:qa×Nat}(h1:qbp a b=false)(h2:qbp b a=false):a=b:=by
 simp only[qbp,Bool.or_eq_false_iff,decide_eq_false_iff_not,Bool.and_eq_false_iff]at h1 h2;obtain⟨x,n⟩:=a;obtain⟨y,m⟩:=b;simp only at h1 h2;have e:n=m:=by omega
 subst e;have h3:qs x y=false:=by rcases h1.2 with h|h;simp at h;exact h
 have h4:qs y x=false:=by rcases h2.2 with h|h;simp at h;exact h
 rw[qej h3 h4]
def qcl(size:Nat):qa->List qa->qa
 | dict,[]=>dict
 | dict,p::c=>if size<dict.length+4 then dict else if qK p dict then qcl size dict c else qcl size (p++dict) c
structure Cands(l:List qa)(c:List qa):Prop where
 mem:∀p,p∈c↔p∈qag l/\1<cnt l p
 sorted:c.Pairwise fun a b=>qbp (a,cnt l a) (b,cnt l b)=true
def qbO(l:List qa)(dict:qa)(b:qa×Nat)(p:qa):qa×Nat :=
 if ((b.2<cnt l p)\/(cnt l p=b.2/\1<cnt l p/\qs p b.1=true))/\qK p dict=false then (p,cnt l p)else b
def qep(l:List qa)(dict:qa)(ps:List qa):qa×Nat:=ps.foldl (qbO l dict) ([],1)
def qcw(l:List qa)(size:Nat):Nat->qa->qa
 | 0,dict=>dict
 | f+1,dict=>if dict.length+4<=size then (if (qep l dict (qag l)).1=[]then dict else qcw l size f ((qep l dict (qag l)).1++dict))else dict
def qi6(l:List qa)(dict:qa)(ps:List qa)(b:qa×Nat):Prop :=
 (b=([],1)/\∀q∈ps,1<cnt l q->qK q dict=true) \/
 (b.1∈ps/\b.2=cnt l b.1/\1<b.2/\qK b.1 dict=false/\∀q∈ps,1<cnt l q->qK q dict=false->q=b.1\/qbp b (q,cnt l q)=true)
theorem qpT{l:List qa}{dict:qa}{ps:List qa}{b:qa×Nat}(h:qi6 l dict ps b)(p:qa)(hne:p≠[]):qi6 l dict (ps++[p]) (qbO l dict b p):=by
 unfold qbO
 by_cases hc:((b.2<cnt l p)\/(cnt l p=b.2/\1<cnt l p/\qs p b.1=true))/\qK p dict=false
 ·rw[if_pos hc];obtain⟨hc,hs⟩:=hc;right
  rcases h with⟨rfl,h⟩|⟨h1,h2,h3,h4,h5⟩
  ·have hp:1<cnt l p:=by rcases hc with hc|hc <;> simp at hc <;> omega
   refine⟨by simp,rfl,hp,hs,fun q hq hq1 hq2=>?_⟩
   rcases List.mem_append.1 hq with hq|hq
   ·rw[h q hq hq1]at hq2;cases hq2
   ·exact .inl (by simpa using hq)
  ·have hp:1<cnt l p:=by rcases hc with hc|hc <;> omega
   have hb:qbp (p,cnt l p) b=true:=by
    simp only[qbp,Bool.or_eq_true,decide_eq_true_eq,Bool.and_eq_true,beq_iff_eq]
    rcases hc with hc|⟨hc,_,hl⟩
    ·exact .inl hc
    ·exact .inr ⟨hc,hl⟩
   refine⟨by simp,rfl,hp,hs,fun q hq hq1 hq2=>?_⟩
   rcases List.mem_append.1 hq with hq|hq
   ·rcases h5 q hq hq1 hq2 with e|h6
    ·right;rw[e];have:(b.1,cnt l b.1)=b:=by rw[<-h2]
     rw[this];exact hb
    ·exact .inr (qfe hb h6)
   ·exact .inl (by simpa using hq)
 ·rw[if_neg hc]
  rcases h with⟨rfl,h⟩|⟨h1,h2,h3,h4,h5⟩
  ·left;refine⟨rfl,fun q hq hq1=>?_⟩
   rcases List.mem_append.1 hq with hq|hq
   ·exact h q hq hq1
   ·have hq:q=p:=by simpa using hq
    subst hq;cases hs:qK q dict with
    | true=>rfl
    | false=>exact absurd ⟨.inl hq1,hs⟩ hc
  ·right;refine⟨by simp[h1],h2,h3,h4,fun q hq hq1 hq2=>?_⟩
   rcases List.mem_append.1 hq with hq|hq
   ·exact h5 q hq hq1 hq2
   ·have hq:q=p:=by simpa using hq
    subst hq
    by_cases e:q=b.1
    ·exact .inl e
    ·right;have hn:¬(b.2<cnt l q\/(cnt l q=b.2/\1<cnt l q/\qs q b.1=true)):=fun h=>hc ⟨h,hq2⟩;simp only[not_or,not_and]at hn;simp only[qbp,Bool.or_eq_true,decide_eq_true_eq,Bool.and_eq_true,beq_iff_eq]
     by_cases h6:cnt l q<b.2
     ·exact .inl h6
     ·have h7:b.2=cnt l q:=by omega
      refine .inr ⟨h7,?_⟩;have h8:=hn.2 h7.symm hq1;cases h9:qs b.1 q with
      | true=>rfl
      | false=>exact absurd (qej (by simpa using h8) h9) e
theorem qgL(l:List qa)(dict:qa)(ps:List qa)(hne:∀p∈ps,p≠[]):qi6 l dict ps (qep l dict ps):=by
 have key:∀(ps done:List qa) (b:qa×Nat),(∀p∈ps,p≠[])->qi6 l dict done b->qi6 l dict (done++ps) (ps.foldl (qbO l dict) b):=by
  intro ps
  induction ps with
  | nil=>intro done b _ h;simpa using h
  | cons p ps ih =>
   intro done b hn h;have:=ih (done++[p]) _ (fun q hq=>hn q (by simp[hq])) (qpT h p (hn p (by simp)));simpa using this
 have:=key ps [] ([],1) hne (.inl ⟨rfl,by simp⟩);unfold qep;simpa using this
theorem qnl{l c:List qa}(size:Nat)(hc:Cands l c):∀(f:Nat) (dict:qa) (done rest:List qa),c=done++rest->(∀p∈done,qK p dict=true)->size<dict.length+4+4*f ->
  qcw l size f dict=qcl size dict rest:=by
 intro f
 induction f with
 | zero =>
  intro dict done rest h1 h2 h3;rw[qcw];cases rest with
  | nil=>rfl
  | cons p rest=>rw[qcl,if_pos (by omega)]
 | succ f ih =>
  intro dict done rest
  induction rest generalizing done with
  | nil =>
   intro h1 h2 h3;rw[qcw,qcl];have hb:=qgL l dict (qag l) (fun p hp e=>by have:=qbi hp;rw[e]at this;simp at this)
   rcases hb with⟨hb,_⟩|⟨h4,h5,h6,h7,_⟩
   ·rw[hb];simp
   ·have hm:=(hc.mem (qep l dict (qag l)).1).2 ⟨h4,by omega⟩;rw[h1,List.append_nil]at hm;rw[h2 _ hm]at h7;cases h7
  | cons p rest ih2 =>
   intro h1 h2 h3
   by_cases hz:size<dict.length+4
   ·rw[qcw,qcl,if_pos hz,if_neg (by omega)]
   ·by_cases hs:qK p dict=true
    ·rw[qcl,if_neg hz,if_pos hs]
     exact ih2 (done++[p]) (by rw[h1];simp) (fun q hq=>by
      rcases List.mem_append.1 hq with hq|hq
      ·exact h2 q hq
      ·have:q=p:=by simpa using hq
       rw[this];exact hs) h3
    ·rw[qcl,if_neg hz,if_neg hs,qcw,if_pos (by omega)];have hs:qK p dict=false:=by simpa using hs
     have hpc:=(hc.mem p).1 (by rw[h1];simp);have hpl:=qbi hpc.1;have hb:=qgL l dict (qag l) (fun p hp e=>by have:=qbi hp;rw[e]at this;simp at this)
     have hbe:(qep l dict (qag l)).1=p:=by
      rcases hb with⟨_,h4⟩|⟨h4,h5,h6,h7,h8⟩
      ·rw[h4 p hpc.1 hpc.2]at hs;cases hs
      ·have hm:=(hc.mem (qep l dict (qag l)).1).2 ⟨h4,by omega⟩;rw[h1]at hm
       rcases List.mem_append.1 hm with hm|hm
       ·rw[h2 _ hm]at h7;cases h7
       ·rcases List.mem_cons.1 hm with hm|hm
        ·exact hm
        ·have hsrt:=hc.sorted;rw[h1,List.pairwise_append,List.pairwise_cons]at hsrt;have h9:=hsrt.2.1.1 _ hm
         rcases h8 p hpc.1 hpc.2 hs with e|h10
         ·exact e.symm
         ·rw[<-h5]at h9;have:=qfe h9 h10;rw[qik]at this;cases this
     rw[hbe,if_neg (by intro e;rw[e]at hpl;simp at hpl)]
     exact ih (p++dict) (done++[p]) rest (by rw[h1];simp) (fun q hq=>by
      rcases List.mem_append.1 hq with hq|hq
      ·exact qqQ p (h2 q hq)
      ·have:q=p:=by simpa using hq
       rw[this];exact qpz p dict) (by simp[hpl];omega)
theorem qsh{l c:List qa}{size f:Nat}(hc:Cands l c)(hf:size<4+4*f):qcw l size f []=qcl size [] c :=
 qnl size hc f [] [] c rfl (by simp) (by simpa using hf)
def big(t:qa):Bool:=decide (512<t.length)
def qc8(l:List qa):Bool:=decide (12<l.length) || l.any big
theorem qoI{l:List qa}(h:qc8 l=false):l.length<=12/\∀t∈l,t.length<=512:=by
 simp only[qc8,Bool.or_eq_false_iff,decide_eq_false_iff_not,List.any_eq_false]at h;refine⟨by omega,fun t ht=>?_⟩;have:=h.2 t ht;simp only[big,decide_eq_true_eq]at this;omega
def qcf(l:List qa)(size:Nat):qa:=qcw l size 64 []
def qbs(l:List qa)(size:Int):Nat:=if qc8 l=true then 2 else if size<0\/256<size then 3 else 0
def qax(l:List qa)(size:Int):qa:=if qc8 l=true then []else if size<0\/256<size then []else qcf l size.toNat
theorem qkQ{l c:List qa}{size:Nat}(hc:Cands l c)(hs:size<=256):qcf l size=qcl size [] c:=qsh hc (by omega)
theorem qkP(l:List qa)(size:Nat):∀(f:Nat) (dict:qa),dict.length<=size->(qcw l size f dict).length<=size
 | 0,dict,h=>by rw[qcw];exact h
 | f+1,dict,h=>by
  rw[qcw]
  split
  ·split
   ·exact h
   ·rename_i h1 h2
    refine qkP l size f _ ?_
    have hb:(qep l dict (qag l)).1.length=4:=by
     rcases qgL l dict (qag l) (fun p hp e=>by have:=qbi hp;rw[e]at this;simp at this)with h3|h3
     ·exact absurd (by rw[h3.1]) h2
     ·exact qbi h3.1
    rw[zL,hb];omega
  ·exact h
theorem qpu(l:List qa)(size:Nat):(qcf l size).length<=size:=qkP l size 64 [] (Nat.zero_le _)
theorem qhe(l:List qa)(size:Int):(qax l size).length<=256:=by
 unfold qax
 split
 ·simp
 ·split
  ·simp
  ·have:=qpu l size.toNat;omega
end Pl
end
section
open Go.RowKit Go.Lib Pl
attribute [local go_sem] qf qe
def StrsAt(w:World)(Bd:Nat)(A:Option Addr)(n:Nat)(l:List qa):Prop :=
 l.length=n/\(0<n->∃b off,A=some ⟨b,off,none⟩/\b<Bd/\∀i t,l[i]?=some t->w.cell? ⟨b,off+i,none⟩=some (S t))
theorem StrsAt.keep{w w':World}{Bd n:Nat}{A:Option Addr}{l:List qa}(h:StrsAt w Bd A n l)(hk:∀p:Addr,p.block<Bd->w'.cell? p=w.cell? p):StrsAt w' Bd A n l :=
 ⟨h.1,fun hn=>by
  obtain⟨b,off,e,hb,hc⟩:=h.2 hn;exact⟨b,off,e,hb,fun i t hi=>(hk _ hb).trans (hc i t hi)⟩⟩
theorem StrsAt.below{w w':World}{Bd n:Nat}{A:Option Addr}{l:List qa}(h:StrsAt w Bd A n l)(hb:Below Bd w w'):StrsAt w' Bd A n l:=h.keep fun _ hp=>hb.cell hp
theorem StrsAt.up{w w':World}{n:Nat}{A:Option Addr}{l:List qa}(h:StrsAt w w.heap.size A n l)(hb:Below w.heap.size w w'):StrsAt w' w'.heap.size A n l:=by
 have h1:=h.below hb;exact⟨h1.1,fun hn=>by obtain⟨b,off,e,hlt,hc⟩:=h1.2 hn;exact⟨b,off,e,Nat.lt_of_lt_of_le hlt hb.size,hc⟩⟩
theorem StrsAt.at_{w:World}{Bd n k:Nat}{A:Option Addr}{l:List qa}(h:StrsAt w Bd A n l)(hk:k<n):∃b off t,A=some ⟨b,off,none⟩/\b<Bd/\l[k]?=some t/\w.cell? ⟨b,off+k,none⟩=some (S t):=by
 obtain⟨b,off,e,hb,hc⟩:=h.2 (by omega);have hl:k<l.length:=by have:=h.1;omega
 exact⟨b,off,l[k],e,hb,zG hl,hc k _ (zG hl)⟩
def MaxLenIs(w:World):Prop:=∃m:Int,w.cell? ⟨0,0,none⟩=some (.int .i64 m)
theorem MaxLenIs.up{w w':World}(h:MaxLenIs w)(hb:Below w.heap.size w w'):MaxLenIs w':=by
 obtain⟨m,hm⟩:=h
 have hlt:0<w.heap.size:=by
  rcases Nat.lt_or_ge 0 w.heap.size with h|h
  ·exact h
  ·simp[World.cell?,Array.getElem?_eq_none h]at hm
 exact⟨m,(hb.cell (p:=⟨0,0,none⟩) hlt).trans hm⟩
theorem MaxLenIs.cells{w w':World}(h:MaxLenIs w)(hb:w'.heap[0]?=w.heap[0]?):MaxLenIs w':=by
 obtain⟨m,hm⟩:=h;exact⟨m,by rw[<-hm];unfold World.cell?;rw[hb]⟩
theorem qiT(p:qa):∀t:qa,0<=Lib.index t p↔qK p t=true
 | []=>by
  rcases Lib.index_spec [] p with⟨h1,h2⟩|⟨i,h1,h2,h3,_⟩
  ·have:=h2 0 (Nat.zero_le _);rw[h1];unfold qK;cases p with
   | nil=>simp[Lib.occAt]at this
   | cons a p=>simp
  ·rw[h1];have hi:i=0:=by simpa using h2
   subst hi;cases p with
   | nil=>simp[qK]
   | cons a p=>simp[Lib.occAt]at h3
 | c::t=>by
  rw[Lib.index,qK]
  by_cases h:p.isPrefixOf (c::t)=true
  ·rw[if_pos h,h];simp
  ·rw[if_neg h];have h':p.isPrefixOf (c::t)=false:=Bool.eq_false_iff.2 h;rw[h',Bool.false_or,<-qiT p t]
   rcases Lib.index_spec t p with⟨h1,_⟩|⟨i,h1,_⟩
   ·rw[h1];decide
   ·rw[h1];have:((i:Int) == -1)=false:=by rw[zB];omega
    simp[this];omega
theorem qlB(p t:qa):Lib.contains t p=qK p t:=by
 unfold Lib.contains;rw[Bool.eq_iff_iff,decide_eq_true_eq];exact qiT p t
theorem qo6(t p:qa)(w:World)(hm:MaxLenIs w)(ht:t.length<4294967281) :
  Calls Tryz.prog 30 #[S t,S p] w fun e w'=>e=.returned (.bool (qK p t))/\w=w':=by
 obtain⟨m,hm⟩:=hm;refine (Tryz.strings_Contains ⟨t.toArray⟩ ⟨p.toArray⟩ m w ht hm).mono ?_;rintro e w' ⟨rfl,rfl⟩;refine⟨?_,rfl⟩;rw[<-qlB]
theorem qoi{p t:qa}(h:t.length<p.length):qK p t=false:=by
 rw[Bool.eq_false_iff];intro hs;obtain⟨a,b,rfl⟩:=(qc0 p t).1 hs;simp at h;omega
theorem qsw{p t:qa}{i:Nat}(h:i+p.length<=t.length)(he:slice t i (i+p.length)=p):qK p (t.drop i)=true:=by
 rw[qc0];refine⟨[],t.drop (i+p.length),?_⟩;rw[List.nil_append];have:=qjA (t:=t) (a:=i) (b:=i+p.length) (by omega);rw[he]at this;have hl:(t.take i).length=i:=by rw[List.length_take];omega
 conv=>lhs;rw[this]
 rw[List.append_assoc,List.drop_left' hl]
theorem qpy{p t:qa}{i:Nat}(h:i+p.length<=t.length)(he:slice t i (i+p.length)≠p):i<t.length/\qK p (t.drop i)=qK p (t.drop (i+1)):=by
 have hi:i<t.length:=by
  rcases Nat.lt_or_ge i t.length with h1|h1
  ·exact h1
  ·exfalso
   apply he;have hp:p=[]:=List.eq_nil_of_length_eq_zero (by omega);rw[hp];apply List.eq_nil_of_length_eq_zero;rw[qbU];simp;omega
 refine⟨hi,?_⟩;rw[List.drop_eq_getElem_cons hi,qK]
 have:p.isPrefixOf (t[i]::t.drop (i+1))=false:=by
  rw[Bool.eq_false_iff];intro hx;rw[List.isPrefixOf_iff_prefix,<-List.drop_eq_getElem_cons hi]at hx;obtain⟨r,hr⟩:=hx;apply he;unfold slice;rw[List.drop_take,<-hr];have:i+p.length-i=p.length:=by omega
  rw[this,List.take_left' rfl]
 rw[this,Bool.false_or]
theorem qpA(p t:qa)(w:World)(hp:p.length<=1000000000)(ht:t.length<=1000000000) :
  Calls Tryz.prog 152 #[S p,S t] w fun e w'=>e=.returned (.bool (qK p t))/\w=w':=by
 go_enter Tryz.func152,Tryz.ntmps152;go_wp2_with fail;go_loop [5] (fun i=>∃k:Nat,k<=t.length/\i=.int .i64 k/\qK p t=qK p (t.drop k)) (fun i=>t.length-(intOf i).toNat)
 case atStart=>exact⟨0,Nat.zero_le _,rfl,by simp⟩
 case round =>
  obtain⟨k,hk,rfl,hs⟩:=hrel;have HS:=zH hs;clear hs
  by_cases h1:k+p.length<=t.length
  ·have h2:(k:Int)+(p.length:Int)<=(t.length:Int):=by omega
   have e1:IntKind.i64.wrap ((k:Int)+(p.length:Int))=(k:Int)+(p.length:Int):=IntWalk.i64_in _ ⟨by omega,by omega⟩;have e2:(0:Int)<=(k:Int)+(p.length:Int):=by omega
   have e3:((k:Int)+(p.length:Int)).toNat=k+p.length:=by omega
   have e4:k<=k+p.length:=by omega
   by_cases he:slice t k (k+p.length)=p
   ·have hr:qK p t=true:=by rw[zU HS];exact qsw h1 he
    have q1:(slice t k (k+p.length) == p)=true:=by simpa using he
    have HR:=zH hr;clear hr he;go_wp2_with fail;go_ret;exact⟨by rw[zU HR];rfl,rfl⟩
   ·obtain⟨h3,h4⟩:=qpy h1 he;have q1:(slice t k (k+p.length) == p)=false:=by simpa using he
    have H4:=zH h4;clear h4 he;go_wp2_with fail;go_round
    case rel=>exact⟨k+1,by omega,by go_num,by rw[zU HS,zU H4]⟩
    case measure=>simp[intOf];omega
  ·have h2:(t.length:Int)<(k:Int)+(p.length:Int):=by omega
   have hr:qK p t=false:=by rw[zU HS];exact qoi (by simp;omega)
   have HR:=zH hr;clear hr;go_wp2_with fail;go_ret;exact⟨by rw[zU HR];rfl,rfl⟩
end
section
open Go.RowKit Pl
theorem qwM(n:Int)(w:World)(h:n<0\/2147483647<n) :
  Calls Tryz.prog 126 #[I n] w fun e w'=>e=.returned (.tuple #[S [],I 3])/\w=w':=by
 rcases h with h|h
 ·go_enter Tryz.func126,Tryz.ntmps126;go_wp2;go_ret2;exact⟨rfl,rfl⟩
 ·have h0:¬n<0:=by omega
  go_enter Tryz.func126,Tryz.ntmps126;go_wp2;go_ret2;exact⟨rfl,rfl⟩
theorem qow(n:Int)(w:World)(h0:0<=n)(h1:n<=2147483647) :
  Calls Tryz.prog 126 #[I n] w fun e w'=>e=.returned (.tuple #[S (nb n.toNat),I 0])/\Below w.heap.size w w':=by
 obtain⟨m,rfl⟩:=Int.eq_ofNat_of_zero_le h0;obtain⟨i0,hi,hz0,hz1,hz2⟩:=info_parts qdn;go_enter Tryz.func126,Tryz.ntmps126;go_wp2_with fail
 go_loopw [0,4] (fun i v wr=>∃ (k:Nat) (xs:qa),k<=m/\xs++nb k=nb m/\i=.int .i64 k/\wr.ownsRow w.heap.size 5 1 v xs.length (xs.map B)/\Below w.heap.size w wr)
  (fun i _ _=>(intOf i).toNat)
 case atStart=>exact⟨m,[],by omega,rfl,rfl,World.ownsRow_nil _ _ _ _,Below.refl _ _⟩
 case round =>
  obtain⟨k,xs,hk,hx,rfl,hown,hnx⟩:=hrel;have HX:=zH hx;clear hx
  have hl:xs.length<=10:=by
   have h2:=qb1 4 m (by omega);rw[<-zU HX,zL]at h2;omega
  by_cases hlt:k<128
  ·have hsz:=hnx.size;go_wp2_with (at_builtin;refine qdh rfl _ _ _ rfl w.heap.size 5 i0 _ 1 Tryz.underlying37 hi hz0 hz1 hz2 rfl _ _ _ rfl hown _ _ rfl rfl ?_ ?_ hsz ?_;(unfold maxLen;omega);omega;intro v' w' hown' hb hg;have hst:=qdl (P:=Tryz.prog) (qgo (UInt8.ofNat k) hown' (ofNat_toNat (by omega))) 37 9 Tryz.underlying37 Tryz.underlying5 Tryz.underlying9;clear hown');go_ret2;rw[Int.toNat_natCast,<-zU HX,qdJ hlt];exact⟨rfl,hnx.trans hb⟩
  ·have hsz:=hnx.size;go_wp2_with (at_builtin;refine qdh rfl _ _ _ rfl w.heap.size 5 i0 _ 1 Tryz.underlying37 hi hz0 hz1 hz2 rfl _ _ _ rfl hown _ _ rfl rfl ?_ ?_ hsz ?_;(unfold maxLen;omega);omega;intro v' w' hown' hb hg;have hown2:=qgo (UInt8.ofNat (128+k % 128)) hown' (by rw[qwB _ (by omega) (by omega),ofNat_toNat (by omega)];omega);clear hown');clear hown hg;go_roundw
   case rel =>
    refine⟨k / 128,xs++[UInt8.ofNat (128+k % 128)],by omega,?_,by go_num,by simpa using hown2,hnx.trans hb⟩;rw[<-zU HX,qgr (by omega:128<=k)];simp
   case measure=>simp[intOf];omega
end
section
open Go.RowKit Pl
attribute [local go_sem] qf
def qhW(l:qa):Value:=match take l with
 | some (n,r)=>.tuple #[I n,S r,I 0]
 | none=>.tuple #[I 0,S [],I 1]
theorem qn9(l:qa)(w:World)(hs:l.length<=9223372036854775807) :
  Calls Tryz.prog 128 #[S l] w fun e w'=>e=.returned (qhW l)/\∃k,w'=w.drewN k:=by
 go_enter Tryz.func128,Tryz.ntmps128;go_wp2_with fail
 all_goals
  go_loop [5,10,6] (fun n i _=>∃ (k acc:Nat),k<=l.length/\k<=5/\acc<128 ^ k/\take l=qb5 (5-k) k acc (l.drop k)/\i=.int .i64 k/\n=.int .i64 acc)
   (fun _ i _=>5-(intOf i).toNat)
  case atStart=>exact⟨0,0,by omega,by omega,by omega,rfl,rfl,rfl⟩
  case round =>
   obtain⟨k,acc,hk,hk5,hacc,hx,rfl,rfl⟩:=hrel;have HX:=zH hx;clear hx
   by_cases hlt:k<l.length/\k<5
   ·obtain⟨hl,h5⟩:=hlt;obtain⟨c,hc⟩:∃c,(⟨l.toArray⟩:ByteArray)[k]'hl=c:=⟨_,rfl⟩
    have ha:=qwm c;have hcb:=c.toNat_lt;obtain⟨acc2,hA⟩:∃acc2,acc2=acc+c.toNat % 128*128 ^ k:=⟨_,rfl⟩
    have hor:bits .or .i64 (acc:Int) (wrap64 ((c.toNat:Int) % 128*2 ^ (7*k)))=(acc2:Int):=by
     rw[hA];exact or7 acc (c.toNat % 128) k hacc (by omega) h5
    have hdrop:l.drop k=c::l.drop (k+1):=by rw[<-hc];exact List.drop_eq_getElem_cons hl
    have hbd:acc2<128 ^ (k+1):=by
     rw[hA,Nat.pow_succ];have:(c.toNat % 128)*128 ^ k<=127*128 ^ k:=Nat.mul_le_mul_right _ (by omega);omega
    have hbd2:acc2<34359738368:=Nat.lt_of_lt_of_le hbd (Nat.pow_le_pow_right (by omega) (by omega:k+1<=5));have h5k:5-k=(4-k)+1:=by omega
    have h6:=zU HX;rw[hdrop,h5k,qb5,<-hA]at h6;have HA:=zH hA;have HD:=zH hdrop;have HK:=zH h5k;have HX6:=zH h6;clear hA hdrop h5k h6 HX
    by_cases hge:128<=c.toNat
    ·go_wp2_with fail;go_round
     case rel =>
      have h6:=zU HX6;rw[if_pos hge]at h6;exact⟨k+1,acc2,by omega,by omega,hbd,by rw[h6,show 5-(k+1)=4-k from by omega],by go_num,rfl⟩
     case measure=>simp[intOf];omega
    ·by_cases h0:0<k/\c.toNat=0
     ·obtain⟨h01,h02⟩:=h0;go_wp2_with fail;go_ret3;have h6:=zU HX6;rw[if_neg hge,if_pos (.inl ⟨h01,h02⟩)]at h6;unfold qhW;rw[h6];exact⟨rfl,0,rfl⟩
     ·have hz:k<1\/(0<k/\((c.toNat:Int) == 0)=false):=by
       by_cases h1:k<1
       ·exact .inl h1
       ·exact .inr ⟨by omega,zB.2 (by omega)⟩
      by_cases hm:2147483647<acc2
      ·have h6:=zU HX6;rw[if_neg hge,if_pos (.inr (by unfold qap;exact hm))]at h6;have H6:=zH h6;clear h6 HX6
       rcases hz with hz|⟨hz1,hz2⟩
       all_goals
        go_wp2_with fail;go_ret3;unfold qhW;rw[zU H6];exact⟨rfl,0,rfl⟩
      ·have h6:=zU HX6;rw[if_neg hge,if_neg (by unfold qap;omega)]at h6;have H6:=zH h6;clear h6 HX6
       rcases hz with hz|⟨hz1,hz2⟩
       all_goals
        go_wp2_with fail;go_quiet (fail);go_wp2;go_ret3;unfold qhW;rw[zU H6,<-qcc];exact⟨rfl,_,rfl⟩
   ·have h9:¬(k<l.length/\k<5):=hlt;have h6:=zU HX
    have h7:take l=none:=by
     rw[h6]
     by_cases h8:k<l.length
     ·rw[show 5-k=0 from by omega];rfl
     ·rw[List.drop_of_length_le (by omega)];cases 5-k <;> rfl
    have H7:=zH h7;clear h6 h7 HX;go_wp2_with fail;go_ret3;unfold qhW;rw[zU H7];exact⟨rfl,0,rfl⟩
end
section
open Go.RowKit Pl
attribute [local go_sem] qf qe
theorem qg8(n:Int)(w:World)(h0:0<=n)(hn:n<128) :
  Calls Tryz.prog 114 #[I n] w fun e w'=>e=.returned (S (nb n.toNat))/\Below w.heap.size w w':=by
 obtain⟨m,rfl⟩:=Int.eq_ofNat_of_zero_le h0;obtain⟨b,hb,hx⟩:=qjl m (by omega);have HB:=zH hb;clear hb;have hcv:=fun (W:World)=>qbZ (P:=Tryz.prog) W b hx 5 37 9 5 Tryz.underlying37 Tryz.underlying5 Tryz.underlying9
 have HX:=zH hx;clear hx;go_enter Tryz.func114,Tryz.ntmps114;go_wp2_with fail;go_ret;refine⟨?_,(Below.refl _ _).alloc (Nat.le_refl _) _⟩;rw[Int.toNat_natCast,qdJ (by omega),<-zU HB];rfl
theorem qhs(k:Nat):∀(n:Int) (w:World),n.toNat<=k->0<=n->n<=9223372036854775807 ->
  Calls Tryz.prog 114 #[I n] w fun e w'=>e=.returned (S (nb n.toNat))/\Below w.heap.size w w':=by
 induction k with
 | zero=>intro n w hk h0 h1;exact qg8 n w h0 (by omega)
 | succ k ih =>
  intro n w hk h0 h1;obtain⟨m,rfl⟩:=Int.eq_ofNat_of_zero_le h0
  by_cases hn:(m:Int)<128
  ·exact qg8 m w h0 hn
  ·obtain⟨r,hr⟩:∃r,r=m % 128:=⟨_,rfl⟩
   obtain⟨q,hq⟩:∃q,q=m / 128:=⟨_,rfl⟩
   have ht:(m:Int).tmod 128=(r:Int):=by rw[Int.tmod_eq_emod_of_nonneg h0];omega
   have hw1:IntKind.i64.wrap (128+(r:Int))=128+(r:Int):=IntWalk.i64_in _ ⟨by omega,by omega⟩;have hw2:IntKind.u8.wrap (128+(r:Int))=128+(r:Int):=by rw[IntKind.wrap_u8];omega
   have hw3:IntKind.i64.wrap ((m:Int) / 128)=(q:Int):=by
    have e:(m:Int) / 128=(q:Int):=by omega
    rw[e];exact IntWalk.i64_in _ ⟨by omega,by omega⟩
   obtain⟨b,hbb,hx⟩:=qjl (128+r) (by omega);rw[Int.natCast_add]at hx;have hx:(b.toNat:Int)=128+(r:Int):=hx;have HX:=zH hx;have hcv:=fun (W:World)=>qbZ (P:=Tryz.prog) W b hx 5 37 9 5 Tryz.underlying37 Tryz.underlying5 Tryz.underlying9
   have hcw:=fun (W:World)=>qfj (P:=Tryz.prog) W b hx 5 37 9 5 Tryz.underlying37 Tryz.underlying5 Tryz.underlying9
   clear hx;have c1:=fun (W:World)=>ih (q:Int) W (by omega) (by omega) (by omega);have hr1:r<128:=by omega
   have hlen:=qb1 9 q (by omega);have HR:=zH hr;have HQ:=zH hq;have C1:=zH c1;clear c1 ih hr hq;have hnb:nb m=b::nb q:=by rw[hbb,zU HR,zU HQ];exact qgr (by omega)
   have HN:=zH hnb;clear hnb hbb;go_enter Tryz.func114,Tryz.ntmps114;go_wp2_with fail;go_region_with (refine (zU C1 _).mono ?_;rintro e w' ⟨rfl,hb⟩;try (have hcl:=qeV (P:=Tryz.prog) b (zU HX) hb 37 9 5 Tryz.underlying37 Tryz.underlying5 Tryz.underlying9))
   all_goals
    go_wp2;go_ret;refine⟨?_,?_⟩
    ·rw[Int.toNat_natCast,zU HN];rfl
    ·first
      | exact (((Below.refl _ _).alloc (Nat.le_refl _) _).drew).trans (hb.mono (by simp))
      | exact ((Below.refl _ _).drew.trans hb).alloc hb.size _
end
end Go.Proofs.YtbnmfdlaabdlhaaGreatDoor
