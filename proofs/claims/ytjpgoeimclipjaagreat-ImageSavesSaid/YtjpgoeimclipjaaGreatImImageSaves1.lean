/- Parts of the proofs. -/
import Derived.Test.YtjpgoeimclipjaaGreatIm10
import Derived.Test.YtjpgoeimclipjaaGreatProg
import Derived.WalkKit
import Derived.WalkSpells
import Derived.WalkLawsBesides
import Derived.Lib.Hide
import Derived.Deep.Draws
import Derived.Laws.OwnMore
import Derived.Laws.IdiomStrings
import Derived.Lib.BufferRead
import Derived.Maps.AppendAt
import Derived.Laws.BitsAllLaws
import Derived.Laws.BitsLemmas
import Derived.RegionTactic
import Derived.Deep.RegionWith
import Derived.Deep.QuietTactic
import Derived.BigQuiet
import Derived.Deep.RegionHeld3
import Derived.Deep.WholeRow
import Derived.Laws.CopyOwn
import Derived.Laws.RangeAny
import Derived.Laws.RangeString
import Derived.Lib.TrimU
namespace Go.Proofs.YtjpgoeimclipjaaGreat
namespace Pl
def Canon (l:Bytes) (k acc:Nat):Prop:=∀ n,0<n∨k=0→nb (acc+n*128 ^ k)=l.take k++nb n
theorem canon_zero (l:Bytes):Canon l 0 0:=by intro n _;simp
theorem canon_step {l:Bytes} {k acc:Nat} {c:UInt8} {t:Bytes} (h:Canon l k acc) (hd:l.drop k=c::t) (hc:128≤c.toNat):Canon l (k+1) (acc+c.toNat % 128*128 ^ k):=by
 intro n hn;have hn:0<n:=by omega
 have hcl:=c.toNat_lt
 have e:acc+c.toNat % 128*128 ^ k+n*128 ^ (k+1)=acc+(c.toNat % 128+128*n)*128 ^ k:=by
  rw [Nat.pow_succ,Nat.add_mul,Nat.mul_comm 128 n,Nat.mul_assoc,Nat.mul_comm 128 (128 ^ k)];omega
 rw [e,h _ (.inl (by omega)),nb_big (by omega)];have e1:(c.toNat % 128+128*n) % 128=c.toNat % 128:=by omega
 have e2:(c.toNat % 128+128*n) / 128=n:=by omega
 have e3:UInt8.ofNat (128+c.toNat % 128)=c:=by
  apply UInt8.toNat_inj.1;simp [UInt8.toNat_ofNat'];omega
 have hlk:l[k]? = some c:=by
  have:=congrArg (fun z:Bytes=>z[0]?) hd;simpa using this
 rw [e1,e2,e3,List.take_add_one,hlk];simp
theorem canon_end {l:Bytes} {k acc:Nat} {c:UInt8} {t:Bytes} (h:Canon l k acc) (hd:l.drop k=c::t) (hc:c.toNat<128) (ha:acc<128 ^ k) :
  (nb (acc+c.toNat % 128*128 ^ k)=l.take (k+1))↔¬ (0<k∧c.toNat=0):=by
 have hlk:l[k]? = some c:=by
  have:=congrArg (fun z:Bytes=>z[0]?) hd;simpa using this
 have hkl:k<l.length:=by
  rcases Nat.lt_or_ge k l.length with h1 | h1
  ·exact h1
  ·rw [List.drop_of_length_le h1] at hd;cases hd
 have e:c.toNat % 128=c.toNat:=by omega
 rw [e];constructor
 ·rintro h1 ⟨h2,h3⟩;rw [h3,Nat.zero_mul,Nat.add_zero] at h1;have h4:=congrArg List.length h1;obtain ⟨j,rfl⟩:∃ j,k=j+1:=⟨k-1,by omega⟩
  have h5:=nb_len j acc ha;simp at h4;omega
 ·intro h1;rw [h _ (by omega),nb_small hc,List.take_add_one,hlk];have:UInt8.ofNat c.toNat=c:=by apply UInt8.toNat_inj.1;simp
  simp [this]
end Pl
end Go.Proofs.YtjpgoeimclipjaaGreat
namespace Go.Proofs.YtjpgoeimclipjaaGreat
namespace Pl
theorem toksOf_nil:toksOf []=some []:=rfl
theorem toksOf_none {s:Bytes} (hs:s≠[]) (h:tokFrom s=none):toksOf s=none:=by
 cases s with
 | nil=>exact absurd rfl hs
 | cons c s=>unfold toksOf;rw [List.length_cons,toksF,h]
theorem read_none {dict s:Bytes} (hd:dict.length≤256) (h:toksOf s=none):read dict s=none:=by rw [read_eq hd,h]
theorem read_bad {dict s:Bytes} {l:List Tok} (hd:dict.length≤256) (h:toksOf s=some l) (hp:(play dict l).2≠0):read dict s=none:=by rw [read_eq hd,h];exact if_neg hp
theorem read_many {dict s r:Bytes} {l:List Tok} (hd:dict.length≤256) (h:toksOf s=(toksOf r).map (l++·)) (hl:512<l.length):read dict s=none:=by
 cases hr:toksOf r with
 | none=>rw [hr] at h;exact read_none hd h
 | some k =>
  rw [hr] at h;refine read_bad hd h fun hp=>?_;have:=play_room hp;simp at this;omega
end Pl
end Go.Proofs.YtjpgoeimclipjaaGreat
namespace Go.Proofs.YtjpgoeimclipjaaGreat
namespace Pl
theorem preS_zero (l:List Int):preS l 1 0=0:=by
 refine sumN_zero _ fun j _=>?_;rw [if_neg];rw [early_iff];omega
theorem preS_skip {l:List Int} {s i:Nat} (h:ln l i≠s):preS l s (i+1)=preS l s i:=by
 refine sumN_congr _ fun j _=>?_;simp only [early_skip h j]
theorem preS_row (l:List Int) (s:Nat):preS l (s+1) 0=preS l s 16:=by
 refine sumN_congr _ fun j hj=>?_;rw [early_congr (s':=s) (i':=16) ⟨fun ⟨a,b⟩=>⟨a,by omega⟩,fun ⟨a,b⟩=>⟨a,by omega⟩⟩]
theorem early_row {l:List Int} {s j:Nat} (hj:j<16):early l (s+1) 0 j=early l s 16 j :=
 early_congr ⟨fun ⟨a,b⟩=>⟨a,by omega⟩,fun ⟨a,b⟩=>⟨a,by omega⟩⟩
end Pl
end Go.Proofs.YtjpgoeimclipjaaGreat
namespace Go.Proofs.YtjpgoeimclipjaaGreat
namespace Pl
theorem unpackB_app (a b:Bytes):unpackB (a++b)=unpackB a++unpackB b:=by simp [unpackB]
theorem packN_pad (x:List Bool) (n:Nat) (h:x.length≤8*n):packN n (x++zeros (8*n-x.length))=packN n x:=by
 apply unpackB_inj;rw [unpack_packN _ _ (by rw [List.length_append,zeros_len];omega),unpack_packN _ _ h,List.length_append,zeros_len,show 8*n-(x.length+(8*n-x.length))=0 from by omega];simp [zeros]
theorem dec_long {l:List Int} (hr:Right l) {b:Bytes} {n:Nat} (h:4*n<b.length) {ks:List Nat} {r:List Bool} (hd:decN l (2*n) (unpackB b)=some (ks,r)):goodRest r=false:=by
 obtain ⟨h1,h2,h3⟩:=dec_some _ _ _ _ hd;have hl:=congrArg List.length h2;rw [unpackB_len,List.length_append] at hl;have:=encK_len hr ks;cases hg:goodRest r with
 | false=>rfl
 | true =>
  have:=((goodRest_iff r).1 hg).1;omega
end Pl
end Go.Proofs.YtjpgoeimclipjaaGreat
namespace Go.Proofs.YtjpgoeimclipjaaGreat
namespace Pl
abbrev Eye:=Bytes×Bool
def eyeN (e:Eye):Nat×Eye:=match take e.1 with | none=>(0,([],true)) | some (n,r)=>(n,(r,e.2))
def eyeT (e:Eye):Bytes×Eye:=if (eyeN e).2.1.length<(eyeN e).1 then ([],((eyeN e).2.1,true)) else ((eyeN e).2.1.take (eyeN e).1,((eyeN e).2.1.drop (eyeN e).1,(eyeN e).2.2))
def eyeF (e:Eye):Fil×Eye :=
 let x:=eyeT e;let d:=eyeN x.2;let z:=eyeN d.2;let u:=eyeN z.2;let b:=eyeT u.2
 (⟨x.1,(d.1:Nat),(z.1:Nat),(u.1:Nat),b.1⟩,b.2)
def eyeL {α:Type} (one:Eye→α×Eye) (max:Nat):Nat→List α→Eye→List α×Eye
 | 0,l,e=>(l,e)
 | n+1,l,e=>if e.2=true∨max<l.length then (l,e) else eyeL one max n (l++[(one e).1]) (one e).2
def eyeDs (s:Bytes):List Bytes×Eye:=eyeL eyeT 4 (eyeN (s.drop 5,false)).1 [] (eyeN (s.drop 5,false)).2
def eyeFs (s:Bytes):List Fil×Eye:=eyeL eyeF 12 (eyeN (eyeDs s).2).1 [] (eyeN (eyeDs s).2).2
def eyeA (s:Bytes):Arc:=⟨(eyeDs s).1,(eyeFs s).1⟩
def refArc (s:Bytes):Option Arc :=
 if s.take 5≠pressB then none else
 if (eyeFs s).2.2=true∨checkA (eyeA s)≠0∨imageOf (eyeA s)≠s then none else some (eyeA s)
theorem eyeN_some {s r:Bytes} {n:Nat} (h:take s=some (n,r)) (b:Bool):eyeN (s,b)=(n,(r,b)):=by unfold eyeN;rw [h]
theorem eyeT_some {s t r:Bytes} (h:cutT s=some (t,r)) (b:Bool):eyeT (s,b)=(t,(r,b)):=by
 unfold cutT at h;cases hk:take s with
 | none=>rw [hk] at h;cases h
 | some p =>
  obtain ⟨n,q⟩:=p;rw [hk] at h;simp only at h
  split at h
  ·cases h
  ·rename_i hn
   simp only [Option.some.injEq,Prod.mk.injEq] at h;unfold eyeT;rw [eyeN_some hk];simp only;rw [if_neg hn,h.1,h.2]
theorem eyeF_some {s r:Bytes} {f:Fil} (h:fileFrom s=some (f,r)) (b:Bool):eyeF (s,b)=(f,(r,b)):=by
 unfold fileFrom at h;cases h1:cutT s with
 | none=>rw [h1] at h;cases h
 | some p1 =>
  obtain ⟨x,s1⟩:=p1;rw [h1] at h;simp only at h;cases h2:take s1 with
  | none=>rw [h2] at h;cases h
  | some p2 =>
   obtain ⟨d,s2⟩:=p2;rw [h2] at h;simp only at h;cases h3:take s2 with
   | none=>rw [h3] at h;cases h
   | some p3 =>
    obtain ⟨z,s3⟩:=p3;rw [h3] at h;simp only at h;cases h4:take s3 with
    | none=>rw [h4] at h;cases h
    | some p4 =>
     obtain ⟨u,s4⟩:=p4;rw [h4] at h;simp only at h;cases h5:cutT s4 with
     | none=>rw [h5] at h;cases h
     | some p5 =>
      obtain ⟨y,s5⟩:=p5;rw [h5] at h;simp only [Option.some.injEq,Prod.mk.injEq] at h;obtain ⟨rfl,rfl⟩:=h;unfold eyeF;simp only [eyeT_some h1,eyeN_some h2,eyeN_some h3,eyeN_some h4,eyeT_some h5]
theorem eyeL_some {α:Type} {one:Bytes→Option (α×Bytes)} {eye:Eye→α×Eye} {max:Nat} (h1:∀ s x r,one s=some (x,r)→eye (s,false)=(x,(r,false))) :
  ∀ (n:Nat) (s:Bytes) (l0 l:List α) (r:Bytes),listFrom one n s=some (l,r)→l0.length+l.length≤max+1→eyeL eye max n l0 (s,false)=(l0++l,(r,false))
 | 0,s,l0,l,r,h,_=>by rw [listFrom] at h;cases h;simp [eyeL]
 | n+1,s,l0,l,r,h,hm=>by
  rw [listFrom] at h;cases ho:one s with
  | none=>rw [ho] at h;cases h
  | some p =>
   obtain ⟨x,q⟩:=p;rw [ho] at h;simp only at h;cases hl:listFrom one n q with
   | none=>rw [hl] at h;cases h
   | some p2 =>
    obtain ⟨l2,q2⟩:=p2;rw [hl] at h;simp only [Option.some.injEq,Prod.mk.injEq] at h;obtain ⟨rfl,rfl⟩:=h;rw [List.length_cons] at hm;rw [eyeL,if_neg (by simp;omega),h1 s x q ho];simp only;rw [eyeL_some h1 n q _ l2 q2 hl (by simp;omega)];simp
theorem eye_raw {s r:Bytes} {a:Arc} (h:rawFrom s=some (a,r)) (hd:a.ds.length≤4) (hf:a.fs.length≤12):s.take 5=pressB∧eyeA s=a∧(eyeFs s).2=(r,false):=by
 unfold rawFrom at h
 split at h
 ·cases h
 ·rename_i hp
  cases h1:take (s.drop 5) with
  | none=>rw [h1] at h;cases h
  | some p1 =>
   obtain ⟨n,s1⟩:=p1;rw [h1] at h;simp only at h;cases h2:listFrom cutT n s1 with
   | none=>rw [h2] at h;cases h
   | some p2 =>
    obtain ⟨ds,s2⟩:=p2;rw [h2] at h;simp only at h;cases h3:take s2 with
    | none=>rw [h3] at h;cases h
    | some p3 =>
     obtain ⟨m,s3⟩:=p3;rw [h3] at h;simp only at h;cases h4:listFrom fileFrom m s3 with
     | none=>rw [h4] at h;cases h
     | some p4 =>
      obtain ⟨fs,s4⟩:=p4;rw [h4] at h;simp only [Option.some.injEq,Prod.mk.injEq] at h;obtain ⟨rfl,rfl⟩:=h
      have e1:eyeDs s=(ds,(s2,false)):=by
       unfold eyeDs;rw [eyeN_some h1];simp only;rw [eyeL_some (fun _ _ _ h=>eyeT_some h false) n s1 [] ds s2 h2 (by simp at hd ⊢;omega)];simp
      have e2:eyeFs s=(fs,(s4,false)):=by
       unfold eyeFs;rw [e1];simp only;rw [eyeN_some h3];simp only;rw [eyeL_some (fun _ _ _ h=>eyeF_some h false) m s3 [] fs s4 h4 (by simp at hf ⊢;omega)];simp
      refine ⟨Decidable.not_not.1 hp,?_,by rw [e2]⟩;unfold eyeA;rw [e1,e2]
theorem refArc_eq (s:Bytes):refArc s=arcFrom s:=by
 cases h:arcFrom s with
 | none =>
  unfold refArc
  split
  ·rfl
  ·split
   ·rfl
   ·rename_i h1 h2
    have h3:checkA (eyeA s)=0:=Decidable.not_not.1 fun e=>h2 (Or.inr (Or.inl e));have h4:imageOf (eyeA s)=s:=Decidable.not_not.1 fun e=>h2 (Or.inr (Or.inr e));rw [(arcFrom_iff s (eyeA s)).2 ⟨h3,h4.symm⟩] at h;cases h
 | some a =>
  obtain ⟨h1,h2⟩:=(arcFrom_iff s a).1 h;have hr:=(check_iff a).1 h1;have hraw:=raw_image hr [];rw [List.append_nil,←h2] at hraw;obtain ⟨e1,e2,e3⟩:=eye_raw hraw hr.nd hr.nf;unfold refArc;rw [if_neg (by simp [e1]),e2,e3,if_neg (by simp [h1,←h2])]
end Pl
end Go.Proofs.YtjpgoeimclipjaaGreat
namespace Go.Proofs.YtjpgoeimclipjaaGreat
open Go.RowKit Go.Lib
theorem run_conv1 {P:Program} (w:World) (g:Nat) {x:Int} (b:UInt8) (hx:(b.toNat:Int)=x) (hc:w.cell? ⟨g,0,none⟩=some (.int .u8 x)) (src dst e:TypeId)
  (hs:P.underlying src=some (.slice e)) (he:P.underlying e=some (.int .u8)) (hd:P.underlying dst=some .string) :
  (convert src dst (.slice (some ⟨g,0,none⟩) 1 1)).run P w = .ok (S [b]) w:=by
 subst hx;refine run_convert_bytes_back w src dst e _ 1 [b] hs he hd ?_
 intro j hj;have hj0:j=0:=by simp at hj;omega
 subst hj0;simpa [Addr.add] using hc
theorem run_conv1_new {P:Program} (w:World) {x:Int} (b:UInt8) (hx:(b.toNat:Int)=x) (t src dst e:TypeId)
  (hs:P.underlying src=some (.slice e)) (he:P.underlying e=some (.int .u8)) (hd:P.underlying dst=some .string) :
  (convert src dst (.slice (some ⟨w.heap.size,0,none⟩) 1 1)).run P (w.alloc (.cells #[.int .u8 x] t)) = .ok (S [b]) (w.alloc (.cells #[.int .u8 x] t)) :=
 run_conv1 _ _ b hx (by simp) src dst e hs he hd
theorem run_conv1_drew {P:Program} (w:World) {x:Int} (b:UInt8) (hx:(b.toNat:Int)=x) (t src dst e:TypeId)
  (hs:P.underlying src=some (.slice e)) (he:P.underlying e=some (.int .u8)) (hd:P.underlying dst=some .string) :
  (convert src dst (.slice (some ⟨w.heap.size,0,none⟩) 1 1)).run P (w.alloc (.cells #[.int .u8 x] t)).drew = .ok (S [b]) (w.alloc (.cells #[.int .u8 x] t)).drew :=
 run_conv1 _ _ b hx (by show (w.alloc (.cells #[.int .u8 x] t)).cell? _=_;simp) src dst e hs he hd
theorem run_conv1_later_drew {P:Program} {w w':World} {t:TypeId} {x:Int} (b:UInt8) (hx:(b.toNat:Int)=x) (hb:Below (w.alloc (.cells #[.int .u8 x] t)).drew.heap.size (w.alloc (.cells #[.int .u8 x] t)).drew w') (src dst e:TypeId)
  (hs:P.underlying src=some (.slice e)) (he:P.underlying e=some (.int .u8)) (hd:P.underlying dst=some .string) :
  (convert src dst (.slice (some ⟨w.heap.size,0,none⟩) 1 1)).run P w' = .ok (S [b]) w' :=
 run_conv1 _ _ b hx (cell_later hb (by show (w.alloc (.cells #[.int .u8 x] t)).cell? _=_;simp)) src dst e hs he hd
end Go.Proofs.YtjpgoeimclipjaaGreat
namespace Go.Proofs.YtjpgoeimclipjaaGreat
open Go.RowKit Pl
attribute [local go_sem] ext_list app_list
set_option maxHeartbeats 400000 in
set_option maxRecDepth 100000 in
theorem numBytes_small (n:Int) (w:World) (h0:0≤n) (hn:n<128) :
  Calls Tryz.prog 95 #[I n] w fun e w'=>e = .returned (S (nb n.toNat))∧Below w.heap.size w w':=by
 obtain ⟨m,rfl⟩:=Int.eq_ofNat_of_zero_le h0;obtain ⟨b,hb,hx⟩:=byte_of m (by omega);have HB:=zH hb;clear hb;have hcv:=fun (W:World)=>run_conv1_new (P:=Tryz.prog) W b hx 5 77 9 5 Tryz.underlying77 Tryz.underlying5 Tryz.underlying9
 have HX:=zH hx;clear hx;go_enter Tryz.func95,Tryz.ntmps95;go_wp2_with fail;go_ret;refine ⟨?_,(Below.refl _ _).alloc (Nat.le_refl _) _⟩;rw [Int.toNat_natCast,nb_small (by omega),←zU HB];rfl
set_option maxHeartbeats 400000 in
set_option maxRecDepth 100000 in
theorem numBytes_k (k:Nat):∀ (n:Int) (w:World),n.toNat≤k→0≤n→n≤9223372036854775807 →
  Calls Tryz.prog 95 #[I n] w fun e w'=>e = .returned (S (nb n.toNat))∧Below w.heap.size w w':=by
 induction k with
 | zero=>intro n w hk h0 h1;exact numBytes_small n w h0 (by omega)
 | succ k ih =>
  intro n w hk h0 h1;obtain ⟨m,rfl⟩:=Int.eq_ofNat_of_zero_le h0
  by_cases hn:(m:Int)<128
  ·exact numBytes_small m w h0 hn
  ·obtain ⟨r,hr⟩:∃ r,r=m % 128:=⟨_,rfl⟩
   obtain ⟨q,hq⟩:∃ q,q=m / 128:=⟨_,rfl⟩
   have ht:(m:Int).tmod 128=(r:Int):=by rw [Int.tmod_eq_emod_of_nonneg h0];omega
   have hw1:IntKind.i64.wrap (128+(r:Int))=128+(r:Int):=IntWalk.i64_in _ ⟨by omega,by omega⟩;have hw2:IntKind.u8.wrap (128+(r:Int))=128+(r:Int):=by rw [IntKind.wrap_u8];omega
   have hw3:IntKind.i64.wrap ((m:Int) / 128)=(q:Int):=by
    have e:(m:Int) / 128=(q:Int):=by omega
    rw [e];exact IntWalk.i64_in _ ⟨by omega,by omega⟩
   obtain ⟨b,hbb,hx⟩:=byte_of (128+r) (by omega);rw [Int.natCast_add] at hx;have hx:(b.toNat:Int)=128+(r:Int):=hx;have HX:=zH hx;have hcv:=fun (W:World)=>run_conv1_new (P:=Tryz.prog) W b hx 5 77 9 5 Tryz.underlying77 Tryz.underlying5 Tryz.underlying9
   have hcw:=fun (W:World)=>run_conv1_drew (P:=Tryz.prog) W b hx 5 77 9 5 Tryz.underlying77 Tryz.underlying5 Tryz.underlying9
   clear hx;have c1:=fun (W:World)=>ih (q:Int) W (by omega) (by omega) (by omega);have hr1:r<128:=by omega
   have hlen:=nb_len 9 q (by omega);have HR:=zH hr;have HQ:=zH hq;have C1:=zH c1;clear c1 ih hr hq;have hnb:nb m=b::nb q:=by rw [hbb,zU HR,zU HQ];exact nb_big (by omega)
   have HN:=zH hnb;clear hnb hbb;go_enter Tryz.func95,Tryz.ntmps95;go_wp2_with fail;go_region_with (refine (zU C1 _).mono ?_;rintro e w' ⟨rfl,hb⟩;try (have hcl:=run_conv1_later_drew (P:=Tryz.prog) b (zU HX) hb 77 9 5 Tryz.underlying77 Tryz.underlying5 Tryz.underlying9))
   all_goals
    go_wp2;go_ret;refine ⟨?_,?_⟩
    ·rw [Int.toNat_natCast,zU HN];rfl
    ·first
      | exact (((Below.refl _ _).alloc (Nat.le_refl _) _).drew).trans (hb.mono (by simp))
      | exact ((Below.refl _ _).drew.trans hb).alloc hb.size _
end Go.Proofs.YtjpgoeimclipjaaGreat
namespace Go.Proofs.YtjpgoeimclipjaaGreat
open Go.RowKit Pl
attribute [local go_sem] ext_list app_list
def FromV (l:Bytes):Value:=match take l with
 | some (n,r)=>.tuple #[I n,S r,.bool true]
 | none=>.tuple #[I 0,S [],.bool false]
set_option maxHeartbeats 2000000 in
set_option maxRecDepth 100000 in
theorem numFrom_any (l:Bytes) (w:World) (hs:l.length≤9223372036854775807) :
  Calls Tryz.prog 102 #[S l] w fun e w'=>e = .returned (FromV l)∧Below w.heap.size w w':=by
 go_enter Tryz.func102,Tryz.ntmps102;go_wp2_with fail
 go_loop [5,6,7] (fun n p i=>∃ (k acc:Nat),k≤l.length∧k≤5∧acc<128 ^ k∧take l=takeF (5-k) k acc (l.drop k)∧Canon l k acc∧i = .int .i64 k∧n = .int .i64 acc∧p = .int .i64 (128 ^ k:Nat))
  (fun _ _ i=>5-(intOf i).toNat)
 case atStart=>exact ⟨0,0,by omega,by omega,by omega,rfl,canon_zero l,rfl,rfl,rfl⟩
 case round =>
  obtain ⟨k,acc,hk,hk5,hacc,hx,hcan,rfl,rfl,rfl⟩:=hrel;have HX:=zH hx;have HC:=zH hcan;clear hx hcan;obtain ⟨p,hp⟩:∃ p,p=128 ^ k:=⟨_,rfl⟩
  have hpb:p≤34359738368:=by rw [hp];exact Nat.pow_le_pow_right (by omega) (by omega:k≤5)
  rw [←hp]
  by_cases hlt:k<l.length∧k<5
  ·obtain ⟨hl,h5⟩:=hlt;obtain ⟨c,hc⟩:∃ c,(⟨l.toArray⟩:ByteArray)[k]'hl=c:=⟨_,rfl⟩
   have hcb:=c.toNat_lt;obtain ⟨r,hr⟩:∃ r,r=c.toNat % 128:=⟨_,rfl⟩
   obtain ⟨acc2,hA⟩:∃ acc2,acc2=acc+c.toNat % 128*128 ^ k:=⟨_,rfl⟩
   have hdrop:l.drop k=c::l.drop (k+1):=by rw [←hc];exact List.drop_eq_getElem_cons hl
   have hbd:acc2<128 ^ (k+1):=by
    rw [hA,Nat.pow_succ];have:(c.toNat % 128)*128 ^ k≤127*128 ^ k:=Nat.mul_le_mul_right _ (by omega);omega
   have hbd2:acc2<34359738368:=Nat.lt_of_lt_of_le hbd (Nat.pow_le_pow_right (by omega) (by omega:k+1≤5));have h5k:5-k=(4-k)+1:=by omega
   have h6:=zU HX;rw [hdrop,h5k,takeF,←hA] at h6;have hacp:acc<p:=by rw [hp];exact hacc
   obtain ⟨t,htt⟩:∃ t,t=p*r:=⟨_,rfl⟩
   have hmul:(p:Int)*(r:Int)=(t:Int):=by rw [htt,Int.natCast_mul]
   have hadd:(acc:Int)+(t:Int)=(acc2:Int):=by
    rw [hA,htt,←hr,←hp,Int.natCast_add,Nat.mul_comm]
   clear htt;have hp1:128 ^ (k+1)=p*128:=by rw [hp,Nat.pow_succ]
   have hce:=canon_end (zU HC) hdrop;have hcs:=canon_step (zU HC) hdrop;rw [←hA] at hce hcs;have hrr:(c.toNat:Int) % 128=(r:Int):=by omega
   have hr1:r<128:=by omega
   have HA:=zH hA;have HD:=zH hdrop;have HK:=zH h5k;have HX6:=zH h6;have HP:=zH hp;have HP1:=zH hp1;have HR:=zH hr;have HCE:=zH hce;have HCS:=zH hcs;have hgt:acc≤acc2:=by omega
   clear hA hdrop h5k h6 HX hp hp1 hr hce hcs HC
   by_cases hge:128≤c.toNat
   ·go_wp2_with fail;go_round
    case rel =>
     have h6:=zU HX6;rw [if_pos hge] at h6;exact ⟨k+1,acc2,by omega,by omega,hbd,by rw [h6,show 5-(k+1)=4-k from by omega],zU HCS hge,by go_num,by go_num,by rw [zU HP1];go_num⟩
    case measure=>simp [intOf];omega
   ·have hge2:c.toNat<128:=by omega
    have hce:=zU HCE hge2 hacc;have h6:=zU HX6;rw [if_neg hge] at h6;clear HX6 HCE HCS
    by_cases hm:2147483647<acc2
    ·rw [if_pos (.inr (by unfold maxNum;exact hm))] at h6;have H6:=zH h6;clear h6 hce;have hd:decide ((2147483647:Int)<(acc2:Int))=true:=by simp;omega
     go_wp2_with fail;go_quiet (fail);go_wp2_with fail;go_ret3;unfold FromV;rw [zU H6];exact ⟨rfl,_root_.Go.below_drewN (Below.refl _ _) _⟩
    ·have hd:decide ((2147483647:Int)<(acc2:Int))=false:=by simp;omega
     have c1:=fun (W:World)=>numBytes_k acc2 (acc2:Int) W (by omega) (by omega) (by omega);have C1:=zH c1;have hk1:IntKind.i64.wrap ((k:Int)+1)=(k:Int)+1:=IntWalk.i64_in _ ⟨by omega,by omega⟩;have hk2:(0:Int)≤(k:Int)+1:=by omega
     have hk3:((k:Int)+1).toNat=k+1:=by omega
     have hk4:(k:Int)+1≤(l.length:Int):=by omega
     by_cases hz:0<k∧c.toNat=0
     ·rw [if_pos (.inl hz)] at h6
      have hq:(nb acc2 == slice l 0 (k+1))=false:=by
       rw [slice_head,beq_eq_false_iff_ne];intro h;exact (hce.1 h) hz
      have H6:=zH h6;clear c1 h6 hce hz;go_wp2_with fail;go_region_held3 (fun _=>True) (first | exact trivial) ((first | (refine (zU C1 _).mono ?_;rintro e w1 ⟨rfl,hb⟩)));clear hk1 hk2 hk3 hk4;go_wp2_with fail;go_ret3;unfold FromV;rw [zU H6];exact ⟨rfl,(Below.refl _ _).drew.trans hb⟩
     ·rw [if_neg (by unfold maxNum;omega)] at h6
      have hq:(nb acc2 == slice l 0 (k+1))=true:=by
       rw [slice_head,beq_iff_eq];exact hce.2 hz
      have H6:=zH h6;clear c1 h6 hce hz;go_wp2_with fail;go_region_held3 (fun _=>True) (first | exact trivial) ((first | (refine (zU C1 _).mono ?_;rintro e w1 ⟨rfl,hb⟩)));clear hk1 hk2 hk3 hk4;go_wp2_with fail;go_quiet (fail);go_wp2_with fail;go_ret3;unfold FromV;rw [zU H6,←slice_end];exact ⟨rfl,_root_.Go.below_drewN ((Below.refl _ _).drew.trans hb) _⟩
  ·have h9:¬ (k<l.length∧k<5):=hlt;have h6:=zU HX
   have h7:take l=none:=by
    rw [h6]
    by_cases h8:k<l.length
    ·rw [show 5-k=0 from by omega];rfl
    ·rw [List.drop_of_length_le (by omega)];cases 5-k <;> rfl
   have H7:=zH h7;clear h6 h7 HX
   by_cases h8:k<l.length
   all_goals
    go_wp2_with fail;go_ret3;unfold FromV;rw [zU H7];exact ⟨rfl,Below.refl _ _⟩
end Go.Proofs.YtjpgoeimclipjaaGreat
namespace Go.Proofs.YtjpgoeimclipjaaGreat
open Go.RowKit Pl
attribute [local go_sem] ext_list app_list
theorem numFrom_ok {l:Bytes} {n:Nat} {r:Bytes} (h:take l=some (n,r)) (w:World) (hs:l.length≤9223372036854775807) :
  Calls Tryz.prog 102 #[S l] w fun e w'=>e = .returned (.tuple #[I n,S r,.bool true])∧Below w.heap.size w w' :=
 (numFrom_any l w hs).mono fun e w' ⟨he,hk⟩=>⟨by rw [he];unfold FromV;rw [h],hk⟩
theorem numFrom_no {l:Bytes} (h:take l=none) (w:World) (hs:l.length≤9223372036854775807) :
  Calls Tryz.prog 102 #[S l] w fun e w'=>e = .returned (.tuple #[I 0,S [],.bool false])∧Below w.heap.size w w' :=
 (numFrom_any l w hs).mono fun e w' ⟨he,hk⟩=>⟨by rw [he];unfold FromV;rw [h],hk⟩
theorem numBytes_any (n:Nat) (w:World) (h:n≤9223372036854775807) :
  Calls Tryz.prog 95 #[I n] w fun e w'=>e = .returned (S (nb n))∧Below w.heap.size w w' :=
 (numBytes_k n (n:Int) w (by omega) (by omega) (by omega)).mono fun e w' ⟨he,hk⟩=>⟨by rw [he,Int.toNat_natCast],hk⟩
set_option maxHeartbeats 400000 in
set_option maxRecDepth 100000 in
theorem textBytes_any (t:Bytes) (w:World) (h:t.length≤4611686018427387904) :
  Calls Tryz.prog 96 #[S t] w fun e w'=>e = .returned (S (textB t))∧Below w.heap.size w w':=by
 have hl:=nb_len 9 t.length (by omega);go_enter Tryz.func96,Tryz.ntmps96;go_wp2_with fail;refine (numBytes_any t.length _ (by omega)).mono ?_;rintro e w1 ⟨rfl,hb⟩;go_wp2_with fail;go_ret;exact ⟨rfl,hb⟩
end Go.Proofs.YtjpgoeimclipjaaGreat
namespace Go.Proofs.YtjpgoeimclipjaaGreat
open Go.RowKit Pl
attribute [local go_sem] ext_list app_list
theorem sum_i64 (s k c:Nat) (hs:s<65536) (hc:c<256):(wrap64 ((s:Int)+wrap64 (((k:Int) % 65536+1)*(c:Int)))).tmod 65536=(((s+(k+1)*c) % 65536:Nat):Int):=by
 have h1:((k:Int) % 65536+1)*(c:Int)=(((k % 65536+1)*c:Nat):Int):=by
  rw [Int.natCast_mul,Int.natCast_add,Int.natCast_emod];rfl
 have h2:(k % 65536+1)*c≤65536*255:=Nat.mul_le_mul (by omega) (by omega);have w1:wrap64 (((k % 65536+1)*c:Nat):Int)=(((k % 65536+1)*c:Nat):Int):=IntWalk.wrap64_in _ ⟨by omega,by omega⟩;have w2:wrap64 ((s+(k % 65536+1)*c:Nat):Int)=((s+(k % 65536+1)*c:Nat):Int):=IntWalk.wrap64_in _ ⟨by omega,by omega⟩;rw [h1,w1,←Int.natCast_add,w2,Int.tmod_eq_emod_of_nonneg (by omega)]
 have h3:(s+(k % 65536+1)*c) % 65536=(s+(k+1)*c) % 65536:=by
  rw [Nat.add_mod,Nat.mul_mod,Nat.add_mod (k % 65536),Nat.mod_mod,←Nat.add_mod k,←Nat.mul_mod,←Nat.add_mod]
 rw [←h3,Int.natCast_emod];rfl
set_option maxHeartbeats 400000 in
set_option maxRecDepth 100000 in
theorem sumOf_any (l:Bytes) (w:World) (hs:l.length≤9223372036854775807) :
  Calls Tryz.prog 86 #[S l] w fun e w'=>e = .returned (I (sumOf l))∧w=w':=by
 go_enter Tryz.func86,Tryz.ntmps86;go_wp2_with fail
 go_loop [3,4] (fun n i=>∃ (k:Nat),k≤l.length∧i = .int .i64 k∧n = .int .i64 (sumOf (l.take k):Nat))
  (fun _ i=>l.length-(intOf i).toNat)
 case atStart=>exact ⟨0,by omega,rfl,rfl⟩
 case round =>
  obtain ⟨k,hk,rfl,rfl⟩:=hrel;obtain ⟨s,hs1⟩:∃ s,s=sumOf (l.take k):=⟨_,rfl⟩
  have hsb:s<65536:=by rw [hs1];exact Nat.mod_lt _ (by omega)
  rw [←hs1];have HS:=zH hs1;clear hs1
  by_cases hl:k<l.length
  ·obtain ⟨c,hc⟩:∃ c,(⟨l.toArray⟩:ByteArray)[k]'hl=c:=⟨_,rfl⟩
   have hcb:=c.toNat_lt;go_wp2_with fail;go_round
   case rel=>exact ⟨k+1,by omega,by go_num,by rw [sum_step hl hc (zU HS),sum_i64 s k _ hsb hcb]⟩
   case measure=>simp [intOf];omega
  ·go_wp2_with fail;go_ret;have hk2:k=l.length:=by omega
   have h3:=zU HS;rw [hk2,List.take_length] at h3;exact ⟨by rw [←h3];rfl,rfl⟩
end Go.Proofs.YtjpgoeimclipjaaGreat
namespace Go.Proofs.YtjpgoeimclipjaaGreat
open Go.RowKit Go.Lib Pl
attribute [local go_sem] ext_list app_list
attribute [local go_sem] World.cell?_alloc_some in
set_option maxHeartbeats 1000000 in
set_option maxRecDepth 100000 in
theorem dictOf_any (A:Option Addr) (n cap:Nat) (A2:Option Addr) (n2 cap2:Nat) (a:Arc) (k:Int) (w:World) (h:ArcIn w A n A2 n2 a) (hn:n≤4611686018427387904) (hk:(dictO a.ds k).isSome=true) :
  Calls Tryz.prog 85 #[arcV A n cap A2 n2 cap2,I k] w fun e w'=>e = .returned (S ((dictO a.ds k).getD []))∧Below w.heap.size w w':=by
 have hl:=h.s.1;have HB:=zH (fun (o:Obj)=>(Below.refl w.heap.size w).alloc (Nat.le_refl _) o)
 by_cases k0:k=0
 ·subst k0;rw [dictO_zero];clear h hk;go_enter Tryz.func85,Tryz.ntmps85;go_wp2_with fail;go_ret;exact ⟨rfl,zU HB _⟩
 ·have z0:(k == 0)=false:=by rw [beq_eq_false_iff_ne];exact k0
  by_cases kb:k<0∨(n:Int)<k
  ·rw [dictO_bad (by rw [hl];exact kb)] at hk;cases hk
  ·obtain ⟨j,rfl⟩:∃ j:Nat,k=(j:Int)+1:=⟨k.toNat-1,by omega⟩
   obtain ⟨b,off,t,rfl,hb,ht,hc⟩:=h.s.at_ (k:=j) (by omega);rw [dictO_at ht];have w1:IntKind.i64.wrap ((j:Int)+1-1)=(j:Int):=by rw [show (j:Int)+1-1=(j:Int) from by omega];exact IntWalk.i64_in _ ⟨by omega,by omega⟩
   have w2:wrap64 ((j:Int)+1-1)=(j:Int):=by rw [show (j:Int)+1-1=(j:Int) from by omega];exact IntWalk.wrap64_in _ ⟨by omega,by omega⟩
   have w3:IntKind.i64.wrap (j:Int)=(j:Int):=IntWalk.i64_in _ ⟨by omega,by omega⟩;have d3:(j:Int)<(n:Int):=by omega
   clear h kb ht hk;go_enter Tryz.func85,Tryz.ntmps85;go_wp2_with fail;go_ret;exact ⟨rfl,zU HB _⟩
end Go.Proofs.YtjpgoeimclipjaaGreat
namespace Go.Proofs.YtjpgoeimclipjaaGreat
open Go.RowKit Go.Lib Pl
attribute [local go_sem] ext_list app_list
theorem within_any (a b c:Int) (w:World):Calls Tryz.prog 78 #[I a,I b,I c] w fun e w'=>e = .returned (.bool (decide (b≤a∧a≤c)))∧w=w':=by
 by_cases h1:b≤a
 ·by_cases h2:a≤c
  ·rw [decide_eq_true ⟨h1,h2⟩];go_enter Tryz.func78,Tryz.ntmps78;go_wp2;go_ret;exact ⟨rfl,rfl⟩
  ·rw [decide_eq_false (by omega)];go_enter Tryz.func78,Tryz.ntmps78;go_wp2;go_ret;exact ⟨rfl,rfl⟩
 ·rw [decide_eq_false (by omega)];go_enter Tryz.func78,Tryz.ntmps78;go_wp2;go_ret;exact ⟨rfl,rfl⟩
theorem within_yes (a b c:Int) (w:World) (h:b≤a∧a≤c):Calls Tryz.prog 78 #[I a,I b,I c] w fun e w'=>e = .returned (.bool true)∧w=w' :=
 (within_any a b c w).mono fun _ _ ⟨he,hw⟩=>⟨by rw [he,decide_eq_true h],hw⟩
theorem within_no (a b c:Int) (w:World) (h:¬ (b≤a∧a≤c)):Calls Tryz.prog 78 #[I a,I b,I c] w fun e w'=>e = .returned (.bool false)∧w=w' :=
 (within_any a b c w).mono fun _ _ ⟨he,hw⟩=>⟨by rw [he,decide_eq_false h],hw⟩
theorem slice_one {s:Bytes} {a:Nat} {c:UInt8} (h:s[a]? = some c):slice s a (a+1)=[c]:=by
 unfold slice;rw [List.take_add_one,h];have:a<s.length:=(List.getElem?_eq_some_iff.1 h).1;rw [List.drop_append_of_le_length (by simp;omega),List.drop_of_length_le (by simp;omega)];rfl
def prevLit (l:List Tok) (k:Nat):Bool:=decide (0<k) && (match l[k-1]? with | some t=>isLit t | none=>false)
theorem prevLit_succ {l:List Tok} {k:Nat} {t:Tok} (h:l[k]? = some t):prevLit l (k+1)=isLit t:=by
 unfold prevLit;simp [h]
set_option maxHeartbeats 4000000 in
set_option maxRecDepth 100000 in
theorem checkToks_walk (dict:Bytes) (A:Option Addr) (n cap:Nat) (l:List Tok) (w:World) (hl:ToksAt w w.heap.size A n l) (hd:dict.length≤256) (hn:n≤4611686018427387904) :
  Calls Tryz.prog 142 #[S dict,.slice A n cap] w fun e w'=>e = .returned (.tuple #[S (play dict l).1,I (play dict l).2])∧Below w.heap.size w w':=by
 go_enter Tryz.func142,Tryz.ntmps142;go_wp2_with fail
 go_loopw [6,7] (fun sv i wr=>∃ (k:Nat) (s:Bytes),k≤n∧i = .int .i64 k∧sv=S s∧dict.length≤s.length∧s.length≤dict.length+512 ∧
   playF dict.length s (prevLit l k) (l.drop k)=play dict l∧Below w.heap.size w wr)
  (fun _ i _=>n-(intOf i).toNat)
 case atStart =>
  refine ⟨0,dict,by omega,rfl,rfl,by omega,by omega,?_,Below.refl _ _⟩;unfold play;rw [if_neg (by unfold maxDict;omega)];rfl
 case round =>
  obtain ⟨k,s,hk,rfl,rfl,hs1,hs2,hpl,hbel⟩:=hrel;have hd0:(0:Int)≤(s.length:Int)-(dict.length:Int):=by omega
  have hd1:(s.length:Int)-(dict.length:Int)≤512:=by omega
  by_cases hkn:k<n
  ·obtain ⟨b,off,rfl,hb,hc⟩:=(hl.below hbel).2 (by omega);have hkl:k<l.length:=by have:=hl.1;omega
   have hbw:b<wr.heap.size:=Nat.lt_of_lt_of_le hb hbel.size;obtain ⟨t,ht⟩:∃ t,l[k]? = some t:=⟨_,List.getElem?_eq_getElem hkl⟩
   obtain ⟨q0,q1,q2⟩:=hc k t ht;obtain ⟨tl,tf,tn⟩:=t
   by_cases hlit:tl=[]
   ·subst hlit;have HP:=zH hpl;have HT:=zH ht;clear hpl ht hc
    by_cases h1:3≤tn∧tn≤64
    ·obtain ⟨h1,h2⟩:=h1
     by_cases h3:1≤tf∧tf≤(s.length:Int)
     ·obtain ⟨h3,h4⟩:=h3;obtain ⟨f,rfl⟩:=Int.eq_ofNat_of_zero_le (show 0≤tf by omega);obtain ⟨m,rfl⟩:=Int.eq_ofNat_of_zero_le (show 0≤tn by omega);have hgd:¬ ((m:Int)<3∨64<(m:Int)∨(f:Int)<1∨(s.length:Int)<(f:Int)):=by omega
      by_cases h5:512<m+(s.length-dict.length)
      ·have hE:tokE dict.length s (prevLit l k) ⟨[],f,m⟩=2:=by unfold tokE;rw [if_neg (by simp),if_neg hgd,if_pos (by show 512<(m:Int)+_;omega)]
       have HE:=zH hE;have h6:512-((s.length:Int)-(dict.length:Int))<(m:Int):=by omega
       clear hE hgd;go_wp2_with ((go_at_call 78;first | (refine (within_yes _ _ _ _ ⟨by omega,by omega⟩).mono ?_;rintro e w1 ⟨rfl,rfl⟩) | (refine (within_no _ _ _ _ (by omega)).mono ?_;rintro e w1 ⟨rfl,rfl⟩)));go_ret2;rw [←zU HP,drop_cons (zU HT),playF,if_pos (by rw [zU HE];omega),zU HE];exact ⟨rfl,hbel.alloc hbel.size _⟩
      ·have hE:tokE dict.length s (prevLit l k) ⟨[],f,m⟩=0:=by unfold tokE;rw [if_neg (by simp),if_neg hgd,if_neg (by show ¬ 512<(m:Int)+_;omega)]
       have HE:=zH hE;have h6:(m:Int)≤512-((s.length:Int)-(dict.length:Int)):=by omega
       have h6n:decide (512-((s.length:Int)-(dict.length:Int))<(m:Int))=false:=by simp;omega
       have h4n:decide (s.length<f)=false:=by simp;omega
       clear hE hgd;go_wp2_with ((go_at_call 78;first | (refine (within_yes _ _ _ _ ⟨by omega,by omega⟩).mono ?_;rintro e w1 ⟨rfl,rfl⟩) | (refine (within_no _ _ _ _ (by omega)).mono ?_;rintro e w1 ⟨rfl,rfl⟩)));obtain ⟨wo,hwo⟩:∃ wo:World,wo=wr:=⟨_,rfl⟩
       go_loop [6,9] (fun sv i=>∃ j:Nat,j≤m∧i = .int .i64 j∧sv=S (copyB j f s)) (fun _ i=>m-(intOf i).toNat)
       case atStart=>exact ⟨0,by omega,rfl,rfl⟩
       case round =>
        obtain ⟨j,hj,rfl,rfl⟩:=hrel;have hcl:=copyB_len j f s;obtain ⟨s',hs'⟩:∃ s',s'=copyB j f s:=⟨_,rfl⟩
        rw [←hs'] at hcl;rw [←hs'];have HS:=zH hs'
        by_cases hjm:j<m
        ·obtain ⟨a,ha⟩:∃ a:Nat,a=s'.length-f:=⟨_,rfl⟩
         have ha1:(s'.length:Int)-(f:Int)=(a:Int):=by omega
         have ha2:a<s'.length:=by omega
         obtain ⟨c,hcc⟩:∃ c,s'[a]? = some c:=⟨_,List.getElem?_eq_getElem ha2⟩
         have hso:=slice_one hcc;have hb3:s'.length≤832:=by omega
         have HCC:=zH hcc;have HA:=zH ha;clear hcl hs' hcc ha hwo;go_wp2_with fail;go_round
         case rel =>
          refine ⟨j+1,by omega,by go_num,?_⟩;rw [copyB_snoc,←zU HS,←zU HA,List.getD_eq_getElem?_getD,zU HCC];rfl
         case measure=>simp [intOf];omega
        ·have hjm2:j=m:=by omega
         have HJ:=zH hjm2;have hb3:s'.length≤dict.length+512:=by omega
         have hb4:dict.length≤s'.length:=by omega
         clear hcl hs' hjm2 hwo;go_wp2_with fail;go_roundw
         case rel =>
          refine ⟨k+1,s',by omega,by go_num,rfl,hb4,hb3,?_,hbel.alloc hbel.size _⟩;have e1:tokS s ⟨[],f,m⟩=s':=by rw [zU HS,zU HJ];simp [tokS]
          rw [←zU HP,drop_cons (zU HT),playF,if_neg (by rw [zU HE];omega),prevLit_succ (zU HT),e1]
         case measure=>simp [intOf];omega
     ·have hE:tokE dict.length s (prevLit l k) ⟨[],tf,tn⟩=1:=by unfold tokE;rw [if_neg (by simp),if_pos (by show tn<3∨64<tn∨tf<1∨(s.length:Int)<tf;omega)]
      have HE:=zH hE;clear hE;go_wp2_with ((go_at_call 78;first | (refine (within_yes _ _ _ _ ⟨by omega,by omega⟩).mono ?_;rintro e w1 ⟨rfl,rfl⟩) | (refine (within_no _ _ _ _ (by omega)).mono ?_;rintro e w1 ⟨rfl,rfl⟩)));go_ret2;rw [←zU HP,drop_cons (zU HT),playF,if_pos (by rw [zU HE];omega),zU HE];exact ⟨rfl,hbel.alloc hbel.size _⟩
    ·have hE:tokE dict.length s (prevLit l k) ⟨[],tf,tn⟩=1:=by unfold tokE;rw [if_neg (by simp),if_pos (by show tn<3∨64<tn∨tf<1∨(s.length:Int)<tf;omega)]
     have HE:=zH hE;clear hE;go_wp2_with ((go_at_call 78;first | (refine (within_yes _ _ _ _ ⟨by omega,by omega⟩).mono ?_;rintro e w1 ⟨rfl,rfl⟩) | (refine (within_no _ _ _ _ (by omega)).mono ?_;rintro e w1 ⟨rfl,rfl⟩)));go_ret2;rw [←zU HP,drop_cons (zU HT),playF,if_pos (by rw [zU HE];omega),zU HE];exact ⟨rfl,hbel.alloc hbel.size _⟩
   ·have hl1:tl.isEmpty=false:=by simpa using hlit
    have hl2:(tl == [])=false:=by simpa using hlit
    have HL:=zH hlit;have HP:=zH hpl;have HT:=zH ht;have HCELL:=zH hc;clear hlit hpl ht hc
    by_cases h1:tf=0
    ·subst h1
     by_cases h2:tn=0
     ·subst h2
      by_cases hk0:0<k
      ·have hk1:k-1<l.length:=by omega
       obtain ⟨tp,htp⟩:∃ t,l[k-1]? = some t:=⟨_,List.getElem?_eq_getElem hk1⟩
       obtain ⟨r0,_,_⟩:=(zU HCELL) (k-1) tp htp;obtain ⟨pl,pf,pn⟩:=tp;have hv:prevLit l k = !pl.isEmpty:=by unfold prevLit;rw [htp];simp [hk0,isLit]
       have hj2:((k:Int)-1).toNat=k-1:=by omega
       clear htp
       by_cases hpe:pl=[]
       ·subst hpe;have HV:=zH (show prevLit l k=false by rw [hv];rfl);clear hv
        by_cases h4:512<tl.length+(s.length-dict.length)
        ·have hE:tokE dict.length s (prevLit l k) ⟨tl,0,0⟩=2:=by rw [zU HV];simp [tokE,zU HL,h4]
         have HE:=zH hE;have h5:512-((s.length:Int)-(dict.length:Int))<(tl.length:Int):=by omega
         clear hE;go_wp2_with fail;go_ret2;rw [←zU HP,drop_cons (zU HT),playF,if_pos (by rw [zU HE];omega),zU HE];exact ⟨rfl,hbel.alloc hbel.size _⟩
        ·have hE:tokE dict.length s (prevLit l k) ⟨tl,0,0⟩=0:=by rw [zU HV];simp [tokE,zU HL];omega
         have HE:=zH hE;have h5:(tl.length:Int)≤512-((s.length:Int)-(dict.length:Int)):=by omega
         clear hE;go_wp2_with fail;go_roundw
         case rel =>
          refine ⟨k+1,s++tl,by omega,by go_num,rfl,by rw [List.length_append];omega,by rw [List.length_append];omega,?_,hbel.alloc hbel.size _⟩;have e1:tokS s ⟨tl,0,0⟩=s++tl:=by simp [tokS,zU HL]
          rw [←zU HP,drop_cons (zU HT),playF,if_neg (by rw [zU HE];omega),prevLit_succ (zU HT),e1]
         case measure=>simp [intOf];omega
       ·have hp1:pl.isEmpty=false:=by simpa using hpe
        have hp2:(pl == [])=false:=by simpa using hpe
        have hE:tokE dict.length s (prevLit l k) ⟨tl,0,0⟩=1:=by rw [hv,hp1];simp [tokE,zU HL]
        have HE:=zH hE;clear hpe hE hv;go_wp2_with fail;go_ret2;rw [←zU HP,drop_cons (zU HT),playF,if_pos (by rw [zU HE];omega),zU HE];exact ⟨rfl,hbel.alloc hbel.size _⟩
      ·have hk1:k<1:=by omega
       have HV:=zH (show prevLit l k=false by unfold prevLit;simp [hk0])
       by_cases h4:512<tl.length+(s.length-dict.length)
       ·have hE:tokE dict.length s (prevLit l k) ⟨tl,0,0⟩=2:=by rw [zU HV];simp [tokE,zU HL,h4]
        have HE:=zH hE;have h5:512-((s.length:Int)-(dict.length:Int))<(tl.length:Int):=by omega
        clear hE;go_wp2_with fail;go_ret2;rw [←zU HP,drop_cons (zU HT),playF,if_pos (by rw [zU HE];omega),zU HE];exact ⟨rfl,hbel.alloc hbel.size _⟩
       ·have hE:tokE dict.length s (prevLit l k) ⟨tl,0,0⟩=0:=by rw [zU HV];simp [tokE,zU HL];omega
        have HE:=zH hE;have h5:(tl.length:Int)≤512-((s.length:Int)-(dict.length:Int)):=by omega
        clear hE;go_wp2_with fail;go_roundw
        case rel =>
         refine ⟨k+1,s++tl,by omega,by go_num,rfl,by rw [List.length_append];omega,by rw [List.length_append];omega,?_,hbel.alloc hbel.size _⟩;have e1:tokS s ⟨tl,0,0⟩=s++tl:=by simp [tokS,zU HL]
         rw [←zU HP,drop_cons (zU HT),playF,if_neg (by rw [zU HE];omega),prevLit_succ (zU HT),e1]
        case measure=>simp [intOf];omega
     ·have z1:(tn == 0)=false:=beq_eq_false_iff_ne.2 h2;have z2:(tn != 0)=true:=by rw [bne_iff_ne];exact h2
      have hE:tokE dict.length s (prevLit l k) ⟨tl,0,tn⟩=1:=by simp [tokE,zU HL,h2]
      have HE:=zH hE;clear h2 hE;go_wp2_with fail;go_ret2;rw [←zU HP,drop_cons (zU HT),playF,if_pos (by rw [zU HE];omega),zU HE];exact ⟨rfl,hbel.alloc hbel.size _⟩
    ·have z1:(tf == 0)=false:=beq_eq_false_iff_ne.2 h1;have z2:(tf != 0)=true:=by rw [bne_iff_ne];exact h1
     have hE:tokE dict.length s (prevLit l k) ⟨tl,tf,tn⟩=1:=by simp [tokE,zU HL,h1]
     have HE:=zH hE;clear h1 hE;go_wp2_with fail;go_ret2;rw [←zU HP,drop_cons (zU HT),playF,if_pos (by rw [zU HE];omega),zU HE];exact ⟨rfl,hbel.alloc hbel.size _⟩
  ·have hkn2:k=n:=by omega
   have hpl2:play dict l=(slice s dict.length s.length,0):=by
    rw [←hpl,hkn2,List.drop_of_length_le (by have:=hl.1;omega),playF,slice_end]
   have HP:=zH hpl2;clear hpl2 hkn2 hpl;go_wp2_with fail;go_ret2;rw [zU HP];exact ⟨rfl,hbel⟩
set_option maxHeartbeats 1000000 in
set_option maxRecDepth 100000 in
theorem checkToks_many (dict:Bytes) (A:Option Addr) (n cap:Nat) (w:World) (hd:256<dict.length) (hd2:dict.length≤9223372036854775807) :
  Calls Tryz.prog 142 #[S dict,.slice A n cap] w fun e w'=>e = .returned (.tuple #[S [],I 2])∧Below w.heap.size w w':=by
 go_enter Tryz.func142,Tryz.ntmps142;go_wp2_with fail;go_ret2;exact ⟨rfl,Below.refl _ _⟩
theorem checkToks_any (dict:Bytes) (A:Option Addr) (n cap:Nat) (l:List Tok) (w:World) (hl:ToksAt w w.heap.size A n l) (hd:dict.length≤9223372036854775807) (hn:n≤4611686018427387904) :
  Calls Tryz.prog 142 #[S dict,.slice A n cap] w fun e w'=>e = .returned (.tuple #[S (play dict l).1,I (play dict l).2])∧Below w.heap.size w w':=by
 by_cases h:dict.length≤256
 ·exact checkToks_walk dict A n cap l w hl h hn
 ·have e:play dict l=([],2):=by unfold play;exact if_pos (by unfold maxDict;omega)
  rw [e];exact checkToks_many dict A n cap w (by omega) hd
end Go.Proofs.YtjpgoeimclipjaaGreat
namespace Go.Proofs.YtjpgoeimclipjaaGreat
open Go.RowKit Go.Lib Pl
set_option maxHeartbeats 2000000 in
set_option maxRecDepth 100000 in
theorem checkCodeR_any (l:List Int) (w:World) (hl:l.length=16) :
  Calls Tryz.prog 137 #[A16 l] w fun e w'=>e = .returned (I (checkE l))∧Below w.heap.size w w':=by
 have hg0:=heap_alloc_new w (.cells (cells16 l) 145);have HG0:=zH hg0;have HL:=zH hl;have hbel:=(Below.refl w.heap.size w).alloc (Nat.le_refl _) (.cells (cells16 l) 145);have HBEL:=zH hbel;clear hl hg0 hbel;go_enter Tryz.func137,Tryz.ntmps137;go_wp2_with fail;go_loop [3,4,5] (fun s u i=>∃ (k r:Nat) (b:Bool),k≤16∧i = .int .i64 k∧s = .int .i64 r∧u = .bool b∧r=kr (l.take k)∧(l.take k).any badL=false∧b=decide (0<r)) (fun _ _ i=>16-(intOf i).toNat)
 case atStart=>exact ⟨0,0,false,by omega,rfl,rfl,rfl,by simp [kr],by simp,rfl⟩
 case round =>
  obtain ⟨k,r,b,hk,rfl,rfl,rfl,hr,hnb,hbb⟩:=hrel;have hkl:=kr_take_le l k hk;have hr2:r≤524288:=by omega
  have HR:=zH hr;have HNB:=zH hnb;have HBB:=zH hbb;clear hr hnb hkl hbb
  by_cases hk16:k<16
  ·obtain ⟨x,hx⟩:∃ x,l[k]? = some x:=⟨_,List.getElem?_eq_getElem (by have:=zU HL;omega)⟩
   have hc:=cell16 (zU HG0) hx;have HX:=zH hx;clear hx
   by_cases hb:x<0∨15<x
   ·have hres:checkE l=3:=checkE_bad (bad_of_take (k:=k+1) (by rw [bad_take (zU HX)];simp [badL,hb]));have HRES:=zH hres;have C1:=zH (fun (W:World)=>within_no x 0 15 W (by omega));clear hres hb;go_wp2_with (go_at_call 78;refine (zU C1 _).mono ?_;rintro e w1 ⟨rfl,rfl⟩);go_ret;exact ⟨by rw [zU HRES];rfl,zU HBEL⟩
   ·have hnb2:(l.take (k+1)).any badL=false:=by rw [bad_take (zU HX),zU HNB];simp [badL];omega
    have HN2:=zH hnb2;obtain ⟨m,rfl⟩:=Int.eq_ofNat_of_zero_le (show 0≤x by omega);have hm15:m≤15:=by omega
    have C1:=zH (fun (W:World)=>within_yes (m:Int) 0 15 W ⟨by omega,by omega⟩);have hkt:=kr_take (zU HX);have HKT:=zH hkt;have hpw:=pw_wrap m;have hpl:=pw_le m;have hpp:=pw_pos m;clear hnb2 hkt hb
    by_cases hp:0<m
    ·have hk1:=kr1_pos hp;have HK1:=zH hk1;clear hk1;go_wp2_with (go_at_call 78;refine (zU C1 _).mono ?_;rintro e w1 ⟨rfl,rfl⟩);go_round
     case rel=>exact ⟨k+1,r+pw m,true,by omega,by go_num,by go_num,rfl,by rw [zU HR,zU HKT,zU HK1],zU HN2,by simp;omega⟩
     case measure=>simp [intOf];omega
    ·have hk1:=kr1_zero (x:=(m:Int)) (by omega);have HK1:=zH hk1;clear hk1;go_wp2_with (go_at_call 78;refine (zU C1 _).mono ?_;rintro e w1 ⟨rfl,rfl⟩);go_round
     case rel=>exact ⟨k+1,r,b,by omega,by go_num,rfl,rfl,by rw [zU HR,zU HKT,zU HK1];omega,zU HN2,zU HBB⟩
     case measure=>simp [intOf];omega
  ·have hfin:l.take k=l:=List.take_of_length_le (by have:=zU HL;omega);have hnb:=zU HNB;have hr:=zU HR;have hbb:=zU HBB;rw [hfin] at hnb hr
   by_cases h0:r=0
   ·have hb0:b=false:=by rw [hbb,h0];rfl
    subst hb0;have hres:=checkE_form hnb (.inl (by omega));have HRES:=zH hres;clear hres hnb hr hfin hbb h0;go_wp2_with fail;go_ret;exact ⟨by rw [zU HRES];rfl,zU HBEL⟩
   ·have hb1:b=true:=by rw [hbb];simp;omega
    subst hb1
    by_cases hbig:32768<r
    ·have hres:=checkE_form hnb (.inr (by omega));have HRES:=zH hres;clear hres hnb hr hfin hbb h0;go_wp2_with fail;go_ret;exact ⟨by rw [zU HRES];rfl,zU HBEL⟩
    ·have hres:=checkE_ok hnb (by omega);have HRES:=zH hres;clear hres hnb hr hfin hbb h0;go_wp2_with fail;go_ret;exact ⟨by rw [zU HRES];rfl,zU HBEL⟩
end Go.Proofs.YtjpgoeimclipjaaGreat
namespace Go.Proofs.YtjpgoeimclipjaaGreat
open Go.RowKit Go.Lib Pl
attribute [local go_sem] ext_list app_list
theorem numBytes_i (n:Int) (w:World) (h0:0≤n) (h1:n≤9223372036854775807) :
  Calls Tryz.prog 95 #[I n] w fun e w'=>e = .returned (S (nb n.toNat))∧Below w.heap.size w w' :=
 numBytes_k n.toNat n w (Nat.le_refl _) h0 h1
end Go.Proofs.YtjpgoeimclipjaaGreat
namespace Go.Proofs.YtjpgoeimclipjaaGreat
open Go.RowKit Go.Lib Pl
attribute [local go_sem] ext_list app_list
def bch (b:Bool):UInt8:=if b then 49 else 48
def bstr (l:List Bool):Bytes:=l.map bch
theorem bstr_len (l:List Bool):(bstr l).length=l.length:=List.length_map ..
theorem bstr_app (a b:List Bool):bstr (a++b)=bstr a++bstr b:=List.map_append ..
theorem bstr_inj {a b:List Bool} (h:bstr a=bstr b):a=b:=by
 induction a generalizing b with
 | nil=>cases b with
  | nil=>rfl
  | cons y b=>simp [bstr] at h
 | cons x a ih=>cases b with
  | nil=>simp [bstr] at h
  | cons y b =>
   simp only [bstr,List.map_cons,List.cons.injEq] at h;rw [ih h.2]
   congr 1
   have h1:=h.1;cases x <;> cases y <;> first | rfl | (exact absurd h1 (by decide))
attribute [local go_sem ↓] concat_list in
set_option maxHeartbeats 1000000 in
set_option maxRecDepth 100000 in
theorem bits_any:∀ (s n:Nat) (w:World),s≤1000→n≤9223372036854775807 →
  Calls Tryz.prog 138 #[I n,I s] w fun e w'=>e = .returned (S (bstr (bt n s)))∧Below w.heap.size w w':=by
 intro s
 induction s with
 | zero =>
  intro n w hs hn;go_enter Tryz.func138,Tryz.ntmps138;go_wp2_with fail;go_ret;exact ⟨rfl,Below.refl _ _⟩
 | succ s ih =>
  intro n w hs hn;obtain ⟨r,hr⟩:∃ r,r=n % 2:=⟨_,rfl⟩
  obtain ⟨q,hq⟩:∃ q,q=n / 2:=⟨_,rfl⟩
  have hr1:r<2:=by omega
  have ht:(n:Int).tmod 2=(r:Int):=by rw [Int.tmod_eq_emod_of_nonneg (by omega)];omega
  have hw1:IntKind.i64.wrap (48+(r:Int))=48+(r:Int):=IntWalk.i64_in _ ⟨by omega,by omega⟩;have hw2:IntKind.u8.wrap (48+(r:Int))=48+(r:Int):=by rw [IntKind.wrap_u8];omega
  have hw3:IntKind.i64.wrap ((n:Int) / 2)=(q:Int):=by
   have e:(n:Int) / 2=(q:Int):=by omega
   rw [e];exact IntWalk.i64_in _ ⟨by omega,by omega⟩
  have hx:(((bch (decide (n % 2=1))).toNat:Nat):Int)=48+(r:Int):=by
   rcases Nat.mod_two_eq_zero_or_one n with h | h
   ·rw [hr,h];rfl
   ·rw [hr,h];rfl
  have hbt:bt n (s+1)=bt q s++[decide (n % 2=1)]:=by rw [hq];rfl
  obtain ⟨b,hbb⟩:∃ b,b=bch (decide (n % 2=1)):=⟨_,rfl⟩
  have hres:bstr (bt n (s+1))=bstr (bt q s)++[b]:=by rw [hbt,bstr_app,hbb];rfl
  rw [←hbb] at hx;have HRES:=zH hres;have HX:=zH hx;have hcv:=fun (W:World)=>run_conv1_new (P:=Tryz.prog) W b hx 5 77 9 5 Tryz.underlying77 Tryz.underlying5 Tryz.underlying9
  have hcw:=fun (W:World)=>run_conv1_drew (P:=Tryz.prog) W b hx 5 77 9 5 Tryz.underlying77 Tryz.underlying5 Tryz.underlying9
  have C1:=zH (fun (W:World)=>ih q W (by omega) (by omega));have hlen:(bstr (bt q s)).length+1≤9223372036854775807:=by rw [bstr_len,bt_len];omega
  obtain ⟨m,hm⟩:∃ m,m=s+1:=⟨_,rfl⟩
  have hws:IntKind.i64.wrap ((m:Int)-1)=(s:Int):=by
   have e:(m:Int)-1=(s:Int):=by omega
   rw [e];exact IntWalk.i64_in _ ⟨by omega,by omega⟩
  have z0:((m:Int) == 0)=false:=by rw [beq_eq_false_iff_ne];omega
  have z1:m≠0:=by omega
  rw [←hm];rw [←hm] at HRES;clear hx hr hq hres hbb hbt ih hm hs;go_enter Tryz.func138,Tryz.ntmps138;go_wp2_with fail;go_region_with (refine (zU C1 _).mono ?_;rintro e w' ⟨rfl,hb⟩;try (have hcl:=run_conv1_later_drew (P:=Tryz.prog) b (zU HX) hb 77 9 5 Tryz.underlying77 Tryz.underlying5 Tryz.underlying9))
  all_goals
   go_wp2;go_ret;refine ⟨?_,?_⟩
   ·rw [zU HRES];rfl
   ·first
     | exact (((Below.refl _ _).alloc (Nat.le_refl _) _).drew).trans (hb.mono (by simp))
     | exact ((Below.refl _ _).drew.trans hb).alloc hb.size _
end Go.Proofs.YtjpgoeimclipjaaGreat
namespace Go.Proofs.YtjpgoeimclipjaaGreat
open Go.RowKit Go.Lib Pl
abbrev cellsS (o:Nat→Bytes):Array Value:=((List.range 16).map fun j=>S (o j)).toArray
abbrev AS (o:Nat→Bytes):Value:=.agg (cellsS o)
theorem info16s:(Tryz.prog.info? 178).map (fun i=>(i.zero,i.size))=some (some (AS fun _=>[]),16):=by kernel_rfl
theorem size16s:(Tryz.prog.info? 178).map (·.size)=some 16:=(zero_of_info info16s).2
theorem zero16s (w:World):(zeroValue 178).run Tryz.prog w = .ok (AS fun _=>[]) w:=(zero_of_info info16s).1 w
theorem cellsS_get (o:Nat→Bytes) (k:Nat) (hk:k<16):(cellsS o)[k]? = some (S (o k)):=by simp [cellsS,hk]
theorem cellsS_set (o:Nat→Bytes) (k:Nat) (b:Bytes) (hk:k<16):(cellsS o).setIfInBounds k (S b)=cellsS fun j=>if j=k then b else o j:=by
 apply Array.ext_getElem?;intro j;rw [Array.getElem?_setIfInBounds]
 by_cases hj:j<16
 ·rw [cellsS_get _ j hj]
  by_cases e:k=j
  ·subst e;simp [hj]
  ·rw [if_neg e,cellsS_get _ j hj,if_neg (fun h=>e h.symm)]
 ·have e1:∀ o,(cellsS o)[j]? = none:=fun o=>by simp [cellsS];omega
  rw [e1,e1]
  split
  ·split
   ·rename_i h1 h2;subst h1;simp [cellsS] at h2;omega
   ·rfl
  ·rfl
theorem cellsS_congr {o o':Nat→Bytes} (h:∀ j,j<16→o j=o' j):cellsS o=cellsS o':=by
 apply Array.ext_getElem?;intro j
 by_cases hj:j<16
 ·rw [cellsS_get _ j hj,cellsS_get _ j hj,h j hj]
 ·have e1:∀ o,(cellsS o)[j]? = none:=fun o=>by simp [cellsS];omega
  rw [e1,e1]
theorem cellsS_one (o:Nat→Bytes):(cellsS o).all (·.oneCell')=true:=by
 rw [Array.all_eq_true_iff_forall_mem];intro v hv;simp only [cellsS,List.mem_toArray,List.mem_map] at hv;obtain ⟨j,_,rfl⟩:=hv;rfl
theorem cellsS_size (o:Nat→Bytes):(cellsS o).size=16:=by simp [cellsS]
def outW (l:List Int) (s i:Nat) (j:Nat):Bytes:=if Pl.early l s i j=true then bstr (wordB l j) else []
structure RefAt (l:List Int) (s i n q:Nat):Prop where
 le:q≤s
 q15:q≤15
 val:n*pw q=preS l s i
theorem RefAt.small {l:List Int} {s i n q:Nat} (h:RefAt l s i n q) (hr:Right l):n≤32768:=by
 have h1:=Nat.le_trans (preS_le l s i) hr.sum;rw [←h.val] at h1;exact Nat.le_trans (Nat.le_mul_of_pos_right n (pw_pos q)) h1
theorem RefAt.start (l:List Int):RefAt l 1 0 0 0:=⟨by omega,by omega,by rw [preS_zero];omega⟩
theorem RefAt.skip {l:List Int} {s i n q:Nat} (h:RefAt l s i n q) (hn:ln l i≠s):RefAt l s (i+1) n q:=⟨h.le,h.q15,by rw [preS_skip hn];exact h.val⟩
theorem RefAt.row {l:List Int} {s n q:Nat} (h:RefAt l s 16 n q):RefAt l (s+1) 0 n q:=⟨by have:=h.le;omega,h.q15,by rw [preS_row];exact h.val⟩
theorem RefAt.number {l:List Int} {s i n q:Nat} (h:RefAt l s i n q) (hs:s≤15) (hn:ln l i=s):wv l i=n*2 ^ (s-q):=by
 have h1:=wv_mul l i;rw [hn,←h.val,pw_split h.le hs,←Nat.mul_assoc] at h1;exact Nat.eq_of_mul_eq_mul_right (pw_pos s) h1
theorem RefAt.hit {l:List Int} {s i n q:Nat} (_h:RefAt l s i n q) (hs:s≤15) (h0:0<s) (hi:i<16) (hn:ln l i=s):RefAt l s (i+1) (wv l i+1) s:=by
 refine ⟨Nat.le_refl _,hs,?_⟩;have h1:=wv_mul l i;rw [hn] at h1;rw [preS_hit hn h0 hi,Nat.add_mul,h1,Nat.one_mul]
theorem outW_start (l:List Int):outW l 1 0=fun _=>[]:=by
 funext j
 unfold outW;rw [if_neg];rw [early_iff];omega
theorem outW_skip {l:List Int} {s i:Nat} (hn:ln l i≠s):outW l s (i+1)=outW l s i:=by
 funext j
 unfold outW;rw [early_skip hn]
theorem outW_hit {l:List Int} {s i:Nat} (hn:ln l i=s) (h0:0<s):outW l s (i+1)=fun j=>if j=i then bstr (bt (wv l i) s) else outW l s i j:=by
 funext j
 unfold outW;rw [early_hit hn h0]
 by_cases e:j=i
 ·subst e;simp [wordB,hn]
 ·simp [e]
theorem outW_row (l:List Int) (s:Nat):cellsS (outW l s 16)=cellsS (outW l (s+1) 0) :=
 cellsS_congr fun j hj=>by unfold outW;rw [early_row hj]
theorem outW_end {l:List Int} (hr:Right l):cellsS (outW l 16 0)=cellsS fun j=>bstr (wordB l j) :=
 cellsS_congr fun j _=>by
  unfold outW
  by_cases e:Pl.early l 16 0 j=true
  ·rw [if_pos e]
  ·rw [if_neg e];rw [early_iff] at e;have:=hr.one j;have h0:ln l j=0:=by omega
   unfold wordB;rw [h0];rfl
theorem shl_fact {x d v:Nat} (h:v=x*2 ^ d) (hd:d≤64) (hv:v≤100000):wrap64 ((x:Int)*2 ^ min d 64)=(v:Int):=by
 have e:(x:Int)*2 ^ d=((x*2 ^ d:Nat):Int):=by norm_cast
 rw [Nat.min_eq_left hd,e,←h];clear e h;exact IntWalk.wrap64_in _ ⟨by omega,by omega⟩
structure RefW (l:List Int) (w wr:World) (B s i n q:Nat):Prop where
 a:wr.heap[B]? = some (.cells (cells16 l) 145 (0,0))
 z:wr.heap[B+1]? = some (.cells (cellsS fun _=>[]) 178 (0,0))
 o:wr.heap[B+2]? = some (.cells (cellsS (outW l s i)) 178 (0,0))
 at_:RefAt l s i n q
 bel:Below B w wr
theorem RefW.skip {l:List Int} {w wr:World} {B s i n q:Nat} (h:RefW l w wr B s i n q) (hn:ln l i≠s):RefW l w wr B s (i+1) n q :=
 ⟨h.a,h.z,by rw [outW_skip hn];exact h.o,h.at_.skip hn,h.bel⟩
theorem RefW.row {l:List Int} {w wr:World} {B s n q:Nat} (h:RefW l w wr B s 16 n q):RefW l w wr B (s+1) 0 n q :=
 ⟨h.a,h.z,by rw [←outW_row];exact h.o,h.at_.row,h.bel⟩
theorem RefW.put {l:List Int} {w wr w1:World} {B s i n q n' q':Nat} (h:RefW l w wr B s i n q) (hb:Below wr.heap.size wr w1) (b:Bytes) (hi:i<16) :
  w1.cell? ⟨B+2,i,none⟩=some (S (outW l s i i))∧w1.frozen? ⟨B+2,i,none⟩=false ∧
  (outW l s (i+1)=(fun j=>if j=i then b else outW l s i j)→RefAt l s (i+1) n' q'→RefW l w (w1.setCell ⟨B+2,i,none⟩ (S b)) B s (i+1) n' q')∧True∧True:=by
 have s1:=(Array.getElem?_eq_some_iff.1 h.a).1;have s2:=(Array.getElem?_eq_some_iff.1 h.z).1;have s3:=(Array.getElem?_eq_some_iff.1 h.o).1;have a1:=(hb.block B s1).trans h.a;have z1:=(hb.block (B+1) s2).trans h.z;have o1:=(hb.block (B+2) s3).trans h.o;refine ⟨?_,frozen_of_row _ _ _ _ _ o1,fun he hr=>⟨?_,?_,?_,hr,?_⟩,trivial,trivial⟩
 ·rw [cell_of_row w1 _ _ _ _ _ o1];exact cellsS_get _ _ hi
 ·rw [heap_setCell_other _ _ _ _ (by show B≠B+2;omega)];exact a1
 ·rw [heap_setCell_other _ _ _ _ (by show B+1≠B+2;omega)];exact z1
 ·rw [heap_setCell_same _ _ _ _ _ _ o1,cellsS_set _ _ _ hi,he]
 ·exact (h.bel.trans (hb.mono (by omega))).setCell (by show B≤B+2;omega) _
set_option maxHeartbeats 2000000 in
set_option maxRecDepth 100000 in
theorem refWords_any (l:List Int) (w:World) (hr:Right l) :
  Calls Tryz.prog 139 #[A16 l] w fun e w'=>e = .returned (AS fun j=>bstr (wordB l j))∧Below w.heap.size w w':=by
 have HR:=zH hr;have hz:=zero16s;obtain ⟨w0,hw0⟩:∃ w0,w0=((w.alloc (.cells (cells16 l) 145)).alloc (.cells (cellsS fun _=>[]) 178)).alloc (.cells (cellsS fun _=>[]) 178):=⟨_,rfl⟩
 obtain ⟨B,hB⟩:∃ B,B=w.heap.size:=⟨_,rfl⟩
 have h0:RefW l w w0 B 1 0 0 0:=by
  subst hB;have h2:=heap_alloc2_old w (.cells (cells16 l) 145) (.cells (cellsS fun _=>[]) 178);have h3:=heap_alloc2_new w (.cells (cells16 l) 145) (.cells (cellsS fun _=>[]) 178);refine ⟨?_,?_,?_,RefAt.start l,?_⟩
  ·rw [hw0];exact (Below.heap_alloc _ _ _ (by simp;omega)).trans h2
  ·rw [hw0];exact (Below.heap_alloc _ _ _ (by simp)).trans h3
  ·rw [hw0,outW_start];have:=heap_alloc_new ((w.alloc (.cells (cells16 l) 145)).alloc (.cells (cellsS fun _=>[]) 178)) (.cells (cellsS fun _=>[]) 178);simpa using this
  ·rw [hw0];exact (((Below.refl _ _).alloc (Nat.le_refl _) _).alloc (by simp) _).alloc (by simp;omega) _
 have H0:=zH h0;have HW0:=zH hw0;have HB:=zH hB;clear hr h0 hw0 hB;go_enter Tryz.func139,Tryz.ntmps139;go_wp2_with fail;rw [←zU HW0,←zU HB,show B+1+1=B+2 from rfl];go_loopw [4,5,6,7] (fun n q sz _ wr=>∃ (x y s:Nat),1≤s∧s≤16∧n = .int .i64 x∧q = .int .i64 y∧sz = .int .i64 s∧RefW l w wr B s 0 x y) (fun _ _ sz _ _=>16-(intOf sz).toNat)
 case atStart=>exact ⟨0,0,1,by omega,by omega,rfl,rfl,rfl,zU H0⟩
 case round =>
  obtain ⟨x,y,s,hs1,hs16,rfl,rfl,rfl,hst⟩:=hrel;have HST:=zH hst;clear hst
  by_cases hs:s≤15
  ·have ds:decide ((s:Int)≤15)=true:=by simp;omega
   go_wp2_with fail;go_loopw [4,5,7] (fun n q i wx=>∃ (x y k:Nat),k≤16∧n = .int .i64 x∧q = .int .i64 y∧i = .int .i64 k∧RefW l w wx B s k x y) (fun _ _ i _=>16-(intOf i).toNat)
   case atStart=>exact ⟨x,y,0,by omega,rfl,rfl,rfl,zU HST⟩
   case round =>
    obtain ⟨x1,y1,k,hk,rfl,rfl,rfl,hsx⟩:=hrel;have hsm:=hsx.at_.small (zU HR);have hyl:=hsx.at_.le;have hrt:=zU HR;have HSX:=zH hsx
    by_cases hk16:k<16
    ·have hc:=cell16 hsx.a (ln_get hrt hk16)
     by_cases hh:ln l k=s
     ·have hnum:=hsx.at_.number hs hh;have hnx:=hsx.at_.hit hs (by omega) hk16 hh;have hv:=wv_lt hrt hk16 (by omega)
      have hvw:wv l k≤32768:=by
       have:=hnx.small hrt;omega
      rw [hh] at hc;obtain ⟨d,hd⟩:∃ d,d=s-y1:=⟨_,rfl⟩
      rw [←hd] at hnum
      have hsd:IntKind.i64.wrap ((s:Int)-(y1:Int))=(d:Int):=by
       have e:(s:Int)-(y1:Int)=(d:Int):=by omega
       rw [e];exact IntWalk.i64_in _ ⟨by omega,by omega⟩
      obtain ⟨v,hvv⟩:∃ v,v=wv l k:=⟨_,rfl⟩
      have hpw:=shl_fact (hvv.trans hnum) (by omega) (by omega);have HPW:=zH hpw;clear hpw;rw [←hvv] at hnx hvw;have hou:=outW_hit (l:=l) hh (by omega:0<s);rw [←hvv] at hou;have HOU:=zH hou;have HNX:=zH hnx;have C1:=zH (fun (W:World)=>bits_any s v W (Nat.le_trans hs (by decide)) (Nat.le_trans hvw (by decide)));clear hsx hh hnum hnx hv hd hvv hou hrt;go_wp2_with (go_at_call 138;rw [zU HPW];refine (zU C1 _).mono ?_;rintro e w1 ⟨rfl,hb1⟩;obtain ⟨hg1,hg2,hg3,-,-⟩:=(zU HSX).put hb1 (bstr (bt v s)) hk16;have HG3:=zH hg3;clear hg3);go_roundw
      case rel=>exact ⟨v+1,s,k+1,by omega,by go_num,rfl,by go_num,(zU HG3) (zU HOU) (zU HNX)⟩
      case measure=>simp [intOf];omega
     ·have hnx:=(zU HSX).skip hh;have HNX:=zH hnx;have z1:((ln l k:Int) == (s:Int))=false:=by rw [beq_eq_false_iff_ne];omega
      have z2:(ln l k == s)=false:=by rw [beq_eq_false_iff_ne];omega
      clear hsx hnx hrt;go_wp2_with fail;go_roundw
      case rel=>exact ⟨x1,y1,k+1,by omega,rfl,rfl,by go_num,zU HNX⟩
      case measure=>simp [intOf];omega
    ·have hk':k=16:=by omega
     subst hk';have hnx:=hsx.row;have HNX:=zH hnx;clear hsx hnx hrt;go_wp2_with fail;go_roundw
     case rel=>exact ⟨x1,y1,s+1,by omega,by omega,rfl,rfl,by go_num,zU HNX⟩
     case measure=>simp [intOf];omega
  ·have hs':s=16:=by omega
   subst hs';have hou:=outW_end (zU HR);have HOU:=zH hou;clear hou
   go_wp2_with (first
    | (refine wpList_load_row rfl 178 (.tmp 3) rfl (B+2) rfl 178 _ (0,0) _ (zU HST).o Tryz.underlying178 rfl (by rw [size16s,cellsS_size]) ?_;rw [zU HOU])
    | (refine wpList_store_row rfl 178 (.tmp 2) (.tmp 34) rfl (B+1) _ rfl rfl 178 _ (zU HST).z (by rw [size16s,cellsS_size]) (by rw [cellsS_size,cellsS_size]) (cellsS_one _) ?_))
   refine bodyPost_ret (results_cell_row rfl _ _ (B+1) 178 (cellsS fun j=>bstr (wordB l j)) (0,0) _ rfl (setRow_heap _ _ _ _ _ _ (zU HST).z) Tryz.underlying178 rfl (by rw [size16s,cellsS_size])) rfl ⟨rfl,?_⟩;rw [←zU HB];exact below_setRow (zU HST).bel (by omega) _
end Go.Proofs.YtjpgoeimclipjaaGreat
namespace Go.Proofs.YtjpgoeimclipjaaGreat
open Go.RowKit Go.Lib Pl
attribute [local go_sem] ext_list app_list
def frontI (l:List Int) (b:List Bool):Int:=match frontP l b with
 | none=>-1
 | some i=>(i:Int)
theorem slice0 (x:Bytes) (m:Nat):slice x 0 m=x.take m:=by unfold slice;simp
theorem hit_str (l:List Int) (b:List Bool) (k:Nat):hitB l b k=true↔0<ln l k∧ln l k≤(bstr b).length∧slice (bstr b) 0 (ln l k)=bstr (wordB l k):=by
 rw [hit_iff,slice0,bstr_len,bstr,←List.map_take];constructor
 ·rintro ⟨h1,t,ht⟩;have hl:=congrArg List.length ht;rw [List.length_append,wordB_len] at hl;refine ⟨h1,by omega,?_⟩;rw [←ht,List.take_append_of_le_length (by rw [wordB_len];omega),List.take_of_length_le (by rw [wordB_len];omega)];rfl
 ·rintro ⟨h1,h2,h3⟩;refine ⟨h1,?_⟩;have:b.take (ln l k)=wordB l k:=bstr_inj h3;rw [←this];exact List.take_prefix _ _
set_option maxHeartbeats 4000000 in
set_option maxRecDepth 100000 in
theorem front_any (l:List Int) (b:List Bool) (w:World) (hr:Right l) (hb:b.length≤1000000) :
  Calls Tryz.prog 140 #[A16 l,AS (fun j=>bstr (wordB l j)),S (bstr b)] w fun e w'=>e = .returned (.int .i64 (frontI l b))∧Below w.heap.size w w':=by
 obtain ⟨w0,hw0⟩:∃ w0,w0=(w.alloc (.cells (cells16 l) 145)).alloc (.cells (cellsS fun j=>bstr (wordB l j)) 178):=⟨_,rfl⟩
 obtain ⟨B,hB⟩:∃ B,B=w.heap.size:=⟨_,rfl⟩
 have h1:w0.heap[B]? = some (.cells (cells16 l) 145 (0,0)):=by subst hB;rw [hw0];exact heap_alloc2_old _ _ _
 have h2:w0.heap[B+1]? = some (.cells (cellsS fun j=>bstr (wordB l j)) 178 (0,0)):=by subst hB;rw [hw0];exact heap_alloc2_new _ _ _
 have h3:Below B w w0:=by subst hB;rw [hw0];exact ((Below.refl _ _).alloc (Nat.le_refl _) _).alloc (by simp) _
 obtain ⟨bs,hbs⟩:∃ bs,bs=bstr b:=⟨_,rfl⟩
 have hbl:bs.length≤1000000:=by rw [hbs,bstr_len];exact hb
 rw [←hbs];have HBS:=zH hbs;have HR:=zH hr;have H1:=zH h1;have H2:=zH h2;have H3:=zH h3;have HW0:=zH hw0;have HB:=zH hB;clear hr hw0 hB h1 h2 h3 hbs hb;go_enter Tryz.func140,Tryz.ntmps140;go_wp2_with fail;rw [←zU HW0,←zU HB];go_loopw [7] (fun i wr=>∃ k:Nat,k≤16∧i = .int .i64 k∧(∀ j,j<k→hitB l b j=false)∧wr.heap[B]? = some (.cells (cells16 l) 145 (0,0))∧wr.heap[B+1]? = some (.cells (cellsS fun j=>bstr (wordB l j)) 178 (0,0))∧Below B w wr) (fun i _=>16-(intOf i).toNat)
 case atStart=>exact ⟨0,by omega,rfl,fun j hj=>absurd hj (by omega),zU H1,zU H2,zU H3⟩
 case round =>
  obtain ⟨k,hk,rfl,hno,g1,g2,hbel⟩:=hrel;have HNO:=zH hno;have G1:=zH g1;have G2:=zH g2;have HBEL:=zH hbel;clear hno hbel
  by_cases hk16:k<16
  ·have hc1:=cell16 g1 (ln_get (zU HR) hk16);have hc2:wr.cell? ⟨B+1,k,none⟩=some (S (bstr (wordB l k))):=by rw [cell_of_row _ _ _ _ _ _ g2];exact cellsS_get _ _ hk16
   have hm15:=(zU HR).one k;have hhit:=hit_str l b k;rw [←zU HBS] at hhit;obtain ⟨m,hm⟩:∃ m,m=ln l k:=⟨_,rfl⟩
   obtain ⟨wd,hwd⟩:∃ wd,wd=bstr (wordB l k):=⟨_,rfl⟩
   rw [←hm] at hc1 hm15 hhit;rw [←hwd] at hc2 hhit;have HHIT:=zH hhit;clear g1 g2 hm hwd hhit
   by_cases hh:hitB l b k=true
   ·obtain ⟨p1,p2,p3⟩:=(zU HHIT).1 hh;have q1:(slice bs 0 m == wd)=true:=by rw [beq_iff_eq];exact p3
    have hres:frontI l b=(k:Int):=by
     have:=List.find?_range_eq_some.2 ⟨hh,by simpa using hk16,fun j hj=>by rw [zU HNO j hj];rfl⟩;unfold frontI frontP;rw [this]
    have HRES:=zH hres;clear hh p3 hres;go_wp2_with fail;go_quiet (fail);go_wp2_with fail;go_ret;refine ⟨by rw [zU HRES];rfl,?_⟩;rw [←zU HB];exact _root_.Go.below_drewN (zU HBEL) _
   ·have hno2:∀ j,j<k+1→hitB l b j=false:=fun j hj=>by
     by_cases e:j=k
     ·subst e;simpa using hh
     ·exact zU HNO j (by omega)
    have HNO2:=zH hno2;clear hno2
    have hcs:(decide ((0:Int)<(m:Int))=false∧decide (0<m)=false)∨(0<m∧decide ((m:Int)≤(bs.length:Int))=false∧decide (m≤bs.length)=false)∨(0<m∧m≤bs.length∧(slice bs 0 m == wd)=false):=by
     by_cases p1:0<m
     ·by_cases p2:m≤bs.length
      ·refine .inr (.inr ⟨p1,p2,?_⟩);rw [beq_eq_false_iff_ne];intro p3;exact hh ((zU HHIT).2 ⟨p1,p2,p3⟩)
      ·exact .inr (.inl ⟨p1,by simp;omega,by simp;omega⟩)
     ·exact .inl ⟨by simp;omega,by simp;omega⟩
    clear hh
    rcases hcs with ⟨d1,d1'⟩ | ⟨d1,d2,d2'⟩ | ⟨d1,d2,q1⟩
    all_goals
     go_wp2_with fail;go_quiet (fail);go_wp2_with fail;go_roundw
     case rel=>exact ⟨k+1,by omega,by go_num,zU HNO2,zU G1,zU G2,_root_.Go.below_drewN (zU HBEL) _⟩
     case measure=>simp [intOf];omega
  ·have hk':k=16:=by omega
   subst hk'
   have hres:frontI l b = -1:=by
    have:(List.range 16).find? (hitB l b)=none:=List.find?_range_eq_none.2 fun j hj=>by rw [zU HNO j hj];rfl
    unfold frontI frontP;rw [this]
   have HRES:=zH hres;clear hres g1 g2;go_wp2_with fail;go_ret;refine ⟨by rw [zU HRES];rfl,?_⟩;rw [←zU HB];exact zU HBEL
end Go.Proofs.YtjpgoeimclipjaaGreat
namespace Go.Proofs.YtjpgoeimclipjaaGreat
open Go.RowKit Go.Lib Pl
attribute [local go_sem] ext_list app_list
structure CodeAt (l:List Int) (w wr:World) (B g:Nat):Prop where
 a:wr.heap[B]? = some (.cells (cells16 l) 145 (0,0))
 o:wr.heap[g]? = some (.cells (cellsS fun j=>bstr (wordB l j)) 178 (0,0))
 bel:Below B w wr
theorem CodeAt.drew {l:List Int} {w wr:World} {B g:Nat} (h:CodeAt l w wr B g) (k:Nat):CodeAt l w (wr.drewN k) B g:=⟨h.a,h.o,_root_.Go.below_drewN h.bel _⟩
theorem CodeAt.below {l:List Int} {w wr w1:World} {B g:Nat} (h:CodeAt l w wr B g) (hb:Below wr.heap.size wr w1):CodeAt l w w1 B g:=by
 have s1:=(Array.getElem?_eq_some_iff.1 h.a).1;have s2:=(Array.getElem?_eq_some_iff.1 h.o).1;exact ⟨(hb.block B s1).trans h.a,(hb.block g s2).trans h.o,h.bel.trans (hb.mono (by omega))⟩
theorem CodeAt.alloc {l:List Int} {w wr:World} {B g:Nat} (h:CodeAt l w wr B g) (o:Obj):CodeAt l w (wr.alloc o) B g:=h.below ((Below.refl _ _).alloc (Nat.le_refl _) _)
theorem CodeAt.len {l:List Int} {w wr:World} {B g:Nat} (h:CodeAt l w wr B g) (hr:Right l) {k:Nat} (hk:k<16):wr.cell? ⟨B,k,none⟩=some (I (ln l k)):=cell16 h.a (ln_get hr hk)
theorem CodeAt.word {l:List Int} {w wr:World} {B g:Nat} (h:CodeAt l w wr B g) {k:Nat} (hk:k<16):wr.cell? ⟨g,k,none⟩=some (S (bstr (wordB l k))):=by
 rw [cell_of_row _ _ _ _ _ _ h.o];exact cellsS_get _ _ hk
theorem CodeAt.made {l:List Int} {w w1:World} {B:Nat} (h:BoxAt l w w1 B) :
  CodeAt l w ((w1.alloc (.cells (cellsS fun _=>[]) 178)).setRow w1.heap.size (cellsS fun j=>bstr (wordB l j))) B w1.heap.size:=by
 obtain ⟨ha,hb⟩:=h;have s1:=(Array.getElem?_eq_some_iff.1 ha).1;refine ⟨?_,setRow_heap _ _ _ _ _ _ (heap_alloc_new _ _),below_setRow (hb.alloc (by omega) _) (by omega) _⟩;rw [setRow_other _ _ _ _ (by omega)];exact (Below.heap_alloc _ _ _ s1).trans ha
def strLenB:Value→Nat
 | .string s=>s.size
 | _=>0
structure WAt (l:List Int) (s:Bytes) (k:Nat) (X:List Bool):Prop where
 bits:X=encK l (nibs (s.take k))
 fine:lacks l (nibs (s.take k))=false
theorem WAt.start (l:List Int) (s:Bytes):WAt l s 0 []:=⟨rfl,rfl⟩
theorem WAt.len {l:List Int} {s:Bytes} {k:Nat} {X:List Bool} (h:WAt l s k X) (hr:Right l) (hk:k≤s.length):X.length≤30*k:=by
 have h1:=encK_len hr (nibs (s.take k));rw [nibs_len,List.length_take] at h1;rw [h.bits];omega
theorem nibs_take {s:Bytes} {k:Nat} {c:UInt8} (h:s[k]? = some c):nibs (s.take (k+1))=nibs (s.take k)++[c.toNat / 16,c.toNat % 16]:=by
 rw [List.take_add_one,h,nibs_app];rfl
theorem WAt.step {l:List Int} {s:Bytes} {k:Nat} {X:List Bool} {c:UInt8} (h:WAt l s k X) (hc:s[k]? = some c) (h1:ln l (c.toNat / 16)≠0) (h2:ln l (c.toNat % 16)≠0) :
  WAt l s (k+1) (X++wordB l (c.toNat / 16)++wordB l (c.toNat % 16)):=by
 refine ⟨?_,?_⟩
 ·rw [nibs_take hc,encK_app,←h.bits,List.append_assoc];simp [encK]
 ·have h3:=h.fine;unfold lacks at h3 ⊢;rw [nibs_take hc,List.any_append,h3];simp [h1,h2]
theorem WAt.lack {l:List Int} {s:Bytes} {k:Nat} {c:UInt8} (hc:s[k]? = some c) (h1:ln l (c.toNat / 16)=0∨ln l (c.toNat % 16)=0):lacks l (nibs s)=true:=by
 have:lacks l (nibs (s.take (k+1)))=true:=by
  unfold lacks;rw [nibs_take hc,List.any_append]
  rcases h1 with h | h <;> simp [h]
 rw [←List.take_append_drop (k+1) s,nibs_app];unfold lacks at this ⊢;rw [List.any_append,this];rfl
attribute [local go_sem ↓] concat_list in
set_option maxHeartbeats 8000000 in
set_option maxRecDepth 100000 in
theorem writeCode_any (l:List Int) (s:Bytes) (w:World) (hl:l.length=16) (hs:s.length≤4611686018427387904) :
  Calls Tryz.prog 141 #[A16 l,S s] w fun e w'=>e = .returned (.tuple #[S (writeS l s),I (writeE l s)])∧Below w.heap.size w w':=by
 have hz:=zero16s;obtain ⟨B,hB⟩:∃ B,B=w.heap.size:=⟨_,rfl⟩
 obtain ⟨w0,hw0⟩:∃ w0,w0=w.alloc (.cells (cells16 l) 145):=⟨_,rfl⟩
 have hx0:BoxAt l w w0 B:=by rw [hw0,hB];exact BoxAt.boxed l w
 have CK:=checkCodeR_any l w0 hl;obtain ⟨e0,he0⟩:∃ e0,e0=checkE l:=⟨_,rfl⟩
 rw [←he0] at CK;have CK:=zH CK;have HE0:=zH he0;have HB:=zH hB;have HW0:=zH hw0;have HX0:=zH hx0;have HL:=zH hl;clear he0 hB hw0 hx0 hl;go_enter Tryz.func141,Tryz.ntmps141
 by_cases h0:e0=0
 ·subst h0;have HR:=zH (right_of (zU HL) (zU HE0).symm)
  by_cases hs1:s.length≤1024
  ·go_wp2_with (first
    | (refine wpList_load16 rfl (.tmp 2) rfl B (by rw [zU HB];rfl) l (zU HL) (by rw [←zU HW0];exact (zU HX0).a) ?_;rw [←zU HW0,←zU HB])
    | (go_at_call 137;refine (zU CK).mono ?_;rintro e w1 ⟨rfl,hb1⟩;have HX1:=zH ((zU HX0).below hb1);clear hb1)
    | (refine wpList_load16 rfl (.tmp 2) rfl B rfl l (zU HL) (zU HX1).a ?_)
    | (go_at_call 139;refine (refWords_any l _ (zU HR)).mono ?_;rintro e w2 ⟨rfl,hb2⟩;have HX2:=zH ((zU HX1).below hb2);clear hb2)
    | (refine wpList_store_row rfl 178 (.tmp 7) (.tmp 23) rfl w2.heap.size _ rfl rfl 178 _ (heap_alloc_new _ _) (by rw [size16s,cellsS_size]) (by rw [cellsS_size,cellsS_size]) (cellsS_one _) ?_;obtain ⟨w3,hw3⟩:∃ w3,w3=(w2.alloc (.cells (cellsS fun _=>[]) 178)).setRow w2.heap.size (cellsS fun j=>bstr (wordB l j)):=⟨_,rfl⟩;obtain ⟨g,hg⟩:∃ g,g=w2.heap.size:=⟨_,rfl⟩;have HC0:=zH (CodeAt.made (zU HX2));rw [←hw3,←hg] at HC0;rw [←hw3,←hg];clear hw3 hg))
   go_loopw [8,9] (fun b i wr=>∃ (k:Nat) (X:List Bool),k≤s.length∧i = .int .i64 k∧b=S (bstr X)∧WAt l s k X∧CodeAt l w wr B g) (fun _ i _=>s.length-(intOf i).toNat)
   case atStart=>exact ⟨0,[],by omega,rfl,rfl,WAt.start l s,zU HC0⟩
   case round =>
    obtain ⟨k,X,hk,rfl,rfl,hx,hc⟩:=hrel;have HX:=zH hx;have HC:=zH hc;have hXl:=hx.len (zU HR) hk;clear hx
    by_cases hks:k<s.length
    ·obtain ⟨c,hcc⟩:∃ c,(⟨s.toArray⟩:ByteArray)[k]'hks=c:=⟨_,rfl⟩
     have hsc:s[k]? = some c:=by rw [List.getElem?_eq_getElem hks];exact congrArg some hcc
     obtain ⟨h,hh⟩:∃ h,h=c.toNat / 16:=⟨_,rfl⟩
     obtain ⟨m,hm⟩:∃ m,m=c.toNat % 16:=⟨_,rfl⟩
     have hc256:=c.toNat_lt;have hh16:h<16:=by omega
     have hm16:m<16:=by omega
     have a1:(c.toNat:Int).tdiv 16=(h:Int):=by rw [Int.tdiv_eq_ediv_of_nonneg (by omega)];omega
     have a2:(c.toNat:Int).tmod 16=(m:Int):=by rw [Int.tmod_eq_emod_of_nonneg (by omega)];omega
     have a3:IntKind.u8.wrap ((c.toNat:Int) / 16)=(h:Int):=by
      have e:(c.toNat:Int) / 16=(h:Int):=by omega
      rw [e,IntKind.wrap_u8];omega
     have c1:=hc.len (zU HR) hh16;have c2:=hc.len (zU HR) hm16;have c3:=hc.word hh16;have c4:=hc.word hm16;obtain ⟨x,hx⟩:∃ x,x=ln l h:=⟨_,rfl⟩
     obtain ⟨y,hy⟩:∃ y,y=ln l m:=⟨_,rfl⟩
     rw [←hx] at c1;rw [←hy] at c2;have HSC:=zH hsc;have HH:=zH hh;have HM:=zH hm;have HXX:=zH hx;have HYY:=zH hy;clear hsc hh hm hx hy hc
     by_cases hlk:x=0∨y=0
     ·have hlx:lacks l (nibs s)=true:=WAt.lack (zU HSC) (by rw [←zU HH,←zU HM,←zU HXX,←zU HYY];exact hlk);have HLX:=zH hlx
      have hcs:(((x:Int) == 0)=true∧(x == 0)=true)∨(((x:Int) == 0)=false∧(x == 0)=false∧((y:Int) == 0)=true∧(y == 0)=true):=by
       by_cases e:x=0
       ·exact .inl ⟨by rw [beq_iff_eq];omega,by rw [beq_iff_eq];exact e⟩
       ·exact .inr ⟨by rw [beq_eq_false_iff_ne];omega,by rw [beq_eq_false_iff_ne];exact e,by rw [beq_iff_eq];omega,by rw [beq_iff_eq];omega⟩
      clear hlx hlk
      rcases hcs with ⟨d1,d2⟩ | ⟨d1,d2,d3,d4⟩
      all_goals
       go_wp2_with fail;go_ret2;obtain ⟨e1,e2⟩:=writeE_none (zU HE0).symm (by omega) (zU HLX);rw [e1,e2,←zU HB];exact ⟨rfl,(zU HC).bel⟩
     ·have hst:=(zU HX).step (zU HSC) (by rw [←zU HH,←zU HXX];exact fun e=>hlk (.inl e)) (by rw [←zU HM,←zU HYY];exact fun e=>hlk (.inr e));rw [←zU HH,←zU HM] at hst;have HST:=zH hst;have d1:((x:Int) == 0)=false:=by rw [beq_eq_false_iff_ne];omega
      have d2:(x == 0)=false:=by rw [beq_eq_false_iff_ne];omega
      have d3:((y:Int) == 0)=false:=by rw [beq_eq_false_iff_ne];omega
      have d4:(y == 0)=false:=by rw [beq_eq_false_iff_ne];omega
      have hl1:(bstr (wordB l h)).length≤100:=by
       have:=(zU HR).one h;rw [bstr_len,wordB_len];omega
      have hl2:(bstr (wordB l m)).length≤100:=by
       have:=(zU HR).one m;rw [bstr_len,wordB_len];omega
      have hl3:(bstr X).length≤100000:=by rw [bstr_len];omega
      obtain ⟨bx,hbx⟩:∃ bx,bx=bstr X:=⟨_,rfl⟩
      obtain ⟨bh,hbh⟩:∃ bh,bh=bstr (wordB l h):=⟨_,rfl⟩
      obtain ⟨bm,hbm⟩:∃ bm,bm=bstr (wordB l m):=⟨_,rfl⟩
      have hall:bstr (X++wordB l h++wordB l m)=bx++bh++bm:=by rw [bstr_app,bstr_app,hbx,hbh,hbm]
      rw [←hbh] at c3 hl1;rw [←hbm] at c4 hl2;rw [←hbx] at hl3;have k1:bx.length+bh.length≤9223372036854775807:=by omega
      have k2:(bx++bh).length+bm.length≤9223372036854775807:=by rw [List.length_append];omega
      rw [←hbx];have HALL:=zH hall;clear hst hlk hbx hbh hbm hall;go_wp2_with fail;go_quiet (fail);go_wp2_with fail;go_roundw
      case rel=>exact ⟨k+1,X++wordB l h++wordB l m,by omega,by go_num,by rw [zU HALL];first | rfl | simp,zU HST,(zU HC).drew _⟩
      case measure=>simp [intOf];omega
    ·have hk':k=s.length:=by omega
     subst hk';have hfin:=(zU HX)
     have hbits:X=encK l (nibs s):=by rw [hfin.bits,List.take_length]
     have hlk:lacks l (nibs s)=false:=by
      have:=hfin.fine
      rwa [List.take_length] at this
     obtain ⟨e1,e2⟩:=writeE_ok (zU HE0).symm (by omega) hlk;rw [←hbits] at e2;have HE1:=zH e1;have HE2:=zH e2;obtain ⟨N,hN⟩:∃ N,N=(X.length+7) / 8:=⟨_,rfl⟩
     clear hfin hbits hlk e1 e2 hc;go_wp2_with fail;go_loopw [8] (fun b w4=>∃ (t:Nat),X.length+t≤8*N∧b=S (bstr (X++zeros t))∧CodeAt l w w4 B g) (fun b _=>100000-strLenB b)
     case atStart=>exact ⟨0,by omega,by simp [zeros],zU HC⟩
     case round =>
      obtain ⟨t,ht,rfl,hc4⟩:=hrel;have HC4:=zH hc4;obtain ⟨bs,hbs⟩:∃ bs,bs=bstr (X++zeros t):=⟨_,rfl⟩
      have hbl:bs.length=X.length+t:=by rw [hbs,bstr_len,List.length_append,zeros_len]
      rw [←hbs];obtain ⟨r,hr⟩:∃ r,r=bs.length % 8:=⟨_,rfl⟩
      have hm:(bs.length:Int).tmod 8=(r:Int):=by rw [Int.tmod_eq_emod_of_nonneg (by omega)];omega
      have hr8:r<8:=by omega
      have hb1:bs.length≤31000:=by omega
      by_cases hr0:r=0
      ·have htt:X.length+t=8*N:=by omega
       have hP:packN N (X++zeros t)=packB X:=by
        rw [show t=8*N-X.length from by omega,packN_pad _ _ (by omega),hN];rfl
       obtain ⟨P,hPP⟩:∃ P,P=X++zeros t:=⟨_,rfl⟩
       have hPl:P.length=8*N:=by rw [hPP,List.length_append,zeros_len];exact htt
       rw [←hPP] at hbs hP;have hbn:bs.length=8*N:=by rw [hbl,htt]
       have hN1:8*N≤31000:=by omega
       have d1:((r:Int) == 0)=true:=by rw [beq_iff_eq];omega
       have d2:((r:Int) != 0)=false:=by rw [hr0];rfl
       have d3:(r != 0)=false:=by rw [hr0];rfl
       have HBN:=zH hbn;have HBS:=zH hbs;have HP:=zH hP;have HPL:=zH hPl;have HN:=zH hN;clear hr0 hr hbl htt hP hPP hPl hbn hbs hN;go_wp2_with fail;go_loopw [10,11,12,13] (fun o i _ _ w5=>∃ (j p:Nat),p=8*j∧p≤bs.length∧i = .int .i64 p∧o=S (packN j P)∧CodeAt l w w5 B g) (fun _ i _ _ _=>bs.length-(intOf i).toNat)
       case atStart=>exact ⟨0,0,by omega,by omega,rfl,rfl,zU HC4⟩
       case round =>
        obtain ⟨j,p,hp,hpl,rfl,rfl,hc5⟩:=hrel;have HC5:=zH hc5;clear hc5
        by_cases hpn:p<bs.length
        ·have hp8:p+8≤bs.length:=by have:=zU HBN;omega
         have HPJ:=zH hp;clear hp;go_wp2_with fail;go_loop [12,13] (fun n i=>∃ (q kk v:Nat),kk=p+q∧q≤8∧i = .int .i64 kk∧n = .int .i64 v∧v=val ((P.drop p).take q)∧v<256) (fun _ i=>p+8-(intOf i).toNat)
         case atStart=>exact ⟨0,p,0,by omega,by omega,rfl,rfl,by simp [val],by omega⟩
         case round =>
          obtain ⟨q,kk,v,hkk,hq8,rfl,rfl,hv,hv256⟩:=hrel
          by_cases hq:q<8
          ·have hkb:kk<bs.length:=by omega
           have hPd:(P.drop p)[q]? = some (P[kk]'(by have:=zU HPL;have:=zU HBN;omega)):=by
            rw [List.getElem?_drop,←hkk,List.getElem?_eq_getElem]
           obtain ⟨b,hb⟩:∃ b,b=(P[kk]'(by have:=zU HPL;have:=zU HBN;omega)):=⟨_,rfl⟩
           obtain ⟨c,hcc⟩:∃ c,(⟨bs.toArray⟩:ByteArray)[kk]'hkb=c:=⟨_,rfl⟩
           have hcb:c=bch b:=by
            rw [←hcc,hb];show bs[kk]=_;have hbs:=zU HBS;subst hbs;simp [bstr]
           obtain ⟨z,hz⟩:∃ z,z=bvT b:=⟨_,rfl⟩
           have hz1:z≤1:=by rw [hz];exact bvT_le b
           have hcz:IntKind.u8.wrap ((c.toNat:Int)-48)=(z:Int):=by
            rw [hcb,hz];cases b <;> decide
           have hnv:val ((P.drop p).take (q+1))=2*v+z:=by
            rw [List.take_add_one,hPd,←hb,hv,hz];exact val_snoc _ _
           have hn256:2*v+z<256:=by
            have h1:=val_lt ((P.drop p).take (q+1));have h2:2 ^ ((P.drop p).take (q+1)).length≤2 ^ 8:=Nat.pow_le_pow_right (by omega) (by rw [List.length_take];omega);rw [hnv] at h1;omega
           have HNV:=zH hnv;have HKK:=zH hkk;clear hPd hb hcb hz hnv hv hkk;have kk8:(kk:Int)<(p:Int)+8:=by have:=zU HKK;omega
           go_wp2_with fail;go_round
           case rel=>exact ⟨q+1,kk+1,2*v+z,by have:=zU HKK;omega,by omega,by go_num,by go_num,(zU HNV).symm,hn256⟩
           case measure=>simp [intOf];omega
          ·have hq':q=8:=by omega
           subst hq';have kk8:¬ (kk:Int)<(p:Int)+8:=by omega
           obtain ⟨b,hb⟩:∃ b,b=byteOfB ((P.drop p).take 8):=⟨_,rfl⟩
           have h8:((P.drop p).take 8).length=8:=by
            have:=zU HPL;have:=zU HBN;rw [List.length_take,List.length_drop];omega
           have hx:(b.toNat:Int)=(v:Int):=by rw [hb,byteOfB_nat (by omega),h8,hv];simp
           have hpk:packN (j+1) P=packN j P++[b]:=by rw [packN_snoc,←zU HPJ,hb]
           have HPK:=zH hpk
           have hjl:(packN j P).length≤31000:=by
            have:=zU HPJ;rw [packN_len];omega
           have k1:(packN j P).length+[b].length≤9223372036854775807:=by simp;omega
           have hu8:IntKind.u8.wrap (v:Int)=(v:Int):=by rw [IntKind.wrap_u8];omega
           have hcv:=fun (W:World)=>run_conv1_new (P:=Tryz.prog) W b hx 5 77 9 5 Tryz.underlying77 Tryz.underlying5 Tryz.underlying9
           clear hb h8 hx hpk hv hkk;go_wp2_with fail;go_roundw
           case rel=>exact ⟨j+1,p+8,by have:=zU HPJ;omega,by omega,by go_num,by rw [zU HPK],(zU HC5).alloc _⟩
           case measure=>simp [intOf];omega
        ·have hj:j=N:=by have:=zU HBN;omega
         subst hj;go_wp2_with fail;go_ret2;rw [zU HE1,zU HE2,←zU HP,←zU HB];exact ⟨rfl,(zU HC5).bel⟩
      ·have d1:((r:Int) == 0)=false:=by rw [beq_eq_false_iff_ne];omega
       have d2:((r:Int) != 0)=true:=by rw [bne_iff_ne];omega
       have d3:(r != 0)=true:=by rw [bne_iff_ne];exact hr0
       have hnx:bs++[48]=bstr (X++zeros (t+1)):=by
        rw [hbs,←zeros_add,←List.append_assoc,bstr_app (X++zeros t)];rfl
       have k1:bs.length+[(48:UInt8)].length≤9223372036854775807:=by simp;omega
       have htt:X.length+(t+1)≤8*N:=by omega
       have HTT:=zH htt;have HNX:=zH hnx;clear hr hbs hnx hbl htt hr0;go_wp2_with fail;go_roundw
       case rel=>exact ⟨t+1,zU HTT,by rw [←zU HNX],zU HC4⟩
       case measure =>
        have e1:strLenB (S (bs++[48]))=bs.length+1:=by show (bs++[48]).length=_;simp
        have e2:strLenB (S bs)=bs.length:=rfl;show 100000-strLenB (S (bs++[48]))<100000-strLenB (S bs);omega
  ·have HS1:=zH hs1;have hs2:(1024:Int)<(s.length:Int):=by omega
   clear hs1
   go_wp2_with (first
    | (refine wpList_load16 rfl (.tmp 2) rfl B (by rw [zU HB];rfl) l (zU HL) (by rw [←zU HW0];exact (zU HX0).a) ?_;rw [←zU HW0,←zU HB])
    | (go_at_call 137;go_loud (refine (zU CK).mono ?_;rintro e w1 ⟨rfl,hb1⟩;have HX1:=zH ((zU HX0).below hb1);clear hb1)))
   go_ret2;obtain ⟨e1,e2⟩:=writeE_many (l:=l) (zU HE0).symm (show 1024<s.length by have:=zU HS1;omega);rw [e1,e2,←zU HB];exact ⟨rfl,(zU HX1).bel⟩
 ·have z1:((e0:Int) == 0)=false:=by rw [beq_eq_false_iff_ne];omega
  have z2:((e0:Int) != 0)=true:=by rw [bne_iff_ne];omega
  have H0:=zH h0;clear h0
  go_wp2_with (first
   | (refine wpList_load16 rfl (.tmp 2) rfl B (by rw [zU HB];rfl) l (zU HL) (by rw [←zU HW0];exact (zU HX0).a) ?_;rw [←zU HW0,←zU HB])
   | (go_at_call 137;go_loud (refine (zU CK).mono ?_;rintro e w1 ⟨rfl,hb1⟩;have HX1:=zH ((zU HX0).below hb1);clear hb1)))
  go_ret2;obtain ⟨e1,e2⟩:=writeE_code (l:=l) (s:=s) (by rw [←zU HE0];exact zU H0);rw [e1,e2,←zU HE0,←zU HB];exact ⟨rfl,(zU HX1).bel⟩
end Go.Proofs.YtjpgoeimclipjaaGreat
namespace Go.Proofs.YtjpgoeimclipjaaGreat
open Go.RowKit Go.Lib Pl
attribute [local go_sem] ext_list app_list
theorem CodeAt.keep {l:List Int} {w wr w1:World} {B g M:Nat} (h:CodeAt l w wr B g) (hB:B<M) (hg:g<M) (hb:Below M wr w1):CodeAt l w w1 B g :=
 ⟨(hb.block B hB).trans h.a,(hb.block g hg).trans h.o,h.bel.trans (hb.mono (by omega))⟩
theorem unpack_take {b:Bytes} {k:Nat} {c:UInt8} (h:b[k]? = some c):unpackB (b.take (k+1))=unpackB (b.take k)++bt c.toNat 8:=by
 rw [List.take_add_one,h,unpackB_app];simp [unpackB]
theorem row_some {w:World} {base n:Nat} {e:TypeId} {v:Value} {xs:List Value} (h:w.ownsRow base e 1 v (n+1) xs):∃ g cap,v = .slice (some ⟨g,0,none⟩) ((n+1:Nat)) cap:=by
 rcases h.2 with ⟨_,h0⟩ | ⟨g,cap,cur,hv,_⟩
 ·exact absurd h0 (by omega)
 ·exact ⟨g,cap,hv⟩
theorem row_ge {w:World} {base n cap g:Nat} {e:TypeId} {xs:List Value} (h:w.ownsRow base e 1 (.slice (some ⟨g,0,none⟩) n cap) n xs):base≤g:=(h.lt g rfl).1
theorem row_last {w:World} {base n cap g j:Nat} {e:TypeId} {h0:Bytes} {c:UInt8} (h:w.ownsRow base e 1 (.slice (some ⟨g,0,none⟩) n cap) n ((h0++[c]).map B)) (hj:h0.length=j):w.cell? ⟨g,j,none⟩=some (.int .u8 (c.toNat:Int)):=by
 have hl:=h.1;simp at hl;rw [h.cellAt j (by omega)];subst hj;simp [B]
theorem row_set {w:World} {base n cap g j:Nat} {e:TypeId} {h0:Bytes} {c d:UInt8} {x:Int} (h:w.ownsRow base e 1 (.slice (some ⟨g,0,none⟩) n cap) n (((h0++[c]).map B).set j (.int .u8 x))) (hj:h0.length=j) (hd:(d.toNat:Int)=x) :
  w.ownsRow base e 1 (.slice (some ⟨g,0,none⟩) n cap) n ((h0++[d]).map B):=by
 subst hj;subst hd;have e:((h0++[c]).map B).set h0.length (.int .u8 (d.toNat:Int))=(h0++[d]).map B:=by simp [B]
 rw [e] at h;exact h
theorem bits_8 (n:Nat) (w:World) (hn:n<256) :
  Calls Tryz.prog 138 #[I n,.int .i64 8] w fun e w'=>e = .returned (S (bstr (bt n 8)))∧Below w.heap.size w w' :=
 bits_any 8 n w (by decide) (Nat.le_trans (Nat.le_of_lt hn) (by decide))
attribute [local go_sem ↓] concat_list in
set_option maxHeartbeats 8000000 in
set_option maxRecDepth 100000 in
theorem readCode_any (l:List Int) (b:Bytes) (n:Int) (w:World) (hl:l.length=16) (hb:b.length≤4611686018427387904) (hn1 : -9223372036854775808≤n) (hn2:n≤9223372036854775807) :
  Calls Tryz.prog 116 #[A16 l,S b,.int .i64 n] w fun e w'=>e = .returned (.tuple #[S (readS l b n),I (readE l b n)])∧Below w.heap.size w w':=by
 have hz:=zero16s;obtain ⟨B0,hB⟩:∃ B0,B0=w.heap.size:=⟨_,rfl⟩
 obtain ⟨w0,hw0⟩:∃ w0,w0=w.alloc (.cells (cells16 l) 145):=⟨_,rfl⟩
 have hx0:BoxAt l w w0 B0:=by rw [hw0,hB];exact BoxAt.boxed l w
 have CK:=checkCodeR_any l w0 hl;obtain ⟨e0,he0⟩:∃ e0,e0=checkE l:=⟨_,rfl⟩
 rw [←he0] at CK;have CK:=zH CK;have HE0:=zH he0;have HB:=zH hB;have HW0:=zH hw0;have HX0:=zH hx0;have HL:=zH hl;clear he0 hB hw0 hx0 hl;go_enter Tryz.func116,Tryz.ntmps116
 by_cases h0:e0=0
 ·subst h0;have HR:=zH (right_of (zU HL) (zU HE0).symm)
  by_cases hn:n<0∨1024<n
  ·have C1:=zH (fun (W:World)=>within_no n 0 1024 W (by omega));have HN:=zH hn;clear hn
   go_wp2_with (first
    | (refine wpList_load16 rfl (.tmp 3) rfl B0 (by rw [zU HB];rfl) l (zU HL) (by rw [←zU HW0];exact (zU HX0).a) ?_;rw [←zU HW0,←zU HB])
    | (go_at_call 137;refine (zU CK).mono ?_;rintro e w1 ⟨rfl,hb1⟩;have HX1:=zH ((zU HX0).below hb1);clear hb1)
    | (go_at_call 78;refine (zU C1 _).mono ?_;rintro e w2 ⟨rfl,rfl⟩))
   go_ret2;obtain ⟨e1,e2⟩:=readE_range (b:=b) (zU HE0).symm (zU HN);rw [e1,e2,←zU HB];exact ⟨rfl,(zU HX1).bel⟩
  ·have C1:=zH (fun (W:World)=>within_yes n 0 1024 W ⟨by omega,by omega⟩);have HN:=zH hn;obtain ⟨N,rfl⟩:=Int.eq_ofNat_of_zero_le (show 0≤n by omega);have hN:N≤1024:=by omega
   clear hn hn1 hn2
   by_cases hlong:4*N<b.length
   ·have hd1:4*(N:Int)<(b.length:Int):=by omega
    have hres:readE l b N=1∧readS l b N=[]:=by
     cases hd:decN l (2*N) (unpackB b) with
     | none=>exact readE_none (zU HE0).symm (zU HN) hd
     | some q=>obtain ⟨ks,r⟩:=q;exact readE_left (zU HE0).symm (zU HN) hd (dec_long (zU HR) hlong hd)
    have HRES:=zH hres;clear hres hlong
    go_wp2_with (first
     | (refine wpList_load16 rfl (.tmp 3) rfl B0 (by rw [zU HB];rfl) l (zU HL) (by rw [←zU HW0];exact (zU HX0).a) ?_;rw [←zU HW0,←zU HB])
     | (go_at_call 137;refine (zU CK).mono ?_;rintro e w1 ⟨rfl,hb1⟩;have HX1:=zH ((zU HX0).below hb1);clear hb1)
     | (go_at_call 78;refine (zU C1 _).mono ?_;rintro e w2 ⟨rfl,rfl⟩))
    go_ret2;rw [(zU HRES).1,(zU HRES).2,←zU HB];exact ⟨rfl,(zU HX1).bel⟩
   ·have hd1:(b.length:Int)≤4*(N:Int):=by omega
    have hb4:b.length≤4096:=by omega
    clear hlong hb
    go_wp2_with (first
     | (refine wpList_load16 rfl (.tmp 3) rfl B0 (by rw [zU HB];rfl) l (zU HL) (by rw [←zU HW0];exact (zU HX0).a) ?_;rw [←zU HW0,←zU HB])
     | (go_at_call 137;refine (zU CK).mono ?_;rintro e w1 ⟨rfl,hb1⟩;have HX1:=zH ((zU HX0).below hb1);clear hb1)
     | (go_at_call 78;refine (zU C1 _).mono ?_;rintro e w2 ⟨rfl,rfl⟩))
    go_loopw [9,10] (fun a i wr=>∃ k:Nat,k≤b.length∧i = .int .i64 k∧a=S (bstr (unpackB (b.take k)))∧BoxAt l w wr B0) (fun _ i _=>b.length-(intOf i).toNat)
    case atStart=>exact ⟨0,by omega,rfl,rfl,zU HX1⟩
    case round =>
     obtain ⟨k,hk,rfl,rfl,hx⟩:=hrel;have HXR:=zH hx;clear hx
     by_cases hkb:k<b.length
     ·obtain ⟨c,hcc⟩:∃ c,(⟨b.toArray⟩:ByteArray)[k]'hkb=c:=⟨_,rfl⟩
      have hbc:b[k]? = some c:=by rw [List.getElem?_eq_getElem hkb];exact congrArg some hcc
      have hnx:=unpack_take hbc;have hc256:c.toNat<256:=c.toNat_lt;have C2:=zH (fun (W:World)=>bits_8 c.toNat W c.toNat_lt);obtain ⟨bx,hbx⟩:∃ bx,bx=bstr (unpackB (b.take k)):=⟨_,rfl⟩
      obtain ⟨by',hby⟩:∃ by',by'=bstr (bt c.toNat 8):=⟨_,rfl⟩
      have hl1:bx.length≤100000:=by rw [hbx,bstr_len,unpackB_len,List.length_take];omega
      have hl2:by'.length≤100:=by rw [hby,bstr_len,bt_len];omega
      have k1:bx.length+by'.length≤9223372036854775807:=by omega
      have hall:bstr (unpackB (b.take (k+1)))=bx++by':=by rw [hnx,bstr_app,hbx,hby]
      rw [←hby] at C2;rw [←hbx];have HALL:=zH hall;clear hbc hnx hbx hby hall;go_wp2_with (go_at_call 138;refine (zU C2 _).mono ?_;rintro e w3 ⟨rfl,hb3⟩;have HX3:=zH ((zU HXR).below hb3);clear hb3);go_roundw
      case rel=>exact ⟨k+1,by omega,by go_num,by rw [zU HALL],zU HX3⟩
      case measure=>simp [intOf];omega
     ·have hk':k=b.length:=by omega
      subst hk';rw [List.take_length]
      go_wp2_with (first
       | (refine wpList_load16 rfl (.tmp 3) rfl B0 rfl l (zU HL) (zU HXR).a ?_)
       | (go_at_call 139;refine (refWords_any l _ (zU HR)).mono ?_;rintro e w4 ⟨rfl,hb4⟩;have HX4:=zH ((zU HXR).below hb4);clear hb4)
       | (refine wpList_store_row rfl 178 (.tmp 11) (.tmp 44) rfl w4.heap.size _ rfl rfl 178 _ (heap_alloc_new _ _) (by rw [size16s,cellsS_size]) (by rw [cellsS_size,cellsS_size]) (cellsS_one _) ?_;obtain ⟨w5,hw5⟩:∃ w5,w5=(w4.alloc (.cells (cellsS fun _=>[]) 178)).setRow w4.heap.size (cellsS fun j=>bstr (wordB l j)):=⟨_,rfl⟩;obtain ⟨g,hg⟩:∃ g,g=w4.heap.size:=⟨_,rfl⟩;have HC5:=zH (CodeAt.made (zU HX4));rw [←hw5,←hg] at HC5;rw [←hw5,←hg];clear hw5 hg))
      obtain ⟨M,hM⟩:∃ M,M=w5.heap.size:=⟨_,rfl⟩
      have hBM:B0<M:=by rw [hM];exact (Array.getElem?_eq_some_iff.1 (zU HC5).a).1
      have hgM:g<M:=by rw [hM];exact (Array.getElem?_eq_some_iff.1 (zU HC5).o).1
      have hM1:M≤w5.heap.size:=by omega
      clear hM;obtain ⟨i0,hi,hz0,hz1,hz2⟩:=info_parts info_u8;go_loopw [9,12,13,14] (fun a v i _ wq=>∃ (q n:Nat) (ks:List Nat) (R:List Bool),i = .int .i64 q∧a=S (bstr R)∧DecAt l (unpackB b) (2*N) q ks R∧wq.ownsRow M 5 1 v n ((half ks).map B)∧CodeAt l w wq B0 g∧M≤wq.heap.size) (fun _ _ i _ _=>2*N-(intOf i).toNat)
      case atStart=>exact ⟨0,0,[],unpackB b,rfl,rfl,DecAt.start l _ _,World.ownsRow_nil _ _ _ _,zU HC5,hM1⟩
      case round =>
       obtain ⟨q,n,ks,R,rfl,rfl,hdec,hown,hc,hsz⟩:=hrel;have hqN:=hdec.le;have HDEC:=zH hdec;have HC:=zH hc;have hkn:(half ks).length=n:=by have:=hown.1;simpa using this
       have hn2:n=(q+1) / 2:=by rw [←hkn,half_len,hdec.len]
       obtain ⟨bs,hbs⟩:∃ bs,bs=bstr R:=⟨_,rfl⟩
       have hRl:R.length≤40000:=by
        have:=hdec.short;rw [unpackB_len] at this;omega
       have hbl:bs.length≤40000:=by rw [hbs,bstr_len];exact hRl
       by_cases hq:q<2*N
       ·have C3:=fun (W:World)=>front_any l R W (zU HR) (by omega);have d1:(q:Int)<2*(N:Int):=by omega
        cases hf:frontP l R with
        | none =>
         have hdn:=hdec.none hq hf;have hfi:frontI l R = -1:=by unfold frontI;rw [hf]
         rw [hfi] at C3;have C3:=zH C3;have HDN:=zH hdn;clear hdec hc hf hdn hfi hkn hn2 hbs
         go_wp2_with (first
          | (refine wpList_load16 rfl (.tmp 3) rfl B0 rfl l (zU HL) (zU HC).a ?_)
          | (refine wpList_load_row rfl 178 (.tmp 11) rfl g rfl 178 _ (0,0) _ (zU HC).o Tryz.underlying178 rfl (by rw [size16s,cellsS_size]) ?_)
          | (go_at_call 140;refine (zU C3 _).mono ?_;rintro e w6 ⟨rfl,hb6⟩;have HC6:=zH ((zU HC).below hb6);clear hb6))
         go_ret2;obtain ⟨e1,e2⟩:=readE_none (zU HE0).symm (zU HN) (zU HDN);rw [e1,e2,←zU HB];exact ⟨rfl,(zU HC6).bel⟩
        | some k =>
         obtain ⟨hk16,hk0,hkp⟩:=front_some hf;have hfi:frontI l R=(k:Int):=by unfold frontI;rw [hf]
         rw [hfi] at C3;have hst:=hdec.step hq hf
         have hml:ln l k≤bs.length:=by
          obtain ⟨t,ht⟩:=hkp;rw [hbs,bstr_len,←ht,List.length_append,wordB_len];omega
         have hsl:slice bs (ln l k) bs.length=bstr (R.drop (ln l k)):=by rw [slice_end,hbs];exact (List.map_drop ..).symm
         have hksf:=hdec.fine;have hkl:=hdec.len;rw [←hbs] at C3;rw [←hbs];obtain ⟨m,hm⟩:∃ m,m=ln l k:=⟨_,rfl⟩
         rw [←hm] at hml hsl;have C3:=zH C3;have HST:=zH hst;have HSL:=zH hsl;have HM:=zH hm
         by_cases hpar:q % 2=0
         ·have p1:(q:Int).tmod 2=0:=by rw [Int.tmod_eq_emod_of_nonneg (by omega)];omega
          have hev:=half_even (ks:=ks) (by omega) k;have HEV:=zH hev;have hnb:n≤5000:=by omega
          clear hdec hc hf hkp hfi hst hsl hm hksf hkl hkn hbs hev hn2
          go_wp2_with (first
           | (refine wpList_load16 rfl (.tmp 3) rfl B0 rfl l (zU HL) (zU HC).a ?_)
           | (refine wpList_load_row rfl 178 (.tmp 11) rfl g rfl 178 _ (0,0) _ (zU HC).o Tryz.underlying178 rfl (by rw [size16s,cellsS_size]) ?_)
           | (go_at_call 140;(refine (zU C3 _).mono ?_;rintro e w6 ⟨rfl,hb6⟩;have HC6:=zH ((zU HC).below hb6);have hown6:=own_below hown hb6;have hsz6:M≤w6.heap.size:=Nat.le_trans hsz hb6.size;have hc1:=(zU HC6).len (zU HR) hk16;rw [←zU HM] at hc1;clear hb6))
           | (at_builtin;refine wpList_push rfl _ _ _ rfl M 5 i0 _ 1 Tryz.underlying77 hi hz0 hz1 hz2 rfl _ _ _ rfl hown6 _ _ rfl rfl ?_ ?_ hsz6 ?_;(unfold maxLen;omega);omega;intro v' w' hown' hb hg;have HC7:=zH ((zU HC6).keep hBM hgM hb);have hsz7:M≤w'.heap.size:=Nat.le_trans hsz6 hb.size;have hown7:=own_byte (UInt8.ofNat (16*k)) hown' (by rw [ofNat_toNat (by omega)];omega);rw [←zU HEV] at hown7;clear hown' hb hg))
          go_roundw
          case rel=>exact ⟨q+1,n+1,ks++[k],R.drop (ln l k),by go_num,by rw [zU HSL,zU HM],zU HST,hown7,zU HC7,hsz7⟩
          case measure=>simp [intOf];omega
         ·have p1:(q:Int).tmod 2=1:=by rw [Int.tmod_eq_emod_of_nonneg (by omega)];omega
          obtain ⟨h0,x,hx16,hh1,hh2,hh3⟩:=half_odd (ks:=ks) (by omega) (fun k hk=>(hksf k hk).1) k;have hj:h0.length=q / 2:=by rw [hh3,hkl]
          obtain ⟨j,hjj⟩:∃ j,j=q / 2:=⟨_,rfl⟩
          rw [←hjj] at hj;obtain ⟨n',hn'⟩:∃ n',n=n'+1:=⟨n-1,by omega⟩
          subst hn';obtain ⟨g2,cap,rfl⟩:=row_some hown;have hjn:j<n'+1:=by omega
          have hj5:j≤5000:=by omega
          have hjn2:(j:Int)<(n':Int)+1:=by omega
          have hjn3:(j:Int)<((n'+1:Nat):Int):=by omega
          have q1:(q:Int).tdiv 2=(j:Int):=by rw [Int.tdiv_eq_ediv_of_nonneg (by omega)];omega
          have q2:IntKind.i64.wrap ((q:Int) / 2)=(j:Int):=by
           have e:(q:Int) / 2=(j:Int):=by omega
           rw [e];exact IntWalk.i64_in _ ⟨by omega,by omega⟩
          rw [hh1] at hown;have hx2:((UInt8.ofNat (16*x)).toNat:Int)=16*(x:Int):=by rw [ofNat_toNat (by omega)];omega
          obtain ⟨bx,hbx⟩:∃ bx,bx=UInt8.ofNat (16*x):=⟨_,rfl⟩
          rw [←hbx] at hown hx2;have HH2:=zH hh2;have HX2:=zH hx2;have HJ:=zH hj;have hgM2:M≤g2:=row_ge hown;clear hdec hc hf hkp hfi hst hsl hm hksf hkl hkn hbs hh1 hh2 hh3 hj hjj hbx hx2 hn2
          go_wp2_with (first
           | (refine wpList_load16 rfl (.tmp 3) rfl B0 rfl l (zU HL) (zU HC).a ?_)
           | (refine wpList_load_row rfl 178 (.tmp 11) rfl g rfl 178 _ (0,0) _ (zU HC).o Tryz.underlying178 rfl (by rw [size16s,cellsS_size]) ?_)
           | (go_at_call 140;refine (zU C3 _).mono ?_;rintro e w6 ⟨rfl,hb6⟩;have HC6:=zH ((zU HC).below hb6);have hown6:=own_below hown hb6;have hsz6:M≤w6.heap.size:=Nat.le_trans hsz hb6.size;have hc1:=(zU HC6).len (zU HR) hk16;rw [←zU HM] at hc1;have hc2:w6.cell? ⟨g2,j,none⟩=some (.int .u8 (16*(x:Int))):=(row_last hown6 (zU HJ)).trans (by rw [←zU HX2]);have hc3:=hown6.frozenAt j;clear hb6))
          go_roundw
          case rel =>
           have hst2:=hown6.stored j (.int .u8 (16*(x:Int)+(k:Int)));refine ⟨q+1,n'+1,ks++[k],R.drop (ln l k),by go_num,by rw [zU HSL,zU HM],zU HST,?_,(zU HC6).keep hBM hgM ((Below.refl _ _).setCell hgM2 _),by simpa using hsz6⟩;rw [zU HH2];exact row_set hst2.1 (zU HJ) (by rw [ofNat_toNat (k:=16*x+k) (by omega)];omega)
          case measure=>simp [intOf];omega
       ·have hq2:q=2*N:=by omega
        subst hq2;have hdn:=hdec.done;obtain ⟨w1',w2',w3'⟩:=write_dec (zU HE0).symm hN hdn;obtain ⟨o,ho⟩:∃ o,o=half ks:=⟨_,rfl⟩
        rw [←ho] at w1' w2' w3' hown;have C4:=zH (fun (W:World)=>writeCode_any l o W (zU HL) (by omega));have hcv:=run_str_own (P:=Tryz.prog) hown 77 9 Tryz.underlying77 Tryz.underlying5 Tryz.underlying9;obtain ⟨t,ht⟩:∃ t,t=writeS l o:=⟨_,rfl⟩
        rw [←ht] at C4 w2';have HDN:=zH hdn;have HO:=zH ho;have hnq:¬ (((2*N:Nat):Int)<2*(N:Int)):=by omega
        cases hg:goodRest R with
        | true =>
         have htb:=w2'.2 hg;have z1:(t == b)=true:=by rw [beq_iff_eq];exact htb
         have z2:(t != b)=false:=by rw [bne_eq_false_iff_eq];exact htb
         obtain ⟨e1,e2⟩:=readE_ok (zU HE0).symm (zU HN) hdn hg;rw [←ho] at e2;have HE1:=zH e1;have HE2:=zH e2;clear hdec hc hdn w1' w2' w3' ho ht hg htb e1 e2 hkn hn2 hbs
         go_wp2_with (first
          | (refine wpList_load16 rfl (.tmp 3) rfl B0 rfl l (zU HL) (zU HC).a ?_)
          | (go_at_call 141;refine (zU C4 _).mono ?_;rintro e w6 ⟨rfl,hb6⟩;have HC6:=zH ((zU HC).below hb6);have hcv6:=run_str_own (P:=Tryz.prog) (own_below hown hb6) 77 9 Tryz.underlying77 Tryz.underlying5 Tryz.underlying9;clear hb6))
         go_ret2;rw [zU HE1,zU HE2,←zU HB];exact ⟨rfl,(zU HC6).bel⟩
        | false =>
         have htb:¬ t=b:=fun e=>by
          have:=w2'.1 e;rw [hg] at this;cases this
         have z1:(t == b)=false:=by rw [beq_eq_false_iff_ne];exact htb
         have z2:(t != b)=true:=by rw [bne_iff_ne];exact htb
         obtain ⟨e1,e2⟩:=readE_left (zU HE0).symm (zU HN) hdn hg;have HE1:=zH e1;have HE2:=zH e2;clear hdec hc hdn w1' w2' w3' ho ht hg htb e1 e2 hkn hn2 hbs
         go_wp2_with (first
          | (refine wpList_load16 rfl (.tmp 3) rfl B0 rfl l (zU HL) (zU HC).a ?_)
          | (go_at_call 141;refine (zU C4 _).mono ?_;rintro e w6 ⟨rfl,hb6⟩;have HC6:=zH ((zU HC).below hb6);clear hb6))
         go_ret2;rw [zU HE1,zU HE2,←zU HB];exact ⟨rfl,(zU HC6).bel⟩
 ·have z1:((e0:Int) == 0)=false:=by rw [beq_eq_false_iff_ne];omega
  have z2:((e0:Int) != 0)=true:=by rw [bne_iff_ne];omega
  have H0:=zH h0;clear h0
  go_wp2_with (first
   | (refine wpList_load16 rfl (.tmp 3) rfl B0 (by rw [zU HB];rfl) l (zU HL) (by rw [←zU HW0];exact (zU HX0).a) ?_;rw [←zU HW0,←zU HB])
   | (go_at_call 137;refine (zU CK).mono ?_;rintro e w1 ⟨rfl,hb1⟩;have HX1:=zH ((zU HX0).below hb1);clear hb1))
  go_ret2;obtain ⟨e1,e2⟩:=readE_code (l:=l) (b:=b) (n:=n) (by rw [←zU HE0];exact zU H0);rw [e1,e2,←zU HE0,←zU HB];exact ⟨rfl,(zU HX1).bel⟩
end Go.Proofs.YtjpgoeimclipjaaGreat
namespace Go.Proofs.YtjpgoeimclipjaaGreat
open Go.RowKit Go.Lib Pl
attribute [local go_sem] ext_list app_list
def FromToks (w':World) (e:Ending) (r:Option (List Tok)):Prop :=
 ∃ v is,e = .returned (.tuple #[v,.bool is])∧((is=false∧v = .slice none 0 0∧r=none)∨(is=true∧∃ l,r=some l∧ToksV w' v l))
theorem FromToks.no {w':World} {r:Option (List Tok)} (h:r=none):FromToks w' (.returned (.tuple #[.slice none 0 0,.bool false])) r:=⟨_,_,rfl,.inl ⟨rfl,rfl,h⟩⟩
theorem toksOf_map {s rest r:Bytes} {o:List Tok} {t:Tok} (h:toksOf s=(toksOf rest).map (o++·)) (hs:rest≠[]) (ht:tokFrom rest=some (t,r)) :
  toksOf s=(toksOf r).map ((o++[t])++·):=by
 rw [h,toksOf_some hs ht,Option.map_map]
 congr 1
 funext x;simp
def FromRel (w wr:World) (s:Bytes) (v sv:Value):Prop :=
 ∃ (n:Nat) (o:List Tok) (rest:Bytes),sv=S rest∧n≤512∧rest.length≤s.length∧wr.ownsRow w.heap.size 183 3 v n (toksCells o)∧toksOf s=(toksOf rest).map (o++·)∧Below w.heap.size w wr
set_option maxHeartbeats 2000000 in
set_option maxRecDepth 100000 in
theorem toksFrom_any (dict s:Bytes) (w:World) (hd:dict.length≤256) (hs:s.length≤4611686018427387904) :
  Calls Tryz.prog 117 #[S dict,S s] w fun e w'=>FromToks w' e (read dict s)∧Below w.heap.size w w':=by
 go_enter Tryz.func117,Tryz.ntmps117;go_wp2_with fail;go_loopw [6,1] (fun v sv wr=>FromRel w wr s v sv) (fun _ sv _=>strLen sv)
 case atStart=>exact ⟨0,[],s,rfl,by omega,Nat.le_refl _,World.ownsRow_nil _ _ _ _,by simp,Below.refl _ _⟩
 case round =>
  obtain ⟨n,o,rest,rfl,hn,hrl,hown,hto,hbel⟩:=hrel;obtain ⟨A,cap,rfl⟩:=own_slice hown;have HTO:=zH hto;have HOWN:=zH hown;clear hto hown
  by_cases hr:rest=[]
  ·subst hr;have hto2:toksOf s=some o:=by rw [zU HTO,toksOf_nil];simp
   obtain ⟨A',cap',hAe,hat,hlen⟩:=toksAt_of_own (zU HOWN);obtain ⟨rfl,rfl⟩:A=A'∧cap=cap':=by injection hAe with a b c;exact ⟨a,c⟩
   have HT2:=zH hto2;have HAT:=zH hat;clear hto2 hAe hlen hat;have C1:=zH (checkToks_any dict A n cap o wr (zU HAT) (by omega) (by omega))
   by_cases hp:(play dict o).2=0
   ·have hrd:=read_good hd (zU HT2) hp;have HRD:=zH hrd;have e1:(((play dict o).2:Int) == 0)=true:=by rw [hp];rfl
    have e2:(((play dict o).2:Int) != 0)=false:=by rw [hp];rfl
    clear hrd hp;go_wp2_with fail;refine (zU C1).mono ?_;rintro e w1 ⟨rfl,hb1⟩;go_wp2_with fail;go_ret2;have hat1:=(zU HAT).below hb1;refine ⟨⟨_,_,rfl,.inr ⟨rfl,o,zU HRD,A,n,cap,rfl,?_⟩⟩,hbel.trans (hb1.mono hbel.size)⟩;exact ⟨hat1.1,fun hn=>by obtain ⟨b,off,e,hb,hc⟩:=hat1.2 hn;exact ⟨b,off,e,Nat.lt_of_lt_of_le hb hb1.size,hc⟩⟩
   ·have hrd:=read_bad hd (zU HT2) hp;have HRD:=zH hrd;have e1:(((play dict o).2:Int) == 0)=false:=by rw [beq_eq_false_iff_ne];omega
    have e2:(((play dict o).2:Int) != 0)=true:=by rw [bne_iff_ne];omega
    clear hrd hp;go_wp2_with fail;refine (zU C1).mono ?_;rintro e w1 ⟨rfl,hb1⟩;go_wp2_with fail;go_ret2;exact ⟨FromToks.no (zU HRD),hbel.trans (hb1.mono hbel.size)⟩
  ·have hr1:rest.isEmpty=false:=by simpa using hr
   have hr2:(rest == [])=false:=by simpa using hr
   have HR:=zH hr;have hsl:rest.length≤9223372036854775807:=by omega
   clear hr;cases hk:take rest with
   | none =>
    have C1:=zH (fun W=>numFrom_no hk W hsl);have hrd:read dict s=none:=read_none hd (by rw [zU HTO,toksOf_none (zU HR) (tokFrom_none hk)];rfl);have HRD:=zH hrd;clear hrd hk;go_wp2_with fail;refine (zU C1 _).mono ?_;rintro e w1 ⟨rfl,hb1⟩;go_wp2_with fail;go_ret2;exact ⟨FromToks.no (zU HRD),hbel.trans (hb1.mono hbel.size)⟩
   | some p =>
    obtain ⟨q,r⟩:=p;have C1:=zH (fun W=>numFrom_ok hk W hsl);have hq:q≤2147483647:=(take_some hk).2;have hrlen:=Pl.take_len hk;obtain ⟨m,hm⟩:∃ m,m=q / 2:=⟨_,rfl⟩
    have hm2:(q:Int) / 2=(m:Int):=by omega
    have hmb:m≤1073741824:=by omega
    by_cases he:q % 2=0
    ·have he2:(q:Int) % 2=0:=by omega
     by_cases hsh:r.length<m
     ·have hrd:read dict s=none:=read_none hd (by rw [zU HTO,toksOf_none (zU HR) (tokFrom_short hk he (by omega))];rfl);have HRD:=zH hrd;have hsh2:decide (r.length<m)=true:=by simp;omega
      clear hrd hk hm he;go_wp2_with fail;refine (zU C1 _).mono ?_;rintro e w1 ⟨rfl,hb1⟩;go_wp2_with fail;go_ret2;exact ⟨FromToks.no (zU HRD),(hbel.trans (hb1.mono hbel.size)).alloc (Nat.le_trans hbel.size hb1.size) _⟩
     ·have hsh2:decide (r.length<m)=false:=by simp;omega
      have htf:=tokFrom_even hk he (by omega);rw [←hm] at htf;have htm:=toksOf_map (zU HTO) (zU HR) htf;have HTM:=zH htm;have HM:=zH hm;have hsl2:=slice_len r m r.length;clear hk hm he htf htm;go_wp2_with fail;refine (zU C1 _).mono ?_;rintro e w1 ⟨rfl,hb1⟩;have hbw:=Nat.le_trans hbel.size hb1.size
      by_cases hmany:512<n+1
      ·go_wp2_with (at_builtin;refine wpList_push_tok_at rfl (.tmp 52) (.tmp 54) rfl w.heap.size _ n o rfl ((own_below (zU HOWN) hb1).alloc _) (slice r 0 m) 0 0 (w1.heap.size+1) (by simp) rfl (by omega) (by simp;omega) ?_;intro A4 cap4 w4 hown4 hb4 hg4);go_ret2;have hrd:read dict s=none:=read_many hd (zU HTM) (by have:=hown4.1;rw [toksCells_len] at this;omega);exact ⟨FromToks.no hrd,((hbel.trans (hb1.mono hbel.size)).alloc hbw _).trans hb4⟩
      ·go_wp2_with (at_builtin;refine wpList_push_tok_at rfl (.tmp 52) (.tmp 54) rfl w.heap.size _ n o rfl ((own_below (zU HOWN) hb1).alloc _) (slice r 0 m) 0 0 (w1.heap.size+1) (by simp) rfl (by omega) (by simp;omega) ?_;intro A4 cap4 w4 hown4 hb4 hg4);go_roundw
       case rel=>exact ⟨n+1,_,slice r m r.length,rfl,by omega,by omega,hown4,zU HTM,((hbel.trans (hb1.mono hbel.size)).alloc hbw _).trans hb4⟩
       case measure=>simp [strLen];omega
    ·have he2:(q:Int) % 2=1:=by omega
     cases hk2:take r with
     | none =>
      have C2:=zH (fun W=>numFrom_no hk2 W (by omega));have hrd:read dict s=none:=read_none hd (by rw [zU HTO,toksOf_none (zU HR) (tokFrom_oddno hk he hk2)];rfl);have HRD:=zH hrd;clear hrd hk hm he hk2;go_wp2_with fail;refine (zU C1 _).mono ?_;rintro e w1 ⟨rfl,hb1⟩;have hbw:=Nat.le_trans hbel.size hb1.size;go_wp2_with fail;refine (zU C2 _).mono ?_;rintro e w2 ⟨rfl,hb2⟩;have B0:=(hb2.block w1.heap.size (by simp)).trans (heap_alloc_new w1 _);have K0:w2.cell? ⟨w1.heap.size,0,none⟩=some (S []):=by rw [cell_of_row w2 _ 0 _ _ _ B0];rfl
      have K1:w2.cell? ⟨w1.heap.size,1,none⟩=some (I 0):=by rw [cell_of_row w2 _ 1 _ _ _ B0];rfl
      have K2:w2.cell? ⟨w1.heap.size,2,none⟩=some (I m):=by rw [cell_of_row w2 _ 2 _ _ _ B0];rfl
      have F1:w2.frozen? ⟨w1.heap.size,1,none⟩=false:=free_row w2 _ 1 _ _ B0;clear B0;go_wp2_with fail;go_ret2;exact ⟨FromToks.no (zU HRD),(((hbel.trans (hb1.mono hbel.size)).alloc hbw _).trans (hb2.mono (by simp;omega))).setCell (by simpa using hbw) _⟩
     | some p2 =>
      obtain ⟨f,r2⟩:=p2;have C2:=zH (fun W=>numFrom_ok hk2 W (by omega));have hr2len:=Pl.take_len hk2;have htf:=tokFrom_odd hk he hk2;rw [←hm] at htf;have htm:=toksOf_map (zU HTO) (zU HR) htf;have HTM:=zH htm;clear hk hm he hk2 htf htm;go_wp2_with fail;refine (zU C1 _).mono ?_;rintro e w1 ⟨rfl,hb1⟩;have hbw:=Nat.le_trans hbel.size hb1.size;go_wp2_with fail;refine (zU C2 _).mono ?_;rintro e w2 ⟨rfl,hb2⟩;have hz2:w1.heap.size+1≤w2.heap.size:=by have:=hb2.size;simpa using this
      have B0:=(hb2.block w1.heap.size (by simp)).trans (heap_alloc_new w1 _);have K0:w2.cell? ⟨w1.heap.size,0,none⟩=some (S []):=by rw [cell_of_row w2 _ 0 _ _ _ B0];rfl
      have K1:w2.cell? ⟨w1.heap.size,1,none⟩=some (I 0):=by rw [cell_of_row w2 _ 1 _ _ _ B0];rfl
      have K2:w2.cell? ⟨w1.heap.size,2,none⟩=some (I m):=by rw [cell_of_row w2 _ 2 _ _ _ B0];rfl
      have F1:w2.frozen? ⟨w1.heap.size,1,none⟩=false:=free_row w2 _ 1 _ _ B0;clear B0;have hbX:Below w.heap.size w (w2.setCell ⟨w1.heap.size,1,none⟩ (I f)):=(((hbel.trans (hb1.mono hbel.size)).alloc hbw _).trans (hb2.mono (by simp;omega))).setCell (by simpa using hbw) _
      have hownX:(w2.setCell ⟨w1.heap.size,1,none⟩ (I f)).ownsRow w.heap.size 183 3 (.slice A n cap) n (toksCells o):=by
       have h1:=own_below (zU HOWN) hb1;have h2:=own_below (h1.alloc _) hb2;exact row_keep h2 fun g hg=>Below.heap_setCell _ _ _ _ (by have:=(h1.lt g hg).2;simp;omega)
      have HBX:=zH hbX;have HOX:=zH hownX;clear hbX hownX
      by_cases hmany:512<n+1
      ·go_wp2_with (at_builtin;refine wpList_push_tok_at rfl (.tmp 52) (.tmp 54) rfl w.heap.size _ n o rfl (zU HOX) [] f m w2.heap.size (by simp) rfl (by omega) (by simp;omega) ?_;intro A4 cap4 w4 hown4 hb4 hg4);go_ret2;have hrd:read dict s=none:=read_many hd (zU HTM) (by have:=hown4.1;rw [toksCells_len] at this;omega);exact ⟨FromToks.no hrd,(zU HBX).trans hb4⟩
      ·go_wp2_with (at_builtin;refine wpList_push_tok_at rfl (.tmp 52) (.tmp 54) rfl w.heap.size _ n o rfl (zU HOX) [] f m w2.heap.size (by simp) rfl (by omega) (by simp;omega) ?_;intro A4 cap4 w4 hown4 hb4 hg4);go_roundw
       case rel=>exact ⟨n+1,_,r2,rfl,by omega,by omega,hown4,zU HTM,(zU HBX).trans hb4⟩
       case measure=>simp [strLen];omega
end Go.Proofs.YtjpgoeimclipjaaGreat
namespace Go.Proofs.YtjpgoeimclipjaaGreat
open Go.RowKit Go.Lib Pl
attribute [local go_sem] ext_list app_list
set_option maxHeartbeats 1000000 in
set_option maxRecDepth 100000 in
theorem isName_any (s:Bytes) (w:World) (hs:s.length≤140737488355328) :
  Calls Tryz.prog 77 #[S s] w fun e w'=>e = .returned (.bool (nameB s))∧w'=w:=by
 have c1:=fun (W:World)=>within_any (s.length:Int) 1 12 W;have hnb:nameB s=(decide (1≤s.length∧s.length≤12) && s.all nameC):=rfl
 by_cases h0:1≤s.length∧s.length≤12
 ·rw [decide_eq_true h0,Bool.true_and] at hnb;rw [decide_eq_true (by omega)] at c1;have c1:=zH (fun (W:World)=>(c1 W).mono fun e w' ⟨h1,h2⟩=>(⟨h1,h2.symm⟩:e=Ending.returned (.bool true)∧w'=W));rw [hnb];clear hnb h0;go_enter Tryz.func77,Tryz.ntmps77;go_wp2_with fail;refine (zU c1 _).mono ?_;rintro e w1 ⟨rfl,rfl⟩;go_wp2_with fail;go_loop [3] (fun iv=>∃ k:Nat,k≤s.length∧iv = .int .i64 k∧(s.take k).all nameC=true) (fun iv=>s.length-(intOf iv).toNat)
  case atStart=>exact ⟨0,by omega,rfl,by simp⟩
  case round =>
   obtain ⟨k,hk,rfl,hall⟩:=hrel;have HALL:=zH hall;clear hall
   by_cases hks:k<s.length
   ·obtain ⟨c,hcc⟩:∃ c,(⟨s.toArray⟩:ByteArray)[k]'hks=c:=⟨_,rfl⟩
    have hsc:s[k]? = some c:=by rw [List.getElem?_eq_getElem hks];exact congrArg some hcc
    have hnx:(s.take (k+1)).all nameC=((s.take k).all nameC && nameC c):=by rw [List.take_add_one,hsc,List.all_append];simp
    have hc256:=c.toNat_lt
    have hst:nameC c=false→s.all nameC=false:=fun h=>by
     rw [←List.take_append_drop (k+1) s,List.all_append,hnx,h];simp
    obtain ⟨x,hx⟩:∃ x,x=c.toNat:=⟨_,rfl⟩
    have hcase:(nameC c=false∧(x<46∨x=47∨57<x∧x<97∨122<x))∨(nameC c=true∧(x=46∨48≤x∧x≤57∨97≤x∧x≤122)):=by
     by_cases h:97≤x∧x≤122∨48≤x∧x≤57∨x=46
     ·exact .inr ⟨decide_eq_true (by rw [←hx];exact h),by omega⟩
     ·exact .inl ⟨decide_eq_false (by rw [←hx];exact h),by omega⟩
    have HNX:=zH hnx;have HST:=zH hst;rw [←hx] at hc256;have hx':=hx.symm;clear hsc hnx hst hx
    rcases hcase with ⟨hc,h1 | h1 | h1 | h1⟩ | ⟨hc,h1 | h1 | h1⟩
    ·have HC:=zH hc;have d1:¬ (97:Int)≤(x:Int):=by omega
     have d2:¬ (48:Int)≤(x:Int):=by omega
     have d3:((x:Int) == 46)=false:=by rw [beq_eq_false_iff_ne];omega
     have d1':decide ((97:Int)≤(x:Int))=false:=decide_eq_false d1;have d2':decide ((48:Int)≤(x:Int))=false:=decide_eq_false d2;clear hc;go_wp2_with fail;go_ret;exact ⟨by rw [zU HST (zU HC)];rfl,rfl⟩
    ·have HC:=zH hc;subst h1;clear hc;go_wp2_with fail;go_ret;exact ⟨by rw [zU HST (zU HC)];rfl,rfl⟩
    ·have HC:=zH hc;have d1:¬ (97:Int)≤(x:Int):=by omega
     have d2:(48:Int)≤(x:Int):=by omega
     have d2b:¬ (x:Int)≤57:=by omega
     have d3:((x:Int) == 46)=false:=by rw [beq_eq_false_iff_ne];omega
     have d1':decide ((97:Int)≤(x:Int))=false:=decide_eq_false d1;have d2':decide ((48:Int)≤(x:Int))=true:=decide_eq_true d2;have d2b':decide ((x:Int)≤57)=false:=decide_eq_false d2b;clear hc;go_wp2_with fail;go_ret;exact ⟨by rw [zU HST (zU HC)];rfl,rfl⟩
    ·have HC:=zH hc;have d1:(97:Int)≤(x:Int):=by omega
     have d1b:¬ (x:Int)≤122:=by omega
     have d2:(48:Int)≤(x:Int):=by omega
     have d2b:¬ (x:Int)≤57:=by omega
     have d3:((x:Int) == 46)=false:=by rw [beq_eq_false_iff_ne];omega
     have d1':decide ((97:Int)≤(x:Int))=true:=decide_eq_true d1;have d1b':decide ((x:Int)≤122)=false:=decide_eq_false d1b;have d2':decide ((48:Int)≤(x:Int))=true:=decide_eq_true d2;have d2b':decide ((x:Int)≤57)=false:=decide_eq_false d2b;clear hc;go_wp2_with fail;go_ret;exact ⟨by rw [zU HST (zU HC)];rfl,rfl⟩
    ·have HC:=zH hc;subst h1;clear hc;go_wp2_with fail;go_round
     case rel=>exact ⟨k+1,by omega,by go_num,by rw [zU HNX,zU HALL,zU HC];rfl⟩
     case measure=>simp [intOf];omega
    ·have HC:=zH hc;have d1:¬ (97:Int)≤(x:Int):=by omega
     have d2:(48:Int)≤(x:Int):=by omega
     have d2b:(x:Int)≤57:=by omega
     have d1':decide ((97:Int)≤(x:Int))=false:=decide_eq_false d1;have d2':decide ((48:Int)≤(x:Int))=true:=decide_eq_true d2;have d2b':decide ((x:Int)≤57)=true:=decide_eq_true d2b;clear hc;go_wp2_with fail;go_round
     case rel=>exact ⟨k+1,by omega,by go_num,by rw [zU HNX,zU HALL,zU HC];rfl⟩
     case measure=>simp [intOf];omega
    ·have HC:=zH hc;have d1:(97:Int)≤(x:Int):=by omega
     have d1b:(x:Int)≤122:=by omega
     have d1':decide ((97:Int)≤(x:Int))=true:=decide_eq_true d1;have d1b':decide ((x:Int)≤122)=true:=decide_eq_true d1b;clear hc;go_wp2_with fail;go_round
     case rel=>exact ⟨k+1,by omega,by go_num,by rw [zU HNX,zU HALL,zU HC];rfl⟩
     case measure=>simp [intOf];omega
   ·have hk':k=s.length:=by omega
    subst hk';rw [List.take_length] at HALL;go_wp2_with fail;go_ret;exact ⟨by rw [zU HALL];rfl,rfl⟩
 ·rw [decide_eq_false h0,Bool.false_and] at hnb;rw [decide_eq_false (by omega)] at c1;have c1:=zH (fun (W:World)=>(c1 W).mono fun e w' ⟨h1,h2⟩=>(⟨h1,h2.symm⟩:e=Ending.returned (.bool false)∧w'=W));rw [hnb];clear hnb h0;go_enter Tryz.func77,Tryz.ntmps77;go_wp2_with fail;refine (zU c1 _).mono ?_;rintro e w1 ⟨rfl,rfl⟩;go_wp2_with fail;go_ret;exact ⟨rfl,rfl⟩
end Go.Proofs.YtjpgoeimclipjaaGreat
