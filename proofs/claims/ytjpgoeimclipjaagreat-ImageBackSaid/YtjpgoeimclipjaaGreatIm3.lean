/- Parts of the proofs. -/
import Derived.Test.YtjpgoeimclipjaaGreatIm2
import Derived.RegionTactic
import Derived.Deep.QuietTactic
import Derived.BigQuiet
import Derived.Laws.ResultCell
import Derived.Deep.MidRow
import Derived.Deep.WholeRow
import Derived.Laws.CopyOwn
import Derived.Lib.SliceRun
import Derived.Lib.AppendZerosOnto
import Derived.Lib.Overlaps
import Derived.Deep.RegionLaw
import Derived.Deep.RegionWith
import Derived.Deep.RegionHeld3
import Derived.Deep.AppendLies
import Derived.Deep.DeepCutAuto
import Derived.Laws.Rows
namespace Go.Proofs.YtjpgoeimclipjaaGreat
open Go.RowKit Pl
attribute [local go_sem] ext_list
def TakeV (l:Bytes):Value:=match take l with
 | some (n,r)=>.tuple #[I n,S r,I 0]
 | none=>.tuple #[I 0,S [],I 1]
set_option maxHeartbeats 400000 in
set_option maxRecDepth 100000 in
theorem take_any (l:Bytes) (w:World) (hs:l.length≤9223372036854775807) :
  Calls Tryz.prog 101 #[S l] w fun e w'=>e = .returned (TakeV l)∧∃ k,w'=w.drewN k:=by
 go_enter Tryz.func101,Tryz.ntmps101;go_wp2_with fail
 all_goals
  go_loop [5,10,6] (fun n i _=>∃ (k acc:Nat),k≤l.length∧k≤5∧acc<128 ^ k∧take l=takeF (5-k) k acc (l.drop k)∧i = .int .i64 k∧n = .int .i64 acc)
   (fun _ i _=>5-(intOf i).toNat)
  case atStart=>exact ⟨0,0,by omega,by omega,by omega,rfl,rfl,rfl⟩
  case round =>
   obtain ⟨k,acc,hk,hk5,hacc,hx,rfl,rfl⟩:=hrel;have HX:=zH hx;clear hx
   by_cases hlt:k<l.length∧k<5
   ·obtain ⟨hl,h5⟩:=hlt;obtain ⟨c,hc⟩:∃ c,(⟨l.toArray⟩:ByteArray)[k]'hl=c:=⟨_,rfl⟩
    have ha:=and127 c;have hcb:=c.toNat_lt;obtain ⟨acc2,hA⟩:∃ acc2,acc2=acc+c.toNat % 128*128 ^ k:=⟨_,rfl⟩
    have hor:bits .or .i64 (acc:Int) (wrap64 ((c.toNat:Int) % 128*2 ^ (7*k)))=(acc2:Int):=by
     rw [hA];exact or7 acc (c.toNat % 128) k hacc (by omega) h5
    have hdrop:l.drop k=c::l.drop (k+1):=by rw [←hc];exact List.drop_eq_getElem_cons hl
    have hbd:acc2<128 ^ (k+1):=by
     rw [hA,Nat.pow_succ];have:(c.toNat % 128)*128 ^ k≤127*128 ^ k:=Nat.mul_le_mul_right _ (by omega);omega
    have hbd2:acc2<34359738368:=Nat.lt_of_lt_of_le hbd (Nat.pow_le_pow_right (by omega) (by omega:k+1≤5));have h5k:5-k=(4-k)+1:=by omega
    have h6:=zU HX;rw [hdrop,h5k,takeF,←hA] at h6;have HA:=zH hA;have HD:=zH hdrop;have HK:=zH h5k;have HX6:=zH h6;clear hA hdrop h5k h6 HX
    by_cases hge:128≤c.toNat
    ·go_wp2_with fail;go_round
     case rel =>
      have h6:=zU HX6;rw [if_pos hge] at h6;exact ⟨k+1,acc2,by omega,by omega,hbd,by rw [h6,show 5-(k+1)=4-k from by omega],by go_num,rfl⟩
     case measure=>simp [intOf];omega
    ·by_cases h0:0<k∧c.toNat=0
     ·obtain ⟨h01,h02⟩:=h0;go_wp2_with fail;go_ret3;have h6:=zU HX6;rw [if_neg hge,if_pos (.inl ⟨h01,h02⟩)] at h6;unfold TakeV;rw [h6];exact ⟨rfl,0,rfl⟩
     ·have hz:k<1∨(0<k∧((c.toNat:Int) == 0)=false):=by
       by_cases h1:k<1
       ·exact .inl h1
       ·exact .inr ⟨by omega,beq_eq_false_iff_ne.2 (by omega)⟩
      by_cases hm:2147483647<acc2
      ·have h6:=zU HX6;rw [if_neg hge,if_pos (.inr (by unfold maxNum;exact hm))] at h6;have H6:=zH h6;clear h6 HX6
       rcases hz with hz | ⟨hz1,hz2⟩
       all_goals
        go_wp2_with fail;go_ret3;unfold TakeV;rw [zU H6];exact ⟨rfl,0,rfl⟩
      ·have h6:=zU HX6;rw [if_neg hge,if_neg (by unfold maxNum;omega)] at h6;have H6:=zH h6;clear h6 HX6
       rcases hz with hz | ⟨hz1,hz2⟩
       all_goals
        go_wp2_with fail;go_quiet (fail);go_wp2;go_ret3;unfold TakeV;rw [zU H6,←slice_end];exact ⟨rfl,_,rfl⟩
   ·have h9:¬ (k<l.length∧k<5):=hlt;have h6:=zU HX
    have h7:take l=none:=by
     rw [h6]
     by_cases h8:k<l.length
     ·rw [show 5-k=0 from by omega];rfl
     ·rw [List.drop_of_length_le (by omega)];cases 5-k <;> rfl
    have H7:=zH h7;clear h6 h7 HX;go_wp2_with fail;go_ret3;unfold TakeV;rw [zU H7];exact ⟨rfl,0,rfl⟩
end Go.Proofs.YtjpgoeimclipjaaGreat
namespace Go.Proofs.YtjpgoeimclipjaaGreat
open Go.RowKit Pl
attribute [local go_sem] ext_list app_list
theorem take_ok {l:Bytes} {n:Nat} {r:Bytes} (h:take l=some (n,r)) (w:World) (hs:l.length≤9223372036854775807) :
  Calls Tryz.prog 101 #[S l] w fun e w'=>e = .returned (.tuple #[I n,S r,I 0])∧Below w.heap.size w w' :=
 (take_any l w hs).mono fun e w' ⟨he,k,hk⟩=>⟨by rw [he];unfold TakeV;rw [h],by rw [hk];exact _root_.Go.below_drewN (Below.refl _ _) _⟩
theorem take_no {l:Bytes} (h:take l=none) (w:World) (hs:l.length≤9223372036854775807) :
  Calls Tryz.prog 101 #[S l] w fun e w'=>e = .returned (.tuple #[I 0,S [],I 1])∧Below w.heap.size w w' :=
 (take_any l w hs).mono fun e w' ⟨he,k,hk⟩=>⟨by rw [he];unfold TakeV;rw [h],by rw [hk];exact _root_.Go.below_drewN (Below.refl _ _) _⟩
theorem put_ok (n:Nat) (w:World) (h:n≤2147483647) :
  Calls Tryz.prog 92 #[I n] w fun e w'=>e = .returned (.tuple #[S (nb n),I 0])∧Below w.heap.size w w' :=
 (put_good (n:Int) w (by omega) (by omega)).mono fun e w' ⟨he,hk⟩=>⟨by rw [he,Int.toNat_natCast],hk⟩
theorem take_len {l:Bytes} {n:Nat} {r:Bytes} (h:take l=some (n,r)):r.length≤l.length∧n≤2147483647:=by
 obtain ⟨h1,h2⟩:=take_some h;rw [h1,List.length_append];unfold maxNum at h2;omega
end Go.Proofs.YtjpgoeimclipjaaGreat
namespace Go.Proofs.YtjpgoeimclipjaaGreat
open Go.RowKit Pl
attribute [local go_sem] ext_list app_list
theorem sumF_snoc:∀ (xs:Bytes) (i:Nat) (c:UInt8),sumF i (xs++[c])=sumF i xs+(i+xs.length+1)*c.toNat
 | [],i,c=>by simp [sumF]
 | x::xs,i,c=>by
  rw [List.cons_append,sumF,sumF,sumF_snoc xs (i+1) c,List.length_cons];have:i+1+xs.length+1=i+(xs.length+1)+1:=by omega
  rw [this];omega
theorem sum_step {l:Bytes} {k:Nat} {c:UInt8} {s:Nat} (hk:k<l.length) (hc:(⟨l.toArray⟩:ByteArray)[k]'hk=c) (hs:s=sumOf (l.take k)) :
  sumOf (l.take (k+1))=(s+(k+1)*c.toNat) % 65536:=by
 have h:l.take (k+1)=l.take k++[c]:=by
  rw [List.take_succ_eq_append_getElem hk];congr 2
 have hl:(l.take k).length=k:=by simp;omega
 rw [h,hs];unfold sumOf;rw [sumF_snoc,hl,Nat.zero_add,Nat.mod_add_mod]
theorem sum_u16 (s k c:Nat):IntKind.u16.wrap ((s:Int)+IntKind.u16.wrap (IntKind.u16.wrap ((k:Int)+1)*(c:Int)))=(((s+(k+1)*c) % 65536:Nat):Int):=by
 simp only [IntKind.wrap_u16]
 have e:((((s+(k+1)*c) % 65536:Nat)):Int)=((s:Int)+((k:Int)+1)*(c:Int)) % 65536:=by
  rw [Int.natCast_emod,Int.natCast_add,Int.natCast_mul,Int.natCast_add];rfl
 rw [e,Int.add_emod_emod];rw [Int.add_emod,Int.mul_emod,Int.emod_emod,←Int.mul_emod,←Int.add_emod]
set_option maxHeartbeats 400000 in
set_option maxRecDepth 100000 in
theorem sum_any (l:Bytes) (w:World) (hs:l.length≤9223372036854775807) :
  Calls Tryz.prog 107 #[S l] w fun e w'=>e = .returned (I (sumOf l))∧w=w':=by
 go_enter Tryz.func107,Tryz.ntmps107;go_wp2_with fail
 go_loop [3,7,4] (fun n i _=>∃ (k:Nat),k≤l.length∧i = .int .i64 k∧n = .int .u16 (sumOf (l.take k):Nat))
  (fun _ i _=>l.length-(intOf i).toNat)
 case atStart=>exact ⟨0,by omega,rfl,rfl⟩
 case round =>
  obtain ⟨k,hk,rfl,rfl⟩:=hrel;obtain ⟨s,hs1⟩:∃ s,s=sumOf (l.take k):=⟨_,rfl⟩
  have hsb:s<65536:=by rw [hs1];exact Nat.mod_lt _ (by omega)
  rw [←hs1];have HS:=zH hs1;clear hs1
  by_cases hl:k<l.length
  ·obtain ⟨c,hc⟩:∃ c,(⟨l.toArray⟩:ByteArray)[k]'hl=c:=⟨_,rfl⟩
   have hcb:=c.toNat_lt;go_wp2_with fail;go_round
   case rel=>exact ⟨k+1,by omega,by go_num,by rw [sum_step hl hc (zU HS),sum_u16]⟩
   case measure=>simp [intOf];omega
  ·go_wp2_with fail;go_ret;have hk2:k=l.length:=by omega
   have h3:=zU HS;rw [hk2,List.take_length] at h3;exact ⟨by rw [←h3];rfl,rfl⟩
end Go.Proofs.YtjpgoeimclipjaaGreat
namespace Go.Proofs.YtjpgoeimclipjaaGreat
open Go.RowKit Go.Lib Pl
attribute [local go_sem] ext_list app_list
abbrev arcV (A:Option Addr) (n cap:Nat) (A2:Option Addr) (n2 cap2:Nat):Value:=.agg #[.slice A n cap,.slice A2 n2 cap2]
structure ArcIn (w:World) (A:Option Addr) (n:Nat) (A2:Option Addr) (n2:Nat) (a:Arc):Prop where
 s:StrsAt w w.heap.size A n a.ds
 f:filsAt w w.heap.size A2 n2 a.fs
theorem ArcIn.up {w w':World} {A A2:Option Addr} {n n2:Nat} {a:Arc} (h:ArcIn w A n A2 n2 a) (hb:Below w.heap.size w w'):ArcIn w' A n A2 n2 a:=⟨h.s.up hb,h.f.up hb⟩
theorem ArcIn.alloc {w:World} {A A2:Option Addr} {n n2:Nat} {a:Arc} (h:ArcIn w A n A2 n2 a) (o:Obj):ArcIn (w.alloc o) A n A2 n2 a:=h.up ((Below.refl _ _).alloc (Nat.le_refl _) _)
structure FilSz (f:Fil):Prop where
 nm:f.name.length≤140737488355328
 bl:f.block.length≤140737488355328
 d0 : -9223372036854775808≤f.dict
 d1:f.dict≤9223372036854775807
 z0 : -9223372036854775808≤f.size
 z1:f.size≤9223372036854775807
 u0 : -9223372036854775808≤f.sum
 u1:f.sum≤9223372036854775807
structure ArcSz (a:Arc):Prop where
 nd:a.ds.length≤4611686018427387904
 nf:a.fs.length≤4611686018427387904
 ds:∀ d∈a.ds,d.length≤140737488355328
 fs:∀ f∈a.fs,FilSz f
structure ABox (A:Option Addr) (n cap:Nat) (A2:Option Addr) (n2 cap2:Nat) (a:Arc) (w wr:World) (B:Nat):Prop where
 o:wr.heap[B]? = some (.cells #[.slice A n cap,.slice A2 n2 cap2] 33 (0,0))
 i:ArcIn wr A n A2 n2 a
 bel:Below B w wr
theorem ABox.lt {A A2:Option Addr} {n cap n2 cap2:Nat} {a:Arc} {w wr:World} {B:Nat} (h:ABox A n cap A2 n2 cap2 a w wr B):B<wr.heap.size:=(Array.getElem?_eq_some_iff.1 h.o).1
theorem ABox.below {A A2:Option Addr} {n cap n2 cap2:Nat} {a:Arc} {w wr w1:World} {B:Nat} (h:ABox A n cap A2 n2 cap2 a w wr B) (hb:Below wr.heap.size wr w1):ABox A n cap A2 n2 cap2 a w w1 B :=
 ⟨(hb.block _ h.lt).trans h.o,h.i.up hb,h.bel.trans (hb.mono (Nat.le_of_lt h.lt))⟩
theorem ABox.c {A A2:Option Addr} {n cap n2 cap2:Nat} {a:Arc} {w wr:World} {B:Nat} (h:ABox A n cap A2 n2 cap2 a w wr B):wr.cell? ⟨B,0,none⟩=some (.slice A n cap)∧wr.cell? ⟨B,1,none⟩=some (.slice A2 n2 cap2):=by
 refine ⟨?_,?_⟩ <;> (rw [cell_of_row _ _ _ _ _ _ h.o];rfl)
theorem ABox.new {A A2:Option Addr} {n n2:Nat} {a:Arc} {w:World} (h:ArcIn w A n A2 n2 a) (cap cap2:Nat):ABox A n cap A2 n2 cap2 a w (w.alloc (.cells #[.slice A n cap,.slice A2 n2 cap2] 33)) w.heap.size :=
 ⟨heap_alloc_new _ _,h.alloc _,(Below.refl _ _).alloc (Nat.le_refl _) _⟩
theorem dictO_zero (ds:List Bytes):dictO ds 0=some []:=by unfold dictO;rw [if_pos rfl]
theorem dictO_bad {ds:List Bytes} {k:Int} (h:k<0∨(ds.length:Int)<k):dictO ds k=none:=by
 unfold dictO;rw [if_neg (by omega),if_pos (by omega)]
theorem dictO_at {ds:List Bytes} {j:Nat} {t:Bytes} (h:ds[j]? = some t):dictO ds ((j:Int)+1)=some t:=by
 have hl:=(List.getElem?_eq_some_iff.1 h).1;unfold dictO;rw [if_neg (by omega),if_neg (by omega),List.getD_eq_getElem?_getD,show ((j:Int)+1).toNat-1=j from by omega,h];rfl
attribute [local go_sem] World.cell?_alloc_some in
set_option maxHeartbeats 1000000 in
set_option maxRecDepth 100000 in
theorem dict_any (A:Option Addr) (n cap:Nat) (A2:Option Addr) (n2 cap2:Nat) (a:Arc) (k:Int) (w:World) (h:ArcIn w A n A2 n2 a) (_hn:n≤4611686018427387904) (h0 : -9223372036854775808≤k) (h1:k≤9223372036854775807) :
  Calls Tryz.prog 70 #[arcV A n cap A2 n2 cap2,I k] w fun e w'=>e = .returned (.tuple #[S ((dictO a.ds k).getD []),.bool (dictO a.ds k).isSome])∧Below w.heap.size w w':=by
 have hl:=h.s.1;have HB:=zH (fun (o:Obj)=>(Below.refl w.heap.size w).alloc (Nat.le_refl _) o)
 by_cases k0:k=0
 ·subst k0;rw [dictO_zero];clear h;go_enter Tryz.func70,Tryz.ntmps70;go_wp2_with fail;go_ret2;exact ⟨rfl,zU HB _⟩
 ·have z0:(k == 0)=false:=by rw [beq_eq_false_iff_ne];exact k0
  by_cases kb:k<0∨(n:Int)<k
  ·rw [dictO_bad (by rw [hl];exact kb)];have hc:(k<1)∨(¬ k<1∧(n:Int)<k):=by omega
   clear h kb k0
   rcases hc with d1 | ⟨d1,d2⟩
   ·go_enter Tryz.func70,Tryz.ntmps70;go_wp2_with fail;go_ret2;exact ⟨rfl,zU HB _⟩
   ·go_enter Tryz.func70,Tryz.ntmps70;go_wp2_with fail;go_ret2;exact ⟨rfl,zU HB _⟩
  ·obtain ⟨j,rfl⟩:∃ j:Nat,k=(j:Int)+1:=⟨k.toNat-1,by omega⟩
   obtain ⟨b,off,t,rfl,hb,ht,hc⟩:=h.s.at_ (k:=j) (by omega);rw [dictO_at ht];have w1:IntKind.i64.wrap ((j:Int)+1-1)=(j:Int):=by rw [show (j:Int)+1-1=(j:Int) from by omega];exact IntWalk.i64_in _ ⟨by omega,by omega⟩
   have w2:wrap64 ((j:Int)+1-1)=(j:Int):=by rw [show (j:Int)+1-1=(j:Int) from by omega];exact IntWalk.wrap64_in _ ⟨by omega,by omega⟩
   have w3:IntKind.i64.wrap (j:Int)=(j:Int):=IntWalk.i64_in _ ⟨by omega,by omega⟩;have d1:¬ (j:Int)+1<1:=by omega
   have d2:¬ (n:Int)<(j:Int)+1:=by omega
   have d3:(j:Int)<(n:Int):=by omega
   clear h kb ht;go_enter Tryz.func70,Tryz.ntmps70;go_wp2_with fail;go_ret2;exact ⟨rfl,zU HB _⟩
end Go.Proofs.YtjpgoeimclipjaaGreat
namespace Go.Proofs.YtjpgoeimclipjaaGreat
open Go.RowKit Go.Lib
theorem results_row_tmp {P:Program} {fn:Func} {p u:Tmp} {ty:TypeId} (h:fn.results=#[.cell p ty,.tmp u]) (tmps:Array Value) (w:World) (g:Nat) (t:TypeId) (cs:Array Value) (fr:Nat×Nat) (d:TypeDesc)
  (hp:tmps.getD p undef = .pointer (some ⟨g,0,none⟩)) (hg:w.heap[g]? = some (.cells cs t fr))
  (hu:P.underlying ty=some d) (hd:(match d with | .struct _ | .array _ _=>true | _=>false)=true) (hi:(P.info? ty).map (·.size)=some cs.size) :
  (results fn tmps).run P w = .ok (.tuple #[.agg cs,tmps.getD u undef]) w:=by
 rw [results_cell_tmp h tmps P w,hp];simp [asAddr,run_loadVar_row w g t ty cs fr d hg hu hd hi,Result.andThen]
end Go.Proofs.YtjpgoeimclipjaaGreat
namespace Go.Proofs.YtjpgoeimclipjaaGreat
open Go.RowKit Go.Lib Pl
attribute [local go_sem] ext_list app_list
set_option maxHeartbeats 1000000 in
set_option maxRecDepth 100000 in
theorem cloneFil_any (A:Option Addr) (n cap:Nat) (l:List Fil) (w:World) (hl:filsAt w w.heap.size A n l) (hn:n≤1000000) :
  Calls Tryz.prog 89 #[.slice A n cap] w fun e w'=>∃ v,e = .returned v∧w'.ownsRow w.heap.size 61 5 v n (filsCells l)∧Below w.heap.size w w':=by
 have qn:∀ (w:World) (a:Option Addr) (n c n' c':Nat),(binOp .eql 31 (.slice a n c) (.slice none n' c')).run Tryz.prog w = .ok (.bool a.isNone) w:=fun w a n c n' c'=>Lib.run_eql_slice_nil w _ _ a n c n' c' Tryz.underlying31;cases A with
 | none =>
  have h0:n=0:=by
   rcases Nat.eq_zero_or_pos n with h | h
   ·exact h
   ·obtain ⟨b,off,e,_⟩:=hl.2 h;cases e
  subst h0;have hl0:l=[]:=List.eq_nil_of_length_eq_zero hl.1;subst hl0;clear hl;go_enter Tryz.func89,Tryz.ntmps89;go_wp2_with fail;go_ret;exact ⟨_,rfl,World.ownsRow_nil _ _ _ _,Below.refl _ _⟩
 | some ad =>
  obtain ⟨i0,hi,hz0,hz1,hz2⟩:=info_parts info_fil
  have hnews:∀ j u,(filsCells l)[j]? = some u→w.cell? (ad.add j)=some u:=by
   intro j u hj;have hlen:=filsCells_len l;have hj2:=(List.getElem?_eq_some_iff.1 hj).1;obtain ⟨b,off,e,hb,hc⟩:=hl.2 (by have:=hl.1;omega);cases e;have e:(⟨b,off,none⟩:Addr).add j=⟨b,off+j,none⟩:=by unfold Addr.add;split <;> simp_all
   rw [e];obtain ⟨q,r,hq,hr⟩:∃ q r,j=q*5+r∧r<5:=⟨j / 5,j % 5,by omega,by omega⟩
   have hql:q<l.length:=by omega
   obtain ⟨c0,c1,c2,c3,c4⟩:=hc q _ (List.getElem?_eq_getElem hql);obtain ⟨d0,d1,d2,d3,d4⟩:=filsCells_get l q _ (List.getElem?_eq_getElem hql)
   rcases (show r=0∨r=1∨r=2∨r=3∨r=4 by omega) with h | h | h | h | h
   all_goals
    subst h;rw [hq] at hj ⊢
   ·rw [Nat.add_zero] at hj ⊢;rw [c0,←hj,d0]
   ·rw [←Nat.add_assoc,c1,←hj,d1]
   ·rw [←Nat.add_assoc,c2,←hj,d2]
   ·rw [←Nat.add_assoc,c3,←hj,d3]
   ·rw [←Nat.add_assoc,c4,←hj,d4]
  have hone:∀ y∈filsCells l,y.oneCell'=true:=by
   intro y hy;obtain ⟨t,_,ht⟩:=List.mem_flatMap.1 hy;exact fil_one t y ht
  have hlen:(filsCells l).length=n*5:=by rw [filsCells_len,hl.1]
  have hlt:∀ j,j<(filsCells l).length→ad.block<w.heap.size:=fun j hj=>by
   obtain ⟨b,off,e,hb,_⟩:=hl.2 (by have:=hl.1;rw [filsCells_len] at hj;omega);cases e;exact hb
  have HN:=zH hnews;have HO:=zH hone;have HL:=zH hlen;have HLT:=zH hlt;obtain ⟨cs,hcs⟩:∃ cs,cs=filsCells l:=⟨_,rfl⟩
  rw [←hcs] at HN HO HL HLT ⊢;clear hl hnews hone hlen hlt hcs;go_enter Tryz.func89,Tryz.ntmps89;go_wp2_with (at_builtin;refine wpList_append_own _ rfl _ _ 31 rfl w.heap.size 61 i0 _ 5 56 Tryz.underlying31 hi hz0 hz1 hz2 rfl (by decide) _ _ _ rfl (World.ownsRow_made w #[] 0 (Nat.le_refl _) (Nat.zero_le _) (by simp)) ad n cap cs rfl ?qc1 ?qc2 ?qc3 ?qc4 ?qc5 ?qc6 ?_)
  case qc1=>exact zU HL
  case qc2 =>
   intro j u hj;have e:=zU HN j u hj;have hb:=zU HLT j (List.getElem?_eq_some_iff.1 hj).1;exact (Below.cell ((Below.refl w.heap.size w).alloc (Nat.le_refl _) _) (p:=ad.add j) (by rw [show (ad.add j).block=ad.block from by unfold Addr.add;split <;> rfl];exact hb)).trans e
  case qc3=>exact zU HO
  case qc4=>unfold maxLen;omega
  case qc5=>omega
  case qc6=>simp
  intro v' w1 hown hgrow hnil;have HOWN:=zH hown;have HG:=zH hgrow;clear hown hgrow;go_wp2_with fail;go_ret;refine ⟨v',rfl,by simpa using zU HOWN,?_⟩;exact ((Below.refl _ w).alloc (Nat.le_refl _) _).grown (zU HG) (by simp) (by intro k hk;simp [Value.ownBlock] at hk;omega)
end Go.Proofs.YtjpgoeimclipjaaGreat
namespace Go.Proofs.YtjpgoeimclipjaaGreat
namespace Pl
abbrev Asc (fs:List Fil):Prop:=fs.Pairwise fun f g=>lessB f.name g.name=true
def posF (name:Bytes):List Fil→Nat
 | []=>0
 | g::r=>if lessB g.name name=true then posF name r+1 else 0
def thereB (name:Bytes):List Fil→Bool
 | []=>false
 | g::r=>if lessB g.name name=true then thereB name r else decide (g.name=name)
theorem posF_le (name:Bytes):∀ fs:List Fil,posF name fs≤fs.length
 | []=>Nat.le_refl _
 | g::r=>by
  rw [posF]
  split
  ·have:=posF_le name r;simp;omega
  ·simp
theorem posF_eq {name:Bytes} : ∀ {fs:List Fil} {i:Nat},i≤fs.length→(∀ j f,j<i→fs[j]? = some f→lessB f.name name=true)→(∀ f,fs[i]? = some f→lessB f.name name=false)→posF name fs=i
 | [],i,h,_,_=>by simp at h;subst h;rfl
 | g::r,0,_,_,h2=>by
  rw [posF,if_neg (by rw [h2 g rfl];simp)]
 | g::r,i+1,h,h1,h2=>by
  rw [posF,if_pos (h1 0 g (by omega) rfl),posF_eq (fs:=r) (i:=i) (by simpa using h) (fun j f hj hf=>h1 (j+1) f (by omega) (by simpa using hf)) (fun f hf=>h2 f (by simpa using hf))]
theorem there_pos (name:Bytes):∀ fs:List Fil,thereB name fs=match fs[posF name fs]? with | some f=>decide (f.name=name) | none=>false
 | []=>rfl
 | g::r=>by
  rw [posF,thereB]
  split
  ·rw [there_pos name r];simp
  ·simp
theorem there_at {name:Bytes} {fs:List Fil} (h:thereB name fs=true):∃ f,fs[posF name fs]? = some f∧f.name=name:=by
 rw [there_pos] at h;cases hf:fs[posF name fs]? with
 | none=>rw [hf] at h;cases h
 | some f=>rw [hf] at h;exact ⟨f,rfl,by simpa using h⟩
theorem there_lt {name:Bytes} {fs:List Fil} (h:thereB name fs=true):posF name fs<fs.length:=by
 obtain ⟨f,hf,_⟩:=there_at h;exact (List.getElem?_eq_some_iff.1 hf).1
theorem insF_there {f:Fil} : ∀ {fs:List Fil},thereB f.name fs=true→insF f fs=fs.set (posF f.name fs) f
 | [],h=>by cases h
 | g::r,h=>by
  rw [thereB] at h;rw [insF,posF]
  split at h
  ·rename_i h1
   rw [if_pos h1,if_pos h1,insF_there h];rfl
  ·rename_i h1
   rw [if_neg h1,if_neg h1,if_pos (by simpa using h)];rfl
theorem insF_new {f:Fil} : ∀ {fs:List Fil},thereB f.name fs=false→insF f fs=fs.take (posF f.name fs)++f::fs.drop (posF f.name fs)
 | [],_=>rfl
 | g::r,h=>by
  rw [thereB] at h;rw [insF,posF]
  split at h
  ·rename_i h1
   rw [if_pos h1,if_pos h1,insF_new h];simp
  ·rename_i h1
   rw [if_neg h1,if_neg h1,if_neg (by simpa using h)];rfl
theorem insF_len {f:Fil} {fs:List Fil} : (insF f fs).length=if thereB f.name fs=true then fs.length else fs.length+1:=by
 have:=posF_le f.name fs
 split
 ·rename_i h;rw [insF_there h];simp
 ·rename_i h;rw [insF_new (by simpa using h)];simp;omega
end Pl
end Go.Proofs.YtjpgoeimclipjaaGreat
namespace Go.Proofs.YtjpgoeimclipjaaGreat
open Go.RowKit Go.Lib Pl
theorem filsCells_take {l:List Fil} {i:Nat} (h:i≤l.length):(filsCells l).take (i*5)=filsCells (l.take i):=by
 have e:filsCells l=filsCells (l.take i)++filsCells (l.drop i):=by rw [←filsCells_app,List.take_append_drop]
 rw [e,List.take_left' (by rw [filsCells_len,List.length_take];omega)]
theorem filsCells_drop {l:List Fil} {i:Nat} (h:i≤l.length):(filsCells l).drop (i*5)=filsCells (l.drop i):=by
 have e:filsCells l=filsCells (l.take i)++filsCells (l.drop i):=by rw [←filsCells_app,List.take_append_drop]
 rw [e,List.drop_left' (by rw [filsCells_len,List.length_take];omega)]
theorem filsCells_one (l:List Fil):∀ y∈filsCells l,y.oneCell'=true:=by
 intro y hy;obtain ⟨t,_,ht⟩:=List.mem_flatMap.1 hy;exact fil_one t y ht
theorem filCells_len (f:Fil):(filCells f).length=5:=rfl
theorem filsCells_cons (f:Fil) (l:List Fil):filsCells (f::l)=filCells f++filsCells l:=by simp [filsCells]
theorem filsCells_set {l:List Fil} {i:Nat} {f:Fil} (h:i<l.length):filsCells (l.set i f)=filsCells (l.take i)++(filCells f++filsCells (l.drop (i+1))):=by
 rw [List.set_eq_take_append_cons_drop,if_pos h,filsCells_app,filsCells_cons]
theorem ownsFil_row {w:World} {base n g cap:Nat} {l:List Fil} (h:w.ownsRow base 61 5 (.slice (some ⟨g,0,none⟩) n cap) n (filsCells l)) :
  ∃ cur,base≤g∧w.heap[g]? = some (.cells cur 61 (0,0))∧n≤cap∧cap≤maxLen∧cur.size=cap*5∧cur.toList.take (n*5)=filsCells l:=by
 rcases h.2 with ⟨hv,_⟩ | ⟨g',cap',cur,hv,hb,hg,hn,hc,hs,ht⟩
 ·cases hv
 ·injection hv with ha _ hcap
  injection ha with ha
  injection ha with ha
  subst ha;subst hcap;exact ⟨cur,hb,hg,hn,hc,hs,ht⟩
theorem ownsFil_len {w:World} {base n:Nat} {v:Value} {l:List Fil} (h:w.ownsRow base 61 5 v n (filsCells l)):l.length=n:=by
 have:=h.1;rw [filsCells_len] at this;omega
theorem ownsFil_form {w:World} {base n:Nat} {v:Value} {l:List Fil} (h:w.ownsRow base 61 5 v n (filsCells l)):(v = .slice none 0 0∧n=0∧l=[])∨∃ g cap,v = .slice (some ⟨g,0,none⟩) n cap:=by
 have hl:=ownsFil_len h
 rcases h.2 with ⟨hv,h0⟩ | ⟨g',cap',cur,hv,_⟩
 ·exact .inl ⟨hv,h0,List.eq_nil_of_length_eq_zero (by omega)⟩
 ·exact .inr ⟨_,_,hv⟩
theorem ownsFil_mk {w:World} {base n g cap:Nat} {l:List Fil} {cur:Array Value} (hb:base≤g) (hg:w.heap[g]? = some (.cells cur 61 (0,0))) (hn:n≤cap) (hc:cap≤maxLen) (hs:cur.size=cap*5) (hl:l.length=n) (ht:cur.toList.take (n*5)=filsCells l) :
  w.ownsRow base 61 5 (.slice (some ⟨g,0,none⟩) n cap) n (filsCells l) :=
 ⟨by rw [filsCells_len,hl],.inr ⟨g,cap,cur,rfl,hb,hg,hn,hc,hs,ht⟩⟩
theorem run_copyF {w:World} (dT sT ty:TypeId) (hT:Tryz.prog.underlying dT=some (.slice 61)) (g o dLen dCap:Nat) (a:Addr) (sLen sCap:Nat) (cs:List Value) (cur:Array Value) (hn:cs.length=Nat.min sLen dLen*5)
  (hsrc:∀ j v,cs[j]? = some v→w.cell? (a.add j)=some v) (hg:w.heap[g]? = some (.cells cur 61 (0,0))) (hfit:o+cs.length≤cur.size) (h1:∀ v∈cs,v.oneCell'=true) :
  (Builtin.copy_ #[dT,sT] ty #[.slice (some ⟨g,o,none⟩) dLen dCap,.slice (some a) sLen sCap]).run Tryz.prog w = .ok (goInt (Nat.min sLen dLen)) (w.setRow g (cur.toList.take o++cs++cur.toList.drop (o+cs.length)).toArray):=by
 obtain ⟨i0,hi,hz0,hz1,hz2⟩:=info_parts info_fil;have hf:=run_firstCells_some (P:=Tryz.prog) w 5 (Nat.min sLen dLen) a sLen sCap cs hn hsrc;have hst:=run_storeCells_at Tryz.prog g o 61 cs 0 cur w hg (by simpa using hfit) h1;simp only [Nat.add_zero] at hst;simp [Builtin.copy_,run_underlying hT,Builtin.lenOf,sizeOf,typeInfo,hi,hz1,hf,hst]
theorem wpList_copy_runF (w:World) {ops:Array Oper} {rest:List Oper} {o:Oper} {a:Act} {Q:Exit→Act→World→Prop} (hgd:o.guard=none) (d s:Operand) (t t':TypeId)
  (ho:o.op = .call { callee:=.builtin .copy,args:=#[d,s],argTypes:=#[t,t'] }) (v u:Value) (hd:a.eval d=v) (hs:a.eval s=u) {v':Value} {w':World}
  (hr:(Builtin.copy_ #[t,t'] o.type #[v,u]).run Tryz.prog w = .ok v' w') (h:wpList Tryz.prog ops Q rest (a.put o.dst v') w'):wpList Tryz.prog ops Q (o::rest) a w :=
 wpList_plain hgd fun _ hK=>by
  unfold Oper.wp execOp;simp only [ho,resolve,invoke,builtin,Sem.run_bind,Sem.run_pure,Result.andThen_ok,List.map_toArray,List.map_cons,List.map_nil,hd,hs,hr];exact hK _ _ h
theorem step_copy_runF {ops:Array Oper} {o:Oper} {a:Act} {w:World} {K:Act→World→Prop} {Q:Exit→Act→World→Prop} {E:Prop}
  (hg:o.guard=none) (d x:Operand) (dT sT:TypeId) (hop:o.op=Op.call { callee:=Callee.builtin Builtin.copy,args:=#[d,x],argTypes:=#[dT,sT] })
  (v u:Value) (hd:a.eval d=v) (hx:a.eval x=u) {v':Value} {w':World} (hr:(Builtin.copy_ #[dT,sT] o.type #[v,u]).run Tryz.prog w = .ok v' w') (hK:K (a.put o.dst v') w') :
  if Region.wanted o (yielded ops a.tmps)=true then Oper.wp Tryz.prog o a w K Q else E:=by
 have hw:Region.wanted o (yielded ops a.tmps)=true:=by simp [Region.wanted,hg]
 rw [if_pos hw];unfold Oper.wp;simp [execOp,hop,resolve,invoke,builtin,hd,hx,hr,Result.andThen];exact hK
end Go.Proofs.YtjpgoeimclipjaaGreat
namespace Go.Proofs.YtjpgoeimclipjaaGreat
open Go.RowKit Go.Lib Pl
attribute [local go_sem] ext_list app_list
structure VarF (w:World) (H:Nat) (f:Fil):Prop where
 h:w.heap[H]? = some (.cells #[S f.name,I f.dict,I f.size,I f.sum,S f.block] 61 (0,0))
theorem VarF.cells {w:World} {H:Nat} {f:Fil} (h:VarF w H f):∀ j u,(filCells f)[j]? = some u→w.cell? ((⟨H,0,none⟩:Addr).add j)=some u:=by
 intro j u hj;rw [Addr.add_lit,cell_of_row w H _ _ _ _ h.h];simpa [filCells] using hj
set_option maxHeartbeats 2000000 in
set_option maxRecDepth 100000 in
theorem insertFil_end (v:Value) (n:Nat) (l:List Fil) (base:Nat) (f:Fil) (H:Nat) (w:World) (hown:w.ownsRow base 61 5 v n (filsCells l)) (hn:n≤1000) (hv:VarF w H f) (hbase:base≤w.heap.size) :
  Calls Tryz.prog 75 #[v,I n,.slice (some ⟨H,0,none⟩) 1 1] w fun e w'=>∃ v',e = .returned v'∧w'.ownsRow base 61 5 v' (n+1) (filsCells (l++[f]))∧w.grownBy w' v.ownBlock:=by
 obtain ⟨i0,hi,hz0,hz1,hz2⟩:=info_parts info_fil;have HC:=zH hv.cells;have HOWN:=zH hown
 rcases ownsFil_form hown with ⟨rfl,rfl,rfl⟩ | ⟨g,cap,rfl⟩
 ·clear hown hv;go_enter Tryz.func75,Tryz.ntmps75;go_wp2_with (at_builtin;refine wpList_append_own _ rfl _ _ 31 rfl base 61 i0 _ 5 56 Tryz.underlying31 hi hz0 hz1 hz2 rfl (by decide) _ _ _ rfl (zU HOWN) ⟨H,0,none⟩ 1 1 (filCells f) rfl rfl (zU HC) (fil_one f) (by unfold maxLen;omega) (by omega) hbase ?_;intro v' w' hown' hg' _;have HOWN2:=zH hown';have HG:=zH hg';clear hown' hg');go_ret;exact ⟨_,rfl,zU HOWN2,zU HG⟩
 ·obtain ⟨cur,hb,hg,hnc,hcm,hsz,ht⟩:=ownsFil_row hown;have d1:n≤cap:=hnc;have d2:cap≤9223372036854775807:=by unfold maxLen at hcm;exact hcm
  clear hown hv ht hsz hg hb hcm
  by_cases hcn:cap=n
  ·subst hcn;go_enter Tryz.func75,Tryz.ntmps75;go_wp2_with (at_builtin;refine wpList_append_own _ rfl _ _ 31 rfl base 61 i0 _ 5 56 Tryz.underlying31 hi hz0 hz1 hz2 rfl (by decide) _ _ _ rfl (zU HOWN) ⟨H,0,none⟩ 1 1 (filCells f) rfl rfl (zU HC) (fil_one f) (by unfold maxLen;omega) (by omega) hbase ?_;intro v' w' hown' hg' _;have HOWN2:=zH hown';have HG:=zH hg';clear hown' hg');go_ret;exact ⟨_,rfl,by rw [filsCells_snoc];exact zU HOWN2,zU HG⟩
  ·go_enter Tryz.func75,Tryz.ntmps75;go_wp2_with (at_builtin;refine wpList_append_own _ rfl _ _ 31 rfl base 61 i0 _ 5 56 Tryz.underlying31 hi hz0 hz1 hz2 rfl (by decide) _ _ _ rfl (zU HOWN) ⟨H,0,none⟩ 1 1 (filCells f) rfl rfl (zU HC) (fil_one f) (by unfold maxLen;omega) (by omega) hbase ?_;intro v' w' hown' hg' _;have HOWN2:=zH hown';have HG:=zH hg';clear hown' hg');go_ret;exact ⟨_,rfl,by rw [filsCells_snoc];exact zU HOWN2,zU HG⟩
theorem setRow_cells {w:World} {g:Nat} {c:Array Value} {p:Addr} (h:p.block≠g):(w.setRow g c).cell? p=w.cell? p:=by
 unfold World.cell?;rw [setRow_other w g p.block c h]
theorem grown_setRow {w w1:World} {g:Nat} {c:Array Value} (h:w.grownBy w1 (some g)):w.grownBy (w1.setRow g c) (some g) :=
 ⟨h.os,h.tape,h.output,by simpa [World.setRow] using h.size,fun k hk hne=>by rw [setRow_other w1 g k _ (fun e=>hne (by rw [e]))];exact h.block k hk hne⟩
set_option maxHeartbeats 4000000 in
set_option maxRecDepth 100000 in
theorem insertFil_room (g cap n i:Nat) (l:List Fil) (base:Nat) (f:Fil) (H:Nat) (w:World) (hown:w.ownsRow base 61 5 (.slice (some ⟨g,0,none⟩) n cap) n (filsCells l)) (hn:n≤1000) (hv:VarF w H f) (hne:H≠g) (hi:i<n) (hroom:n<cap) :
  Calls Tryz.prog 75 #[.slice (some ⟨g,0,none⟩) n cap,I i,.slice (some ⟨H,0,none⟩) 1 1] w fun e w'=>∃ v',e = .returned v'∧w'.ownsRow base 61 5 v' (n+1) (filsCells (l.take i++f::l.drop i))∧w.grownBy w' (some g):=by
 obtain ⟨cur,hb,hg,hnc,hcm,hsz,ht⟩:=ownsFil_row hown;have hl:=ownsFil_len hown;obtain ⟨i0,hi0,hz0,hz1,hz2⟩:=info_parts info_fil;have hc63:cap≤9223372036854775807:=by unfold maxLen at hcm;exact hcm
 have hov:∀ lb cb,(callFunc 111 #[.slice (some ⟨H,0,none⟩) 1 1,.slice (some ⟨g,(i+1)*5,none⟩) lb cb]).run Tryz.prog w = .ok (.value (.bool false)) w:=fun lb cb=>by
  have hsz5:∀ w,(Go.sizeOf 61).run Tryz.prog w = .ok 5 w:=fun w=>by simp [Go.sizeOf,typeInfo,hi0,hz1]
  rw [run_callFunc_extern Tryz.func111 (by kernel_rfl) (by kernel_rfl) (by kernel_rfl) (e:=Extern.SlicesOverlaps.overlaps #[31,31] #[4]) (by kernel_rfl),
   Lib.run_overlaps_apart w 31 4 61 Tryz.underlying31 5 hsz5 ⟨H,0,none⟩ ⟨g,(i+1)*5,none⟩ 1 1 lb cb hne 61 61 5 cur.size (by simp [World.shape?,hv.h]) (by simp [World.shape?,hg]) (by omega) (by simp [World.frozen?,hv.h]) (by simp [World.frozen?,hv.h])]
  rfl
 -- what is moved to the right
 obtain ⟨mv,hmv⟩:∃ mv,mv=filsCells (l.drop i):=⟨_,rfl⟩
 have hmvl:mv.length=(n-i)*5:=by rw [hmv,filsCells_len,List.length_drop,hl]
 have hget:∀ j u,mv[j]? = some u→w.cell? ⟨g,i*5+j,none⟩=some u:=by
  intro j u hj;rw [cell_of_row w g _ cur _ _ hg];rw [hmv,←filsCells_drop (by omega),List.getElem?_drop,←ht,List.getElem?_take] at hj
  split at hj
  ·simpa using hj
  ·cases hj
 obtain ⟨c1,hc1⟩:∃ c1,c1=(cur.toList.take ((i+1)*5)++mv++cur.toList.drop ((i+1)*5+mv.length)).toArray:=⟨_,rfl⟩
 have hcp1:∀ (W:World) (ty:TypeId) (dc sc:Nat),W.heap=w.heap→(Builtin.copy_ #[31,31] ty #[.slice (some ⟨g,(i+1)*5,none⟩) (n+1-(i+1)) dc,.slice (some ⟨g,i*5,none⟩) (n+1-i) sc]).run Tryz.prog W = .ok (goInt ((n-i:Nat):Int)) (W.setRow g c1):=fun W ty dc sc hW=>by
  have hWg:W.heap[g]? = some (.cells cur 61 (0,0)):=by rw [hW];exact hg
  have hWc:∀ p:Addr,W.cell? p=w.cell? p:=fun p=>by unfold World.cell?;rw [hW]
  have hmin:Nat.min (n+1-i) (n+1-(i+1))=n-i:=by show min (n+1-i) (n+1-(i+1))=n-i;omega
  have:=run_copyF (w:=W) 31 31 ty Tryz.underlying31 g ((i+1)*5) (n+1-(i+1)) dc ⟨g,i*5,none⟩ (n+1-i) sc mv cur (by rw [hmin];exact hmvl) (fun j v hj=>by rw [Addr.add_lit,hWc];exact hget j v hj) hWg (by rw [hmvl];omega) (by rw [hmv];exact filsCells_one _);rw [hmin] at this;rw [this,hc1]
 have hc1z:c1.size=cap*5:=by rw [hc1];simp;omega
 obtain ⟨c2,hc2⟩:∃ c2,c2=(c1.toList.take (i*5)++filCells f++c1.toList.drop (i*5+(filCells f).length)).toArray:=⟨_,rfl⟩
 have hcp2:∀ (W:World) (ty:TypeId) (dc:Nat),W.heap[g]? = some (.cells c1 61 (0,0))→W.heap[H]? = w.heap[H]?→(Builtin.copy_ #[31,31] ty #[.slice (some ⟨g,i*5,none⟩) (n+1-i) dc,.slice (some ⟨H,0,none⟩) 1 1]).run Tryz.prog W = .ok (goInt ((1:Nat):Int)) (W.setRow g c2):=fun W ty dc hWg hWH=>by
  have hWv:VarF W H f:=⟨by rw [hWH];exact hv.h⟩
  have hmin:Nat.min 1 (n+1-i)=1:=by show min 1 (n+1-i)=1;omega
  have:=run_copyF (w:=W) 31 31 ty Tryz.underlying31 g (i*5) (n+1-i) dc ⟨H,0,none⟩ 1 1 (filCells f) c1 (by rw [hmin];rfl) hWv.cells hWg (by rw [hc1z,filCells_len];omega) (fil_one f);rw [hmin] at this;rw [this,hc2]
 have hend:∀ W:World,W.heap[g]? = some (.cells c1 61 (0,0))→(W.setRow g c2).ownsRow base 61 5 (.slice (some ⟨g,0,none⟩) (n+1) cap) (n+1) (filsCells (l.take i++f::l.drop i)):=fun W hW=>by
  refine ownsFil_mk hb (setRow_heap _ _ _ _ _ _ hW) (by omega) hcm ?_ (by simp;omega) ?_
  ·rw [hc2];simp only [List.size_toArray,List.length_append,List.length_take,List.length_drop,Array.length_toList,filCells_len];omega
  ·have e1:c1.toList.take (i*5)=filsCells (l.take i):=by
    rw [hc1,List.toList_toArray,List.append_assoc,List.take_append_of_le_length (by simp;omega),List.take_take,Nat.min_eq_left (by omega),←filsCells_take (by omega),←ht,List.take_take,Nat.min_eq_left (by omega)]
   have e2:c1.toList.drop (i*5+(filCells f).length)=mv++cur.toList.drop ((i+1)*5+mv.length):=by
    rw [hc1,List.toList_toArray,List.append_assoc,filCells_len,List.drop_append_of_le_length (by simp;omega),List.drop_of_length_le (by simp;omega),List.nil_append]
   rw [hc2,List.toList_toArray,e1,e2,filsCells_app,filsCells_cons,←hmv,List.append_assoc,←List.append_assoc (filCells f),←List.append_assoc]
   have hlen:(filsCells (l.take i)++(filCells f++mv)).length=(n+1)*5:=by
    simp only [List.length_append,filsCells_len,filCells_len,hmvl,List.length_take];omega
   rw [List.take_append_of_le_length (by omega),List.take_of_length_le (by omega)]
 have HCP1:=zH hcp1;have HCP2:=zH hcp2;have HEND:=zH hend;have HOV:=zH hov;have HG:=zH (show (w.drew.setRow g c1).heap[g]? = some (.cells c1 61 (0,0)) from setRow_heap w.drew g cur c1 _ _ hg);have HH:=zH (show (w.drew.setRow g c1).heap[H]? = w.heap[H]? from setRow_other w.drew g H c1 hne);have z1:((i:Int) == (n:Int))=false:=by rw [beq_eq_false_iff_ne];omega
 have e1:IntKind.i64.wrap ((n:Int)+1)=(n:Int)+1:=IntWalk.i64_in _ ⟨by omega,by omega⟩;have e2:IntKind.i64.wrap ((i:Int)+1)=(i:Int)+1:=IntWalk.i64_in _ ⟨by omega,by omega⟩;have z2:¬ (cap:Int)<(n:Int)+1:=by omega
 have z3:(0:Int)≤(n:Int)+1:=by omega
 have z4:((n:Int)+1).toNat=n+1:=by omega
 have z5:n+1≤cap:=by omega
 have z6:(0:Int)≤(i:Int)+1:=by omega
 have z7:((i:Int)+1).toNat=i+1:=by omega
 have z8:(i:Int)+1≤(n:Int)+1:=by omega
 have z9:i+1≤n+1:=by omega
 have z10:¬ (cap=i+1):=by omega
 have z11:¬ (cap=i):=by omega
 have z12:(i:Int)≤(n:Int):=by omega
 have z13:i≤n:=by omega
 have z14:i≤n+1:=by omega
 have z15:(i:Int)≤(n:Int)+1:=by omega
 clear hcp1 hcp2 hend hc1z hc1 hc2 hget hmvl hmv ht hown hsz hg hv;have hov:=hov;go_enter Tryz.func75,Tryz.ntmps75;go_wp2_with (simp only [hov]);go_region_law (refine step_copy_runF rfl (.tmp 73) (.tmp 76) 31 31 rfl (.slice (some ⟨g,(i+1)*5,none⟩) (n+1-(i+1)) (cap-(i+1))) (.slice (some ⟨g,i*5,none⟩) (n+1-i) (cap-i)) (by simp [Act.eval,Act.put]) (by simp [Act.eval,Act.put]) (zU HCP1 w.drew _ _ _ rfl) ?_);have hcp2:=fun ty dc=>zU HCP2 (w.drew.setRow g c1) ty dc (zU HG) (zU HH);go_wp2_with (at_builtin;refine wpList_copy_runF _ rfl (.tmp 80) (.tmp 81) 31 31 rfl (.slice (some ⟨g,i*5,none⟩) (n+1-i) (cap-i)) (.slice (some ⟨H,0,none⟩) 1 1) rfl rfl (hcp2 _ _) ?_);go_ret;refine ⟨_,rfl,zU HEND _ (zU HG),grown_setRow (grown_setRow ⟨rfl,rfl,rfl,Nat.le_refl _,fun _ _ _=>rfl⟩)⟩
set_option maxHeartbeats 4000000 in
set_option maxRecDepth 100000 in
theorem insertFil_grow (g n i:Nat) (l:List Fil) (base:Nat) (f:Fil) (H:Nat) (w:World) (hown:w.ownsRow base 61 5 (.slice (some ⟨g,0,none⟩) n n) n (filsCells l)) (hn:n≤1000) (hv:VarF w H f) (hi:i<n) (hbase:base≤w.heap.size) :
  Calls Tryz.prog 75 #[.slice (some ⟨g,0,none⟩) n n,I i,.slice (some ⟨H,0,none⟩) 1 1] w fun e w'=>∃ v',e = .returned v'∧w'.ownsRow base 61 5 v' (n+1) (filsCells (l.take i++f::l.drop i))∧w.grownBy w' (some g):=by
 obtain ⟨cur,hb,hg,hnc,hcm,hsz,ht⟩:=ownsFil_row hown;have hl:=ownsFil_len hown;obtain ⟨i0,hi0,hz0,hz1,hz2⟩:=info_parts info_fil;have hgl:g<w.heap.size:=(Array.getElem?_eq_some_iff.1 hg).1;have hHl:H<w.heap.size:=(Array.getElem?_eq_some_iff.1 hv.h).1;obtain ⟨N,hN⟩:∃ N,N=w.heap.size:=⟨_,rfl⟩
 obtain ⟨G,hG⟩:∃ G,G=grownCap w (n+1) n 61:=⟨_,rfl⟩
 have hGn:n+1≤G:=by rw [hG];exact grownCap_ge w _ _ _
 have hGm:G≤maxLen:=by rw [hG];exact grownCap_le_maxLen w _ _ _ (by unfold maxLen;omega)
 have hG63:G≤9223372036854775807:=by unfold maxLen at hGm;exact hGm
 obtain ⟨ROW,hROW⟩:∃ ROW:Array Value,ROW=(filsCells (l.take i)).toArray++Builtin.zeroCells (Value.agg #[.string ByteArray.empty,.int .i64 0,.int .i64 0,.int .i64 0,.string ByteArray.empty]).cells (n+1-i)++Builtin.zeroCells (Value.agg #[.string ByteArray.empty,.int .i64 0,.int .i64 0,.int .i64 0,.string ByteArray.empty]).cells (G-(n+1)):=⟨_,rfl⟩
 have hRs:ROW.size=G*5:=by
  have hz:(Value.agg #[.string ByteArray.empty,.int .i64 0,.int .i64 0,.int .i64 0,.string ByteArray.empty]).cells.size=5:=rfl;rw [hROW,Array.size_append,Array.size_append,size_zeroCells,size_zeroCells,hz,List.size_toArray,filsCells_len,List.length_take];omega
 obtain ⟨W1,hW1⟩:∃ W1,W1=w.drew.alloc (.cells ROW 61):=⟨_,rfl⟩
 have hrz:∀ ty,(Builtin.append_ #[31,3] ty #[.slice (some ⟨g,0,none⟩) i n,.int .i64 ((n:Int)+1-(i:Int))]).run Tryz.prog w = .ok (.slice (some ⟨N,0,none⟩) (n+1) G) W1:=fun ty=>by
  have hold:(Builtin.firstCells i0.size i (.slice (some ⟨g,0,none⟩) i n)).run Tryz.prog w.drew = .ok (filsCells (l.take i)).toArray w.drew:=by
   rw [hz1];refine run_firstCells_some w.drew 5 i ⟨g,0,none⟩ i n _ (by rw [filsCells_len,List.length_take];omega) (fun j v hj=>?_);rw [Addr.add_lit];show w.cell? _=_;rw [cell_of_row w g _ cur _ _ hg];rw [←filsCells_take (by omega),←ht,List.take_take,List.getElem?_take] at hj
   split at hj
   ·simpa using hj
   ·cases hj
  have h:=Lib.run_append_grow_zeros w 31 3 ty 61 i0 _ .i64 .i64 Tryz.underlying31 Tryz.underlying3 hi0 hz0 (some ⟨g,0,none⟩) i n (filsCells (l.take i)) hold (n+1-i) (by omega) (by omega) (by omega) (by omega) (by rw [hz2];omega) (by rw [hz2];exact growslice_fits (by omega) (by omega));rw [show i+(n+1-i)=n+1 from by omega] at h;rw [show (n:Int)+1-(i:Int)=((n+1-i:Nat):Int) from by omega,h,hW1,hROW,hG,hN]
 have hR1:W1.heap[N]? = some (.cells ROW 61 (0,0)):=by rw [hW1,hN];exact heap_alloc_new w.drew _
 have hO1:∀ k,k<N→W1.heap[k]? = w.heap[k]?:=fun k hk=>by rw [hW1];exact Below.heap_alloc w.drew _ k (by rw [hN] at hk;exact hk)
 obtain ⟨c1,hc1⟩:∃ c1,c1=(ROW.toList.take (i*5)++filCells f++ROW.toList.drop (i*5+(filCells f).length)).toArray:=⟨_,rfl⟩
 have hcpA:∀ (ty:TypeId) (dc:Nat),(Builtin.copy_ #[31,31] ty #[.slice (some ⟨N,i*5,none⟩) (n+1-i) dc,.slice (some ⟨H,0,none⟩) 1 1]).run Tryz.prog W1 = .ok (goInt ((1:Nat):Int)) (W1.setRow N c1):=fun ty dc=>by
  have hWv:VarF W1 H f:=⟨by rw [hO1 H (by omega)];exact hv.h⟩
  have hmin:Nat.min 1 (n+1-i)=1:=by show min 1 (n+1-i)=1;omega
  have:=run_copyF (w:=W1) 31 31 ty Tryz.underlying31 N (i*5) (n+1-i) dc ⟨H,0,none⟩ 1 1 (filCells f) ROW (by rw [hmin];rfl) hWv.cells hR1 (by rw [hRs,filCells_len];omega) (fil_one f);rw [hmin] at this;rw [this,hc1]
 have hc1z:c1.size=G*5:=by rw [hc1];simp only [List.size_toArray,List.length_append,List.length_take,List.length_drop,Array.length_toList,filCells_len];omega
 obtain ⟨mv,hmv⟩:∃ mv,mv=filsCells (l.drop i):=⟨_,rfl⟩
 have hmvl:mv.length=(n-i)*5:=by rw [hmv,filsCells_len,List.length_drop,hl]
 have hget:∀ j u,mv[j]? = some u→w.cell? ⟨g,i*5+j,none⟩=some u:=by
  intro j u hj;rw [cell_of_row w g _ cur _ _ hg];rw [hmv,←filsCells_drop (by omega),List.getElem?_drop,←ht,List.getElem?_take] at hj
  split at hj
  ·simpa using hj
  ·cases hj
 obtain ⟨c2,hc2⟩:∃ c2,c2=(c1.toList.take ((i+1)*5)++mv++c1.toList.drop ((i+1)*5+mv.length)).toArray:=⟨_,rfl⟩
 have hgN:g≠N:=by omega
 have hcpB:∀ (ty:TypeId) (dc sc:Nat),(Builtin.copy_ #[31,31] ty #[.slice (some ⟨N,(i+1)*5,none⟩) (n+1-(i+1)) dc,.slice (some ⟨g,i*5,none⟩) (n-i) sc]).run Tryz.prog (W1.setRow N c1).drew = .ok (goInt ((n-i:Nat):Int)) ((W1.setRow N c1).drew.setRow N c2):=fun ty dc sc=>by
  have hWg:(W1.setRow N c1).drew.heap[N]? = some (.cells c1 61 (0,0)):=setRow_heap _ _ _ _ _ _ hR1
  have hWc:∀ o,(W1.setRow N c1).drew.cell? ⟨g,o,none⟩=w.cell? ⟨g,o,none⟩:=fun o=>by
   show (W1.setRow N c1).cell? _=_;rw [setRow_cells (by exact hgN)];unfold World.cell?;simp only;rw [hO1 g (by omega)]
  have hmin:Nat.min (n-i) (n+1-(i+1))=n-i:=by show min (n-i) (n+1-(i+1))=n-i;omega
  have:=run_copyF (w:=(W1.setRow N c1).drew) 31 31 ty Tryz.underlying31 N ((i+1)*5) (n+1-(i+1)) dc ⟨g,i*5,none⟩ (n-i) sc mv c1 (by rw [hmin];exact hmvl) (fun j v hj=>by rw [Addr.add_lit,hWc];exact hget j v hj) hWg (by rw [hmvl,hc1z];omega) (by rw [hmv];exact filsCells_one _);rw [hmin] at this;rw [this,hc2]
 have hend:((W1.setRow N c1).drew.setRow N c2).ownsRow base 61 5 (.slice (some ⟨N,0,none⟩) (n+1) G) (n+1) (filsCells (l.take i++f::l.drop i))∧w.grownBy ((W1.setRow N c1).drew.setRow N c2) (some g):=by
  refine ⟨ownsFil_mk (by omega) (setRow_heap _ _ _ _ _ _ (show (W1.setRow N c1).drew.heap[N]? = some (.cells c1 61 (0,0)) from setRow_heap _ _ _ _ _ _ hR1)) hGn hGm ?_ (by simp;omega) ?_,?_⟩
  ·rw [hc2];simp only [List.size_toArray,List.length_append,List.length_take,List.length_drop,Array.length_toList,hmvl];omega
  ·have e0:ROW.toList.take (i*5)=filsCells (l.take i):=by
    rw [hROW,Array.toList_append,Array.toList_append,List.toList_toArray,List.append_assoc,List.take_append_of_le_length (by rw [filsCells_len,List.length_take];omega),List.take_of_length_le (by rw [filsCells_len,List.length_take];omega)]
   have e1:c1.toList.take ((i+1)*5)=filsCells (l.take i)++filCells f:=by
    rw [hc1,List.toList_toArray,e0,List.take_append_of_le_length (by simp only [List.length_append,filsCells_len,filCells_len,List.length_take];omega),List.take_of_length_le (by simp only [List.length_append,filsCells_len,filCells_len,List.length_take];omega)]
   rw [hc2,List.toList_toArray,e1,filsCells_app,filsCells_cons,←hmv,←List.append_assoc]
   have hlen:(filsCells (l.take i)++filCells f++mv).length=(n+1)*5:=by
    simp only [List.length_append,filsCells_len,filCells_len,hmvl,List.length_take];omega
   rw [List.take_append_of_le_length (by omega),List.take_of_length_le (by omega)]
  ·refine ⟨by rw [hW1];rfl,by rw [hW1];rfl,by rw [hW1];rfl,by rw [hW1];simp [World.setRow],fun k hk hne=>?_⟩;rw [setRow_other _ N k _ (by omega)];show (W1.setRow N c1).heap[k]? = _;rw [setRow_other _ N k _ (by omega)];exact hO1 k (by omega)
 have HRZ:=zH hrz;have HCPA:=zH hcpA;have HCPB:=zH hcpB;have HEND:=zH hend;have z1:((i:Int) == (n:Int))=false:=by rw [beq_eq_false_iff_ne];omega
 have e1:IntKind.i64.wrap ((n:Int)+1)=(n:Int)+1:=IntWalk.i64_in _ ⟨by omega,by omega⟩;have e2:IntKind.i64.wrap ((i:Int)+1)=(i:Int)+1:=IntWalk.i64_in _ ⟨by omega,by omega⟩;have e3:IntKind.i64.wrap ((n:Int)+1-(i:Int))=(n:Int)+1-(i:Int):=IntWalk.i64_in _ ⟨by omega,by omega⟩;have z2:(n:Int)<(n:Int)+1:=by omega
 have z6:(0:Int)≤(i:Int)+1:=by omega
 have z7:((i:Int)+1).toNat=i+1:=by omega
 have z8:(i:Int)+1≤(n:Int)+1:=by omega
 have z9:i+1≤n+1:=by omega
 have z10:¬ (G=i+1):=by omega
 have z11:¬ (G=i):=by omega
 have z12:(i:Int)≤(n:Int):=by omega
 have z13:i≤n:=by omega
 have z14:i≤n+1:=by omega
 have z15:(i:Int)≤(n:Int)+1:=by omega
 have z16:¬ (n=i):=by omega
 clear hrz hcpA hcpB hend hc1z hc1 hc2 hget hmvl hmv ht hown hsz hg hv hROW hRs hR1 hO1 hW1 hG hN;go_enter Tryz.func75,Tryz.ntmps75;have hcpa:=zU HCPA
 go_wp2_with (first
  | (at_builtin;refine Lib.wpList_append_run _ rfl _ _ _ _ rfl _ _ rfl rfl _ _ (zU HRZ _) ?_)
  | (at_builtin;refine wpList_copy_runF _ rfl (.tmp 43) (.tmp 44) 31 31 rfl (.slice (some ⟨N,i*5,none⟩) (n+1-i) (G-i)) (.slice (some ⟨H,0,none⟩) 1 1) rfl rfl (hcpa _ _) ?_))
 go_region_law (refine step_copy_runF rfl (.tmp 50) (.tmp 53) 31 31 rfl (.slice (some ⟨N,(i+1)*5,none⟩) (n+1-(i+1)) (G-(i+1))) (.slice (some ⟨g,i*5,none⟩) (n-i) (n-i)) (by simp [Act.eval,Act.put]) (by simp [Act.eval,Act.put]) (zU HCPB _ _ _) ?_);go_wp2_with fail;go_ret;exact ⟨_,rfl,(zU HEND).1,(zU HEND).2⟩
theorem insertFil_any (v:Value) (n i:Nat) (l:List Fil) (base:Nat) (f:Fil) (H:Nat) (w:World) (hown:w.ownsRow base 61 5 v n (filsCells l)) (hn:n≤1000) (hv:VarF w H f) (hne:v.ownBlock≠some H) (hi:i≤n) (hbase:base≤w.heap.size) :
  Calls Tryz.prog 75 #[v,I i,.slice (some ⟨H,0,none⟩) 1 1] w fun e w'=>∃ v',e = .returned v'∧w'.ownsRow base 61 5 v' (n+1) (filsCells (l.take i++f::l.drop i))∧w.grownBy w' v.ownBlock:=by
 have hl:=ownsFil_len hown
 by_cases he:i=n
 ·subst he;have:=insertFil_end v i l base f H w hown hn hv hbase;rw [List.take_of_length_le (by omega),List.drop_of_length_le (by omega)];exact this
 ·rcases ownsFil_form hown with ⟨rfl,rfl,rfl⟩ | ⟨g,cap,rfl⟩
  ·omega
  ·obtain ⟨cur,hb,hg,hnc,hcm,hsz,ht⟩:=ownsFil_row hown
   by_cases hroom:n<cap
   ·exact insertFil_room g cap n i l base f H w hown hn hv (fun e=>hne (by rw [e];rfl)) (by omega) hroom
   ·obtain rfl:cap=n:=by omega
    exact insertFil_grow g cap i l base f H w hown hn hv (by omega) hbase
end Go.Proofs.YtjpgoeimclipjaaGreat
namespace Go.Proofs.YtjpgoeimclipjaaGreat
open Go.RowKit Go.Lib Pl
attribute [local go_sem] ext_list app_list
def strS (t:Bytes):Value:=S t
structure OwnA (w:World) (base:Nat) (v1 v2:Value) (a:Arc):Prop where
 s:w.ownsRow base 9 1 v1 a.ds.length (a.ds.map strS)
 f:w.ownsRow base 61 5 v2 a.fs.length (filsCells a.fs)
theorem own_below {w w':World} {base e size n:Nat} {v:Value} {xs:List Value} (h:w.ownsRow base e size v n xs) (hb:Below w.heap.size w w'):w'.ownsRow base e size v n xs:=by
 refine ⟨h.1,?_⟩
 rcases h.2 with hn | ⟨g,cap,cur,rfl,hbb,hgg,rest⟩
 ·exact .inl hn
 ·exact .inr ⟨g,cap,cur,rfl,hbb,(hb.block g (Array.getElem?_eq_some_iff.1 hgg).1).trans hgg,rest⟩
theorem own_mono {w:World} {base b e size n:Nat} {v:Value} {xs:List Value} (h:w.ownsRow base e size v n xs) (hb:b≤base):w.ownsRow b e size v n xs:=by
 refine ⟨h.1,?_⟩
 rcases h.2 with hn | ⟨g,cap,cur,rfl,hbb,rest⟩
 ·exact .inl hn
 ·exact .inr ⟨g,cap,cur,rfl,Nat.le_trans hb hbb,rest⟩
theorem OwnA.below {w w':World} {base:Nat} {v1 v2:Value} {a:Arc} (h:OwnA w base v1 v2 a) (hb:Below w.heap.size w w'):OwnA w' base v1 v2 a:=⟨own_below h.s hb,own_below h.f hb⟩
theorem OwnA.nil (w:World) (base:Nat):OwnA w base (.slice none 0 0) (.slice none 0 0) arc0:=⟨World.ownsRow_nil _ _ _ _,World.ownsRow_nil _ _ _ _⟩
theorem strsAt_of_own {w:World} {base n:Nat} {v:Value} {l:List Bytes} (h:w.ownsRow base 9 1 v n (l.map strS)):∃ A cap,v = .slice A n cap∧StrsAt w w.heap.size A n l∧l.length=n:=by
 have hn:l.length=n:=by have:=h.1;simpa using this
 rcases h.2 with ⟨rfl,h0⟩ | ⟨g,cap,cur,rfl,hb,hg,_⟩
 ·subst h0;exact ⟨_,_,rfl,⟨hn,fun h=>absurd h (by omega)⟩,hn⟩
 ·refine ⟨_,_,rfl,⟨hn,fun _=>⟨g,0,rfl,(Array.getElem?_eq_some_iff.1 hg).1,fun i t hi=>?_⟩⟩,hn⟩;have:=h.cells (g:=g) rfl i (S t) (by rw [List.getElem?_map,hi];rfl)
  rwa [Addr.add_lit] at this
theorem OwnA.form {w:World} {base:Nat} {v1 v2:Value} {a:Arc} (h:OwnA w base v1 v2 a):∃ A cap A2 cap2,v1 = .slice A a.ds.length cap∧v2 = .slice A2 a.fs.length cap2∧ArcIn w A a.ds.length A2 a.fs.length a:=by
 obtain ⟨A,cap,e1,h1,_⟩:=strsAt_of_own h.s;obtain ⟨A2,cap2,e2,h2,_⟩:=filsAt_of_own h.f;exact ⟨A,cap,A2,cap2,e1,e2,⟨h1,h2⟩⟩
def ArcRes (base:Nat) (r:Arc×Nat) (e:Ending) (w':World):Prop:=∃ v1 v2,e = .returned (.tuple #[.agg #[v1,v2],I r.2])∧OwnA w' base v1 v2 r.1
theorem sizeArc:(Tryz.prog.info? 33).map (·.size)=some 2:=by kernel_rfl
theorem sizeFil:(Tryz.prog.info? 61).map (·.size)=some 5:=by kernel_rfl
theorem all_nil2:(#[Value.slice none 0 0,Value.slice none 0 0]:Array Value).all (·.oneCell')=true:=all_oneCell_toArray (cs:=[.slice none 0 0,.slice none 0 0]) (by intro v hv;simp at hv;subst hv;rfl)
theorem cloneStr_any (A:Option Addr) (n cap:Nat) (l:List Bytes) (w:World) (hl:StrsAt w w.heap.size A n l) (hn:n≤1000000) :
  Calls Tryz.prog 105 #[.slice A n cap] w fun e w'=>∃ v,e = .returned v∧w'.ownsRow w.heap.size 9 1 v n (l.map strS)∧Below w.heap.size w w':=by
 have hln:=hl.1
 rcases Nat.eq_zero_or_pos n with h0 | h0
 ·subst h0;obtain rfl:l=[]:=List.eq_nil_of_length_eq_zero hln;cases A with
  | none =>
   refine (Tryz.slices_Clone_string_nil 0 cap w).mono ?_;rintro e w' ⟨rfl,rfl⟩;exact ⟨_,rfl,World.ownsRow_nil _ _ _ _,Below.refl _ _⟩
  | some ad =>
   refine (Tryz.slices_Clone_string_zero ad cap w).mono ?_;rintro e w' ⟨v,rfl,h1,_,h2⟩;exact ⟨v,rfl,h1,h2⟩
 ·obtain ⟨b,off,rfl,hb,hc⟩:=hl.2 h0;refine (Tryz.slices_Clone_string b off n cap (l.map fun t=>⟨t.toArray⟩) w (by simp;omega) (by omega) (fun j hj=>?_)).mono ?_
  ·have hj2:j<l.length:=by simpa using hj
   rw [hc j _ (List.getElem?_eq_getElem hj2),List.getD_eq_getElem?_getD,List.getElem?_map,List.getElem?_eq_getElem hj2];rfl
  ·rintro e w' ⟨v,rfl,h1,_,h2⟩;refine ⟨v,rfl,?_,h2⟩;rw [List.take_of_length_le (by simp;omega),List.map_map] at h1;exact h1
structure AR (A:Option Addr) (n cap:Nat) (A2:Option Addr) (n2 cap2:Nat) (a:Arc) (w W:World) (B:Nat):Prop where
 ab:ABox A n cap A2 n2 cap2 a w W B
 z:W.heap[B+1]? = some (.cells #[.slice none 0 0,.slice none 0 0] 33 (0,0))
theorem AR.lt {A A2:Option Addr} {n cap n2 cap2:Nat} {a:Arc} {w W:World} {B:Nat} (h:AR A n cap A2 n2 cap2 a w W B):B+1<W.heap.size:=(Array.getElem?_eq_some_iff.1 h.z).1
theorem AR.below {A A2:Option Addr} {n cap n2 cap2:Nat} {a:Arc} {w W W1:World} {B:Nat} (h:AR A n cap A2 n2 cap2 a w W B) (hb:Below W.heap.size W W1):AR A n cap A2 n2 cap2 a w W1 B:=⟨h.ab.below hb,(hb.block _ h.lt).trans h.z⟩
theorem AR.new {A A2:Option Addr} {n n2:Nat} {a:Arc} {w:World} (h:ArcIn w A n A2 n2 a) (cap cap2:Nat):AR A n cap A2 n2 cap2 a w ((w.alloc (.cells #[.slice A n cap,.slice A2 n2 cap2] 33)).alloc (.cells #[.slice none 0 0,.slice none 0 0] 33)) w.heap.size :=
 ⟨(ABox.new h cap cap2).below ((Below.refl _ _).alloc (Nat.le_refl _) _),by have:=heap_alloc_new (w.alloc (.cells #[.slice A n cap,.slice A2 n2 cap2] 33)) (.cells #[.slice none 0 0,.slice none 0 0] 33);simpa using this⟩
theorem AR.end_ {A A2:Option Addr} {n cap n2 cap2:Nat} {a:Arc} {w W:World} {B:Nat} (h:AR A n cap A2 n2 cap2 a w W B) (c:Array Value):(W.setRow (B+1) c).heap[B+1]? = some (.cells c 33 (0,0))∧Below B w (W.setRow (B+1) c) :=
 ⟨setRow_heap _ _ _ _ _ _ h.z,below_setRow h.ab.bel (by omega) _⟩
end Go.Proofs.YtjpgoeimclipjaaGreat
namespace Go.Proofs.YtjpgoeimclipjaaGreat
open Go.RowKit Go.Lib Pl
attribute [local go_sem] ext_list app_list
theorem set_two {W:World} {p:Nat} {x y:Value} {T:TypeId} (h:W.heap[p]? = some (.cells #[x,y] T (0,0))) (u v:Value):(W.setCell ⟨p,0,none⟩ u).setCell ⟨p,1,none⟩ v=W.setRow p #[u,v]:=by
 rw [setCell_eq_setRow W p 0 #[x,y] T (0,0) u h,setCell_eq_setRow _ p 1 (#[x,y].setIfInBounds 0 u) T (0,0) v (setRow_heap _ _ _ _ _ _ h),setRow_setRow];rfl
theorem two_cells {W:World} {p:Nat} {x y:Value} {T:TypeId} (h:W.heap[p]? = some (.cells #[x,y] T (0,0))):W.cell? ⟨p,0,none⟩=some x∧W.cell? ⟨p,1,none⟩=some y∧W.frozen? ⟨p,0,none⟩=false∧W.frozen? ⟨p,1,none⟩=false:=by
 refine ⟨by rw [cell_of_row _ _ _ _ _ _ h];rfl,by rw [cell_of_row _ _ _ _ _ _ h];rfl,by simp [World.frozen?,h],by simp [World.frozen?,h]⟩
structure CopK (A:Option Addr) (n cap:Nat) (A2:Option Addr) (n2 cap2:Nat) (B N:Nat) (w0 W:World):Prop where
 a:W.cell? ⟨B,0,none⟩=some (.slice A n cap)
 b:W.cell? ⟨B,1,none⟩=some (.slice A2 n2 cap2)
 c:W.cell? ⟨B+1,0,none⟩=some (.slice none 0 0)
 d:W.cell? ⟨B+1,1,none⟩=some (.slice none 0 0)
 e:W.frozen? ⟨B+1,0,none⟩=false
 f:W.frozen? ⟨B+1,1,none⟩=false
 g:Below N w0 W
set_option maxHeartbeats 4000000 in
set_option maxRecDepth 100000 in
theorem copied_any (A:Option Addr) (n cap:Nat) (A2:Option Addr) (n2 cap2:Nat) (a:Arc) (w:World) (h:ArcIn w A n A2 n2 a) (hn:n≤1000000) (hn2:n2≤1000000) :
  Calls Tryz.prog 72 #[arcV A n cap A2 n2 cap2] w fun e w'=>∃ v1 v2,e = .returned (.agg #[v1,v2])∧OwnA w' w.heap.size v1 v2 a∧Below w.heap.size w w':=by
 obtain ⟨B,hB⟩:∃ B,B=w.heap.size:=⟨_,rfl⟩
 obtain ⟨w0,hw0⟩:∃ w0,w0=(w.alloc (.cells #[.slice A n cap,.slice A2 n2 cap2] 33)).alloc (.cells #[.slice none 0 0,.slice none 0 0] 33):=⟨_,rfl⟩
 obtain ⟨N,hN⟩:∃ N,N=w0.heap.size:=⟨_,rfl⟩
 have hBN:B≤N:=by rw [hN,hw0,hB];simp;omega
 have h0:AR A n cap A2 n2 cap2 a w w0 B:=by rw [hw0,hB];exact AR.new h cap cap2
 have kf:∀ W,Below N w0 W→AR A n cap A2 n2 cap2 a w W B:=fun W hW=>h0.below (by rw [←hN];exact hW)
 have kk:∀ W,Below N w0 W→CopK A n cap A2 n2 cap2 B N w0 W:=fun W hW=>by
  have k:=kf W hW;obtain ⟨k1,k2⟩:=k.ab.c;obtain ⟨k3,k4,k5,k6⟩:=two_cells k.z;exact ⟨k1,k2,k3,k4,k5,k6,hW⟩
 have CS:∀ W,Below N w0 W→Calls Tryz.prog 105 #[.slice A n cap] W fun e w'=>∃ A' cap',e = .returned (.slice A' n cap')∧w'.ownsRow B 9 1 (.slice A' n cap') n (a.ds.map strS)∧Below W.heap.size W w'∧CopK A n cap A2 n2 cap2 B N w0 w':=fun W hW=>by
  have k:=kf W hW;refine (cloneStr_any A n cap a.ds W k.ab.i.s hn).mono ?_;rintro e w' ⟨v,he,h1,h2⟩;obtain ⟨A',cap',rfl,_⟩:=strsAt_of_own h1;exact ⟨A',cap',he,own_mono h1 (Nat.le_of_lt k.ab.lt),h2,kk _ (hW.trans (h2.mono (by have:=hW.size;omega)))⟩
 have CF:∀ W,Below N w0 W→Calls Tryz.prog 89 #[.slice A2 n2 cap2] W fun e w'=>∃ A' cap',e = .returned (.slice A' n2 cap')∧w'.ownsRow B 61 5 (.slice A' n2 cap') n2 (filsCells a.fs)∧Below W.heap.size W w'∧CopK A n cap A2 n2 cap2 B N w0 w':=fun W hW=>by
  have k:=kf W hW;refine (cloneFil_any A2 n2 cap2 a.fs W k.ab.i.f hn2).mono ?_;rintro e w' ⟨v,he,h1,h2⟩;obtain ⟨A',cap',rfl,_⟩:=filsAt_of_own h1;exact ⟨A',cap',he,own_mono h1 (Nat.le_of_lt k.ab.lt),h2,kk _ (hW.trans (h2.mono (by have:=hW.size;omega)))⟩
 have e0:Below N w0 w0.drew:=by rw [hN];exact (Below.refl _ _).drew
 have fin:∀ (W:World) (v1 v2:Value),Below N w0 W→W.ownsRow B 9 1 v1 n (a.ds.map strS)→W.ownsRow B 61 5 v2 n2 (filsCells a.fs)→(W.setCell ⟨B+1,0,none⟩ v1).setCell ⟨B+1,1,none⟩ v2=W.setRow (B+1) #[v1,v2]∧(W.setRow (B+1) #[v1,v2]).heap[B+1]? = some (.cells #[v1,v2] 33 (0,0))∧OwnA (W.setRow (B+1) #[v1,v2]) B v1 v2 a∧Below B w (W.setRow (B+1) #[v1,v2]):=fun W v1 v2 hW o1 o2=>by
  have k:=kf W hW
  have hne:∀ {e size m:Nat} {v:Value} {xs:List Value},W.ownsRow B e size v m xs→e≠33→(W.setRow (B+1) #[v1,v2]).ownsRow B e size v m xs:=by
   intro e size m v xs ho hne;refine ⟨ho.1,?_⟩
   rcases ho.2 with hn | ⟨g,cap,cur,rfl,hb,hg,rest⟩
   ·exact .inl hn
   ·refine .inr ⟨g,cap,cur,rfl,hb,?_,rest⟩;rw [setRow_other W (B+1) g _ (fun e2=>?_)]
    ·exact hg
    ·subst e2;rw [k.z] at hg;injection hg with hg
     injection hg with _ hg
     exact hne hg.symm
  refine ⟨set_two k.z v1 v2,(k.end_ _).1,⟨?_,?_⟩,(k.end_ _).2⟩
  ·rw [h.s.1];exact hne o1 (by decide)
  ·rw [h.f.1];exact hne o2 (by decide)
 have HB:=zH hB;have HW0:=zH hw0;have CS:=zH CS;have CF:=zH CF;have E0:=zH e0;have FIN:=zH fin;have k0:=kk _ (by rw [hN];exact Below.refl _ _:Below N w0 w0);clear hB hw0 kk kf h h0 e0 fin hBN hN;rw [←zU HB];go_enter Tryz.func72,Tryz.ntmps72;go_upto_region 1 with fail
 rw [←zU HW0,←zU HB];obtain ⟨a0,a1,a2,a3,a4,a5,a6⟩:=k0
 go_region_with (first
  | (go_at_call 105;refine (zU CS _ (by first | assumption | exact zU E0)).mono ?_;rintro e wS ⟨A',cap',rfl,hs1,hs2,⟨s0,s1,s2,s3,s4,s5,s6⟩⟩;have HS1:=zH hs1;have HS2:=zH hs2;clear hs1 hs2)
  | (go_at_call 89;refine (zU CF _ (by first | assumption | exact zU E0)).mono ?_;rintro e wF ⟨A2',cap2',rfl,hf1,hf2,⟨f0,f1,f2,f3,f4,f5,f6⟩⟩;have HF1:=zH hf1;have HF2:=zH hf2;clear hf1 hf2))
 all_goals
  first
   | (obtain ⟨g1,g2,g3,g4⟩:=zU FIN wF _ _ f6 (own_below (zU HS1) (zU HF2)) (zU HF1))
   | (obtain ⟨g1,g2,g3,g4⟩:=zU FIN wS _ _ s6 (zU HS1) (own_below (zU HF1) (zU HS2)))
  rw [g1];go_wp2_with fail;refine bodyPost_ret (results_cell_row rfl _ _ (B+1) 33 _ (0,0) _ rfl g2 Tryz.underlying33 rfl sizeArc) rfl ⟨_,_,rfl,g3,g4⟩
end Go.Proofs.YtjpgoeimclipjaaGreat
namespace Go.Proofs.YtjpgoeimclipjaaGreat
open Go.RowKit Go.Lib Pl
attribute [local go_sem] ext_list app_list
theorem free_row (w:World) (b i:Nat) (c:Array Value) (t:TypeId) (h:w.heap[b]? = some (.cells c t (0,0))):w.frozen? ⟨b,i,none⟩=false:=by simp [World.frozen?,h]
theorem after_grown {w w1:World} {base M n k:Nat} {o:Obj} {cs:Array Value} {fz:Nat×Nat} {v:Value} {xs:List Value} (hblk:w.heap[M]? = some (.cells cs 225 fz)) (hown:OwnM w base 5 1 v n xs)
  (hg:((w.alloc o).drewN k).drew.grownBy w1 v.ownBlock):w1.heap[M]? = some (.cells cs 225 fz):=by
 have hlt:M<w.heap.size:=(Array.getElem?_eq_some_iff.1 hblk).1
 have h1:M<((w.alloc o).drewN k).drew.heap.size:=by
  show M<(w.alloc o).heap.size;simp;omega
 exact (hg.block M h1 (fun e=>mk_far hblk hown e.symm)).trans ((Below.heap_alloc w o M hlt).trans hblk)
theorem below_drew_alloc (w:World) (o:Obj) (k:Nat):Below w.heap.size w ((w.alloc o).drewN k).drew:=(_root_.Go.below_drewN ((Below.refl _ _).alloc (Nat.le_refl _) o) k).drew
set_option maxHeartbeats 1000000 in
set_option maxRecDepth 100000 in
theorem tok_litok (base M d:Nat) (lit:Bool) (s l:Bytes) (far len:Int) (w:World) (hM:Mk w base M d lit s) (hd:d≤s.length) (hs:s.length≤d+512) (hd2:d≤256)
  (hl:l≠[]) (h0:far=0∧len=0∧lit=false) (hr:l.length+(s.length-d)≤512) :
  Calls Tryz.prog 181 #[.pointer (some ⟨M,0,none⟩),.agg #[S l,I far,I len]] w fun e w'=>e = .returned (I 0)∧Mk w' base M d true (s++l)∧Below base w w'∧Keeps badMk w w':=by
 obtain ⟨hbM,A,cap,hblk,hown⟩:=hM;obtain ⟨rfl,rfl,rfl⟩:=h0;have hlt:M<w.heap.size:=(Array.getElem?_eq_some_iff.1 hblk).1;have c0:w.cell? ⟨M,0,none⟩=some (.slice A s.length cap):=by rw [cell_of_row w M 0 _ _ _ hblk];rfl
 have c1:w.cell? ⟨M,1,none⟩=some (.int .i64 d):=by rw [cell_of_row w M 1 _ _ _ hblk];rfl
 have c2:w.cell? ⟨M,2,none⟩=some (.bool false):=by rw [cell_of_row w M 2 _ _ _ hblk];rfl
 have f0:w.frozen? ⟨M,0,none⟩=false:=by simp [World.frozen?,hblk]
 have f2:w.frozen? ⟨M,2,none⟩=false:=by simp [World.frozen?,hblk]
 have hl1:l.isEmpty=false:=by simpa using hl
 have hl2:(l == [])=false:=by simpa using hl
 have hk1:(0:Int)≤(s.length:Int)-(d:Int):=by omega
 have hk2:(s.length:Int)-(d:Int)≤512:=by omega
 have hbH:base≤w.heap.size:=by omega
 have hk3:(l.length:Int)≤512-((s.length:Int)-(d:Int)):=by omega
 obtain ⟨i0,hi0,hz0,hz1,hz2⟩:=info_parts info_u8;have hB:=zH hblk;have hO:=zH hown;clear hblk hown hl;go_enter Tryz.func181,Tryz.ntmps181;go_wp2_with fail;go_quiet (fail);go_wp2_with fail;go_region_law (refine step_append_M_string rfl _ _ _ _ rfl base 5 i0 Tryz.underlying77 Tryz.underlying9 hi0 hz0 hz1 hz2 _ s.length (s.map B) rfl (by first | exact ((zU hO).alloc _).drew | exact (((zU hO).alloc _).drewN _) | exact (((zU hO).alloc _).drewN _).drew) ⟨l.toArray⟩ rfl (by show s.length+l.length≤9223372036854775807;omega) (by show s.length+l.length≤140737488355328;omega) (by show base≤(w.alloc _).heap.size;simp;omega) ?_;intro A1 cap1 w1 hown1 hgrow1 hat1;have hm1:=after_grown (zU hB) (zU hO) hgrow1;have c0':=cell_of_row w1 M 0 _ _ _ hm1;have c2':=cell_of_row w1 M 2 _ _ _ hm1;simp at c0' c2';have f0':=free_row w1 M 0 _ _ hm1;have f2':=free_row w1 M 2 _ _ hm1)
 all_goals
  go_wp2_with fail;go_ret;refine ⟨rfl,?_⟩;rw [strCells_list,←List.map_append] at hown1;refine mk_end hbM (zU hB) (zU hO) (below_drew_alloc w _ _) hown1 hgrow1 ?_ (fun k hk=>?_) (by rw [size_setCell,size_setCell]) rfl rfl rfl
  ·rw [set_row (set_row hm1 _ _) _ _];rfl
  ·rw [Below.heap_setCell _ _ _ _ hk,Below.heap_setCell _ _ _ _ hk]
set_option maxHeartbeats 1000000 in
set_option maxRecDepth 100000 in
theorem tok_form1 (base M d:Nat) (lit:Bool) (s:Bytes) (l:Bytes) (far len:Int) (w:World) (hM:Mk w base M d lit s) (hd:d≤s.length) (hs:s.length≤d+512)
  (hl:l≠[]) (h0:far≠0) :
  Calls Tryz.prog 181 #[.pointer (some ⟨M,0,none⟩),.agg #[S l,I far,I len]] w fun e w'=>e = .returned (I 1)∧Below base w w'∧Keeps badMk w w':=by
 obtain ⟨hbM,A,cap,hblk,hown⟩:=hM;have hlt:M<w.heap.size:=(Array.getElem?_eq_some_iff.1 hblk).1;have c0:w.cell? ⟨M,0,none⟩=some (.slice A s.length cap):=by rw [cell_of_row w M 0 _ _ _ hblk];rfl
 have c1:w.cell? ⟨M,1,none⟩=some (.int .i64 d):=by rw [cell_of_row w M 1 _ _ _ hblk];rfl
 have c2:w.cell? ⟨M,2,none⟩=some (.bool lit):=by rw [cell_of_row w M 2 _ _ _ hblk];rfl
 have hk1:(0:Int)≤(s.length:Int)-(d:Int):=by omega
 have hk2:(s.length:Int)-(d:Int)≤512:=by omega
 have hbH:base≤w.heap.size:=by omega
 have hl1:l.isEmpty=false:=by simpa using hl
 have hl2:(l == [])=false:=by simpa using hl
 clear hl;have h1:(far == 0)=false:=beq_eq_false_iff_ne.2 h0;have h2:(far != 0)=true:=by rw [bne_iff_ne];exact h0
 clear h0;clear hblk hown;go_enter Tryz.func181,Tryz.ntmps181;go_wp2_with fail;go_quiet (fail);go_wp2_with fail;go_ret
 first | exact ⟨rfl,_root_.Go.below_drewN ((Below.refl _ _).alloc hbH _) _,((Keeps.refl _ _).alloc _).drewN _⟩ | exact ⟨rfl,_root_.Go.below_drewN (_root_.Go.below_drewN ((Below.refl _ _).alloc hbH _) _) _,(((Keeps.refl _ _).alloc _).drewN _).drewN _⟩
set_option maxHeartbeats 1000000 in
set_option maxRecDepth 100000 in
theorem tok_form2 (base M d:Nat) (lit:Bool) (s:Bytes) (l:Bytes) (far len:Int) (w:World) (hM:Mk w base M d lit s) (hd:d≤s.length) (hs:s.length≤d+512)
  (hl:l≠[]) (h0:far=0) (h9:len≠0) :
  Calls Tryz.prog 181 #[.pointer (some ⟨M,0,none⟩),.agg #[S l,I far,I len]] w fun e w'=>e = .returned (I 1)∧Below base w w'∧Keeps badMk w w':=by
 obtain ⟨hbM,A,cap,hblk,hown⟩:=hM;have hlt:M<w.heap.size:=(Array.getElem?_eq_some_iff.1 hblk).1;have c0:w.cell? ⟨M,0,none⟩=some (.slice A s.length cap):=by rw [cell_of_row w M 0 _ _ _ hblk];rfl
 have c1:w.cell? ⟨M,1,none⟩=some (.int .i64 d):=by rw [cell_of_row w M 1 _ _ _ hblk];rfl
 have c2:w.cell? ⟨M,2,none⟩=some (.bool lit):=by rw [cell_of_row w M 2 _ _ _ hblk];rfl
 have hk1:(0:Int)≤(s.length:Int)-(d:Int):=by omega
 have hk2:(s.length:Int)-(d:Int)≤512:=by omega
 have hbH:base≤w.heap.size:=by omega
 have hl1:l.isEmpty=false:=by simpa using hl
 have hl2:(l == [])=false:=by simpa using hl
 clear hl;subst h0;have h1:(len == 0)=false:=beq_eq_false_iff_ne.2 h9;have h2:(len != 0)=true:=by rw [bne_iff_ne];exact h9
 clear h9;clear hblk hown;go_enter Tryz.func181,Tryz.ntmps181;go_wp2_with fail;go_quiet (fail);go_wp2_with fail;go_ret
 first | exact ⟨rfl,_root_.Go.below_drewN ((Below.refl _ _).alloc hbH _) _,((Keeps.refl _ _).alloc _).drewN _⟩ | exact ⟨rfl,_root_.Go.below_drewN (_root_.Go.below_drewN ((Below.refl _ _).alloc hbH _) _) _,(((Keeps.refl _ _).alloc _).drewN _).drewN _⟩
set_option maxHeartbeats 1000000 in
set_option maxRecDepth 100000 in
theorem tok_form3 (base M d:Nat) (lit:Bool) (s:Bytes) (l:Bytes) (far len:Int) (w:World) (hM:Mk w base M d lit s) (hd:d≤s.length) (hs:s.length≤d+512)
  (hl:l≠[]) (h0:far=0) (h9:len=0) (h8:lit=true) :
  Calls Tryz.prog 181 #[.pointer (some ⟨M,0,none⟩),.agg #[S l,I far,I len]] w fun e w'=>e = .returned (I 1)∧Below base w w'∧Keeps badMk w w':=by
 obtain ⟨hbM,A,cap,hblk,hown⟩:=hM;have hlt:M<w.heap.size:=(Array.getElem?_eq_some_iff.1 hblk).1;have c0:w.cell? ⟨M,0,none⟩=some (.slice A s.length cap):=by rw [cell_of_row w M 0 _ _ _ hblk];rfl
 have c1:w.cell? ⟨M,1,none⟩=some (.int .i64 d):=by rw [cell_of_row w M 1 _ _ _ hblk];rfl
 have c2:w.cell? ⟨M,2,none⟩=some (.bool lit):=by rw [cell_of_row w M 2 _ _ _ hblk];rfl
 have hk1:(0:Int)≤(s.length:Int)-(d:Int):=by omega
 have hk2:(s.length:Int)-(d:Int)≤512:=by omega
 have hbH:base≤w.heap.size:=by omega
 have hl1:l.isEmpty=false:=by simpa using hl
 have hl2:(l == [])=false:=by simpa using hl
 clear hl;subst h0 h9 h8;clear hblk hown;go_enter Tryz.func181,Tryz.ntmps181;go_wp2_with fail;go_quiet (fail);go_wp2_with fail;go_ret
 first | exact ⟨rfl,_root_.Go.below_drewN ((Below.refl _ _).alloc hbH _) _,((Keeps.refl _ _).alloc _).drewN _⟩ | exact ⟨rfl,_root_.Go.below_drewN (_root_.Go.below_drewN ((Below.refl _ _).alloc hbH _) _) _,(((Keeps.refl _ _).alloc _).drewN _).drewN _⟩
set_option maxHeartbeats 1000000 in
set_option maxRecDepth 100000 in
theorem tok_many (base M d:Nat) (lit:Bool) (s:Bytes) (l:Bytes) (far len:Int) (w:World) (hM:Mk w base M d lit s) (hd:d≤s.length) (hs:s.length≤d+512)
  (hl:l≠[]) (h0:far=0) (h9:len=0) (h8:lit=false) (hr:512<l.length+(s.length-d)) :
  Calls Tryz.prog 181 #[.pointer (some ⟨M,0,none⟩),.agg #[S l,I far,I len]] w fun e w'=>e = .returned (I 2)∧Below base w w'∧Keeps badMk w w':=by
 obtain ⟨hbM,A,cap,hblk,hown⟩:=hM;have hlt:M<w.heap.size:=(Array.getElem?_eq_some_iff.1 hblk).1;have c0:w.cell? ⟨M,0,none⟩=some (.slice A s.length cap):=by rw [cell_of_row w M 0 _ _ _ hblk];rfl
 have c1:w.cell? ⟨M,1,none⟩=some (.int .i64 d):=by rw [cell_of_row w M 1 _ _ _ hblk];rfl
 have c2:w.cell? ⟨M,2,none⟩=some (.bool lit):=by rw [cell_of_row w M 2 _ _ _ hblk];rfl
 have hk1:(0:Int)≤(s.length:Int)-(d:Int):=by omega
 have hk2:(s.length:Int)-(d:Int)≤512:=by omega
 have hbH:base≤w.heap.size:=by omega
 have hl1:l.isEmpty=false:=by simpa using hl
 have hl2:(l == [])=false:=by simpa using hl
 clear hl;subst h0 h9 h8;have hk3:512-((s.length:Int)-(d:Int))<(l.length:Int):=by omega
 clear hblk hown;go_enter Tryz.func181,Tryz.ntmps181;go_wp2_with fail;go_quiet (fail);go_wp2_with fail;go_ret
 first | exact ⟨rfl,_root_.Go.below_drewN ((Below.refl _ _).alloc hbH _) _,((Keeps.refl _ _).alloc _).drewN _⟩ | exact ⟨rfl,_root_.Go.below_drewN (_root_.Go.below_drewN ((Below.refl _ _).alloc hbH _) _) _,(((Keeps.refl _ _).alloc _).drewN _).drewN _⟩
set_option maxHeartbeats 1000000 in
set_option maxRecDepth 100000 in
theorem tok_copy1 (base M d:Nat) (lit:Bool) (s:Bytes) (l:Bytes) (far len:Int) (w:World) (hM:Mk w base M d lit s) (hd:d≤s.length) (hs:s.length≤d+512)
  (hl:l=[]) (h0:len<3) :
  Calls Tryz.prog 181 #[.pointer (some ⟨M,0,none⟩),.agg #[S l,I far,I len]] w fun e w'=>e = .returned (I 1)∧Below base w w'∧Keeps badMk w w':=by
 obtain ⟨hbM,A,cap,hblk,hown⟩:=hM;have hlt:M<w.heap.size:=(Array.getElem?_eq_some_iff.1 hblk).1;have c0:w.cell? ⟨M,0,none⟩=some (.slice A s.length cap):=by rw [cell_of_row w M 0 _ _ _ hblk];rfl
 have c1:w.cell? ⟨M,1,none⟩=some (.int .i64 d):=by rw [cell_of_row w M 1 _ _ _ hblk];rfl
 have c2:w.cell? ⟨M,2,none⟩=some (.bool lit):=by rw [cell_of_row w M 2 _ _ _ hblk];rfl
 have hk1:(0:Int)≤(s.length:Int)-(d:Int):=by omega
 have hk2:(s.length:Int)-(d:Int)≤512:=by omega
 have hbH:base≤w.heap.size:=by omega
 subst hl;have e1:decide (len<3)=true:=by simpa using h0
 clear hblk hown;go_enter Tryz.func181,Tryz.ntmps181;go_wp2_with fail;go_quiet (fail);go_wp2_with fail;go_quiet (fail);go_wp2_with fail;go_ret
 first | exact ⟨rfl,_root_.Go.below_drewN ((Below.refl _ _).alloc hbH _) _,((Keeps.refl _ _).alloc _).drewN _⟩ | exact ⟨rfl,_root_.Go.below_drewN (_root_.Go.below_drewN ((Below.refl _ _).alloc hbH _) _) _,(((Keeps.refl _ _).alloc _).drewN _).drewN _⟩
set_option maxHeartbeats 1000000 in
set_option maxRecDepth 100000 in
theorem tok_copy2 (base M d:Nat) (lit:Bool) (s:Bytes) (l:Bytes) (far len:Int) (w:World) (hM:Mk w base M d lit s) (hd:d≤s.length) (hs:s.length≤d+512)
  (hl:l=[]) (h0:64<len) :
  Calls Tryz.prog 181 #[.pointer (some ⟨M,0,none⟩),.agg #[S l,I far,I len]] w fun e w'=>e = .returned (I 1)∧Below base w w'∧Keeps badMk w w':=by
 obtain ⟨hbM,A,cap,hblk,hown⟩:=hM;have hlt:M<w.heap.size:=(Array.getElem?_eq_some_iff.1 hblk).1;have c0:w.cell? ⟨M,0,none⟩=some (.slice A s.length cap):=by rw [cell_of_row w M 0 _ _ _ hblk];rfl
 have c1:w.cell? ⟨M,1,none⟩=some (.int .i64 d):=by rw [cell_of_row w M 1 _ _ _ hblk];rfl
 have c2:w.cell? ⟨M,2,none⟩=some (.bool lit):=by rw [cell_of_row w M 2 _ _ _ hblk];rfl
 have hk1:(0:Int)≤(s.length:Int)-(d:Int):=by omega
 have hk2:(s.length:Int)-(d:Int)≤512:=by omega
 have hbH:base≤w.heap.size:=by omega
 subst hl;have e1:decide (len<3)=false:=by simp;omega
 have e2:decide (64<len)=true:=by simpa using h0
 clear hblk hown;go_enter Tryz.func181,Tryz.ntmps181;go_wp2_with fail;go_quiet (fail);go_wp2_with fail;go_quiet (fail);go_wp2_with fail;go_ret
 first | exact ⟨rfl,_root_.Go.below_drewN ((Below.refl _ _).alloc hbH _) _,((Keeps.refl _ _).alloc _).drewN _⟩ | exact ⟨rfl,_root_.Go.below_drewN (_root_.Go.below_drewN ((Below.refl _ _).alloc hbH _) _) _,(((Keeps.refl _ _).alloc _).drewN _).drewN _⟩
set_option maxHeartbeats 1000000 in
set_option maxRecDepth 100000 in
theorem tok_copy3 (base M d:Nat) (lit:Bool) (s:Bytes) (l:Bytes) (far len:Int) (w:World) (hM:Mk w base M d lit s) (hd:d≤s.length) (hs:s.length≤d+512)
  (hl:l=[]) (h0:3≤len) (h1:len≤64) (h2:far<1) :
  Calls Tryz.prog 181 #[.pointer (some ⟨M,0,none⟩),.agg #[S l,I far,I len]] w fun e w'=>e = .returned (I 1)∧Below base w w'∧Keeps badMk w w':=by
 obtain ⟨hbM,A,cap,hblk,hown⟩:=hM;have hlt:M<w.heap.size:=(Array.getElem?_eq_some_iff.1 hblk).1;have c0:w.cell? ⟨M,0,none⟩=some (.slice A s.length cap):=by rw [cell_of_row w M 0 _ _ _ hblk];rfl
 have c1:w.cell? ⟨M,1,none⟩=some (.int .i64 d):=by rw [cell_of_row w M 1 _ _ _ hblk];rfl
 have c2:w.cell? ⟨M,2,none⟩=some (.bool lit):=by rw [cell_of_row w M 2 _ _ _ hblk];rfl
 have hk1:(0:Int)≤(s.length:Int)-(d:Int):=by omega
 have hk2:(s.length:Int)-(d:Int)≤512:=by omega
 have hbH:base≤w.heap.size:=by omega
 subst hl;have e1:decide (len<3)=false:=by simp;omega
 have e2:decide (64<len)=false:=by simp;omega
 have e3:decide (far<1)=true:=by simpa using h2
 clear hblk hown;go_enter Tryz.func181,Tryz.ntmps181;go_wp2_with fail;go_quiet (fail);go_wp2_with fail;go_quiet (fail);go_wp2_with fail;go_ret
 first | exact ⟨rfl,_root_.Go.below_drewN ((Below.refl _ _).alloc hbH _) _,((Keeps.refl _ _).alloc _).drewN _⟩ | exact ⟨rfl,_root_.Go.below_drewN (_root_.Go.below_drewN ((Below.refl _ _).alloc hbH _) _) _,(((Keeps.refl _ _).alloc _).drewN _).drewN _⟩
set_option maxHeartbeats 1000000 in
set_option maxRecDepth 100000 in
theorem tok_copy4 (base M d:Nat) (lit:Bool) (s:Bytes) (l:Bytes) (far len:Int) (w:World) (hM:Mk w base M d lit s) (hd:d≤s.length) (hs:s.length≤d+512)
  (hl:l=[]) (h0:3≤len) (h1:len≤64) (h2:1≤far) (h3:(s.length:Int)<far) :
  Calls Tryz.prog 181 #[.pointer (some ⟨M,0,none⟩),.agg #[S l,I far,I len]] w fun e w'=>e = .returned (I 1)∧Below base w w'∧Keeps badMk w w':=by
 obtain ⟨hbM,A,cap,hblk,hown⟩:=hM;have hlt:M<w.heap.size:=(Array.getElem?_eq_some_iff.1 hblk).1;have c0:w.cell? ⟨M,0,none⟩=some (.slice A s.length cap):=by rw [cell_of_row w M 0 _ _ _ hblk];rfl
 have c1:w.cell? ⟨M,1,none⟩=some (.int .i64 d):=by rw [cell_of_row w M 1 _ _ _ hblk];rfl
 have c2:w.cell? ⟨M,2,none⟩=some (.bool lit):=by rw [cell_of_row w M 2 _ _ _ hblk];rfl
 have hk1:(0:Int)≤(s.length:Int)-(d:Int):=by omega
 have hk2:(s.length:Int)-(d:Int)≤512:=by omega
 have hbH:base≤w.heap.size:=by omega
 subst hl;have e1:decide (len<3)=false:=by simp;omega
 have e2:decide (64<len)=false:=by simp;omega
 have e3:decide (far<1)=false:=by simp;omega
 have e4:decide ((s.length:Int)<far)=true:=by simpa using h3
 clear hblk hown;go_enter Tryz.func181,Tryz.ntmps181;go_wp2_with fail;go_quiet (fail);go_wp2_with fail;go_quiet (fail);go_wp2_with fail;go_ret
 first | exact ⟨rfl,_root_.Go.below_drewN ((Below.refl _ _).alloc hbH _) _,((Keeps.refl _ _).alloc _).drewN _⟩ | exact ⟨rfl,_root_.Go.below_drewN (_root_.Go.below_drewN ((Below.refl _ _).alloc hbH _) _) _,(((Keeps.refl _ _).alloc _).drewN _).drewN _⟩
set_option maxHeartbeats 1000000 in
set_option maxRecDepth 100000 in
theorem tok_copy5 (base M d:Nat) (lit:Bool) (s:Bytes) (l:Bytes) (far len:Int) (w:World) (hM:Mk w base M d lit s) (hd:d≤s.length) (hs:s.length≤d+512)
  (hl:l=[]) (h0:3≤len) (h1:len≤64) (h2:1≤far) (h3:far≤(s.length:Int)) (hr:512<len+((s.length-d:Nat):Int)) :
  Calls Tryz.prog 181 #[.pointer (some ⟨M,0,none⟩),.agg #[S l,I far,I len]] w fun e w'=>e = .returned (I 2)∧Below base w w'∧Keeps badMk w w':=by
 obtain ⟨hbM,A,cap,hblk,hown⟩:=hM;have hlt:M<w.heap.size:=(Array.getElem?_eq_some_iff.1 hblk).1;have c0:w.cell? ⟨M,0,none⟩=some (.slice A s.length cap):=by rw [cell_of_row w M 0 _ _ _ hblk];rfl
 have c1:w.cell? ⟨M,1,none⟩=some (.int .i64 d):=by rw [cell_of_row w M 1 _ _ _ hblk];rfl
 have c2:w.cell? ⟨M,2,none⟩=some (.bool lit):=by rw [cell_of_row w M 2 _ _ _ hblk];rfl
 have hk1:(0:Int)≤(s.length:Int)-(d:Int):=by omega
 have hk2:(s.length:Int)-(d:Int)≤512:=by omega
 have hbH:base≤w.heap.size:=by omega
 subst hl;have e1:decide (len<3)=false:=by simp;omega
 have e2:decide (64<len)=false:=by simp;omega
 have e3:decide (far<1)=false:=by simp;omega
 have e4:decide ((s.length:Int)<far)=false:=by simp;omega
 have hk3:512-((s.length:Int)-(d:Int))<len:=by omega
 clear hblk hown;go_enter Tryz.func181,Tryz.ntmps181;go_wp2_with fail;go_quiet (fail);go_wp2_with fail;go_quiet (fail);go_wp2_with fail;go_ret
 first | exact ⟨rfl,_root_.Go.below_drewN ((Below.refl _ _).alloc hbH _) _,((Keeps.refl _ _).alloc _).drewN _⟩ | exact ⟨rfl,_root_.Go.below_drewN (_root_.Go.below_drewN ((Below.refl _ _).alloc hbH _) _) _,(((Keeps.refl _ _).alloc _).drewN _).drewN _⟩
end Go.Proofs.YtjpgoeimclipjaaGreat
namespace Go.Proofs.YtjpgoeimclipjaaGreat
open Go.RowKit Go.Lib Pl
attribute [local go_sem] ext_list app_list
set_option maxHeartbeats 1000000 in
set_option maxRecDepth 100000 in
theorem tok_copyok (base M d:Nat) (lit:Bool) (s:Bytes) (far len:Nat) (w:World) (hM:Mk w base M d lit s) (hd:d≤s.length) (hs:s.length≤d+512) (hd2:d≤256)
  (h0:3≤len) (h1:len≤64) (h2:1≤far) (h3:far≤s.length) (hr:len+(s.length-d)≤512) :
  Calls Tryz.prog 181 #[.pointer (some ⟨M,0,none⟩),.agg #[S [],I far,I len]] w fun e w'=>e = .returned (I 0)∧Mk w' base M d false (copyB len far s)∧Below base w w'∧Keeps badMk w w':=by
 have hM0:=hM;obtain ⟨hbM,A,cap,hblk,hown⟩:=hM;have hlt:M<w.heap.size:=(Array.getElem?_eq_some_iff.1 hblk).1;have c0:w.cell? ⟨M,0,none⟩=some (.slice A s.length cap):=by rw [cell_of_row w M 0 _ _ _ hblk];rfl
 have c1:w.cell? ⟨M,1,none⟩=some (.int .i64 d):=by rw [cell_of_row w M 1 _ _ _ hblk];rfl
 have hk1:(0:Int)≤(s.length:Int)-(d:Int):=by omega
 have hk2:(s.length:Int)-(d:Int)≤512:=by omega
 have hbH:base≤w.heap.size:=by omega
 have e1:decide ((len:Int)<3)=false:=by simp;omega
 have e2:decide (64<(len:Int))=false:=by simp;omega
 have e3:decide ((far:Int)<1)=false:=by simp;omega
 have e4:decide ((s.length:Int)<(far:Int))=false:=by simp;omega
 have e5:decide (s.length<far)=false:=by simp;omega
 have hk3:(len:Int)≤512-((s.length:Int)-(d:Int)):=by omega
 have HM:=zH hM0;obtain ⟨i0,hi0,hz0,hz1,hz2⟩:=info_parts info_u8;clear hblk hown hM0;go_enter Tryz.func181,Tryz.ntmps181;go_wp2_with fail;go_quiet (fail);go_wp2_with fail;go_quiet (fail);go_wp2_with fail;clear e1 e2 e3 e4 e5 c0 c1
 go_loopw [82] (fun i wr=>∃ k:Nat,k≤len∧i = .int .i64 k∧Mk wr base M d lit (copyB k far s)∧Below base w wr∧Keeps badMk w wr∧wr.heap[w.heap.size]? = some (.cells #[S [],I far,I len] 183 (0,0)))
  (fun i _=>len-(intOf i).toNat)
 case atStart =>
  refine ⟨0,by omega,rfl,?_,?_,?_,?_⟩
  ·obtain ⟨a1,A,cap,a2,a3⟩:=zU HM;exact ⟨a1,A,cap,(Below.heap_alloc w _ M hlt).trans a2,(a3.alloc _)⟩
  ·exact _root_.Go.below_drewN ((Below.refl _ _).alloc hbH _) _
  ·exact ((Keeps.refl _ _).alloc _).drewN _
  ·exact heap_alloc_new w _
 case round =>
  obtain ⟨k,hk,rfl,hMk,hbel,hkeep,hpar⟩:=hrel;have hlen:=copyB_len k far s;obtain ⟨s',hs'⟩:∃ s',s'=copyB k far s:=⟨_,rfl⟩
  rw [←hs'] at hlen hMk;have hMk':=hMk;obtain ⟨_,A1,cap1,hblk1,hown1⟩:=hMk;have hMlt1:M<wr.heap.size:=(Array.getElem?_eq_some_iff.1 hblk1).1;have c0:wr.cell? ⟨M,0,none⟩=some (.slice A1 s'.length cap1):=by rw [cell_of_row wr M 0 _ _ _ hblk1];rfl
  have c2:wr.cell? ⟨M,2,none⟩=some (.bool lit):=by rw [cell_of_row wr M 2 _ _ _ hblk1];rfl
  have p1:wr.cell? ⟨w.heap.size,1,none⟩=some (I far):=by rw [cell_of_row wr _ 1 _ _ _ hpar];rfl
  have p2:wr.cell? ⟨w.heap.size,2,none⟩=some (I len):=by rw [cell_of_row wr _ 2 _ _ _ hpar];rfl
  have f0:wr.frozen? ⟨M,0,none⟩=false:=by simp [World.frozen?,hblk1]
  have f2:wr.frozen? ⟨M,2,none⟩=false:=by simp [World.frozen?,hblk1]
  have hln:(s'.length:Int)=(s.length:Int)+k:=by omega
  have HL:=zH hln;have hb3:s'.length≤832:=by omega
  by_cases hlk:k<len
  ·obtain ⟨j,hj⟩:∃ j:Nat,j=s'.length-far:=⟨_,rfl⟩
   have hjlt:j<s'.length:=by omega
   have hj2:((s'.length:Int)-(far:Int)).toNat=j:=by omega
   have hj3:(0:Int)≤(s'.length:Int)-(far:Int):=by omega
   have hj4:(s'.length:Int)-(far:Int)<(s'.length:Int):=by omega
   obtain ⟨g,capg,u,hv,hbg,hu,hcell⟩:=hown1.at_ (k:=j) (by omega);injection hv with hvA _ hvc
   subst hvA hvc;obtain ⟨c,hc⟩:∃ c,s'[j]? = some c:=⟨_,List.getElem?_eq_getElem hjlt⟩
   have huc:u=B c:=by
    rw [List.getElem?_map,hc] at hu;simpa using hu.symm
   subst huc;have HS:=zH hs';have HJ:=zH hj;have HC:=zH hc;have HB:=zH hblk1;have HO:=zH hown1;have HP:=zH hpar;clear hlen hs' hj hu hblk1 hown1 hpar hln hc;go_wp2_with fail;go_quiet (fail);go_wp2_with (at_builtin;refine wpList_push_M rfl _ _ _ rfl base 5 i0 _ 1 Tryz.underlying77 hi0 hz0 hz1 hz2 rfl _ s'.length (s'.map B) rfl _ _ (by exact (zU HO).drewN _) rfl rfl (by unfold maxLen;omega) (by omega) (by show base≤wr.heap.size;omega) ?_;intro g1 cap2 w1 hown1 hg1 hat1;have hm1:=mk_after (zU HB) (zU HO) (below_drewN_alloc wr _ _) hg1;have c0':=cell_of_row w1 M 0 _ _ _ hm1;simp at c0';have f0':=free_row w1 M 0 _ _ hm1);have hend:=mk_end (w2:=w1.setCell ⟨M,0,none⟩ (.slice (some ⟨g1,0,none⟩) (s'.length+1) cap2)) (s1:=s'++[c]) hbM (zU HB) (zU HO) (below_drewN_alloc wr _ _) (by simpa using hown1) hg1 (by rw [set_row hm1];rfl) (fun k hk=>Below.heap_setCell _ _ _ _ hk) (size_setCell _ _ _) rfl rfl rfl;obtain ⟨n1,n2,n3⟩:=hend;clear hown1 hg1 hat1 hm1 c0' f0';go_roundw
   case rel =>
    refine ⟨k+1,by omega,by go_num,?_,hbel.trans n2,hkeep.trans n3,n3.block _ _ (zU HP) rfl⟩;rw [copyB_snoc,←zU HS,←zU HJ];have:s'.getD j 0=c:=by rw [List.getD_eq_getElem?_getD,zU HC];rfl
    rw [this];exact n1
   case measure=>simp [intOf];omega
  ·have hkl:k=len:=by omega
   have HS:=zH hs';have HB:=zH hblk1;have HO:=zH hown1;have HK:=zH hkl;clear hlen hs' hblk1 hown1 hpar hln hkl;go_wp2_with fail;go_ret;rw [←zU HK,←zU HS];refine ⟨rfl,⟨hbM,A1,cap1,(set_row (zU HB) _ _),(zU HO).setCell (mk_far (zU HB) (zU HO)) _⟩,hbel.trans ?_,hkeep.trans ((Keeps.refl _ _).setCell _ (zU HB) rfl)⟩;exact (Below.refl _ _).setCell hbM _
end Go.Proofs.YtjpgoeimclipjaaGreat
namespace Go.Proofs.YtjpgoeimclipjaaGreat
open Go.RowKit Go.Lib Pl
theorem tok_any (base M d:Nat) (lit:Bool) (s:Bytes) (t:Tok) (w:World) (hM:Mk w base M d lit s) (hd:d≤s.length) (hs:s.length≤d+512) (hd2:d≤256) :
  Calls Tryz.prog 181 #[.pointer (some ⟨M,0,none⟩),TokV t] w fun e w' =>
   e = .returned (I (tokE d s lit t))∧(tokE d s lit t=0→Mk w' base M d (isLit t) (tokS s t))∧Below base w w'∧Keeps badMk w w':=by
 obtain ⟨l,far,len⟩:=t;have noz:∀ (n:Nat) (P:Prop),n≠0→(n=0→P):=fun n P h h2=>absurd h2 h
 by_cases hl:l=[]
 ·subst hl
  by_cases h1:len<3
  ·have e:tokE d s lit ⟨[],far,len⟩=1:=by simp [tokE,h1]
   rw [e];exact (tok_copy1 base M d lit s [] far len w hM hd hs rfl h1).mono fun _ _ ⟨a,b⟩=>⟨a,noz _ _ (by omega),b⟩
  by_cases h2:64<len
  ·have e:tokE d s lit ⟨[],far,len⟩=1:=by simp [tokE,h2]
   rw [e];exact (tok_copy2 base M d lit s [] far len w hM hd hs rfl h2).mono fun _ _ ⟨a,b⟩=>⟨a,noz _ _ (by omega),b⟩
  by_cases h3:far<1
  ·have e:tokE d s lit ⟨[],far,len⟩=1:=by simp [tokE,h3]
   rw [e];exact (tok_copy3 base M d lit s [] far len w hM hd hs rfl (by omega) (by omega) h3).mono fun _ _ ⟨a,b⟩=>⟨a,noz _ _ (by omega),b⟩
  by_cases h4:(s.length:Int)<far
  ·have e:tokE d s lit ⟨[],far,len⟩=1:=by simp [tokE,h4]
   rw [e];exact (tok_copy4 base M d lit s [] far len w hM hd hs rfl (by omega) (by omega) (by omega) h4).mono fun _ _ ⟨a,b⟩=>⟨a,noz _ _ (by omega),b⟩
  have hbad:¬ (len<3∨64<len∨far<1∨(s.length:Int)<far):=by omega
  by_cases h5:512<len+((s.length-d:Nat):Int)
  ·have e:tokE d s lit ⟨[],far,len⟩=2:=by
    unfold tokE;rw [if_neg (by simp),if_neg hbad,if_pos h5]
   rw [e];exact (tok_copy5 base M d lit s [] far len w hM hd hs rfl (by omega) (by omega) (by omega) (by omega) h5).mono fun _ _ ⟨a,b⟩=>⟨a,noz _ _ (by omega),b⟩
  ·have e:tokE d s lit ⟨[],far,len⟩=0:=by
    unfold tokE;rw [if_neg (by simp),if_neg hbad,if_neg h5]
   obtain ⟨f',rfl⟩:=Int.eq_ofNat_of_zero_le (show 0≤far by omega);obtain ⟨n',rfl⟩:=Int.eq_ofNat_of_zero_le (show 0≤len by omega);rw [e];refine (tok_copyok base M d lit s f' n' w hM hd hs hd2 (by omega) (by omega) (by omega) (by omega) (by omega)).mono fun _ _ ⟨a,b,c⟩=>⟨a,fun _=>?_,c⟩
   simpa [isLit,tokS] using b
 ·by_cases h1:far=0
  ·by_cases h2:len=0
   ·by_cases h3:lit=true
    ·have e:tokE d s lit ⟨l,far,len⟩=1:=by simp [tokE,hl,h3]
     rw [e];exact (tok_form3 base M d lit s l far len w hM hd hs hl h1 h2 h3).mono fun _ _ ⟨a,b⟩=>⟨a,noz _ _ (by omega),b⟩
    ·have h3:lit=false:=by simpa using h3
     by_cases h4:512<l.length+(s.length-d)
     ·have e:tokE d s lit ⟨l,far,len⟩=2:=by simp [tokE,hl,h1,h2,h3,h4]
      rw [e];exact (tok_many base M d lit s l far len w hM hd hs hl h1 h2 h3 h4).mono fun _ _ ⟨a,b⟩=>⟨a,noz _ _ (by omega),b⟩
     ·have e:tokE d s lit ⟨l,far,len⟩=0:=by simp [tokE,hl,h1,h2,h3];omega
      rw [e];refine (tok_litok base M d lit s l far len w hM hd hs hd2 hl ⟨h1,h2,h3⟩ (by omega)).mono fun _ _ ⟨a,b,c⟩=>⟨a,fun _=>?_,c⟩
      have e1:l.isEmpty=false:=by simpa using hl
      simpa [isLit,tokS,hl,e1] using b
   ·have e:tokE d s lit ⟨l,far,len⟩=1:=by simp [tokE,hl,h2]
    rw [e];exact (tok_form2 base M d lit s l far len w hM hd hs hl h1 h2).mono fun _ _ ⟨a,b⟩=>⟨a,noz _ _ (by omega),b⟩
  ·have e:tokE d s lit ⟨l,far,len⟩=1:=by simp [tokE,hl,h1]
   rw [e];exact (tok_form1 base M d lit s l far len w hM hd hs hl h1).mono fun _ _ ⟨a,b⟩=>⟨a,noz _ _ (by omega),b⟩
theorem tokS_len {d:Nat} {s:Bytes} {lit:Bool} {t:Tok} (h:tokE d s lit t=0) (hs:s.length≤d+512) (hd:d≤s.length):d≤(tokS s t).length∧(tokS s t).length≤d+512∧s.length<(tokS s t).length:=by
 obtain ⟨l,far,len⟩:=t;unfold tokE at h;unfold tokS
 by_cases hl:l=[]
 ·subst hl;simp only [ne_eq,not_true_eq_false,if_false] at h ⊢;rw [copyB_len]
  by_cases h1:len<3∨64<len∨far<1∨(s.length:Int)<far
  ·rw [if_pos h1] at h;cases h
  ·rw [if_neg h1] at h
   by_cases h2:512<len+((s.length-d:Nat):Int)
   ·rw [if_pos h2] at h;cases h
   ·omega
 ·have hlp:0<l.length:=List.length_pos_iff.2 hl;simp only [ne_eq,hl,not_false_eq_true,if_true] at h ⊢;rw [List.length_append]
  by_cases h1:far≠0∨len≠0∨lit=true
  ·rw [if_pos h1] at h;cases h
  ·rw [if_neg h1] at h
   by_cases h2:512<l.length+(s.length-d)
   ·rw [if_pos h2] at h;cases h
   ·omega
end Go.Proofs.YtjpgoeimclipjaaGreat
namespace Go.Proofs.YtjpgoeimclipjaaGreat
open Go.RowKit Go.Lib Pl
def ToksAt (w:World) (Bd:Nat) (A:Option Addr) (n:Nat) (l:List Tok):Prop :=
 l.length=n∧(0<n→∃ b off,A=some ⟨b,off,none⟩∧b<Bd∧∀ i t,l[i]? = some t →
  w.cell? ⟨b,off+i*3,none⟩=some (S t.lit)∧w.cell? ⟨b,off+i*3+1,none⟩=some (I t.far)∧w.cell? ⟨b,off+i*3+2,none⟩=some (I t.len))
theorem ToksAt.keep {w w':World} {Bd n:Nat} {A:Option Addr} {l:List Tok} (h:ToksAt w Bd A n l) (hk:∀ p:Addr,p.block<Bd→w'.cell? p=w.cell? p):ToksAt w' Bd A n l :=
 ⟨h.1,fun hn=>by
  obtain ⟨b,off,e,hb,hc⟩:=h.2 hn;refine ⟨b,off,e,hb,fun i t hi=>?_⟩;obtain ⟨h1,h2,h3⟩:=hc i t hi;exact ⟨(hk _ hb).trans h1,(hk _ hb).trans h2,(hk _ hb).trans h3⟩⟩
theorem ToksAt.below {w w':World} {Bd n:Nat} {A:Option Addr} {l:List Tok} (h:ToksAt w Bd A n l) (hb:Below Bd w w'):ToksAt w' Bd A n l:=h.keep fun _ hp=>hb.cell hp
theorem ToksAt.at_ {w:World} {Bd n k:Nat} {A:Option Addr} {l:List Tok} (h:ToksAt w Bd A n l) (hk:k<n):∃ b off t,A=some ⟨b,off,none⟩∧b<Bd∧l[k]? = some t ∧
  w.cell? ⟨b,off+k*3,none⟩=some (S t.lit)∧w.cell? ⟨b,off+k*3+1,none⟩=some (I t.far)∧w.cell? ⟨b,off+k*3+2,none⟩=some (I t.len):=by
 obtain ⟨b,off,e,hb,hc⟩:=h.2 (by omega);have hl:k<l.length:=by have:=h.1;omega
 exact ⟨b,off,l[k],e,hb,List.getElem?_eq_getElem hl,hc k _ (List.getElem?_eq_getElem hl)⟩
end Go.Proofs.YtjpgoeimclipjaaGreat
namespace Go.Proofs.YtjpgoeimclipjaaGreat
open Go.RowKit Go.Lib Pl
def tokCells (t:Tok):List Value:=[S t.lit,I t.far,I t.len]
def toksCells (l:List Tok):List Value:=l.flatMap tokCells
theorem toksCells_len (l:List Tok):(toksCells l).length=l.length*3:=by
 induction l with
 | nil=>rfl
 | cons t l ih=>simp [toksCells,tokCells] at ih ⊢;omega
theorem toksCells_snoc (l:List Tok) (t:Tok):toksCells (l++[t])=toksCells l++tokCells t:=by simp [toksCells]
theorem toksCells_get:∀ (l:List Tok) (i:Nat) (t:Tok),l[i]? = some t→(toksCells l)[i*3]? = some (S t.lit)∧(toksCells l)[i*3+1]? = some (I t.far)∧(toksCells l)[i*3+2]? = some (I t.len)
 | [],i,t,h=>by simp at h
 | u::l,0,t,h=>by simp at h;subst h;simp [toksCells,tokCells]
 | u::l,i+1,t,h=>by
  have h':l[i]? = some t:=by simpa using h
  obtain ⟨a,b,c⟩:=toksCells_get l i t h';have e:toksCells (u::l)=tokCells u++toksCells l:=by simp [toksCells]
  have hl:(tokCells u).length=3:=rfl;rw [e];refine ⟨?_,?_,?_⟩
  ·rw [List.getElem?_append_right (by omega),hl,show (i+1)*3-3=i*3 from by omega];exact a
  ·rw [List.getElem?_append_right (by omega),hl,show (i+1)*3+1-3=i*3+1 from by omega];exact b
  ·rw [List.getElem?_append_right (by omega),hl,show (i+1)*3+2-3=i*3+2 from by omega];exact c
theorem info_tok:(Tryz.prog.info? 183).map (fun i=>(i.zero,i.size,i.bytes))=some (some (.agg #[.string ByteArray.empty,.int .i64 0,.int .i64 0]),3,32):=by kernel_rfl
theorem toksAt_of_own {w:World} {base n:Nat} {v:Value} {l:List Tok} (h:w.ownsRow base 183 3 v n (toksCells l)):∃ A cap,v = .slice A n cap∧ToksAt w w.heap.size A n l∧l.length=n:=by
 have hn:l.length=n:=by have:=h.1;rw [toksCells_len] at this;omega
 rcases h.2 with ⟨rfl,h0⟩ | ⟨g,cap,cur,rfl,hb,hg,_⟩
 ·subst h0;exact ⟨_,_,rfl,⟨hn,fun h=>absurd h (by omega)⟩,hn⟩
 ·refine ⟨_,_,rfl,⟨hn,fun _=>⟨g,0,rfl,(Array.getElem?_eq_some_iff.1 hg).1,fun i t hi=>?_⟩⟩,hn⟩;obtain ⟨a,b,c⟩:=toksCells_get l i t hi;have hc:=h.cells (g:=g) rfl;have e:∀ j,(⟨g,0,none⟩:Addr).add j=⟨g,0+j,none⟩:=fun j=>by unfold Addr.add;split <;> simp_all
  have h0:=hc _ _ a;have h1:=hc _ _ b;have h2:=hc _ _ c;rw [e] at h0 h1 h2;exact ⟨h0,by rw [←h1,Nat.add_assoc],by rw [←h2,Nat.add_assoc]⟩
theorem own_slice {w:World} {base e size n:Nat} {v:Value} {xs:List Value} (h:w.ownsRow base e size v n xs):∃ A cap,v = .slice A n cap:=by
 rcases h.2 with ⟨rfl,rfl⟩ | ⟨g,cap,cur,rfl,_⟩
 ·exact ⟨_,_,rfl⟩
 ·exact ⟨_,_,rfl⟩
theorem cells3_new (w:World) (x y z:Value) (t:TypeId):∀ j u,[x,y,z][j]? = some u→(w.alloc (.cells #[x,y,z] t)).cell? ((⟨w.heap.size,0,none⟩:Addr).add j)=some u:=by
 intro j u hj;have e:(⟨w.heap.size,0,none⟩:Addr).add j=⟨w.heap.size,j,none⟩:=by unfold Addr.add;split <;> simp_all
 rw [e,World.cell?_alloc_new];simpa using hj
theorem wpList_push_tok {w:World} {ops:Array Oper} {rest:List Oper} {o:Oper} {a:Act} {Q:Exit→Act→World→Prop} (hgd:o.guard=none) (s x:Operand)
  (ho:o.op = .call { callee:=.builtin .append,args:=#[s,x],argTypes:=#[147,147] })
  (base:Nat) (v:Value) (n:Nat) (l:List Tok) (hs:a.eval s=v) (hown:w.ownsRow base 183 3 v n (toksCells l)) (b:Bytes) (f m:Int)
  (hx:a.eval x = .slice (some ⟨w.heap.size,0,none⟩) 1 1)
  (hn:n≤1000000) (hbase:base≤w.heap.size)
  (h:∀ A' cap' w',w'.ownsRow base 183 3 (.slice A' (n+1) cap') (n+1) (toksCells (l++[⟨b,f,m⟩]))→Below base w w'→(w.alloc (.cells #[S b,I f,I m] 183)).grownBy w' v.ownBlock→wpList Tryz.prog ops Q rest (a.put o.dst (.slice A' (n+1) cap')) w') :
  wpList Tryz.prog ops Q (o::rest) a (w.alloc (.cells #[S b,I f,I m] 183)):=by
 obtain ⟨i0,hi,hz0,hz1,hz2⟩:=info_parts info_tok;refine wpList_append_own _ hgd s x _ ho base 183 i0 _ 3 32 Tryz.underlying147 hi hz0 hz1 hz2 rfl (by decide) v n (toksCells l) hs (hown.alloc _) ⟨w.heap.size,0,none⟩ 1 1 [S b,I f,I m] hx rfl (cells3_new _ _ _ _ _) ?_ (by unfold maxLen;omega) (by omega) (by simp;omega) ?_
 ·intro y hy;simp at hy
  rcases hy with rfl | rfl | rfl <;> rfl
 ·intro v' w' hown' hg _
  have hown2:w'.ownsRow base 183 3 v' (n+1) (toksCells (l++[⟨b,f,m⟩])):=by
   rw [toksCells_snoc];exact hown'
  obtain ⟨A',cap',rfl,_⟩:=toksAt_of_own hown2;refine h A' cap' w' hown2 ?_ hg;exact ((Below.refl _ _).alloc hbase _).grown hg (by simp;omega) (fun k hk=>(hown.lt k hk).1)
theorem wpList_push_tok_at {w:World} {ops:Array Oper} {rest:List Oper} {o:Oper} {a:Act} {Q:Exit→Act→World→Prop} (hgd:o.guard=none) (s x:Operand)
  (ho:o.op = .call { callee:=.builtin .append,args:=#[s,x],argTypes:=#[147,147] })
  (base:Nat) (v:Value) (n:Nat) (l:List Tok) (hs:a.eval s=v) (hown:w.ownsRow base 183 3 v n (toksCells l)) (b:Bytes) (f m:Int)
  (H:Nat) (hH:w.heap.size=H) (hx:a.eval x = .slice (some ⟨H,0,none⟩) 1 1)
  (hn:n≤1000000) (hbase:base≤w.heap.size)
  (h:∀ A' cap' w',w'.ownsRow base 183 3 (.slice A' (n+1) cap') (n+1) (toksCells (l++[⟨b,f,m⟩]))→Below base w w'→(w.alloc (.cells #[S b,I f,I m] 183)).grownBy w' v.ownBlock→wpList Tryz.prog ops Q rest (a.put o.dst (.slice A' (n+1) cap')) w') :
  wpList Tryz.prog ops Q (o::rest) a (w.alloc (.cells #[S b,I f,I m] 183)):=by
 subst hH;exact wpList_push_tok hgd s x ho base v n l hs hown b f m hx hn hbase h
end Go.Proofs.YtjpgoeimclipjaaGreat
namespace Go.Proofs.YtjpgoeimclipjaaGreat
open Go.RowKit Go.Lib Pl
def has (t:Tr) (i:Nat):Bool:=decide (i∈t.2)
abbrev litP (p:Nat→Bool) (m:Nat):Array Value:=#[.bool (p 0),.bool (p 1),.bool (p 2),.bool (p 3),.bool (p 4),.bool (p 5),.bool (p 6),.bool (p 7),.bool (p 8),.bool (p 9),.bool (p 10),.bool (p 11),.bool (p 12),.bool (p 13),.bool (p 14),.bool (p 15),I (m:Nat)]
def CP (w:World) (g:Nat) (p:Nat→Bool) (m:Nat):Prop:=w.heap[g]? = some (.cells (litP p m) 219 (0,0))
end Go.Proofs.YtjpgoeimclipjaaGreat
namespace Go.Proofs.YtjpgoeimclipjaaGreat
open Go.RowKit Go.Lib Pl
namespace Pl
end Pl
theorem own_slice17 {w:World} {base e size n:Nat} {v:Value} {xs:List Value} (h:w.ownsRow base e size v n xs):∃ A cap,v = .slice A n cap:=by
 rcases h.2 with ⟨rfl,rfl⟩ | ⟨g,cap,cur,rfl,_⟩
 ·exact ⟨_,_,rfl⟩
 ·exact ⟨_,_,rfl⟩
theorem own_lower {w:World} {base b n:Nat} {v:Value} {e:TypeId} {size:Nat} {xs:List Value} (h:w.ownsRow base e size v n xs) (hb:b≤base):w.ownsRow b e size v n xs:=by
 refine ⟨h.1,?_⟩
 rcases h.2 with hn | ⟨g,cap,cur,hv,hb',rest⟩
 ·exact .inl hn
 ·exact .inr ⟨g,cap,cur,hv,Nat.le_trans hb hb',rest⟩
end Go.Proofs.YtjpgoeimclipjaaGreat
namespace Go.Proofs.YtjpgoeimclipjaaGreat
open Go.RowKit Go.Lib Pl
abbrev cells16 (l:List Int):Array Value:=(l.map (Value.int .i64)).toArray
abbrev A16 (l:List Int):Value:=.agg (cells16 l)
theorem info16:(Tryz.prog.info? 145).map (·.size)=some 16:=by kernel_rfl
theorem wpList_load16 {ops:Array Oper} {rest:List Oper} {o:Oper} {a:Act} {w:World} {Q:Exit→Act→World→Prop} (hgd:o.guard=none) (x:Operand) (ho:o.op = .load 145 x)
  (g:Nat) (hx:a.eval x = .pointer (some ⟨g,0,none⟩)) (l:List Int) (hl:l.length=16) {t:TypeId} {fz:Nat×Nat} (hg:w.heap[g]? = some (.cells (cells16 l) t fz))
  (h:wpList Tryz.prog ops Q rest (a.put o.dst (A16 l)) w):wpList Tryz.prog ops Q (o::rest) a w :=
 wpList_load_row hgd 145 x ho g hx t (cells16 l) fz _ hg Tryz.underlying145 rfl (by rw [info16];simp [hl]) h
theorem cell16 {w:World} {g:Nat} {l:List Int} {t:TypeId} {fz:Nat×Nat} (hg:w.heap[g]? = some (.cells (cells16 l) t fz)) {k:Nat} {x:Int} (hk:l[k]? = some x):w.cell? ⟨g,k,none⟩=some (.int .i64 x):=by
 rw [cell_of_row w _ k _ _ _ hg];simp [cells16,hk]
theorem run_index16 (l:List Int) (hl:l.length=16) (k:Nat) (x:Int) (hk:l[k]? = some x) (w:World):(Instr.index 145 (A16 l) (.int .i64 k)).run Tryz.prog w = .ok (.int .i64 x) w:=by
 have hk2:k<l.length:=(List.getElem?_eq_some_iff.1 hk).1;have hk3:l[k]=x:=(List.getElem?_eq_some_iff.1 hk).2;unfold Instr.index;simp [run_underlying Tryz.underlying145,asIntOf,Result.andThen,part,Tryz.isAgg3,Tryz.sizeOf3,cells16,hk];intro h2;omega
end Go.Proofs.YtjpgoeimclipjaaGreat
namespace Go.Proofs.YtjpgoeimclipjaaGreat
open Go.RowKit Go.Lib Pl
attribute [local go_sem] ext_list app_list
theorem drop_cons {α:Type} {l:List α} {k:Nat} {t:α} (h:l[k]? = some t):l.drop k=t::l.drop (k+1):=by
 have hk:k<l.length:=(List.getElem?_eq_some_iff.1 h).1;rw [List.drop_eq_getElem_cons hk]
 congr 1
 rw [List.getElem?_eq_getElem hk] at h;injection h
set_option maxHeartbeats 1000000 in
set_option maxRecDepth 100000 in
theorem play_walk (dict:Bytes) (A:Option Addr) (n cap:Nat) (l:List Tok) (w:World) (hl:ToksAt w w.heap.size A n l) (hd:dict.length≤256) (hn:n≤4611686018427387904) :
  Calls Tryz.prog 163 #[S dict,.slice A n cap] w fun e w'=>e = .returned (.tuple #[S (play dict l).1,I (play dict l).2])∧Below w.heap.size w w':=by
 have kb:=fun (W:World)=>run_bytes_of_string (P:=Tryz.prog) W 9 77 5 ⟨dict.toArray⟩ Tryz.underlying9 Tryz.underlying77 Tryz.underlying5;go_enter Tryz.func163,Tryz.ntmps163;go_wp2_with fail
 go_loopw [21] (fun i wr=>∃ (k:Nat) (lit:Bool) (s:Bytes),k≤n∧i = .int .i64 k∧Mk wr w.heap.size (w.heap.size+1) dict.length lit s∧dict.length≤s.length∧s.length≤dict.length+512 ∧
   playF dict.length s lit (l.drop k)=play dict l∧Below w.heap.size w wr)
  (fun i _=>n-(intOf i).toNat)
 case atStart =>
  refine ⟨0,false,dict,by omega,rfl,Mk.made w _ dict (Nat.le_refl _) (by omega),by omega,by omega,?_,?_⟩
  ·unfold play;rw [if_neg (by unfold maxDict;omega)];rfl
  ·exact ((Below.refl _ _).drew.alloc (Nat.le_refl _) _).alloc (by simp) _
 case round =>
  obtain ⟨k,lit,s,hk,rfl,hMk,hs1,hs2,hpl,hbel⟩:=hrel
  by_cases hkn:k<n
  ·obtain ⟨b,off,t,rfl,hb,ht,q0,q1,q2⟩:=(hl.below hbel).at_ hkn;obtain ⟨c,hc⟩:∃ c,c=tokE dict.length s lit t:=⟨_,rfl⟩
   have c1:=fun (W:World) (h:Mk W w.heap.size (w.heap.size+1) dict.length lit s)=>tok_any w.heap.size (w.heap.size+1) dict.length lit s t W h hs1 hs2 hd;rw [←hc] at c1;have C1:=zH c1;have HC:=zH hc;have HP:=zH hpl;have HT:=zH ht;clear c1 hc hpl ht
   by_cases hz:c=0
   ·subst hz;go_wp2_with fail;refine (zU C1 _ (hMk.alloc _)).mono ?_;rintro e w1 ⟨rfl,hmk1,hb1,_⟩;have hmk1:=hmk1 (by first | trivial | exact (zU HC).symm);go_wp2_with fail;go_roundw
    case rel =>
     obtain ⟨h1,h2,_⟩:=tokS_len (zU HC).symm hs2 hs1;refine ⟨k+1,isLit t,tokS s t,by omega,by go_num,hmk1,h1,h2,?_,(hbel.alloc hbel.size _).trans hb1⟩;rw [←zU HP,drop_cons (zU HT),playF,if_neg (by rw [←zU HC];omega)]
    case measure=>simp [intOf];omega
   ·have HZ:=zH hz;have z1:((c:Int) == 0)=false:=beq_eq_false_iff_ne.2 (by omega);have z2:((c:Int) != 0)=true:=by rw [bne_iff_ne];omega
    clear hz;go_wp2_with fail;refine (zU C1 _ (hMk.alloc _)).mono ?_;rintro e w1 ⟨rfl,_,hb1,_⟩;go_wp2_with fail;go_ret2;rw [←zU HP,drop_cons (zU HT),playF,if_pos (by rw [←zU HC];exact zU HZ),←zU HC];exact ⟨rfl,(hbel.alloc hbel.size _).trans hb1⟩
  ·have hkn2:k=n:=by omega
   have hpl2:play dict l=(s.drop dict.length,0):=by
    rw [←hpl,hkn2,List.drop_of_length_le (by have:=hl.1;omega),playF]
   obtain ⟨hbM,A1,cap1,hblk,hown⟩:=hMk;have c0:wr.cell? ⟨w.heap.size+1,0,none⟩=some (.slice A1 s.length cap1):=by rw [cell_of_row wr _ 0 _ _ _ hblk];rfl
   have HP:=zH hpl2;have HO:=zH hown;clear hpl2 hkn2 hblk hown hpl;have st1:=run_str_cut (P:=Tryz.prog) (k:=dict.length) (zU HO) 77 9 Tryz.underlying77 Tryz.underlying5 Tryz.underlying9
   have hnc:s.length≤cap1:=by
    rcases (zU HO).2 with ⟨hv,h0⟩ | ⟨g,cap',cur,fz,hv,_,_,_,h5,_⟩
    ·omega
    ·injection hv with _ _ h6;omega
   by_cases hcd:cap1=dict.length
   ·have hsl:s.length-dict.length=0:=by omega
    have st0:=fun (p:Option Addr) (c:Nat)=>run_str_zero (P:=Tryz.prog) wr p c 77 9 5 Tryz.underlying77 Tryz.underlying5 Tryz.underlying9;have hdr:s.drop dict.length=[]:=List.drop_of_length_le (by omega);have HD:=zH hdr;clear st1 hdr;go_wp2_with fail;go_ret2;rw [zU HP,zU HD];exact ⟨rfl,hbel⟩
   ·go_wp2_with fail;go_ret2;rw [zU HP];exact ⟨rfl,hbel⟩
set_option maxHeartbeats 1000000 in
set_option maxRecDepth 100000 in
theorem play_many (dict:Bytes) (A:Option Addr) (n cap:Nat) (w:World) (hd:256<dict.length) (hd2:dict.length≤9223372036854775807) :
  Calls Tryz.prog 163 #[S dict,.slice A n cap] w fun e w'=>e = .returned (.tuple #[S [],I 2])∧Below w.heap.size w w':=by
 go_enter Tryz.func163,Tryz.ntmps163;go_wp2_with fail;go_ret2;exact ⟨rfl,Below.refl _ _⟩
theorem play_any (dict:Bytes) (A:Option Addr) (n cap:Nat) (l:List Tok) (w:World) (hl:ToksAt w w.heap.size A n l) (hd:dict.length≤9223372036854775807) (hn:n≤4611686018427387904) :
  Calls Tryz.prog 163 #[S dict,.slice A n cap] w fun e w'=>e = .returned (.tuple #[S (play dict l).1,I (play dict l).2])∧Below w.heap.size w w':=by
 by_cases h:dict.length≤256
 ·exact play_walk dict A n cap l w hl h hn
 ·have e:play dict l=([],2):=by unfold play;exact if_pos (by unfold maxDict;omega)
  rw [e];exact play_many dict A n cap w (by omega) hd
set_option maxHeartbeats 1000000 in
set_option maxRecDepth 100000 in
theorem check_any (dict:Bytes) (A:Option Addr) (n cap:Nat) (l:List Tok) (w:World) (hl:ToksAt w w.heap.size A n l) (hd:dict.length≤9223372036854775807) (hn:n≤4611686018427387904) :
  Calls Tryz.prog 153 #[S dict,.slice A n cap] w fun e w'=>e = .returned (I (play dict l).2)∧Below w.heap.size w w':=by
 have c1:=zH (play_any dict A n cap l w hl hd hn);go_enter Tryz.func153,Tryz.ntmps153;go_wp2_with fail;refine (zU c1).mono ?_;rintro e w1 ⟨rfl,hb⟩;go_wp2_with fail;go_ret;exact ⟨rfl,hb⟩
end Go.Proofs.YtjpgoeimclipjaaGreat
namespace Go.Proofs.YtjpgoeimclipjaaGreat
open Go.RowKit Go.Lib Pl
theorem pw_wrap (m:Nat):wrap64 ((2:Int) ^ (15-m))=(pw m:Int):=by
 have h:(2:Int) ^ (15-m)=((pw m:Nat):Int):=by unfold pw;norm_cast
 have:=pw_le m;rw [h];exact IntWalk.wrap64_in _ ⟨by omega,by omega⟩
theorem kr1_zero {x:Int} (h:¬ 0<x):kr1 x=0:=by unfold kr1;rw [if_neg h]
theorem kr1_pos {m:Nat} (h:0<m):kr1 (m:Int)=pw m:=by unfold kr1;rw [if_pos (by omega)];rfl
theorem kr_take_le (l:List Int) (k:Nat) (hk:k≤16):kr (l.take k)≤524288:=by
 have:=kr_le (l.take k);rw [List.length_take] at this;omega
set_option maxHeartbeats 2000000 in
set_option maxRecDepth 100000 in
theorem checkCode_any (l:List Int) (w:World) (hl:l.length=16) :
  Calls Tryz.prog 175 #[A16 l] w fun e w'=>e = .returned (I (checkE l))∧Below w.heap.size w w':=by
 have hg0:=heap_alloc_new w (.cells (cells16 l) 145);have HG0:=zH hg0;have HL:=zH hl;have hbel:=(Below.refl w.heap.size w).alloc (Nat.le_refl _) (.cells (cells16 l) 145);have HBEL:=zH hbel;clear hl hg0 hbel;go_enter Tryz.func175,Tryz.ntmps175;go_wp2_with (first | (refine wpList_load16 rfl (.tmp 1) rfl w.heap.size rfl l (zU HL) (zU HG0) ?_) | fail);go_loop [3,5,7] (fun s _ i=>∃ (k:Nat) (r:Int),k≤16∧i = .int .i64 k∧s = .int .i64 r∧r=32768-(kr (l.take k):Int)∧(l.take k).any badL=false) (fun _ _ i=>16-(intOf i).toNat)
 case atStart=>exact ⟨0,32768,by omega,rfl,rfl,by simp [kr],by simp⟩
 case round =>
  obtain ⟨k,r,hk,rfl,rfl,hr,hnb⟩:=hrel;have hkl:=kr_take_le l k hk;have hr1 : -1000000≤r:=by omega
  have hr2:r≤32768:=by omega
  have HR:=zH hr;have HNB:=zH hnb;clear hr hnb hkl
  by_cases hk16:k<16
  ·obtain ⟨x,hx⟩:∃ x,l[k]? = some x:=⟨_,List.getElem?_eq_getElem (by have:=zU HL;omega)⟩
   have hix:=run_index16 l (zU HL) k x hx;have HX:=zH hx;clear hx
   by_cases hb:x<0∨15<x
   ·have hres:checkE l=3:=checkE_bad (bad_of_take (k:=k+1) (by rw [bad_take (zU HX)];simp [badL,hb]));have HRES:=zH hres
    have hsz:(x<0)∨(decide (x<0)=false∧15<x):=by
     rcases hb with h | h
     ·exact .inl h
     ·exact .inr ⟨by simp;omega,h⟩
    clear hres hb
    rcases hsz with h0 | ⟨h0,h1⟩
    all_goals
     go_wp2_with fail;go_ret;exact ⟨by rw [zU HRES];rfl,zU HBEL⟩
   ·have hnb2:(l.take (k+1)).any badL=false:=by rw [bad_take (zU HX),zU HNB];simp [badL];omega
    have HN2:=zH hnb2;obtain ⟨m,rfl⟩:=Int.eq_ofNat_of_zero_le (show 0≤x by omega);have hm15:m≤15:=by omega
    have d1:decide ((m:Int)<0)=false:=by simp
    have hkt:=kr_take (zU HX);have HKT:=zH hkt;have hpw:=pw_wrap m;have hpl:=pw_le m;clear hnb2 hkt hb
    by_cases hp:0<m
    ·have hk1:=kr1_pos hp;have HK1:=zH hk1;clear hk1;go_wp2_with fail;go_round
     case rel=>exact ⟨k+1,r-(pw m:Nat),by omega,by go_num,rfl,by rw [zU HR,zU HKT,zU HK1];omega,zU HN2⟩
     case measure=>simp [intOf];omega
    ·have hk1:=kr1_zero (x:=(m:Int)) (by omega);have HK1:=zH hk1;clear hk1;go_wp2_with fail;go_round
     case rel=>exact ⟨k+1,r,by omega,by go_num,rfl,by rw [zU HR,zU HKT,zU HK1];omega,zU HN2⟩
     case measure=>simp [intOf];omega
  ·have hfin:l.take k=l:=List.take_of_length_le (by have:=zU HL;omega);have hnb:=zU HNB;have hr:=zU HR;rw [hfin] at hnb hr
   by_cases hbad:kr l=0∨32768<kr l
   ·have hres:=checkE_form hnb hbad;have HRES:=zH hres
    have hsz:(r<0)∨(decide (r<0)=false∧(r == 32768)=true):=by
     rcases hbad with h | h
     ·exact .inr ⟨by simp;omega,by rw [beq_iff_eq];omega⟩
     ·exact .inl (by omega)
    clear hres hbad hnb hr hfin
    rcases hsz with h0 | ⟨h0,h1⟩
    all_goals
     go_wp2_with fail;go_ret;exact ⟨by rw [zU HRES];rfl,zU HBEL⟩
   ·have hres:=checkE_ok hnb hbad;have HRES:=zH hres;have h0:decide (r<0)=false:=by simp;omega
    have h1:(r == 32768)=false:=by rw [beq_eq_false_iff_ne];omega
    clear hres hbad hnb hr hfin;go_wp2_with fail;go_ret;exact ⟨by rw [zU HRES];rfl,zU HBEL⟩
end Go.Proofs.YtjpgoeimclipjaaGreat
namespace Go.Proofs.YtjpgoeimclipjaaGreat
open Go.RowKit Go.Lib Pl
theorem fold_min_ge:∀ (l:List Int) (a b:Int),b≤l.foldl min a↔b≤a∧∀ x∈l,b≤x
 | [],a,b=>by simp
 | x::l,a,b=>by
  rw [List.foldl_cons,fold_min_ge l];simp only [List.mem_cons,forall_eq_or_imp];constructor
  ·rintro ⟨h1,h2⟩;exact ⟨by omega,by omega,h2⟩
  ·rintro ⟨h1,h2,h3⟩;exact ⟨by omega,h3⟩
theorem fold_max_le:∀ (l:List Int) (a b:Int),l.foldl max a≤b↔a≤b∧∀ x∈l,x≤b
 | [],a,b=>by simp
 | x::l,a,b=>by
  rw [List.foldl_cons,fold_max_le l];simp only [List.mem_cons,forall_eq_or_imp];constructor
  ·rintro ⟨h1,h2⟩;exact ⟨by omega,by omega,h2⟩
  ·rintro ⟨h1,h2,h3⟩;exact ⟨by omega,h3⟩
theorem minOf_ge {l:List Int} (h:l≠[]) (b:Int):b≤Lib.minOf l↔∀ x∈l,b≤x:=by
 unfold Lib.minOf;rw [fold_min_ge];cases l with
 | nil=>exact absurd rfl h
 | cons a l =>
  simp only [List.headD_cons,List.mem_cons,forall_eq_or_imp];exact ⟨fun h=>h.2,fun h=>⟨h.1,h⟩⟩
theorem maxOf_le {l:List Int} (h:l≠[]) (b:Int):Lib.maxOf l≤b↔∀ x∈l,x≤b:=by
 unfold Lib.maxOf;rw [fold_max_le];cases l with
 | nil=>exact absurd rfl h
 | cons a l =>
  simp only [List.headD_cons,List.mem_cons,forall_eq_or_imp];exact ⟨fun h=>h.2,fun h=>⟨h.1,h⟩⟩
theorem fine_iff (c:List Int):fineB c=true↔(∀ x∈c,0≤x)∧∀ x∈c,x≤2048:=by
 constructor
 ·intro h;have:=fine_all h;exact ⟨fun x hx=>(this x hx).1,fun x hx=>(this x hx).2⟩
 ·rintro ⟨h1,h2⟩;exact fine_of_all fun x hx=>⟨h1 x hx,h2 x hx⟩
set_option maxHeartbeats 1000000 in
set_option maxRecDepth 100000 in
theorem fine_any (c:List Int) (w:World) (hc:c.length=16) :
  Calls Tryz.prog 170 #[A16 c] w fun e w'=>e = .returned (.bool (fineB c))∧Below w.heap.size w w':=by
 have hg0:=heap_alloc_new w (.cells (cells16 c) 145);have hbel:=(Below.refl w.heap.size w).alloc (Nat.le_refl _) (.cells (cells16 c) 145);have HBEL:=zH hbel;have hne:c≠[]:=by intro e;rw [e] at hc;simp at hc
 have hcell:∀ j,j<c.length→(w.alloc (.cells (cells16 c) 145)).cell? ⟨w.heap.size,0+j,none⟩=some (.int .i64 (c.getD j 0)):=fun j hj=>by
  rw [Nat.zero_add];refine cell16 hg0 ?_;rw [List.getD_eq_getElem?_getD,List.getElem?_eq_getElem hj];rfl
 have ht:c.take 16=c:=List.take_of_length_le (by omega);have K1:=Tryz.slices_Min_int w.heap.size 0 16 16 c (w.alloc (.cells (cells16 c) 145)) (by omega) (by omega) (by omega) hcell;have K2:=Tryz.slices_Max_int w.heap.size 0 16 16 c (w.alloc (.cells (cells16 c) 145)) (by omega) (by omega) (by omega) hcell;rw [ht] at K1 K2;have hf:=fine_iff c;rw [←minOf_ge hne,←maxOf_le hne] at hf;obtain ⟨a,ha⟩:∃ a,a=Lib.minOf c:=⟨_,rfl⟩
 obtain ⟨b,hb⟩:∃ b,b=Lib.maxOf c:=⟨_,rfl⟩
 rw [←ha] at K1 hf;rw [←hb] at K2 hf;have K1:=zH K1;have K2:=zH K2;clear ha hb hcell hg0 hbel ht hne;cases hfb:fineB c with
 | true =>
  obtain ⟨h1,h2⟩:=hf.1 hfb;clear hf hfb;go_enter Tryz.func170,Tryz.ntmps170
  go_wp2_with (first
   | (go_at_call 196;refine (zU K1).mono ?_;rintro e w1 ⟨rfl,rfl⟩)
   | (go_at_call 197;refine (zU K2).mono ?_;rintro e w1 ⟨rfl,rfl⟩))
  go_ret;exact ⟨rfl,zU HBEL⟩
 | false =>
  have hcs:(a<0)∨(0≤a∧2048<b∧decide (b≤2048)=false):=by
   by_cases h1:a<0
   ·exact .inl h1
   ·refine .inr ⟨by omega,?_⟩
    rcases Int.lt_or_le 2048 b with h2 | h2
    ·exact ⟨h2,by simp;omega⟩
    ·have:=hf.2 ⟨by omega,h2⟩;rw [hfb] at this;cases this
  clear hf hfb
  rcases hcs with h1 | ⟨h1,h2,h3⟩
  all_goals
   go_enter Tryz.func170,Tryz.ntmps170
   go_wp2_with (first
    | (go_at_call 196;refine (zU K1).mono ?_;rintro e w1 ⟨rfl,rfl⟩)
    | (go_at_call 197;refine (zU K2).mono ?_;rintro e w1 ⟨rfl,rfl⟩))
   go_ret;exact ⟨rfl,zU HBEL⟩
end Go.Proofs.YtjpgoeimclipjaaGreat
namespace Go.Proofs.YtjpgoeimclipjaaGreat
open Go.RowKit Go.Lib Pl
theorem zero16v (w:World):(zeroValue 145).run Tryz.prog w = .ok (A16 (Lf fun _=>0)) w:=(zero_of_info (n:=16) (by kernel_rfl)).1 w
theorem cells16_set (l:List Int) (i:Nat) (v:Int):(cells16 l).setIfInBounds i (.int .i64 v)=cells16 (l.set i v):=by
 simp [cells16,List.map_set]
theorem cells16_one (l:List Int):(cells16 l).all (·.oneCell')=true:=by
 rw [Array.all_eq_true_iff_forall_mem];intro v hv;simp only [cells16,List.mem_toArray,List.mem_map] at hv;obtain ⟨x,_,rfl⟩:=hv;rfl
structure BAt (c L:List Int) (w wr:World) (B:Nat):Prop where
 a:wr.heap[B]? = some (.cells (cells16 c) 145 (0,0))
 z:wr.heap[B+1]? = some (.cells (cells16 (Lf fun _=>0)) 145 (0,0))
 o:wr.heap[B+2]? = some (.cells (cells16 L) 145 (0,0))
 bel:Below B w wr
theorem BAt.size {c L:List Int} {w wr:World} {B:Nat} (h:BAt c L w wr B):B+3≤wr.heap.size:=(Array.getElem?_eq_some_iff.1 h.o).1
theorem BAt.below {c L:List Int} {w wr w1:World} {B:Nat} (h:BAt c L w wr B) (hb:Below wr.heap.size wr w1):BAt c L w w1 B:=by
 have s:=h.size;exact ⟨(hb.block _ (by omega)).trans h.a,(hb.block _ (by omega)).trans h.z,(hb.block _ (by omega)).trans h.o,h.bel.trans (hb.mono (by omega))⟩
theorem BAt.below3 {c L:List Int} {w wr w1:World} {B:Nat} (h:BAt c L w wr B) (hb:Below (B+3) wr w1):BAt c L w w1 B :=
 ⟨(hb.block _ (by omega)).trans h.a,(hb.block _ (by omega)).trans h.z,(hb.block _ (by omega)).trans h.o,h.bel.trans (hb.mono (by omega))⟩
theorem BAt.put {c L:List Int} {w wr:World} {B:Nat} (h:BAt c L w wr B) (i:Nat) (v:Int):BAt c (L.set i v) w (wr.setCell ⟨B+2,i,none⟩ (.int .i64 v)) B:=by
 refine ⟨?_,?_,?_,?_⟩
 ·rw [heap_setCell_other _ _ _ _ (by show B≠B+2;omega)];exact h.a
 ·rw [heap_setCell_other _ _ _ _ (by show B+1≠B+2;omega)];exact h.z
 ·rw [heap_setCell_same _ _ _ _ _ _ h.o,cells16_set]
 ·exact h.bel.setCell (by show B≤B+2;omega) _
theorem BAt.start (c:List Int) (w:World):BAt c (Lf fun _=>0) w (((w.alloc (.cells (cells16 c) 145)).alloc (.cells (cells16 (Lf fun _=>0)) 145)).alloc (.cells (cells16 (Lf fun _=>0)) 145)) w.heap.size:=by
 have e1:(w.alloc (.cells (cells16 c) 145)).heap.size=w.heap.size+1:=by simp
 have e2:((w.alloc (.cells (cells16 c) 145)).alloc (.cells (cells16 (Lf fun _=>0)) 145)).heap.size=w.heap.size+2:=by simp
 refine ⟨?_,?_,?_,(((Below.refl _ _).alloc (Nat.le_refl _) _).alloc (by simp) _).alloc (by simp;omega) _⟩
 ·exact (Below.heap_alloc _ _ _ (by rw [e2];omega)).trans (heap_alloc2_old _ _ _)
 ·exact (Below.heap_alloc _ _ _ (by rw [e2];omega)).trans (heap_alloc2_new _ _ _)
 ·rw [←e2];exact heap_alloc_new _ _
theorem BAt.res {c L:List Int} {w wr:World} {B:Nat} (h:BAt c L w wr B) (cs:Array Value):(wr.setRow (B+1) cs).heap[B+1]? = some (.cells cs 145 (0,0)):=setRow_heap _ _ _ _ _ _ h.z
theorem own_part {w:World} {base n:Nat} {v:Value} {e:TypeId} {size:Nat} {xs:List Value} (h:w.ownsRow base e size v n xs) {w':World} (hg:∀ k,base≤k→k<w.heap.size→w'.heap[k]? = w.heap[k]?):w'.ownsRow base e size v n xs:=by
 refine ⟨h.1,?_⟩
 rcases h.2 with hn | ⟨g,cap,cur,hv,hb,hg',rest⟩
 ·exact .inl hn
 ·exact .inr ⟨g,cap,cur,hv,hb,(hg g hb (Array.getElem?_eq_some_iff.1 hg').1).trans hg',rest⟩
theorem sizeI:(Tryz.prog.info? 145).map (·.size)=some 16:=by kernel_rfl
theorem cells16_size {l:List Int} (h:l.length=16):(cells16 l).size=16:=by simp [cells16,h]
def slLen:Value→Nat
 | .slice _ n _=>n
 | _=>0
theorem build_le:∀ (f:Nat) (l:List Tr) (i:Nat),build f l i≤f
 | 0,_,_=>Nat.le_refl _
 | f+1,l,i=>by
  rw [build]
  split
  ·have:=build_le f (‹List Tr›++[mgT ‹Tr› ‹Tr›]) i
   rename_i a b r _
   have:=build_le f (r++[mgT a b]) i
   split <;> omega
  ·omega
end Go.Proofs.YtjpgoeimclipjaaGreat
