/- Parts of the proofs. -/
import Derived.Test.YtjpgoeimclipjaaGreatLg14
namespace Go.Proofs.YtjpgoeimclipjaaGreat
namespace Pl
theorem nb_inj {a b:Nat} (ha:a≤maxNum) (hb:b≤maxNum) {x y:Bytes} (h:nb a++x=nb b++y):a=b∧x=y:=by
 have h1:=take_nb ha x;rw [h,take_nb hb y] at h1;simp at h1;exact ⟨h1.1.symm,h1.2.symm⟩
end Pl
end Go.Proofs.YtjpgoeimclipjaaGreat
namespace Go.Proofs.YtjpgoeimclipjaaGreat
namespace Pl
theorem take_cut {n k:Nat} (hn:n≤maxNum) (hk:k<(nb n).length):take ((nb n).take k)=none:=by
 cases h:take ((nb n).take k) with
 | none=>rfl
 | some p =>
  obtain ⟨m,r⟩:=p;obtain ⟨h1,h2⟩:=take_some h
  have e:nb n++[]=nb m++(r++(nb n).drop k):=by
   rw [List.append_nil,←List.append_assoc,←h1,List.take_append_drop]
  obtain ⟨_,e2⟩:=nb_inj hn h2 e
  have:((nb n).drop k).length=0:=by
   have:=congrArg List.length e2;simp only [List.length_nil,List.length_append] at this;omega
  rw [List.length_drop] at this;omega
theorem actFrom_cut {x:Act'} (h:actE x=0) {k:Nat} (hk:k<(actB x).length):actFrom ((actB x).take k)=none:=by
 have hl:=actIn_len h;have hn:(actIn x).length≤maxNum:=by unfold maxNum;omega
 have hc:cutT ((actB x).take k)=none:=by
  unfold actB textB at hk ⊢;rw [List.take_append]
  by_cases h1:k<(nb (actIn x).length).length
  ·rw [show k-(nb (actIn x).length).length=0 from by omega,List.take_zero,List.append_nil];unfold cutT;rw [take_cut hn h1]
  ·rw [List.take_of_length_le (by omega)];unfold cutT;rw [take_nb hn];simp only;rw [List.length_append] at hk;rw [if_pos (by rw [List.length_take];omega)]
 unfold actFrom;rw [hc]
theorem Kept.store {l:List Act'} {s:Bytes} {x:Act'} (h:Kept l s) (hs:(storeA s x).2=0):(storeA s x).1=s++actB x∧Kept (l++[x]) (s++actB x)∧5≤(actB x).length:=by
 obtain ⟨h1,h2,h3⟩:=h.replay;unfold storeA at hs ⊢;rw [h1,h2,h3] at hs ⊢;rw [if_neg (by omega)] at hs ⊢
 by_cases e1:actE x≠0
 ·rw [if_pos e1] at hs;exact absurd hs e1
 ·rw [if_neg e1] at hs ⊢;have e1:=Decidable.not_not.1 e1
  split at hs
  ·cases hs
  ·rename_i e2
   rw [if_neg e2]
   split at hs
   ·rename_i e3;exact absurd hs e3
   ·rename_i e3
    rw [if_neg e3];simp only [List.take_length];refine ⟨trivial,⟨?_,?_,?_,?_⟩,(actB_len e1).2⟩
    ·rw [actsB_app,h.bytes];simp [actsB]
    ·intro y hy
     rcases List.mem_append.1 hy with hy | hy
     ·exact h.each y hy
     ·rw [List.mem_singleton.1 hy];exact e1
    ·simp;omega
    ·simp;omega
def endsOf:Nat→List Act'→List Nat
 | _,[]=>[]
 | n,x::l=>(n+(actB x).length)::endsOf (n+(actB x).length) l
theorem endsOf_snoc:∀ (l:List Act') (n:Nat) (x:Act'),endsOf n (l++[x])=endsOf n l++[n+(actsB (l++[x])).length]
 | [],n,x=>by simp [endsOf,actsB]
 | y::l,n,x=>by
  rw [List.cons_append,endsOf,endsOf,endsOf_snoc l _ x,List.cons_append,actsB_cons,List.length_append]
  congr 3;omega
theorem endsOf_get:∀ (l:List Act') (n i:Nat) (_:i<l.length),(endsOf n l)[i]? = some (n+(actsB (l.take (i+1))).length)
 | x::l,n,0,_=>by simp [endsOf,actsB]
 | x::l,n,i+1,h=>by
  rw [endsOf,List.getElem?_cons_succ,endsOf_get l _ i (by simpa using h),List.take_succ_cons,actsB_cons,List.length_append]
  congr 1;omega
theorem Kept.cut {l:List Act'} {s:Bytes} (h:Kept l s) {k w:Nat} (hw:w≤l.length) (h1:(actsB (l.take w)).length≤k) (h2:w<l.length→k<(actsB (l.take (w+1))).length) (hk:k≤s.length) :
  replayL (s.take k)=l.take w∧replayE (s.take k)=0:=by
 have hs:s=actsB (l.take w)++actsB (l.drop w):=by rw [←actsB_app,List.take_append_drop,h.bytes]
 have ht:s.take k=actsB (l.take w)++(actsB (l.drop w)).take (k-(actsB (l.take w)).length):=by
  rw [hs,List.take_append,List.take_of_length_le h1]
 have hr:actFrom ((actsB (l.drop w)).take (k-(actsB (l.take w)).length))=none:=by
  cases hd:l.drop w with
  | nil=>rw [show actsB []=[] from rfl,List.take_nil];exact actFrom_nil
  | cons x r =>
   have hwl:w<l.length:=by
    have:=congrArg List.length hd;rw [List.length_drop,List.length_cons] at this;omega
   have hx:l.take (w+1)=l.take w++[x]:=by
    rw [List.take_add_one]
    congr 1
    have:(l.drop w)[0]? = some x:=by rw [hd];rfl
    rw [List.getElem?_drop] at this;simp at this;simp [this]
   have hlt:=h2 hwl;rw [hx,actsB_app,List.length_append] at hlt;have e:(actsB [x]).length=(actB x).length:=by simp [actsB]
   have he:actE x=0:=h.each x (List.mem_of_mem_drop (by rw [hd];simp));rw [actsB_cons,List.take_append,show k-(actsB (l.take w)).length-(actB x).length=0 from by omega,List.take_zero,List.append_nil];exact actFrom_cut he (by omega)
 have:=replay_acts (l:=l.take w) (fun x hx=>h.each x (List.mem_of_mem_take hx)) (by rw [List.length_take];have:=h.few;omega) hr (by rw [←ht,List.length_take];have:=h.size;omega);rw [←ht] at this;exact ⟨this.1,this.2.2⟩
end Pl
end Go.Proofs.YtjpgoeimclipjaaGreat
namespace Go.Proofs.YtjpgoeimclipjaaGreat
open Go.RowKit Go.Lib Pl
section
variable {w W W' : World} {B : Nat} {l : List Vr}
theorem St.tail {x:Vr} (h:St w W B (x::l)):St w W B l:=⟨fun y hy=>h.v y (List.mem_cons_of_mem _ hy),h.bel,h.le⟩
end
end Go.Proofs.YtjpgoeimclipjaaGreat
namespace Go.Proofs.YtjpgoeimclipjaaGreat
open Go.ChangeShapes Go.WideShapes Go.Deep Go.RowKit Go.Lib Pl
set_option maxRecDepth 100000 in
theorem open_acts {H:Type} {enc:TypeId×Value→H} {w:World} {base:Nat} {v:Value} {d:DataW H} {p:List MemPlace}
  (hok:Value.okWide Tryz.prog w .any base 22 v) (h:DataW.Trod enc Tryz.prog w 0 (fun _=>true) true 22 v d p) (hlt:∀ x∈p,x.block<w.heap.size) (hwt:∀ n∈d.weights Tryz.prog 22,n≤reachBytes) :
  ∃ A n cap l,v = .slice A n cap∧actsAt w w.heap.size A n l∧(∀ t∈l,ActSz t)∧n≤4611686018427387904:=by
 obtain ⟨fuel,hf⟩:=h;obtain ⟨A,n,cap,rfl⟩:∃ A n cap,v = .slice A n cap:=okWide_slice Tryz.underlying22 hok;have hf:DataW.trod enc Tryz.prog w 0 (fun _=>true) true fuel 22 [.slice A n cap]=some (d,p):=hf
 rcases open_slice_fields Tryz.underlying22 Tryz.underlying29 (by kernel_rfl) (by kernel_rfl) hf with ⟨hcs,hx⟩ | ⟨a,len,cap',m,D,Pl,hcs,_,hlc,hcm,hm,hx,hi⟩
 ·injection hcs with hcs
  exact ⟨_,_,_,[],hcs,⟨rfl,fun h=>absurd h (by omega)⟩,by simp,by omega⟩
 ·injection hcs with hcs
  have hm:m=cap':=by simpa using hm
  subst hm;injection hx with hd hp
  have hbt:Tryz.prog.bytesOf 29=48:=by kernel_rfl
  have hrb:reachBytes=140737488351232:=rfl
  have hn:len≤4611686018427387904:=by
   have:=hwt (((List.range len).map D).length*48+((List.range (m-len)).map fun j=>D (len+j)).length*48) (by
    rw [hd];simp only [DataW.weights,Tryz.underlying22,hbt,Nat.add_mul];exact List.mem_cons_self)
   simp at this;omega
  have hl:∀ i,i<len→∃ t:Act',(w.cell? (a.add (i*4))=some (I t.kind)∧w.cell? (a.add (i*4+1))=some (I t.n)∧w.cell? (a.add (i*4+2))=some (S t.name)∧w.cell? (a.add (i*4+3))=some (S t.text))∧ActSz t:=by
   intro i hin;obtain ⟨ys,k,hD,_,_,hf⟩:=hi i (by omega);obtain ⟨v0,y0,c0,e0,t0⟩:=hf 0 _ rfl;obtain ⟨v1,y1,c1,e1,t1⟩:=hf 1 _ rfl;obtain ⟨v2,y2,c2,e2,t2⟩:=hf 2 _ rfl;obtain ⟨v3,y3,c3,e3,t3⟩:=hf 3 _ rfl;obtain ⟨x0,hx0,hy0,hw0⟩:=DataW.trod_int Tryz.underlying3 t0;obtain ⟨x1,hx1,hy1,hw1⟩:=DataW.trod_int Tryz.underlying3 t1;obtain ⟨s,hs,hys,_⟩:=DataW.trod_string Tryz.underlying9 t2;obtain ⟨u,hu,hyu,_⟩:=DataW.trod_string Tryz.underlying9 t3;injection hx0 with hx0
   injection hx1 with hx1
   injection hs with hs
   injection hu with hu
   subst hs;subst hx1;subst hx0;subst hu;have hmem:D i∈(List.range len).map D:=List.mem_map.2 ⟨i,List.mem_range.2 hin,rfl⟩
   have hwi:∀ n∈(D i).weights Tryz.prog 29,n≤reachBytes:=fun n hn=>hwt n (by
    rw [hd];simp only [DataW.weights,Tryz.underlying22,List.mem_cons,List.mem_append];exact .inr (.inl (weights_all_mem hmem _ hn)))
   have hwj:∀ (j:Nat) (t:TypeId) (y:DataW H),(Tryz.prog.underlying 29).map (fun d=>match d with | .struct fs=>(fs.toList.map (·.type))[j]? | _=>none)=some (some t)→(ys.map (·.1))[j]? = some y→∀ n∈y.weights Tryz.prog t,n≤reachBytes:=by
    intro j t y ht hy n hn;refine hwi n ?_;rw [hD];simp only [Tryz.underlying29,Option.map_some,Option.some.injEq] at ht;simp only [DataW.weights,Tryz.underlying29];exact DataW.weights_mem_each ht hy n hn
   have b2:=hwj 2 9 y2.1 (by rw [Tryz.underlying29];rfl) (by rw [List.getElem?_map,e2];rfl) s.data.toList.length (by rw [hys];simp [DataW.weights]);have b3:=hwj 3 9 y3.1 (by rw [Tryz.underlying29];rfl) (by rw [List.getElem?_map,e3];rfl) u.data.toList.length (by rw [hyu];simp [DataW.weights]);obtain ⟨r0,r0'⟩:=lit_range hw0;obtain ⟨r1,r1'⟩:=lit_range hw1;exact ⟨⟨x0,x1,s.data.toList,u.data.toList⟩,⟨c0,c1,c2,c3⟩,⟨r0,r0',r1,r1',by show s.data.toList.length≤_;omega,by show u.data.toList.length≤_;omega⟩⟩
  obtain ⟨l,hll,hlp⟩:=list_of len _ hl;refine ⟨_,len,m,l,hcs,⟨hll,fun hn=>?_⟩,fun t ht=>?_,hn⟩
  ·obtain ⟨b,off,spot⟩:=a
   have hspot:spot=none:=by
    obtain ⟨t,⟨c0,_⟩,_⟩:=hl 0 hn;simpa [Addr.add] using World.cell?_spot c0
   subst hspot
   have hb:b<w.heap.size:=by
    refine hlt (.cell b off) ?_;rw [hp];exact List.mem_append_left _ (MemPlace.mem_row.2 ⟨0,by simp;omega,rfl⟩)
   refine ⟨b,off,rfl,hb,fun i t ht=>?_⟩;have:=(hlp i t ht).1;simpa only [Go.WideShapes.add_plain,Nat.add_assoc] using this
  ·obtain ⟨i,hi2⟩:=List.mem_iff_getElem?.1 ht;exact (hlp i t hi2).2
end Go.Proofs.YtjpgoeimclipjaaGreat
namespace Go.Proofs.YtjpgoeimclipjaaGreat
open Go.RowKit Go.Lib Pl
attribute [local go_sem] ext_list app_list
theorem choose_any (c:Int) (n:Nat) (w:World) (h1 : -9223372036854775808≤c) (h2:c≤9223372036854775807) (h0:0<n) (hn:n≤1000000000) :
  Calls Tryz.prog 20 #[I c,I n] w fun e w'=>(∃ r:Nat,r<n∧e = .returned (.int .i64 r))∧w=w':=by
 have hn0:(0:Int)<(n:Int):=by omega
 have hnz:((n:Int) == 0)=false:=by rw [beq_eq_false_iff_ne];omega
 by_cases hc:c<0
 ·have e1:IntKind.i64.wrap (c+1)=c+1:=IntWalk.i64_in _ ⟨by omega,by omega⟩;have e2:IntKind.i64.wrap (-(c+1)) = -(c+1):=IntWalk.i64_in _ ⟨by omega,by omega⟩;have e3:0≤-(c+1):=by omega
  go_enter Tryz.func20,Tryz.ntmps20;go_wp2_with fail;go_ret;refine ⟨⟨((-(c+1)) % (n:Int)).toNat,?_,?_⟩,rfl⟩
  ·have:=Int.emod_lt_of_pos (-(c+1)) hn0;have:=Int.emod_nonneg (-(c+1)) (show (n:Int)≠0 by omega);omega
  ·have:=Int.emod_nonneg (-(c+1)) (show (n:Int)≠0 by omega);rw [Int.toNat_of_nonneg this];have h : -((c+1).tmod (n:Int))=(-(c+1)) % (n:Int):=by rw [←Int.neg_tmod,Int.tmod_eq_emod_of_nonneg e3]
   rw [←h];rfl
 ·have e3:0≤c:=by omega
  go_enter Tryz.func20,Tryz.ntmps20;go_wp2_with fail;go_ret;refine ⟨⟨(c % (n:Int)).toNat,?_,?_⟩,rfl⟩
  ·have:=Int.emod_lt_of_pos c hn0;have:=Int.emod_nonneg c (show (n:Int)≠0 by omega);omega
  ·have:=Int.emod_nonneg c (show (n:Int)≠0 by omega);rw [Int.toNat_of_nonneg this];rfl
end Go.Proofs.YtjpgoeimclipjaaGreat
namespace Go.Proofs.YtjpgoeimclipjaaGreat
open Go.RowKit Go.Lib Pl
attribute [local go_sem] ext_list app_list
def endV (e:Nat):Value:=I (e:Int)
structure KpM (w W:World) (B:Nat) (A1:Option Addr) (m c1:Nat) (A2:Option Addr) (c2:Nat) (acc:List Act'):Prop where
 k:W.ownsRow B 29 4 (.slice A1 m c1) m (actsCells acc)
 e:W.ownsRow B 3 1 (.slice A2 m c2) m ((endsOf 0 acc).map endV)
 bel:Below B w W
section
variable {w W W' : World} {B : Nat} {A1 : Option Addr} {m c1 : Nat} {A2 : Option Addr} {c2 : Nat} {acc : List Act'}
theorem KpM.below (h:KpM w W B A1 m c1 A2 c2 acc) (hb:Below W.heap.size W W') (hB:B≤W.heap.size):KpM w W' B A1 m c1 A2 c2 acc:=⟨own_below h.k hb,own_below h.e hb,h.bel.trans (hb.mono hB)⟩
theorem KpM.len (h:KpM w W B A1 m c1 A2 c2 acc):acc.length=m:=by have:=h.k.1;rw [actsCells_len] at this;omega
theorem KpM.acts (h:KpM w W B A1 m c1 A2 c2 acc):actsAt W W.heap.size A1 m acc:=by
 obtain ⟨A,c,hv,hat,_⟩:=actsAt_of_own h.k;injection hv with e1 _ _
 rw [e1];exact hat
theorem KpM.at_ (h:KpM w W B A1 m c1 A2 c2 acc) {i:Nat} (hi:i<m):∃ g,A2=some ⟨g,0,none⟩∧W.cell? ⟨g,i,none⟩=some (I ((actsB (acc.take (i+1))).length:Nat)):=by
 rcases h.e.2 with ⟨hv,h0⟩ | ⟨g,cap,cur,hv,_⟩
 ·omega
 ·injection hv with hA _ _
  have hc:=h.e.cells (g:=g) (by rw [hA];rfl) i (I ((actsB (acc.take (i+1))).length:Nat)) (by
   rw [List.getElem?_map,endsOf_get acc 0 i (by have:=h.len;omega),Nat.zero_add];rfl)
  rw [Addr.add_lit,Nat.zero_add] at hc;exact ⟨g,hA,hc⟩
end
theorem acts_take {w:World} {Bd n j:Nat} {A:Option Addr} {l:List Act'} (h:actsAt w Bd A n l) (hj:j≤n):actsAt w Bd A j (l.take j) :=
 ⟨by rw [List.length_take,h.1];omega,fun h0=>by
  obtain ⟨b,off,e,hb,hc⟩:=h.2 (by omega);refine ⟨b,off,e,hb,fun i t hi=>hc i t ?_⟩
  have hil:i<j:=by
   have:=(List.getElem?_eq_some_iff.1 hi).1;rw [List.length_take] at this;omega
  rwa [List.getElem?_take_of_lt hil] at hi⟩
theorem slice_pre {s b:Bytes} : Pl.slice (s++b) 0 s.length=s:=by unfold Pl.slice;simp
structure KpS (w W:World) (B:Nat) (l:List Vr) (A1:Option Addr) (m c1:Nat) (A2:Option Addr) (c2:Nat) (acc:List Act'):Prop where
 s:St w W B l
 r:KpM w W B A1 m c1 A2 c2 acc
section
variable {w W W' : World} {B : Nat} {l : List Vr} {A1 : Option Addr} {m c1 : Nat} {A2 : Option Addr} {c2 : Nat} {acc : List Act'}
theorem KpS.below (h:KpS w W B l A1 m c1 A2 c2 acc) (hb:Below W.heap.size W W'):KpS w W' B l A1 m c1 A2 c2 acc:=⟨h.s.below hb,h.r.below hb h.s.le⟩
theorem KpS.drew (h:KpS w W B l A1 m c1 A2 c2 acc):KpS w W.drew B l A1 m c1 A2 c2 acc:=h.below (Below.refl _ _).drew
theorem KpS.new (h:KpS w W B l A1 m c1 A2 c2 acc) {A A2':Option Addr} {n n2:Nat} {a:Arc} (hi:ArcIn W A n A2' n2 a) (cap cap2:Nat) :
  KpS w ((W.alloc (.cells #[.slice none 0 0,.slice none 0 0] 33)).setRow W.heap.size #[.slice A n cap,.slice A2' n2 cap2]) B (⟨W.heap.size,A,n,cap,A2',n2,cap2,a⟩::l) A1 m c1 A2 c2 acc :=
 ⟨h.s.new hi cap cap2,h.r.below (below_setRow ((Below.refl _ _).alloc (Nat.le_refl _) _) (Nat.le_refl _) _) h.s.le⟩
theorem KpS.tail {x:Vr} (h:KpS w W B (x::l) A1 m c1 A2 c2 acc):KpS w W B l A1 m c1 A2 c2 acc:=⟨h.s.tail,h.r⟩
end
set_option maxHeartbeats 8000000 in
set_option maxRecDepth 100000 in
theorem logKept_any (A:Option Addr) (n cap:Nat) (l:List Act') (cut:Int) (w:World) (h:actsAt w w.heap.size A n l) (hl:∀ x∈l,ActSz x) (hn:n≤4611686018427387904) (hc1 : -9223372036854775808≤cut) (hc2:cut≤9223372036854775807) (hm:MaxLenIs w) :
  Calls Tryz.prog 3 #[.slice A n cap,I cut] w fun e w'=>e = .returned (.bool true)∧Below w.heap.size w w':=by
 obtain ⟨B,hB⟩:∃ B,B=w.heap.size:=⟨_,rfl⟩
 have HB:=zH hB;have HM:=zH (fun (W:World) (hb:Below B w W)=>hm.up (by rw [←hB];exact hb));have HAT:=zH (fun (W:World) (hb:Below B w W)=>h.below (by rw [←hB];exact hb))
 by_cases hbig:24<n
 ·have z1:(24:Int)<(n:Int):=by omega
  have C:=zH (logBegun_any w hm);rw [←hB];clear hB h hl hm hbig hn;go_enter Tryz.func3,Tryz.ntmps3;go_wp2_with fail;refine (zU C).mono ?_;rintro e w1 ⟨rfl,hb1⟩;have HB1:=zH hb1;clear hb1;go_wp2_with fail;go_ret;exact ⟨rfl,by rw [zU HB];exact zU HB1⟩
 have z1:¬ (24:Int)<(n:Int):=by omega
 have z2:decide ((24:Int)<(n:Int))=false:=by simp;omega
 have z3:decide (24<n)=false:=by simp;omega
 have hn24:n≤24:=by omega
 have HL:=zH hl;obtain ⟨i0,hi,hz0,hz1,hz2⟩:=info_parts info_intP;rw [←hB];clear hB h hl hm hbig hn;go_enter Tryz.func3,Tryz.ntmps3;go_wp2_with fail;clear z1 z2 z3;go_loopw [5,6,7,8,9,10] (fun sv kv ev iv _ _ wr=>∃ (i:Nat) (acc:List Act') (s:Bytes) (A1:Option Addr) (m c1:Nat) (A2:Option Addr) (c2:Nat),i≤n∧iv = .int .i64 i∧sv=S s∧kv = .slice A1 m c1∧ev = .slice A2 m c2∧m≤i∧Kept acc s∧KpM w wr B A1 m c1 A2 c2 acc) (fun _ _ _ iv _ _ _=>n-(intOf iv).toNat)
 case atStart=>exact ⟨0,[],[],none,0,0,none,0,by omega,rfl,rfl,rfl,rfl,by omega,Kept.nil,⟨World.ownsRow_nil _ _ _ _,World.ownsRow_nil _ _ _ _,Below.refl _ _⟩⟩
 case round =>
  obtain ⟨i,acc,s,A1,m,c1,A2,c2,hin,rfl,rfl,rfl,rfl,hmi,hkp,hmem⟩:=hrel;have hsl:=hkp.size;have HK:=zH hkp;have HMEM:=zH hmem;have hBle:B≤wr.heap.size:=by have:=hmem.bel.size;have:=zU HB;omega
  by_cases hi1:i<n
  ·obtain ⟨b,off,x,rfl,hb,hx,x0,x1,x2,x3⟩:=(zU HAT wr hmem.bel).at_ (k:=i) hi1;have hxs:=zU HL x (List.mem_of_getElem? hx);have CS:=fun (W:World) (hM:MaxLenIs W)=>store_any s x W (by omega) hxs hM;have hst:=Kept.store (x:=x) hkp;obtain ⟨r,hr⟩:∃ r,r=storeA s x:=⟨_,rfl⟩
   rw [←hr] at CS hst;have CS:=zH CS;have y0:(0:Int)≤(i:Int):=by omega
   have y1:(i:Int)<(n:Int):=by omega
   clear hx hxs hr hkp
   by_cases he:r.2≠0
   ·have d1:((r.2:Int) != 0)=true:=by rw [bne_iff_ne];omega
    have d2:((r.2:Int) == 0)=false:=by rw [beq_eq_false_iff_ne];omega
    clear he hst hmem;go_wp2_with fail;refine (zU CS _ (zU HM _ (zU HMEM).bel)).mono ?_;rintro e w1 ⟨rfl,hb1⟩;have HMEM1:=zH ((zU HMEM).below hb1 hBle);clear hb1;go_wp2_with fail;go_roundw
    case rel=>exact ⟨i+1,acc,s,A1,m,c1,A2,c2,by omega,by go_num,rfl,rfl,rfl,by omega,zU HK,zU HMEM1⟩
    case measure=>simp [intOf];omega
   ·have he0:r.2=0:=Decidable.not_not.1 he;obtain ⟨h1,h2,h3⟩:=hst he0;obtain ⟨t,ht⟩:∃ t,t=r.1:=⟨_,rfl⟩
    have cs:=zU CS;rw [he0,←ht] at cs;have CS:=zH cs;rw [←h1,←ht] at h2;have htl:s.length<t.length:=by rw [ht,h1,List.length_append];omega
    have hsp:Pl.slice t 0 s.length=s:=by rw [ht,h1];exact slice_pre
    have hkl:=h2.size;have K2:=zH h2;have HTE:=zH (show t.length=(actsB (acc++[x])).length by rw [h2.bytes]);have HFEW:=zH h2.few;have d3:(Pl.slice t 0 s.length != s)=false:=by rw [bne_eq_false_iff_eq];exact hsp
    have d4:(Pl.slice t 0 s.length == s)=true:=by rw [beq_iff_eq];exact hsp
    have y3:¬ (t.length:Int)≤(s.length:Int):=by omega
    have y4:decide ((t.length:Int)≤(s.length:Int))=false:=by simp;omega
    have y5:decide (t.length≤s.length)=false:=by simp;omega
    have y6:(s.length:Int)≤(t.length:Int):=by omega
    have y7:s.length≤t.length:=by omega
    clear he he0 hst h1 h2 h3 ht hsp cs hmem;go_upto_region 11 with fail
    refine (zU CS _ (zU HM _ (zU HMEM).bel)).mono ?_;rintro e w1 ⟨rfl,hb1⟩;have HMEM1:=zH ((zU HMEM).below hb1 hBle);have hbl1:B≤w1.heap.size:=Nat.le_trans hBle hb1.size;have hbw:b<wr.heap.size:=Nat.lt_of_lt_of_le hb (by have:=zU HB;omega);have q0:=(hb1.cell (p:=⟨b,off+i*4,none⟩) hbw).trans x0;have q1:=(hb1.cell (p:=⟨b,off+i*4+1,none⟩) hbw).trans x1;have q2:=(hb1.cell (p:=⟨b,off+i*4+2,none⟩) hbw).trans x2;have q3:=(hb1.cell (p:=⟨b,off+i*4+3,none⟩) hbw).trans x3;clear hb1 x0 x1 x2 x3;go_upto_region 15 with (at_builtin;refine wpList_push_act rfl (.tmp 54) (.tmp 59) rfl B (.slice A1 m c1) m acc rfl (zU HMEM1).k x w1.heap.size rfl rfl (by omega) hbl1 ?_;intro A' cap' w3 hown3 hb3 hg3;have HM3:=zH (((zU HMEM1).e.alloc (.cells #[I x.kind,I x.n,S x.name,S x.text] 29)).kept hg3 (own_apart ((zU HMEM1).e.alloc (.cells #[I x.kind,I x.n,S x.name,S x.text] 29)) ((zU HMEM1).k.alloc (.cells #[I x.kind,I x.n,S x.name,S x.text] 29)) (by decide)));have HO3:=zH hown3;have HB3:=zH ((zU HMEM1).bel.trans hb3);have hsz3:B≤w3.heap.size:=Nat.le_trans hbl1 (Nat.le_trans (by simp) hg3.size);clear hown3 hb3 hg3)
    clear q0 q1 q2 q3;have hm3:=zU HM3;go_wp2_with (at_builtin;refine wpList_push rfl (.tmp 61) (.tmp 64) _ rfl B 3 i0 _ 8 Tryz.underlying24 hi hz0 hz1 hz2 rfl (.slice A2 m c2) m ((endsOf 0 acc).map endV) rfl hm3 (I t.length) _ rfl rfl ?_ ?_ hsz3 ?_;(unfold maxLen;omega);omega;intro v' w4 hown4 hb4 hg4;have HO4:=zH hown4;have HK4:=zH (((zU HO3).alloc (.cells #[I t.length] 3)).kept hg4 (own_apart ((zU HO3).alloc (.cells #[I t.length] 3)) (hm3.alloc (.cells #[I t.length] 3)) (by decide)));have HB4:=zH ((zU HB3).trans hb4);clear hown4 hb4 hg4);go_roundw
    case rel =>
     have hown4:=zU HO4;have hv:=own_slice hown4;obtain ⟨A4,c4,hv⟩:=hv;rw [hv] at hown4;refine ⟨i+1,acc++[x],t,A',m+1,cap',A4,c4,by omega,by go_num,rfl,rfl,hv,by omega,zU K2,⟨zU HK4,?_,zU HB4⟩⟩;rw [endsOf_snoc,List.map_append,Nat.zero_add,←zU HTE];exact hown4
    case measure=>simp [intOf];omega
  ·have hrp:=hkp.replay;have hml:=hmem.len;have hm100:m≤100:=by rw [←hml];exact hkp.few
   obtain ⟨a,ha⟩:∃ a,a=doneA acc:=⟨_,rfl⟩
   have hra:=doneA_ra acc;rw [←ha] at hra;have hnd:=hra.nd;have hnf:=hra.nf
   have C1:=zH (fun (W:World) (hM:MaxLenIs W)=>show Calls Tryz.prog 17 #[S s] W fun e w'=>RecOut W.heap.size a m 0 e w'∧Below W.heap.size W w' from by
    have:=recover_any s W (by omega) hM;rw [hrp.1,hrp.2.2,hml,←ha] at this;exact this)
   have hsz:∀ x∈acc,ActSz x:=fun x hx=>actE_sz (hkp.each x hx);have CD:=zH (fun (j:Nat) (hj:j≤m) (c:Nat) (W:World) (hat:actsAt W W.heap.size A1 j (acc.take j))=>doneOf_any A1 j c (acc.take j) W hat (fun x hx=>hsz x (List.mem_of_mem_take hx)) (by omega));have hta:acc.take m=acc:=by rw [←hml,List.take_length]
   have HTA:=zH hta;have HA:=zH ha;have H0:=zH (show KpS w wr B [] A1 m c1 A2 c2 acc from ⟨⟨by simp,hmem.bel,hBle⟩,hmem⟩);have CC:=zH (fun (W:World)=>choose_any cut (s.length+1) W hc1 hc2 (by omega) (by omega));have HCUT:=zH (fun (k j:Nat) (hw:j≤m) (h1:(actsB (acc.take j)).length≤k) (h2:j<m→k<(actsB (acc.take (j+1))).length) (hk:k≤s.length)=>hkp.cut (by omega) h1 (fun h=>h2 (by omega)) hk);have y0:¬ (i:Int)<(n:Int):=by omega
   have y1:decide ((i:Int)<(n:Int))=false:=by simp;omega
   have y2:decide (i<n)=false:=by simp;omega
   clear hrp hml ha hra hsz hta hkp hmem HK HMEM;go_wp2_with fail;refine (zU C1 _ (zU HM _ (zU H0).s.bel)).mono ?_;rintro e w1 ⟨hr1,hb1⟩;obtain ⟨Ra1,na1,ca1,Rb1,nb1,cb1,rfl,hi1,_,_⟩:=hr1.open;have H1:=zH ((zU H0).below hb1);have HI1:=zH hi1;clear hb1 hi1 hr1 H0;go_upto_region 17 with (refine wpList_store_row rfl 33 (.tmp 11) (.tmp 69) rfl w1.heap.size #[.slice Ra1 na1 ca1,.slice Rb1 nb1 cb1] rfl rfl 33 _ (heap_alloc_new _ _) sizeArc rfl (one_two _ _ _ _ _ _) ?_)
   obtain ⟨x1,hx1⟩:∃ x,x=(w1.alloc (.cells #[.slice none 0 0,.slice none 0 0] 33)).setRow w1.heap.size #[.slice Ra1 na1 ca1,.slice Rb1 nb1 cb1]:=⟨_,rfl⟩
   obtain ⟨P1,hP1⟩:∃ P,P=w1.heap.size:=⟨_,rfl⟩
   have G1:=zH (show KpS w x1 B [⟨P1,Ra1,na1,ca1,Rb1,nb1,cb1,a⟩] A1 m c1 A2 c2 acc by rw [hx1,hP1];exact (zU H1).new (zU HI1) ca1 cb1);rw [←hx1,←hP1];clear hx1 hP1 y0 y1 y2;have e0:((m:Int) != (m:Int))=false:=by simp
   have e1:((m:Int) == (m:Int))=true:=by simp
   go_cut [86] (fun qv wx=>qv = .bool false∧KpS w wx B [⟨P1,Ra1,na1,ca1,Rb1,nb1,cb1,a⟩] A1 m c1 A2 c2 acc)
   case first =>
    have t0:∀ W:World,KpS w W B [⟨P1,Ra1,na1,ca1,Rb1,nb1,cb1,a⟩] A1 m c1 A2 c2 acc→W.cell? ⟨P1,0,none⟩=some (.slice Ra1 na1 ca1):=fun W hW=>hW.s.c0 0 rfl;have t1:∀ W:World,KpS w W B [⟨P1,Ra1,na1,ca1,Rb1,nb1,cb1,a⟩] A1 m c1 A2 c2 acc→W.cell? ⟨P1,1,none⟩=some (.slice Rb1 nb1 cb1):=fun W hW=>hW.s.c1 0 rfl;have CDD:=zH (fun (c:Nat) (W:World) (hW:KpS w W B [⟨P1,Ra1,na1,ca1,Rb1,nb1,cb1,a⟩] A1 m c1 A2 c2 acc)=>zU CD m (Nat.le_refl _) c W (acts_take hW.r.acts (Nat.le_refl _)));have CSS:=zH (fun (W:World) (hW:KpS w W B [⟨P1,Ra1,na1,ca1,Rb1,nb1,cb1,a⟩] A1 m c1 A2 c2 acc) (C:Option Addr) (m' kc:Nat) (C2:Option Addr) (m2 kc2:Nat) (hi:ArcIn W C m' C2 m2 a)=>sameArc Ra1 na1 ca1 Rb1 nb1 cb1 C m' kc C2 m2 kc2 a W (hW.s.at_ 0 rfl).i hi hnd hnf)
    go_region_held3 (fun W=>KpS w W B [⟨P1,Ra1,na1,ca1,Rb1,nb1,cb1,a⟩] A1 m c1 A2 c2 acc) (first | exact (zU G1).drew | assumption | exact KpS.drew (by assumption) | exact KpS.below (by assumption) (by assumption))
     ((first
      | (go_at_call 19;refine (zU CDD _ _ (by first | exact (zU G1).drew | exact zU G1 | assumption | exact KpS.drew (by assumption) | exact KpS.below (by assumption) (by assumption))).mono ?_;rintro e wz ⟨⟨Rz,nz,cz,Ry,ny,cy,rfl,hoz⟩,hbz⟩;have hiz:=hoz.inn;rw [zU HTA,←zU HA] at hiz;have HIZ:=zH hiz;clear hoz hiz)
      | (go_at_call 18;refine (zU CSS _ (by first | assumption | exact KpS.below (by assumption) (by assumption)) _ _ _ _ _ _ (zU HIZ)).mono ?_;rintro e wy ⟨rfl,hby⟩)))
    all_goals
     have hfin:KpS w _ B [⟨P1,Ra1,na1,ca1,Rb1,nb1,cb1,a⟩] A1 m c1 A2 c2 acc:=(by assumption)
     have HFIN:=zH hfin;go_wp2_with fail;go_meet;exact ⟨rfl,zU HFIN⟩
   case rest =>
    obtain ⟨rfl,h2⟩:=hcut;have H2:=zH h2.tail;clear h2;have y3:s.length+1≤9223372036854775807:=by omega
    go_wp2_with fail;refine (zU CC _).mono ?_;rintro e w3 ⟨⟨k,hk,rfl⟩,rfl⟩;go_wp2_with fail;go_loopw [15] (fun iv wr'=>∃ j:Nat,j≤m∧iv = .int .i64 j∧(∀ i,i<j→(actsB (acc.take (i+1))).length≤k)∧KpS w wr' B [] A1 m c1 A2 c2 acc) (fun iv _=>m-(intOf iv).toNat)
    case atStart=>exact ⟨0,by omega,rfl,fun i h=>absurd h (by omega),zU H2⟩
    case round =>
     obtain ⟨j,hj,rfl,hall,hmem⟩:=hrel;clear H2;have HALL:=zH hall;have H2:=zH hmem
     have hz1:(actsB (acc.take j)).length≤k:=by
      cases j with
      | zero=>simp [actsB]
      | succ q=>exact hall q (by omega)
     have HZ1:=zH hz1;clear hall hz1
     by_cases hjm:j<m
     ·obtain ⟨g,rfl,hce⟩:=hmem.r.at_ hjm;obtain ⟨u,hu⟩:∃ u,u=(actsB (acc.take (j+1))).length:=⟨_,rfl⟩
      rw [←hu] at hce;have HU:=zH hu;have q0:(0:Int)≤(j:Int):=by omega
      have q1:(j:Int)<(m:Int):=by omega
      have q2:decide ((j:Int)<(m:Int))=true:=by simp;omega
      by_cases hle:u≤k
      ·have q3:(u:Int)≤(k:Int):=by omega
       clear hu hmem;go_wp2_with fail;go_roundw
       case rel =>
        refine ⟨j+1,by omega,by go_num,fun i hi=>?_,zU H2⟩
        by_cases hij:i=j
        ·rw [hij,←zU HU];exact hle
        ·exact zU HALL i (by omega)
       case measure=>simp [intOf];omega
      ·have q3:¬ (u:Int)≤(k:Int):=by omega
       have q4:decide ((u:Int)≤(k:Int))=false:=by simp;omega
       have q5:decide (u≤k)=false:=by simp;omega
       have hcut:=zU HCUT k j hj (zU HZ1) (fun _=>by rw [←hu];omega) (by omega);have y7:(k:Int)≤(s.length:Int):=by omega
       have y8:k≤s.length:=by omega
       obtain ⟨a2,ha2⟩:∃ a,a=doneA (acc.take j):=⟨_,rfl⟩
       have hra2:=doneA_ra (acc.take j);rw [←ha2] at hra2;have hnd2:=hra2.nd;have hnf2:=hra2.nf;have hjl:(acc.take j).length=j:=by rw [List.length_take,hmem.r.len];omega
       have C2:=zH (fun (W:World) (hM:MaxLenIs W)=>show Calls Tryz.prog 17 #[S (Pl.slice s 0 k)] W fun e w'=>RecOut W.heap.size a2 j 0 e w'∧Below W.heap.size W w' from by
        have:=recover_any (Pl.slice s 0 k) W (by unfold Pl.slice;rw [List.length_drop,List.length_take];omega) hM;rw [←take_slice,hcut.1,hcut.2,hjl,←ha2] at this;rw [←take_slice];exact this)
       have HA2:=zH ha2;clear hcut ha2 hra2 hjl hmem;go_wp2_with fail;refine (zU C2 _ (zU HM _ (zU H2).s.bel)).mono ?_;rintro e w5 ⟨hr5,hb5⟩;obtain ⟨Ra5,na5,ca5,Rb5,nb5,cb5,rfl,hi5,_,_⟩:=hr5.open;have H5:=zH ((zU H2).below hb5);have HI5:=zH hi5;clear hb5 hi5 hr5;go_upto_region 24 with (refine wpList_store_row rfl 33 (.tmp 16) (.tmp 111) rfl w5.heap.size #[.slice Ra5 na5 ca5,.slice Rb5 nb5 cb5] rfl rfl 33 _ (heap_alloc_new _ _) sizeArc rfl (one_two _ _ _ _ _ _) ?_)
       obtain ⟨x5,hx5⟩:∃ x,x=(w5.alloc (.cells #[.slice none 0 0,.slice none 0 0] 33)).setRow w5.heap.size #[.slice Ra5 na5 ca5,.slice Rb5 nb5 cb5]:=⟨_,rfl⟩
       obtain ⟨P5,hP5⟩:∃ P,P=w5.heap.size:=⟨_,rfl⟩
       have G5:=zH (show KpS w x5 B [⟨P5,Ra5,na5,ca5,Rb5,nb5,cb5,a2⟩] A1 m c1 (some ⟨g,0,none⟩) c2 acc by rw [hx5,hP5];exact (zU H5).new (zU HI5) ca5 cb5);have hmc:m≤c1:=own_cap (zU H2).r.k;have y9:(j:Int)≤(c1:Int):=by omega
       have y10:j≤c1:=by omega
       rw [←hx5,←hP5];clear hx5 hP5;have t0:∀ W:World,KpS w W B [⟨P5,Ra5,na5,ca5,Rb5,nb5,cb5,a2⟩] A1 m c1 (some ⟨g,0,none⟩) c2 acc→W.cell? ⟨P5,0,none⟩=some (.slice Ra5 na5 ca5):=fun W hW=>hW.s.c0 0 rfl;have t1:∀ W:World,KpS w W B [⟨P5,Ra5,na5,ca5,Rb5,nb5,cb5,a2⟩] A1 m c1 (some ⟨g,0,none⟩) c2 acc→W.cell? ⟨P5,1,none⟩=some (.slice Rb5 nb5 cb5):=fun W hW=>hW.s.c1 0 rfl;have CDD:=zH (fun (c:Nat) (W:World) (hW:KpS w W B [⟨P5,Ra5,na5,ca5,Rb5,nb5,cb5,a2⟩] A1 m c1 (some ⟨g,0,none⟩) c2 acc)=>zU CD j (by omega) c W (acts_take hW.r.acts (by omega)));have CSS:=zH (fun (W:World) (hW:KpS w W B [⟨P5,Ra5,na5,ca5,Rb5,nb5,cb5,a2⟩] A1 m c1 (some ⟨g,0,none⟩) c2 acc) (C:Option Addr) (m' kc:Nat) (C2:Option Addr) (m2 kc2:Nat) (hi:ArcIn W C m' C2 m2 a2)=>sameArc Ra5 na5 ca5 Rb5 nb5 cb5 C m' kc C2 m2 kc2 a2 W (hW.s.at_ 0 rfl).i hi hnd2 hnf2);have CB:=zH (fun (W:World) (hW:KpS w W B [⟨P5,Ra5,na5,ca5,Rb5,nb5,cb5,a2⟩] A1 m c1 (some ⟨g,0,none⟩) c2 acc)=>logBegun_any W (zU HM _ hW.s.bel))
       go_region_held3 (fun W=>KpS w W B [⟨P5,Ra5,na5,ca5,Rb5,nb5,cb5,a2⟩] A1 m c1 (some ⟨g,0,none⟩) c2 acc) (first | exact (zU G5).drew | assumption | exact KpS.drew (by assumption) | exact KpS.below (by assumption) (by assumption))
        ((first
         | (go_at_call 15;refine (zU CB _ (by first | exact (zU G5).drew | exact zU G5 | assumption | exact KpS.drew (by assumption) | exact KpS.below (by assumption) (by assumption))).mono ?_;rintro e wz ⟨rfl,hbz⟩)
         | (go_at_call 19;refine (zU CDD _ _ (by first | exact (zU G5).drew | exact zU G5 | assumption | exact KpS.drew (by assumption) | exact KpS.below (by assumption) (by assumption))).mono ?_;rintro e wz ⟨⟨Rz,nz,cz,Ry,ny,cy,rfl,hoz⟩,hbz⟩;have hiz:=hoz.inn;rw [←zU HA2] at hiz;have HIZ:=zH hiz;clear hoz hiz)
         | (go_at_call 18;refine (zU CSS _ (by first | assumption | exact KpS.below (by assumption) (by assumption)) _ _ _ _ _ _ (zU HIZ)).mono ?_;rintro e wy ⟨rfl,hby⟩)))
       all_goals
        have hfin:KpS w _ B [⟨P5,Ra5,na5,ca5,Rb5,nb5,cb5,a2⟩] A1 m c1 (some ⟨g,0,none⟩) c2 acc:=(by assumption)
        have HFIN:=zH hfin.s.bel;go_wp2_with fail;go_ret;exact ⟨rfl,zU HFIN⟩
     ·have q1:¬ (j:Int)<(m:Int):=by omega
      have q2:decide ((j:Int)<(m:Int))=false:=by simp;omega
      have q3:decide (j<m)=false:=by simp;omega
      have hcut:=zU HCUT k j hj (zU HZ1) (fun h=>absurd h hjm) (by omega);have y7:(k:Int)≤(s.length:Int):=by omega
      have y8:k≤s.length:=by omega
      obtain ⟨a2,ha2⟩:∃ a,a=doneA (acc.take j):=⟨_,rfl⟩
      have hra2:=doneA_ra (acc.take j);rw [←ha2] at hra2;have hnd2:=hra2.nd;have hnf2:=hra2.nf;have hjl:(acc.take j).length=j:=by rw [List.length_take,hmem.r.len];omega
      have C2:=zH (fun (W:World) (hM:MaxLenIs W)=>show Calls Tryz.prog 17 #[S (Pl.slice s 0 k)] W fun e w'=>RecOut W.heap.size a2 j 0 e w'∧Below W.heap.size W w' from by
       have:=recover_any (Pl.slice s 0 k) W (by unfold Pl.slice;rw [List.length_drop,List.length_take];omega) hM;rw [←take_slice,hcut.1,hcut.2,hjl,←ha2] at this;rw [←take_slice];exact this)
      have HA2:=zH ha2;clear hcut ha2 hra2 hjl hmem;go_wp2_with fail;refine (zU C2 _ (zU HM _ (zU H2).s.bel)).mono ?_;rintro e w5 ⟨hr5,hb5⟩;obtain ⟨Ra5,na5,ca5,Rb5,nb5,cb5,rfl,hi5,_,_⟩:=hr5.open;have H5:=zH ((zU H2).below hb5);have HI5:=zH hi5;clear hb5 hi5 hr5;go_upto_region 24 with (refine wpList_store_row rfl 33 (.tmp 16) (.tmp 111) rfl w5.heap.size #[.slice Ra5 na5 ca5,.slice Rb5 nb5 cb5] rfl rfl 33 _ (heap_alloc_new _ _) sizeArc rfl (one_two _ _ _ _ _ _) ?_)
      obtain ⟨x5,hx5⟩:∃ x,x=(w5.alloc (.cells #[.slice none 0 0,.slice none 0 0] 33)).setRow w5.heap.size #[.slice Ra5 na5 ca5,.slice Rb5 nb5 cb5]:=⟨_,rfl⟩
      obtain ⟨P5,hP5⟩:∃ P,P=w5.heap.size:=⟨_,rfl⟩
      have G5:=zH (show KpS w x5 B [⟨P5,Ra5,na5,ca5,Rb5,nb5,cb5,a2⟩] A1 m c1 A2 c2 acc by rw [hx5,hP5];exact (zU H5).new (zU HI5) ca5 cb5);have hmc:m≤c1:=own_cap (zU H2).r.k;have y9:(j:Int)≤(c1:Int):=by omega
      have y10:j≤c1:=by omega
      rw [←hx5,←hP5];clear hx5 hP5;have t0:∀ W:World,KpS w W B [⟨P5,Ra5,na5,ca5,Rb5,nb5,cb5,a2⟩] A1 m c1 A2 c2 acc→W.cell? ⟨P5,0,none⟩=some (.slice Ra5 na5 ca5):=fun W hW=>hW.s.c0 0 rfl;have t1:∀ W:World,KpS w W B [⟨P5,Ra5,na5,ca5,Rb5,nb5,cb5,a2⟩] A1 m c1 A2 c2 acc→W.cell? ⟨P5,1,none⟩=some (.slice Rb5 nb5 cb5):=fun W hW=>hW.s.c1 0 rfl;have CDD:=zH (fun (c:Nat) (W:World) (hW:KpS w W B [⟨P5,Ra5,na5,ca5,Rb5,nb5,cb5,a2⟩] A1 m c1 A2 c2 acc)=>zU CD j (by omega) c W (acts_take hW.r.acts (by omega)));have CSS:=zH (fun (W:World) (hW:KpS w W B [⟨P5,Ra5,na5,ca5,Rb5,nb5,cb5,a2⟩] A1 m c1 A2 c2 acc) (C:Option Addr) (m' kc:Nat) (C2:Option Addr) (m2 kc2:Nat) (hi:ArcIn W C m' C2 m2 a2)=>sameArc Ra5 na5 ca5 Rb5 nb5 cb5 C m' kc C2 m2 kc2 a2 W (hW.s.at_ 0 rfl).i hi hnd2 hnf2);have CB:=zH (fun (W:World) (hW:KpS w W B [⟨P5,Ra5,na5,ca5,Rb5,nb5,cb5,a2⟩] A1 m c1 A2 c2 acc)=>logBegun_any W (zU HM _ hW.s.bel))
      go_region_held3 (fun W=>KpS w W B [⟨P5,Ra5,na5,ca5,Rb5,nb5,cb5,a2⟩] A1 m c1 A2 c2 acc) (first | exact (zU G5).drew | assumption | exact KpS.drew (by assumption) | exact KpS.below (by assumption) (by assumption))
       ((first
        | (go_at_call 15;refine (zU CB _ (by first | exact (zU G5).drew | exact zU G5 | assumption | exact KpS.drew (by assumption) | exact KpS.below (by assumption) (by assumption))).mono ?_;rintro e wz ⟨rfl,hbz⟩)
        | (go_at_call 19;refine (zU CDD _ _ (by first | exact (zU G5).drew | exact zU G5 | assumption | exact KpS.drew (by assumption) | exact KpS.below (by assumption) (by assumption))).mono ?_;rintro e wz ⟨⟨Rz,nz,cz,Ry,ny,cy,rfl,hoz⟩,hbz⟩;have hiz:=hoz.inn;rw [←zU HA2] at hiz;have HIZ:=zH hiz;clear hoz hiz)
        | (go_at_call 18;refine (zU CSS _ (by first | assumption | exact KpS.below (by assumption) (by assumption)) _ _ _ _ _ _ (zU HIZ)).mono ?_;rintro e wy ⟨rfl,hby⟩)))
      all_goals
       have hfin:KpS w _ B [⟨P5,Ra5,na5,ca5,Rb5,nb5,cb5,a2⟩] A1 m c1 A2 c2 acc:=(by assumption)
       have HFIN:=zH hfin.s.bel;go_wp2_with fail;go_ret;exact ⟨rfl,zU HFIN⟩
end Go.Proofs.YtjpgoeimclipjaaGreat
